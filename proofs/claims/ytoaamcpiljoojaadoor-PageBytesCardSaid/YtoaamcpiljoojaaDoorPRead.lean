/- page.Read; the document's ReadPage. -/
import Derived.Test.YtoaamcpiljoojaaDoorPFrom
namespace Go.Proofs.YtoaamcpiljoojaaDoor
open Go.RowKit

/-- The error that reading hands out. -/
def PErr (w : World) (qs : List Addr) : Option (Nat × Nat) → Value → Prop
  | none, ev => ev = .nilIface
  | some (x, p), ev => ∃ (a : Addr) (b : Nat), qs[x]? = some a ∧ ev = .iface 131 (.pointer (some ⟨b, 0, none⟩)) ∧ w.cell? ⟨b, 0, none⟩ = some (.int .i64 p) ∧ w.cell? ⟨b, 1, none⟩ = some (errV a)
theorem PErr.move {w w' : World} {qs : List Addr} {er : Option (Nat × Nat)} {ev : Value} (h : PErr w qs er ev) (hf : Fr All w w') : PErr w' qs er ev := by
  cases er with
  | none => exact h
  | some x =>
    obtain ⟨a, b, h1, h2, h3, h4⟩ := h
    exact ⟨a, b, h1, h2, hf.cell (p := ⟨b, 0, none⟩) trivial h3, hf.cell (p := ⟨b, 1, none⟩) trivial h4⟩
theorem PErr.sees {w : World} {qs : List Addr} {er : Option (Nat × Nat)} {ev : Value} (he : Errs w qs) (h : PErr w qs er ev) : Sees w ev (erC er) er.isSome (erP er) := by
  cases er with
  | none =>
    obtain rfl : ev = .nilIface := h
    exact Sees.nil_ w
  | some x =>
    obtain ⟨a, b, h1, rfl, h3, h4⟩ := h
    exact Sees.placed he h1 h3 h4
theorem at_call' {w0 : World} {qs : List Addr} {R n c pos : Nat} {bs : List UInt8} {A : Option Addr} {w : World} {er : Option (Nat × Nat)} {ev : Value} (h : Rd w0 qs R bs A n c w pos er ev) : Calls Tryd.prog 61 #[.pointer (some ⟨R, 0, none⟩)] w fun e w' => e = .returned (.int .i64 pos) ∧ Fr All w w' :=
  (at_call h).mono fun _ _ h => ⟨h.1, h.2 ▸ Fr.refl All _⟩

set_option hygiene false in
set_option maxRecDepth 100000 in
set_option maxHeartbeats 2000000 in
theorem page_read {qs : List Addr} {w : World} {v : Value} {bs : List UInt8} {S : Nat → Prop} (he : Errs w qs) (h : Sl kByte S w v bs) (hn : bs.length ≤ 1000000) :
    Calls Tryd.prog 17 #[v] w fun e w' => ∃ (y : Page) (m : Nat) (er : Option (Nat × Nat)) (A' : Option Addr) (n' c' : Nat) (ev : Value), Hid (pgOf bs = (y, m, er)) ∧ e = .returned (.tuple #[.agg #[.int .i64 y.id, .int .i64 y.lsn, .int .i64 y.level, .int .i64 y.next, .slice A' n' c'], .int .i64 m, ev]) ∧ Sl kEnt All w' (.slice A' n' c') y.ents ∧ PErr w' qs er ev ∧ Fr All w w' := by
  obtain ⟨A, n, c, rfl, en, _⟩ := h.open_
  have B := heap_alloc_new w (.cells #[.int .i64 0, .int .i64 0, .int .i64 0, .int .i64 0, .slice none 0 0] 39)
  have F0 := (Fr.refl All w).alloc (.cells #[.int .i64 0, .int .i64 0, .int .i64 0, .int .i64 0, .slice none 0 0] 39)
  obtain ⟨W, hW⟩ : ∃ W, w.alloc (.cells #[.int .i64 0, .int .i64 0, .int .i64 0, .int .i64 0, .slice none 0 0] 39) = W := ⟨_, rfl⟩
  rw [hW] at B F0
  have Hb := Lib.hid (h.all F0)
  clear h en
  go_enter Tryd.func17, Tryd.ntmps17
  go_wp2_with fail
  refine (new_reader (he.move F0) Hb.out hn).mono ?_
  rintro e w1 ⟨R, A1, c1, rfl, h1⟩
  have hR : W.heap.size ≤ R := h1.new
  have hz := blk_lt B
  have G1 : Fr All W w1 := h1.fr
  have H1 := Lib.hid h1
  clear h1
  go_wp2_with fail
  refine (page_from H1.out).mono ?_
  rintro e w2 ⟨x, A0, n0, c0, p, er, ev, rfl, s0, HF, h2, f2⟩
  have G2 : Fr All W w2 := G1.thenNew f2 hR
  have H2 := h2
  clear h2
  have B2 := (G2.block w.heap.size hz trivial).trans B
  have F2 : Fr All w w2 := F0.trans G2
  have BT := heap_alloc_new w2 (.cells #[.int .i64 x.id, .int .i64 x.lsn, .int .i64 x.level, .int .i64 x.next, .slice A0 n0 c0] 39)
  have F3 := (Fr.refl All w2).alloc (.cells #[.int .i64 x.id, .int .i64 x.lsn, .int .i64 x.level, .int .i64 x.next, .slice A0 n0 c0] 39)
  obtain ⟨V, hV⟩ : ∃ V, w2.alloc (.cells #[.int .i64 x.id, .int .i64 x.lsn, .int .i64 x.level, .int .i64 x.next, .slice A0 n0 c0] 39) = V := ⟨_, rfl⟩
  rw [hV] at BT F3
  have B3 := (F3.block w.heap.size (blk_lt B2) trivial).trans B2
  have H3 := Lib.hid (H2.out.move F3)
  have hb2 := blk_lt B2
  have FV := F2.trans F3
  go_wp2_with fail
  refine (err_call H3.out).mono ?_
  rintro e wn ⟨rfl, hwn⟩
  obtain rfl := hwn.symm
  clear hwn
  have he3 := H3.out.err
  cases er with
  | some t =>
    obtain ⟨a, b, ha, hbR, hbs, rfl, d0, d1⟩ := he3
    obtain ⟨r0, r1, r2, r3, r4, rz⟩ := blk5 B3
    have hbw : b ≠ w.heap.size := fun hh => by subst hh; rw [r1] at d1; cases d1
    have Hd0 := Lib.hid d0
    have Hd1 := Lib.hid d1
    clear d0 d1
    go_wp2_with fail
    refine bodyPost_ret (v := .tuple #[.agg #[.int .i64 0, .int .i64 0, .int .i64 0, .int .i64 0, .slice none 0 0], .int .i64 0, .iface 131 (.pointer (some ⟨b, 0, none⟩))]) ?_ rfl ?_
    · simp [results, Tryd.results17, go_sem, r0, r1, r2, r3, r4]
    generalize hg : (((((V.setCell ⟨w.heap.size, 0, none⟩ (.int .i64 0)).setCell ⟨w.heap.size, 1, none⟩ (.int .i64 0)).setCell ⟨w.heap.size, 2, none⟩ (.int .i64 0)).setCell ⟨w.heap.size, 3, none⟩ (.int .i64 0)).setCell ⟨w.heap.size, 4, none⟩ (.slice none 0 0)) = U
    have hU : Fr (fun b => b ≠ w.heap.size) V U := by
      rw [← hg]
      repeat (first | (with_reducible exact Fr.refl _ _) | with_reducible refine Fr.setCell ?_ (fun m hm => by exact hm) _)
    exact ⟨⟨0, 0, 0, 0, []⟩, 0, some t, none, 0, 0, _, Lib.hid (pgOf_some HF.out), rfl, Sl.nil_ _ _ _, ⟨a, b, ha, rfl, hU.cell (p := ⟨b, 0, none⟩) hbw Hd0.out, hU.cell (p := ⟨b, 1, none⟩) hbw Hd1.out⟩, ⟨hU.os.trans FV.os, hU.tape.trans FV.tape, hU.output.trans FV.output, Nat.le_trans FV.size hU.size, fun m hm _ => (hU.block m (Nat.lt_of_lt_of_le hm FV.size) (by omega)).trans (FV.block m hm trivial)⟩⟩
  | none =>
    obtain rfl : ev = .nilIface := he3
    obtain ⟨t0, t1, t2, t3, t4, tz⟩ := blk5 BT
    have hne : w2.heap.size ≠ w.heap.size := by omega
    go_upto_region 6 with (fail)
    clear BT B2 B hW
    refine wp_region_last3 (S := fun w' => w'.cell? ⟨w2.heap.size, 0, none⟩ = some (.int .i64 x.id) ∧ w'.cell? ⟨w2.heap.size, 1, none⟩ = some (.int .i64 x.lsn) ∧ w'.cell? ⟨w2.heap.size, 2, none⟩ = some (.int .i64 x.level) ∧ w'.cell? ⟨w2.heap.size, 3, none⟩ = some (.int .i64 x.next) ∧ w'.cell? ⟨w2.heap.size, 4, none⟩ = some (.slice A0 n0 c0)) 3 (by kernel_rfl) rfl (by kernel_rfl) (by kernel_rfl) (by kernel_rfl) ⟨t0, t1, t2, t3, t4⟩ (fun hHeld => ?_)
    simp only [List.take_succ_cons, List.take_zero]
    refine wpAnyH_take (i := 0) (v := ?_) rfl (by kernel_rfl) (by kernel_rfl) (by kernel_rfl) (fun _ _ _ h => h) (Or.inl ⟨by rfl, ?_⟩) (by assumption) ?_
    rotate_left
    · (intro w hSw; (try dsimp only at hSw); go_simp; try with_reducible rfl)
    try simp only [List.getElem_toArray, List.getElem_cons_succ, List.getElem_cons_zero, Act.put, List.setIfInBounds_toArray, List.set_cons_succ, List.set_cons_zero]
    refine wpAnyH_take (i := 1) (v := ?_) rfl (by kernel_rfl) (by kernel_rfl) (by kernel_rfl) (fun _ _ _ h => h) (Or.inl ⟨by rfl, ?_⟩) (by assumption) ?_
    rotate_left
    · (intro w hSw; (try dsimp only at hSw); go_simp; try with_reducible rfl)
    try simp only [List.getElem_toArray, List.getElem_cons_succ, List.getElem_cons_zero, Act.put, List.setIfInBounds_toArray, List.set_cons_succ, List.set_cons_zero]
    refine wpAnyH_ready (rs := [2]) (by kernel_rfl) (by simp) (AllReadyH.cons rfl (fun K hK => ?_) AllReadyH.nil)
    go_simp
    refine (at_call' (H3.out.move (Fr.refl All V).drew)).mono ?_
    rintro e w5 ⟨rfl, f5⟩
    go_simp
    have f6 : Fr All V w5 := (Fr.refl All V).drew.trans f5
    refine hK.out _ _ ⟨f6.cell trivial t0, f6.cell trivial t1, f6.cell trivial t2, f6.cell trivial t3, f6.cell trivial t4⟩ (fun hHeld => ?_)
    clear hK K
    try simp only [List.getElem_toArray, List.getElem_cons_succ, List.getElem_cons_zero, Act.put, List.setIfInBounds_toArray, List.set_cons_succ, List.set_cons_zero]
    have B5 := (f6.block w.heap.size (blk_lt B3) trivial).trans B3
    clear hHeld t0 t1 t2 t3 t4 tz
    obtain ⟨r0, r1, r2, r3, r4, rz⟩ := blk5 B5
    refine wpAnyH_done (by kernel_rfl) ?_ _
    show wpList _ _ _ _ _ _
    go_wp2_with fail
    show wpList _ _ _ _ _ _
    go_wp2_with fail
    show wpList _ _ _ _ _ _
    go_wp2_with fail
    refine bodyPost_ret (v := .tuple #[.agg #[.int .i64 x.id, .int .i64 x.lsn, .int .i64 x.level, .int .i64 x.next, .slice A0 n0 c0], .int .i64 p, .nilIface]) ?_ rfl ?_
    · simp [results, Tryd.results17, go_sem, r0, r1, r2, r3, r4]
    generalize hg : (((((w5.setCell ⟨w.heap.size, 0, none⟩ (.int .i64 x.id)).setCell ⟨w.heap.size, 1, none⟩ (.int .i64 x.lsn)).setCell ⟨w.heap.size, 2, none⟩ (.int .i64 x.level)).setCell ⟨w.heap.size, 3, none⟩ (.int .i64 x.next)).setCell ⟨w.heap.size, 4, none⟩ (.slice A0 n0 c0)) = U
    have hU : Fr (fun b => b ≠ w.heap.size) w5 U := by
      rw [← hg]
      repeat (first | (with_reducible exact Fr.refl _ _) | with_reducible refine Fr.setCell ?_ (fun m hm => by exact hm) _)
    have F5 := FV.trans f6
    have hs5 := (s0.move' (F3.trans f6) (fun _ _ _ => trivial)).move' hU (fun b (hb : w1.heap.size ≤ b) _ => by have := G1.size; omega)
    exact ⟨x, p, none, A0, n0, c0, _, Lib.hid (pgOf_none HF.out), rfl, hs5.mono fun _ _ _ => trivial, rfl, ⟨hU.os.trans F5.os, hU.tape.trans F5.tape, hU.output.trans F5.output, Nat.le_trans F5.size hU.size, fun m hm _ => (hU.block m (Nat.lt_of_lt_of_le hm F5.size) (by omega)).trans (F5.block m hm trivial)⟩⟩
end Go.Proofs.YtoaamcpiljoojaaDoor
