/- The document's ReadPage. -/
import Derived.Test.YtoaamcpiljoojaaDoorPRead
namespace Go.Proofs.YtoaamcpiljoojaaDoor
open Go.RowKit

theorem wp_region_all' {P : Program} {Q : Exit → Act → World → Prop} {S : World → Prop} {L : List Oper} {id : Nat} {a : Act} {w : World} (hm : P.follows .mixedOrders = true) (hS : S w.drew)
    (h : S w.drew → wpAnyH P .any L.toArray Q S L.length (Array.replicate L.length false) a w.drew) : (Code.region id L.toArray true).wp P Q a w := by
  refine wp_region_any hm ?_
  have h1 := wpAny_of_held _ _ _ _ (h hS)
  rw [List.size_toArray]
  exact h1
theorem none_call' (w : World) : Calls Tryd.prog 64 #[] w fun e w' => e = .returned (.agg #[.int .i64 0, .bool false, .int .i64 0]) ∧ Fr All w w' := none_call w

set_option hygiene false in
set_option maxRecDepth 100000 in
set_option maxHeartbeats 2000000 in
theorem read_page {w : World} {v : Value} {bs : List UInt8} {S : Nat → Prop} (h : Sl kByte S w v bs) (hn : bs.length ≤ 1000000) :
    Calls Tryd.prog 18 #[v] w fun e w' => ∃ (y : Page) (m : Nat) (er : Option (Nat × Nat)) (A' : Option Addr) (n' c' : Nat), Hid (pgOf bs = (y, m, er)) ∧ e = .returned (.tuple #[.agg #[.int .i64 y.id, .int .i64 y.lsn, .int .i64 y.level, .int .i64 y.next, .slice A' n' c'], .int .i64 m, .agg #[.int .i64 (erC er), .bool er.isSome, .int .i64 (erP er)]]) ∧ Sl kEnt All w' (.slice A' n' c') y.ents ∧ Fr All w w' := by
  obtain ⟨A, n, c, rfl, en, _⟩ := h.open_
  have F0 := (((Fr.refl All w).alloc (.cells #[.int .i64 0, .int .i64 0, .int .i64 0, .int .i64 0, .slice none 0 0] 39)).alloc (.cells #[.int .i64 0, .bool false, .int .i64 0] 46)).alloc (.cells #[.slice A n c, .int .i64 0, .int .i64 0, .bool false, .int .i64 0] 96)
  obtain ⟨B0, B1, B2⟩ := heap_a3 w (.cells #[.int .i64 0, .int .i64 0, .int .i64 0, .int .i64 0, .slice none 0 0] 39) (.cells #[.int .i64 0, .bool false, .int .i64 0] 46) (.cells #[.slice A n c, .int .i64 0, .int .i64 0, .bool false, .int .i64 0] 96)
  obtain ⟨W, hW⟩ : ∃ W, ((w.alloc (.cells #[.int .i64 0, .int .i64 0, .int .i64 0, .int .i64 0, .slice none 0 0] 39)).alloc (.cells #[.int .i64 0, .bool false, .int .i64 0] 46)).alloc (.cells #[.slice A n c, .int .i64 0, .int .i64 0, .bool false, .int .i64 0] 96) = W := ⟨_, rfl⟩
  rw [hW] at F0 B0 B1 B2
  obtain ⟨q0, q1, q2, q3, q4, qz⟩ := blk5 B2
  have H0 : Hid (Dr w (w.heap.size + 2) bs A n c W 0 none) := Lib.hid ⟨F0, by omega, blk_lt B2, q0, q1, q2, q3, q4, qz, ((h.mono (T := fun b => b < w.heap.size) fun b _ hb => hb).move' F0 (fun _ _ _ => trivial)).mono (fun b hb _ => by omega), by omega, Nat.zero_le _⟩
  clear h en q0 q1 q2 q3 q4 qz B2
  have hl0 := blk_lt B0
  have hl1 := blk_lt B1
  go_enter Tryd.func18, Tryd.ntmps18
  go_wp2_with fail
  refine (dr_page H0.out).mono ?_
  rintro e w2 ⟨x, A0, n0, c0, p, er, rfl, s0, HF, H2, f2⟩
  have C0 := (f2.block w.heap.size hl0 (by omega)).trans B0
  have C1 := (f2.block (w.heap.size + 1) hl1 (by omega)).trans B1
  have F2 : Fr All w w2 := F0.thenNew f2 (by omega)
  have BT := heap_alloc_new w2 (.cells #[.int .i64 x.id, .int .i64 x.lsn, .int .i64 x.level, .int .i64 x.next, .slice A0 n0 c0] 39)
  have F3 := (Fr.refl All w2).alloc (.cells #[.int .i64 x.id, .int .i64 x.lsn, .int .i64 x.level, .int .i64 x.next, .slice A0 n0 c0] 39)
  obtain ⟨V, hV⟩ : ∃ V, w2.alloc (.cells #[.int .i64 x.id, .int .i64 x.lsn, .int .i64 x.level, .int .i64 x.next, .slice A0 n0 c0] 39) = V := ⟨_, rfl⟩
  rw [hV] at BT F3
  have D0 := (F3.block w.heap.size (blk_lt C0) trivial).trans C0
  have D1 := (F3.block (w.heap.size + 1) (blk_lt C1) trivial).trans C1
  have H3 := Lib.hid (H2.out.move F3)
  have hc1 := blk_lt C1
  have FV := F2.trans F3
  go_wp2_with fail
  refine (dr_ok H3.out).mono ?_
  rintro e wn ⟨rfl, hwn⟩
  obtain rfl := hwn.symm
  clear hwn
  cases er with
  | some t =>
    obtain ⟨yc, hyc⟩ : ∃ yc, erC (some t) = yc := ⟨_, rfl⟩
    obtain ⟨yp, hyp⟩ : ∃ yp, erP (some t) = yp := ⟨_, rfl⟩
    have k2 := H3.out.k2
    have k3 : V.cell? ⟨w.heap.size + 2, 3, none⟩ = some (.bool true) := H3.out.k3
    have k4 := H3.out.k4
    rw [hyc] at k2
    rw [hyp] at k4
    have Hyc := Lib.hid hyc
    have Hyp := Lib.hid hyp
    clear hyc hyp
    obtain ⟨r0, r1, r2, r3, r4, rz⟩ := blk5 D0
    obtain ⟨g0, g1, g2, gz⟩ := blk3 D1
    go_upto_region 4 with (fail)
    clear B0 B1 C0 C1 hW BT
    go_region
    go_wp2_with fail
    refine bodyPost_ret (v := .tuple #[.agg #[.int .i64 0, .int .i64 0, .int .i64 0, .int .i64 0, .slice none 0 0], .int .i64 0, .agg #[.int .i64 yc, .bool true, .int .i64 yp]]) ?_ rfl ?_
    · simp [results, Tryd.results18, go_sem, r0, r1, r2, r3, r4, g0, g1, g2]
    rw [← Hyc.out, ← Hyp.out]
    refine ⟨⟨0, 0, 0, 0, []⟩, 0, some t, none, 0, 0, Lib.hid (pgOf_some HF.out), rfl, Sl.nil_ _ _ _, Fr.drew ?_⟩
    repeat (first | (with_reducible exact FV) | with_reducible refine Fr.setNew ?_ (by dsimp only; omega) _)
  | none =>
    obtain ⟨t0, t1, t2, t3, t4, tz⟩ := blk5 BT
    obtain ⟨r0, r1, r2, r3, r4, rz⟩ := blk5 D0
    obtain ⟨g0, g1, g2, gz⟩ := blk3 D1
    have k1 := H3.out.k1
    clear B0 B1 C0 C1 hW
    go_upto_region 5 with (fail)
    refine wp_region_all' (S := fun w' => w'.cell? ⟨w2.heap.size, 0, none⟩ = some (.int .i64 x.id) ∧ w'.cell? ⟨w2.heap.size, 1, none⟩ = some (.int .i64 x.lsn) ∧ w'.cell? ⟨w2.heap.size, 2, none⟩ = some (.int .i64 x.level) ∧ w'.cell? ⟨w2.heap.size, 3, none⟩ = some (.int .i64 x.next) ∧ w'.cell? ⟨w2.heap.size, 4, none⟩ = some (.slice A0 n0 c0) ∧ w'.cell? ⟨w.heap.size + 2, 1, none⟩ = some (.int .i64 p)) (by kernel_rfl) ⟨t0, t1, t2, t3, t4, k1⟩ (fun hHeld => ?_)
    refine wpAnyH_take (i := 0) (v := ?_) rfl (by kernel_rfl) (by kernel_rfl) (by kernel_rfl) (fun _ _ _ h => h) (Or.inl ⟨by rfl, ?_⟩) (by assumption) ?_
    rotate_left
    · (intro w hSw; (try dsimp only at hSw); go_simp; try with_reducible rfl)
    try simp only [List.getElem_toArray, List.getElem_cons_succ, List.getElem_cons_zero, Act.put, List.setIfInBounds_toArray, List.set_cons_succ, List.set_cons_zero]
    refine wpAnyH_take (i := 1) (v := ?_) rfl (by kernel_rfl) (by kernel_rfl) (by kernel_rfl) (fun _ _ _ h => h) (Or.inl ⟨by rfl, ?_⟩) (by assumption) ?_
    rotate_left
    · (intro w hSw; (try dsimp only at hSw); go_simp; try with_reducible rfl)
    try simp only [List.getElem_toArray, List.getElem_cons_succ, List.getElem_cons_zero, Act.put, List.setIfInBounds_toArray, List.set_cons_succ, List.set_cons_zero]
    refine wpAnyH_take (i := 2) (v := ?_) rfl (by kernel_rfl) (by kernel_rfl) (by kernel_rfl) (fun _ _ _ h => h) (Or.inl ⟨by rfl, ?_⟩) (by assumption) ?_
    rotate_left
    · (intro w hSw; (try dsimp only at hSw); go_simp; try with_reducible rfl)
    try simp only [List.getElem_toArray, List.getElem_cons_succ, List.getElem_cons_zero, Act.put, List.setIfInBounds_toArray, List.set_cons_succ, List.set_cons_zero]
    refine wpAnyH_take (i := 3) (v := ?_) rfl (by kernel_rfl) (by kernel_rfl) (by kernel_rfl) (fun _ _ _ h => h) (Or.inl ⟨by rfl, ?_⟩) (by assumption) ?_
    rotate_left
    · (intro w hSw; (try dsimp only at hSw); go_simp; try with_reducible rfl)
    try simp only [List.getElem_toArray, List.getElem_cons_succ, List.getElem_cons_zero, Act.put, List.setIfInBounds_toArray, List.set_cons_succ, List.set_cons_zero]
    refine wpAnyH_take (i := 4) (v := ?_) rfl (by kernel_rfl) (by kernel_rfl) (by kernel_rfl) (fun _ _ _ h => h) (Or.inl ⟨by rfl, ?_⟩) (by assumption) ?_
    rotate_left
    · (intro w hSw; (try dsimp only at hSw); go_simp; try with_reducible rfl)
    try simp only [List.getElem_toArray, List.getElem_cons_succ, List.getElem_cons_zero, Act.put, List.setIfInBounds_toArray, List.set_cons_succ, List.set_cons_zero]
    refine wpAnyH_ready (rs := [5]) (by kernel_rfl) (by simp) (AllReadyH.cons rfl (fun K hK => ?_) AllReadyH.nil)
    go_simp
    refine (none_call _).mono ?_
    rintro e w5 ⟨rfl, f5⟩
    go_simp
    have f6 : Fr All V w5 := (Fr.refl All V).drew.trans f5
    have X0 := (f6.block w.heap.size (blk_lt D0) trivial).trans D0
    have X1 := (f6.block (w.heap.size + 1) (blk_lt D1) trivial).trans D1
    refine hK.out _ _ ⟨f6.cell trivial t0, f6.cell trivial t1, f6.cell trivial t2, f6.cell trivial t3, f6.cell trivial t4, f6.cell trivial k1⟩ (fun hHeld => ?_)
    clear hK K
    try simp only [List.getElem_toArray, List.getElem_cons_succ, List.getElem_cons_zero, Act.put, List.setIfInBounds_toArray, List.set_cons_succ, List.set_cons_zero]
    have hne : w2.heap.size ≠ w.heap.size := by omega
    have e0 := f6.cell trivial t0
    have e1 := f6.cell trivial t1
    have e2 := f6.cell trivial t2
    have e3 := f6.cell trivial t3
    have e4 := f6.cell trivial t4
    have e5 := f6.cell trivial k1
    clear t0 t1 t2 t3 t4 tz r0 r1 r2 r3 r4 rz g0 g1 g2 gz k1 hHeld
    obtain ⟨r0, r1, r2, r3, r4, rz⟩ := blk5 X0
    obtain ⟨g0, g1, g2, gz⟩ := blk3 X1
    refine wpAnyH_ready (rs := [6]) (by kernel_rfl) (by simp) (AllReadyH.cons rfl (fun K hK => ?_) AllReadyH.nil)
    go_simp
    refine hK.out _ _ ⟨by go_simp, by go_simp, by go_simp, by go_simp, by go_simp, by go_simp⟩ (fun hHeld => ?_)
    clear hK K
    try simp only [List.getElem_toArray, List.getElem_cons_succ, List.getElem_cons_zero, Act.put, List.setIfInBounds_toArray, List.set_cons_succ, List.set_cons_zero]
    refine wpAnyH_take (i := 7) (v := ?_) rfl (by kernel_rfl) (by kernel_rfl) (by kernel_rfl) (fun _ _ _ h => h) (Or.inl ⟨by rfl, ?_⟩) (by assumption) ?_
    rotate_left
    · (intro w hSw; (try dsimp only at hSw); go_simp; try with_reducible rfl)
    try simp only [List.getElem_toArray, List.getElem_cons_succ, List.getElem_cons_zero, Act.put, List.setIfInBounds_toArray, List.set_cons_succ, List.set_cons_zero]
    refine wpAnyH_ready (rs := [8]) (by kernel_rfl) (by simp) (AllReadyH.cons rfl (fun K hK => ?_) AllReadyH.nil)
    go_simp
    refine hK.out _ _ ⟨by go_simp, by go_simp, by go_simp, by go_simp, by go_simp, by go_simp⟩ (fun hHeld => ?_)
    clear hK K
    try simp only [List.getElem_toArray, List.getElem_cons_succ, List.getElem_cons_zero, Act.put, List.setIfInBounds_toArray, List.set_cons_succ, List.set_cons_zero]
    refine wpAnyH_done (by kernel_rfl) ?_ _
    go_wp2_with fail
    refine bodyPost_ret (v := .tuple #[.agg #[.int .i64 x.id, .int .i64 x.lsn, .int .i64 x.level, .int .i64 x.next, .slice A0 n0 c0], .int .i64 p, .agg #[.int .i64 0, .bool false, .int .i64 0]]) ?_ rfl ?_
    · simp [results, Tryd.results18, go_sem, r0, r1, r2, r3, r4, g0, g1, g2]
    generalize hg : ((((((((w5.setCell ⟨w.heap.size, 0, none⟩ (.int .i64 x.id)).setCell ⟨w.heap.size, 1, none⟩ (.int .i64 x.lsn)).setCell ⟨w.heap.size, 2, none⟩ (.int .i64 x.level)).setCell ⟨w.heap.size, 3, none⟩ (.int .i64 x.next)).setCell ⟨w.heap.size, 4, none⟩ (.slice A0 n0 c0)).setCell ⟨w.heap.size + 1, 0, none⟩ (.int .i64 0)).setCell ⟨w.heap.size + 1, 1, none⟩ (.bool false)).setCell ⟨w.heap.size + 1, 2, none⟩ (.int .i64 0)) = U
    have hU : Fr (fun b => b ≠ w.heap.size ∧ b ≠ w.heap.size + 1) w5 U := by
      rw [← hg]
      repeat (first | (with_reducible exact Fr.refl _ _) | with_reducible refine Fr.setCell ?_ (fun m hm => by first | exact hm.1 | exact hm.2) _)
    have F5 := FV.trans f6
    have hs5 := (s0.move' (F3.trans f6) (fun _ _ _ => trivial)).move' hU (fun b (hb : W.heap.size ≤ b) _ => by omega)
    exact ⟨x, p, none, A0, n0, c0, Lib.hid (pgOf_none HF.out), rfl, hs5.mono fun _ _ _ => trivial, ⟨hU.os.trans F5.os, hU.tape.trans F5.tape, hU.output.trans F5.output, Nat.le_trans F5.size hU.size, fun m hm _ => (hU.block m (Nat.lt_of_lt_of_le hm F5.size) (by omega)).trans (F5.block m hm trivial)⟩⟩
end Go.Proofs.YtoaamcpiljoojaaDoor
