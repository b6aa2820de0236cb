/- redo.Read. -/
import Derived.Test.YtblogahililddaaDoorReader3
import Derived.Test.YtblogahililddaaDoorValid
import Derived.Test.YtblogahililddaaDoorLast3
import Derived.Deep.Cut
namespace Go.Proofs.YtblogahililddaaDoor
open Go.RowKit

/-- What Read answers. -/
def ReadRes (bs : List UInt8) (S : Nat → Prop) (w' : World) (e : Ending) : Prop := ∃ x : Redo, ∃ p er, FromTo bs (0, none) x (p, er) ∧
  ((er = none ∧ validIx x = none ∧ ∃ A0 n0 c0 A1 n1 c1, e = .returned (.tuple #[.agg #[.int .i64 x.lsn, .int .i64 x.back, .int .i64 x.epoch, .int .i64 x.group, .int .i64 x.page, .int .i64 x.kind, .int .i64 x.slot, .slice A0 n0 c0, .slice A1 n1 c1, .bool x.last], .int .i64 (p : Int), .nilIface]) ∧ Sl kByte S w' (.slice A0 n0 c0) x.key ∧ Sl kByte S w' (.slice A1 n1 c1) x.val) ∨
   ((er ≠ none ∨ validIx x ≠ none) ∧ ∃ t a, e = .returned (.tuple #[.agg #[.int .i64 0, .int .i64 0, .int .i64 0, .int .i64 0, .int .i64 0, .int .i64 0, .int .i64 0, .slice none 0 0, .slice none 0 0, .bool false], .int .i64 0, .iface t (.pointer (some a))])))

theorem errAt_some {qs : List Addr} {w : World} (h : Errs w qs) {k : Nat} (hk : k < 17) : ∃ a, errAt qs (some k) = .iface 129 (.pointer (some a)) := by
  refine ⟨qs[k]'(by have := h.len; omega), ?_⟩
  unfold errAt
  simp only [List.getElem?_eq_getElem (show k < qs.length by have := h.len; omega)]
  rfl
theorem validIx_lt {r : Redo} {k : Nat} (h : validIx r = some k) : k < 17 := by
  have key : ∀ a b c d : Bool, (if a then some 4 else if b then some 4 else if c then some 5 else if d then some 3 else none : Option Nat) = some k → k < 17 := by
    intro a b c d
    cases a <;> cases b <;> cases c <;> cases d <;> simp <;> omega
  exact key _ _ _ _ h

theorem Fr.frz {w w' : World} {b : Nat} {u : Value} (f : Fr All w w') (c : w.cell? ⟨b, 0, none⟩ = some u) (z : ∀ j, w.frozen? ⟨b, j, none⟩ = false) : ∀ j, w'.frozen? ⟨b, j, none⟩ = false :=
  fun j => (World.frozen?_of_block (a := ⟨b, j, none⟩) (f.block b (World.block_lt_of_cell? w ⟨b, 0, none⟩ c) trivial)).trans (z j)

theorem at_call' {w0 : World} {qs : List Addr} {R n c pos : Nat} {bs : List UInt8} {A : Option Addr} {w : World} {er : Option (Nat × Nat)} {ev : Value} (h : Rd w0 qs R bs A n c w pos er ev) : Calls Tryd.prog 46 #[.pointer (some ⟨R, 0, none⟩)] w fun e w' => e = .returned (.int .i64 pos) ∧ Fr All w w' :=
  (at_call h).mono fun _ _ h => ⟨h.1, h.2 ▸ Fr.refl All _⟩

set_option hygiene false in
set_option maxRecDepth 100000 in
set_option maxHeartbeats 2000000 in
theorem read_call {qs : List Addr} {w : World} {v : Value} {bs : List UInt8} {S : Nat → Prop} (he : Errs w qs) (h : Sl kByte S w v bs) (hn : bs.length ≤ 1000000) :
    Calls Tryd.prog 17 #[v] w fun e w' => ReadRes bs All w' e ∧ Fr All w w' := by
  obtain ⟨A, n, c, rfl, en, _⟩ := h.open_
  have En := Lib.hid en
  clear en
  have B := heap_alloc_new w (.cells #[.int .i64 0, .int .i64 0, .int .i64 0, .int .i64 0, .int .i64 0, .int .i64 0, .int .i64 0, .slice none 0 0, .slice none 0 0, .bool false] 25)
  have F0 := (Fr.refl All w).alloc (.cells #[.int .i64 0, .int .i64 0, .int .i64 0, .int .i64 0, .int .i64 0, .int .i64 0, .int .i64 0, .slice none 0 0, .slice none 0 0, .bool false] 25)
  obtain ⟨W, hW⟩ : ∃ W, w.alloc (.cells #[.int .i64 0, .int .i64 0, .int .i64 0, .int .i64 0, .int .i64 0, .int .i64 0, .int .i64 0, .slice none 0 0, .slice none 0 0, .bool false] 25) = W := ⟨_, rfl⟩
  rw [hW] at B F0
  go_enter Tryd.func17, Tryd.ntmps17
  go_wp2_with fail
  refine (new_reader (he.move F0) (h.all F0) hn).mono ?_
  rintro e w1 ⟨R, A1, c1, rfl, h1⟩
  have hR : W.heap.size ≤ R := h1.new
  have hz := blk_lt B
  have G1 : Fr All W w1 := h1.fr
  have H1 := Lib.hid h1
  clear h1
  go_wp2_with fail
  refine (from_call H1.out).mono ?_
  rintro e w2 ⟨x, A0, n0, c0, A2, n2, c2, p, er, ev, rfl, s0, s1, hf, h2, f2⟩
  have HF := Lib.hid hf
  have G2 : Fr All W w2 := G1.thenNew f2 hR
  have H2 := Lib.hid h2
  clear hf h2
  have B2 := (G2.block w.heap.size hz trivial).trans B
  have F2 : Fr All w w2 := F0.trans G2
  have BT := heap_alloc_new w2 (.cells #[.int .i64 x.lsn, .int .i64 x.back, .int .i64 x.epoch, .int .i64 x.group, .int .i64 x.page, .int .i64 x.kind, .int .i64 x.slot, .slice A0 n0 c0, .slice A2 n2 c2, .bool x.last] 25)
  have F3 := (Fr.refl All w2).alloc (.cells #[.int .i64 x.lsn, .int .i64 x.back, .int .i64 x.epoch, .int .i64 x.group, .int .i64 x.page, .int .i64 x.kind, .int .i64 x.slot, .slice A0 n0 c0, .slice A2 n2 c2, .bool x.last] 25)
  obtain ⟨V, hV⟩ : ∃ V, w2.alloc (.cells #[.int .i64 x.lsn, .int .i64 x.back, .int .i64 x.epoch, .int .i64 x.group, .int .i64 x.page, .int .i64 x.kind, .int .i64 x.slot, .slice A0 n0 c0, .slice A2 n2 c2, .bool x.last] 25) = V := ⟨_, rfl⟩
  rw [hV] at BT F3
  have B3 := (F3.block w.heap.size (blk_lt B2) trivial).trans B2
  have H3 := Lib.hid (H2.out.move F3)
  have hb2 := blk_lt B2
  have FV := F2.trans F3
  go_wp2_with fail
  refine (err_call H3.out).mono ?_
  rintro e w3 ⟨rfl, hw3⟩
  obtain rfl : w3 = V := hw3
  have he3 := H3.out.err
  cases er with
  | some t =>
    obtain ⟨a, b, _, _, _, rfl, _⟩ := he3
    obtain ⟨r0, r1, r2, r3, r4, r5, r6, r7, r8, r9, rz⟩ := blk10 B3
    go_wp2_with fail
    refine bodyPost_ret (v := .tuple #[.agg #[.int .i64 0, .int .i64 0, .int .i64 0, .int .i64 0, .int .i64 0, .int .i64 0, .int .i64 0, .slice none 0 0, .slice none 0 0, .bool false], .int .i64 0, .iface 110 (.pointer (some ⟨b, 0, none⟩))]) ?_ rfl ⟨⟨x, p, _, HF.out, .inr ⟨.inl (by simp), _, _, rfl⟩⟩, ?_⟩
    · simp [results, Tryd.results17, go_sem, r0, r1, r2, r3, r4, r5, r6, r7, r8, r9]
    · (repeat (first | (with_reducible exact FV) | with_reducible refine Fr.setNew ?_ (by dsimp only; omega) _))
  | none =>
    obtain rfl : ev = .nilIface := he3
    obtain ⟨t0, t1, t2, t3, t4, t5, t6, t7, t8, t9, tz⟩ := blk10 BT
    go_wp2_with fail
    refine (valid_call (he.move FV) ((s0.mono fun b _ _ => trivial).all F3) ((s1.mono fun b _ _ => trivial).all F3)).mono ?_
    rintro e w4 ⟨rfl, f4⟩
    have B4 := (f4.block w.heap.size (blk_lt B3) trivial).trans B3
    have T4 := (f4.block w2.heap.size (blk_lt BT) trivial).trans BT
    clear t0 t1 t2 t3 t4 t5 t6 t7 t8 t9 tz
    obtain ⟨r0, r1, r2, r3, r4, r5, r6, r7, r8, r9, rz⟩ := blk10 B4
    obtain ⟨t0, t1, t2, t3, t4, t5, t6, t7, t8, t9, tz⟩ := blk10 T4
    rcases hv : validIx x with _ | k
    · rw [show errAt qs none = .nilIface from rfl]
      have Hv := Lib.hid hv
      clear hv
      have H4 := Lib.hid (H3.out.move f4)
      have FW := FV.trans f4
      go_upto_region 8 with (fail)
      clear BT T4 B3 B2 B hV hW r0 r1 r2 r3 r4 r5 r6 r7 r8 r9 rz
      have hne : w2.heap.size ≠ w.heap.size := by omega
      refine wp_region_last3 (S := fun w' => w'.cell? ⟨w2.heap.size, 0, none⟩ = some (.int .i64 x.lsn) ∧ w'.cell? ⟨w2.heap.size, 1, none⟩ = some (.int .i64 x.back) ∧ w'.cell? ⟨w2.heap.size, 2, none⟩ = some (.int .i64 x.epoch) ∧ w'.cell? ⟨w2.heap.size, 3, none⟩ = some (.int .i64 x.group) ∧ w'.cell? ⟨w2.heap.size, 4, none⟩ = some (.int .i64 x.page) ∧ w'.cell? ⟨w2.heap.size, 5, none⟩ = some (.int .i64 x.kind) ∧ w'.cell? ⟨w2.heap.size, 6, none⟩ = some (.int .i64 x.slot) ∧ w'.cell? ⟨w2.heap.size, 7, none⟩ = some (.slice A0 n0 c0) ∧ w'.cell? ⟨w2.heap.size, 8, none⟩ = some (.slice A2 n2 c2) ∧ w'.cell? ⟨w2.heap.size, 9, none⟩ = some (.bool x.last)) 3 (by kernel_rfl) rfl (by kernel_rfl) (by kernel_rfl) (by kernel_rfl) ⟨t0, t1, t2, t3, t4, t5, t6, t7, t8, t9⟩ (fun hHeld => ?_)
      simp only [List.take_succ_cons, List.take_zero]
      refine wpAnyH_take (i := 0) (v := ?_) rfl (by kernel_rfl) (by kernel_rfl) (by kernel_rfl) (fun _ _ _ h => h) (Or.inl ⟨by rfl, ?_⟩) (by assumption) ?_
      rotate_left
      · (intro w hSw; (try dsimp only at hSw); go_simp; try with_reducible rfl)
      try simp only [Act.put]
      try simp only [List.setIfInBounds_toArray]
      try simp only [List.set_cons_succ]
      try simp only [List.set_cons_zero]
      refine wpAnyH_take (i := 1) (v := ?_) rfl (by kernel_rfl) (by kernel_rfl) (by kernel_rfl) (fun _ _ _ h => h) (Or.inl ⟨by rfl, ?_⟩) (by assumption) ?_
      rotate_left
      · (intro w hSw; (try dsimp only at hSw); go_simp; try with_reducible rfl)
      try simp only [Act.put]
      try simp only [List.setIfInBounds_toArray]
      try simp only [List.set_cons_succ]
      try simp only [List.set_cons_zero]
      refine wpAnyH_ready (rs := [2]) (by kernel_rfl) (by simp) (AllReadyH.cons rfl (fun K hK => ?_) AllReadyH.nil)
      go_simp
      refine (at_call' (H4.out.move (Fr.refl All w4).drew)).mono ?_
      rintro e w5 ⟨rfl, f5⟩
      go_simp
      have f6 : Fr All w4 w5 := (Fr.refl All w4).drew.trans f5
      refine hK.out _ _ ⟨f6.cell trivial t0, f6.cell trivial t1, f6.cell trivial t2, f6.cell trivial t3, f6.cell trivial t4, f6.cell trivial t5, f6.cell trivial t6, f6.cell trivial t7, f6.cell trivial t8, f6.cell trivial t9⟩ (fun hHeld => ?_)
      clear hK K
      try simp only [Act.put]
      try simp only [List.setIfInBounds_toArray]
      try simp only [List.set_cons_succ]
      try simp only [List.set_cons_zero]
      have FN : Fr (fun b => b ≠ w.heap.size) w2 w5 := ((F3.trans f4).trans f6).mono fun _ _ => trivial
      have B5 := (f6.block w.heap.size (blk_lt B4) trivial).trans B4
      clear hHeld t0 t1 t2 t3 t4 t5 t6 t7 t8 t9 tz
      obtain ⟨r0, r1, r2, r3, r4, r5, r6, r7, r8, r9, rz⟩ := blk10 B5
      refine wpAnyH_done (by kernel_rfl) ?_ _
      show wpList _ _ _ _ _ _
      go_wp2_with fail
      show wpList _ _ _ _ _ _
      go_wp2_with fail
      show wpList _ _ _ _ _ _
      go_wp2_with fail
      refine bodyPost_ret (v := .tuple #[.agg #[.int .i64 x.lsn, .int .i64 x.back, .int .i64 x.epoch, .int .i64 x.group, .int .i64 x.page, .int .i64 x.kind, .int .i64 x.slot, .slice A0 n0 c0, .slice A2 n2 c2, .bool x.last], .int .i64 p, .nilIface]) ?_ rfl ⟨⟨x, p, _, HF.out, .inl ⟨rfl, Hv.out, _, _, _, _, _, _, rfl, ?_, ?_⟩⟩, ?_⟩
      · simp [results, Tryd.results17, go_sem, r0, r1, r2, r3, r4, r5, r6, r7, r8, r9]
      · refine (Sl.move' s0 (T := fun b => b ≠ w.heap.size) ?_ fun b hb _ => ?_).mono fun _ _ _ => trivial
        · repeat (first | (with_reducible exact FN) | with_reducible refine Fr.setCell ?_ (fun m hm => by exact hm) _)
        · have := G1.size
          have hb : w1.heap.size ≤ b := hb
          omega
      · refine (Sl.move' s1 (T := fun b => b ≠ w.heap.size) ?_ fun b hb _ => ?_).mono fun _ _ _ => trivial
        · repeat (first | (with_reducible exact FN) | with_reducible refine Fr.setCell ?_ (fun m hm => by exact hm) _)
        · have := G1.size
          have hb : w1.heap.size ≤ b := hb
          omega
      · (repeat (first | (with_reducible exact (FW.trans f6)) | with_reducible refine Fr.setNew ?_ (by dsimp only; omega) _))
    · obtain ⟨a, ha⟩ := errAt_some he (validIx_lt hv)
      rw [ha]
      have Hv := Lib.hid hv
      clear hv ha
      go_wp2_with fail
      refine bodyPost_ret (v := .tuple #[.agg #[.int .i64 0, .int .i64 0, .int .i64 0, .int .i64 0, .int .i64 0, .int .i64 0, .int .i64 0, .slice none 0 0, .slice none 0 0, .bool false], .int .i64 0, .iface 129 (.pointer (some a))]) ?_ rfl ⟨⟨x, p, _, HF.out, .inr ⟨.inr (by rw [Hv.out]; simp), _, _, rfl⟩⟩, ?_⟩
      · simp [results, Tryd.results17, go_sem, r0, r1, r2, r3, r4, r5, r6, r7, r8, r9]
      · (repeat (first | (with_reducible exact (FV.trans f4)) | with_reducible refine Fr.setNew ?_ (by dsimp only; omega) _))
end Go.Proofs.YtblogahililddaaDoor
