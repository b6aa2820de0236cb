/- redo.Same, to its end. -/
import Derived.Test.YtoaamcpiljoojaaGreatDoorRSame
namespace Go.Proofs.YtoaamcpiljoojaaGreatDoor
open Go.RowKit

set_option hygiene false in
set_option maxRecDepth 100000 in
set_option maxHeartbeats 4000000 in
theorem redo_same {w : World} {x y : Redo} {v0 v1 u0 u1 : Value} {S T S' T' : Nat → Prop} (s0 : Sl kByte S w v0 x.key) (s1 : Sl kByte T w v1 x.val) (t0 : Sl kByte S' w u0 y.key) (t1 : Sl kByte T' w u1 y.val) :
    Calls Tryz.prog 42 #[.agg #[.int .i64 x.lsn, .int .i64 x.back, .int .i64 x.epoch, .int .i64 x.group, .int .i64 x.page, .int .i64 x.kind, .int .i64 x.slot, v0, v1, .bool x.last], .agg #[.int .i64 y.lsn, .int .i64 y.back, .int .i64 y.epoch, .int .i64 y.group, .int .i64 y.page, .int .i64 y.kind, .int .i64 y.slot, u0, u1, .bool y.last]] w
      fun e w' => e = .returned (.bool (decide (x = y))) ∧ Fr All w w' := by
  obtain ⟨A0, n0, c0, rfl, _⟩ := s0.open_
  obtain ⟨A1, n1, c1, rfl, _⟩ := s1.open_
  obtain ⟨B0, m0, d0, rfl, _⟩ := t0.open_
  obtain ⟨B1, m1, d1, rfl, _⟩ := t1.open_
  obtain ⟨lsn, back, epoch, group, page, kind, slot, key, val, last⟩ := x
  obtain ⟨lsn', back', epoch', group', page', kind', slot', key', val', last'⟩ := y
  dsimp only at *
  by_cases hfour : lsn = lsn' ∧ back = back' ∧ epoch = epoch' ∧ group = group'
  case neg => exact redo_same_ne (x := ⟨lsn, back, epoch, group, page, kind, slot, key, val, last⟩) (y := ⟨lsn', back', epoch', group', page', kind', slot', key', val', last'⟩) s0 s1 t0 t1 hfour
  obtain ⟨rfl, rfl, rfl, rfl⟩ := hfour
  have F0 := ((Fr.refl All w).alloc (.cells #[.int .i64 lsn, .int .i64 back, .int .i64 epoch, .int .i64 group, .int .i64 page, .int .i64 kind, .int .i64 slot, .slice A0 n0 c0, .slice A1 n1 c1, .bool last] 33)).alloc (.cells #[.int .i64 lsn, .int .i64 back, .int .i64 epoch, .int .i64 group, .int .i64 page', .int .i64 kind', .int .i64 slot', .slice B0 m0 d0, .slice B1 m1 d1, .bool last'] 33)
  obtain ⟨p0, p1, p2, p3, p4, p5, p6, p7, p8, p9, pz⟩ := blk10 (heap_alloc2_old w (.cells #[.int .i64 lsn, .int .i64 back, .int .i64 epoch, .int .i64 group, .int .i64 page, .int .i64 kind, .int .i64 slot, .slice A0 n0 c0, .slice A1 n1 c1, .bool last] 33) (.cells #[.int .i64 lsn, .int .i64 back, .int .i64 epoch, .int .i64 group, .int .i64 page', .int .i64 kind', .int .i64 slot', .slice B0 m0 d0, .slice B1 m1 d1, .bool last'] 33))
  obtain ⟨q0, q1, q2, q3, q4, q5, q6, q7, q8, q9, qz⟩ := blk10 (heap_alloc2_new w (.cells #[.int .i64 lsn, .int .i64 back, .int .i64 epoch, .int .i64 group, .int .i64 page, .int .i64 kind, .int .i64 slot, .slice A0 n0 c0, .slice A1 n1 c1, .bool last] 33) (.cells #[.int .i64 lsn, .int .i64 back, .int .i64 epoch, .int .i64 group, .int .i64 page', .int .i64 kind', .int .i64 slot', .slice B0 m0 d0, .slice B1 m1 d1, .bool last'] 33))
  obtain ⟨W, hW⟩ : ∃ W, (w.alloc (.cells #[.int .i64 lsn, .int .i64 back, .int .i64 epoch, .int .i64 group, .int .i64 page, .int .i64 kind, .int .i64 slot, .slice A0 n0 c0, .slice A1 n1 c1, .bool last] 33)).alloc (.cells #[.int .i64 lsn, .int .i64 back, .int .i64 epoch, .int .i64 group, .int .i64 page', .int .i64 kind', .int .i64 slot', .slice B0 m0 d0, .slice B1 m1 d1, .bool last'] 33) = W := ⟨_, rfl⟩
  rw [hW] at F0 p0 p1 p2 p3 p4 p5 p6 p7 p8 p9 pz q0 q1 q2 q3 q4 q5 q6 q7 q8 q9 qz
  by_cases hpage : page = page'
  case neg =>
    have hf : (page == page') = false := beq_false_of_ne hpage
    have Hn := Lib.hid hpage
    clear hpage
    go_enter Tryz.func42, Tryz.ntmps42
    go_wp2_with (first | (go_at_call_of 83 (Value.slice A0 n0 c0); refine (bytes_equal (s0.all F0) (t0.all F0)).mono ?_; rintro e w1 ⟨rfl, hw1⟩; obtain rfl := hw1.symm) | (go_at_call_of 83 (Value.slice A1 n1 c1); refine (bytes_equal (s1.all F0) (t1.all F0)).mono ?_; rintro e w2 ⟨rfl, hw2⟩; obtain rfl := hw2.symm))
    go_ret
    exact ⟨ret_bool (by simp [Hn.out]), F0⟩
  subst hpage
  by_cases hkind : kind = kind'
  case neg =>
    have hf : (kind == kind') = false := beq_false_of_ne hkind
    have Hn := Lib.hid hkind
    clear hkind
    go_enter Tryz.func42, Tryz.ntmps42
    go_wp2_with (first | (go_at_call_of 83 (Value.slice A0 n0 c0); refine (bytes_equal (s0.all F0) (t0.all F0)).mono ?_; rintro e w1 ⟨rfl, hw1⟩; obtain rfl := hw1.symm) | (go_at_call_of 83 (Value.slice A1 n1 c1); refine (bytes_equal (s1.all F0) (t1.all F0)).mono ?_; rintro e w2 ⟨rfl, hw2⟩; obtain rfl := hw2.symm))
    go_ret
    exact ⟨ret_bool (by simp [Hn.out]), F0⟩
  subst hkind
  by_cases hslot : slot = slot'
  case neg =>
    have hf : (slot == slot') = false := beq_false_of_ne hslot
    have Hn := Lib.hid hslot
    clear hslot
    go_enter Tryz.func42, Tryz.ntmps42
    go_wp2_with (first | (go_at_call_of 83 (Value.slice A0 n0 c0); refine (bytes_equal (s0.all F0) (t0.all F0)).mono ?_; rintro e w1 ⟨rfl, hw1⟩; obtain rfl := hw1.symm) | (go_at_call_of 83 (Value.slice A1 n1 c1); refine (bytes_equal (s1.all F0) (t1.all F0)).mono ?_; rintro e w2 ⟨rfl, hw2⟩; obtain rfl := hw2.symm))
    go_ret
    exact ⟨ret_bool (by simp [Hn.out]), F0⟩
  subst hslot
  by_cases hlast : last = last'
  case neg =>
    have hf : (last == last') = false := beq_false_of_ne hlast
    have Hn := Lib.hid hlast
    clear hlast
    go_enter Tryz.func42, Tryz.ntmps42
    go_wp2_with (first | (go_at_call_of 83 (Value.slice A0 n0 c0); refine (bytes_equal (s0.all F0) (t0.all F0)).mono ?_; rintro e w1 ⟨rfl, hw1⟩; obtain rfl := hw1.symm) | (go_at_call_of 83 (Value.slice A1 n1 c1); refine (bytes_equal (s1.all F0) (t1.all F0)).mono ?_; rintro e w2 ⟨rfl, hw2⟩; obtain rfl := hw2.symm))
    go_ret
    exact ⟨ret_bool (by simp [Hn.out]), F0⟩
  subst hlast
  by_cases hkey : key = key'
  · have hf : decide (key = key') = true := decide_eq_true hkey
    have Hn := Lib.hid hkey
    clear hkey
    go_enter Tryz.func42, Tryz.ntmps42
    go_wp2_with (first | (go_at_call_of 83 (Value.slice A0 n0 c0); refine (bytes_equal (s0.all F0) (t0.all F0)).mono ?_; rintro e w1 ⟨rfl, hw1⟩; obtain rfl := hw1.symm) | (go_at_call_of 83 (Value.slice A1 n1 c1); refine (bytes_equal (s1.all F0) (t1.all F0)).mono ?_; rintro e w2 ⟨rfl, hw2⟩; obtain rfl := hw2.symm))
    go_ret
    exact ⟨ret_bool (by have := Hn.out; simp [this]), F0⟩
  · have hf : decide (key = key') = false := decide_eq_false hkey
    have Hn := Lib.hid hkey
    clear hkey
    go_enter Tryz.func42, Tryz.ntmps42
    go_wp2_with (first | (go_at_call_of 83 (Value.slice A0 n0 c0); refine (bytes_equal (s0.all F0) (t0.all F0)).mono ?_; rintro e w1 ⟨rfl, hw1⟩; obtain rfl := hw1.symm) | (go_at_call_of 83 (Value.slice A1 n1 c1); refine (bytes_equal (s1.all F0) (t1.all F0)).mono ?_; rintro e w2 ⟨rfl, hw2⟩; obtain rfl := hw2.symm))
    go_ret
    exact ⟨ret_bool (by simp [Hn.out]), F0⟩
end Go.Proofs.YtoaamcpiljoojaaGreatDoor
