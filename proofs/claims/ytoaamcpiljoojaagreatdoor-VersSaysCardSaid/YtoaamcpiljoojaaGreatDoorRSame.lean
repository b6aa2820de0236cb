/- bytes.Equal; redo.Same. -/
import Derived.Test.YtoaamcpiljoojaaGreatDoorRef
import Derived.Laws.BytesArg
import Derived.Lib.Bytes
import Derived.Lib.Strings
import Derived.Lib.Slices
import Derived.Lib.Walk
namespace Go.Proofs.YtoaamcpiljoojaaGreatDoor
open Go.RowKit

def numsOf (xs : List UInt8) : List Int := xs.map fun b => (b.toNat : Int)
theorem numsOf_bytes (xs : List UInt8) : Lib.bytesOf (numsOf xs) = xs := by
  unfold Lib.bytesOf numsOf
  rw [List.map_map]
  conv => rhs; rw [← List.map_id xs]
  refine List.map_congr_left fun b _ => ?_
  show UInt8.ofNat ((b.toNat : Int)).toNat = b
  rw [Int.toNat_natCast]
  exact UInt8.ofNat_toNat

theorem conv_bytes {S : Nat → Prop} {w : World} {A : Option Addr} {n c : Nat} {xs : List UInt8} (h : Sl kByte S w (.slice A n c) xs) : (convert 31 9 (.slice A n c)).run Tryz.prog w = .ok (.string (strOfNums (numsOf xs))) w := by
  obtain ⟨A', c', he, _, _, hx⟩ := id h
  have hn : n = xs.length := h.len.symm
  have ha : A = A' := (Value.slice.inj he).1
  subst ha
  by_cases h0 : 0 < xs.length
  · obtain ⟨b, o, rfl, _⟩ := hx h0
    refine run_convert_bytes_arg w 31 5 Tryz.underlying31 Tryz.underlying5 b o n c (numsOf xs) (by simp [numsOf, hn]) (fun i hi => ?_) 9 Tryz.underlying9
    obtain ⟨x, hxi, _⟩ := get_of (l := xs) (k := i) (by omega)
    obtain ⟨b', o', hA, hc⟩ := h.at1 hxi
    injection (Option.some.inj hA) with hb ho _
    subst hb
    subst ho
    rw [hc]
    simp [numsOf, List.getD, hxi]
  · obtain rfl : xs = [] := List.eq_nil_of_length_eq_zero (by omega)
    obtain rfl : n = 0 := hn
    cases A with
    | none => exact run_convert_bytes_nil w 31 5 Tryz.underlying31 Tryz.underlying5 0 c 9 Tryz.underlying9
    | some a =>
      rw [run_convert_bytes_string w 31 9 5 _ 0 c Tryz.underlying31 Tryz.underlying5 Tryz.underlying9]
      have hl := run_loadCells_list (P := Tryz.prog) w a [] (fun j v hj => by simp at hj)
      simp at hl
      simp [hl, Conv.bytesToString, numsOf, strOfNums]
      rfl

theorem bytes_equal {S T : Nat → Prop} {w : World} {v u : Value} {xs ys : List UInt8} (h : Sl kByte S w v xs) (k : Sl kByte T w u ys) : Calls Tryz.prog 83 #[v, u] w fun e w' => e = .returned (.bool (decide (xs = ys))) ∧ w' = w := by
  obtain ⟨A, n, c, rfl, _⟩ := h.open_
  obtain ⟨B, m, d, rfl, _⟩ := k.open_
  have h1 := conv_bytes h
  have h2 := conv_bytes k
  have e1 : (decide (xs = ys)) = ((strOfNums (numsOf xs)).toList == (strOfNums (numsOf ys)).toList) := by
    rw [Lib.strOfNums_toList, Lib.strOfNums_toList, numsOf_bytes, numsOf_bytes, Bool.eq_iff_iff]
    simp
  rw [e1]
  clear h k e1
  go_enter Tryz.func83, Tryz.ntmps83
  go_wp2_with fail
  go_ret
  exact ⟨rfl, rfl⟩

set_option hygiene false in
set_option maxRecDepth 100000 in
set_option maxHeartbeats 4000000 in
theorem redo_same_ne {w : World} {x y : Redo} {v0 v1 u0 u1 : Value} {S T S' T' : Nat → Prop} (s0 : Sl kByte S w v0 x.key) (s1 : Sl kByte T w v1 x.val) (t0 : Sl kByte S' w u0 y.key) (t1 : Sl kByte T' w u1 y.val) (hne : ¬(x.lsn = y.lsn ∧ x.back = y.back ∧ x.epoch = y.epoch ∧ x.group = y.group)) :
    Calls Tryz.prog 42 #[.agg #[.int .i64 x.lsn, .int .i64 x.back, .int .i64 x.epoch, .int .i64 x.group, .int .i64 x.page, .int .i64 x.kind, .int .i64 x.slot, v0, v1, .bool x.last], .agg #[.int .i64 y.lsn, .int .i64 y.back, .int .i64 y.epoch, .int .i64 y.group, .int .i64 y.page, .int .i64 y.kind, .int .i64 y.slot, u0, u1, .bool y.last]] w
      fun e w' => e = .returned (.bool (decide (x = y))) ∧ Fr All w w' := by
  obtain ⟨A0, n0, c0, rfl, _⟩ := s0.open_
  obtain ⟨A1, n1, c1, rfl, _⟩ := s1.open_
  obtain ⟨B0, m0, d0, rfl, _⟩ := t0.open_
  obtain ⟨B1, m1, d1, rfl, _⟩ := t1.open_
  obtain ⟨lsn, back, epoch, group, page, kind, slot, key, val, last⟩ := x
  obtain ⟨lsn', back', epoch', group', page', kind', slot', key', val', last'⟩ := y
  dsimp only at *
  have F0 := ((Fr.refl All w).alloc (.cells #[.int .i64 lsn, .int .i64 back, .int .i64 epoch, .int .i64 group, .int .i64 page, .int .i64 kind, .int .i64 slot, .slice A0 n0 c0, .slice A1 n1 c1, .bool last] 33)).alloc (.cells #[.int .i64 lsn', .int .i64 back', .int .i64 epoch', .int .i64 group', .int .i64 page', .int .i64 kind', .int .i64 slot', .slice B0 m0 d0, .slice B1 m1 d1, .bool last'] 33)
  obtain ⟨p0, p1, p2, p3, p4, p5, p6, p7, p8, p9, pz⟩ := blk10 (heap_alloc2_old w (.cells #[.int .i64 lsn, .int .i64 back, .int .i64 epoch, .int .i64 group, .int .i64 page, .int .i64 kind, .int .i64 slot, .slice A0 n0 c0, .slice A1 n1 c1, .bool last] 33) (.cells #[.int .i64 lsn', .int .i64 back', .int .i64 epoch', .int .i64 group', .int .i64 page', .int .i64 kind', .int .i64 slot', .slice B0 m0 d0, .slice B1 m1 d1, .bool last'] 33))
  obtain ⟨q0, q1, q2, q3, q4, q5, q6, q7, q8, q9, qz⟩ := blk10 (heap_alloc2_new w (.cells #[.int .i64 lsn, .int .i64 back, .int .i64 epoch, .int .i64 group, .int .i64 page, .int .i64 kind, .int .i64 slot, .slice A0 n0 c0, .slice A1 n1 c1, .bool last] 33) (.cells #[.int .i64 lsn', .int .i64 back', .int .i64 epoch', .int .i64 group', .int .i64 page', .int .i64 kind', .int .i64 slot', .slice B0 m0 d0, .slice B1 m1 d1, .bool last'] 33))
  obtain ⟨W, hW⟩ : ∃ W, (w.alloc (.cells #[.int .i64 lsn, .int .i64 back, .int .i64 epoch, .int .i64 group, .int .i64 page, .int .i64 kind, .int .i64 slot, .slice A0 n0 c0, .slice A1 n1 c1, .bool last] 33)).alloc (.cells #[.int .i64 lsn', .int .i64 back', .int .i64 epoch', .int .i64 group', .int .i64 page', .int .i64 kind', .int .i64 slot', .slice B0 m0 d0, .slice B1 m1 d1, .bool last'] 33) = W := ⟨_, rfl⟩
  rw [hW] at F0 p0 p1 p2 p3 p4 p5 p6 p7 p8 p9 pz q0 q1 q2 q3 q4 q5 q6 q7 q8 q9 qz
  have Hne := Lib.hid hne
  clear hne
  by_cases hlsn : lsn = lsn'
  case neg =>
    have hf : (lsn == lsn') = false := beq_false_of_ne hlsn
    have Hn := Lib.hid hlsn
    clear hlsn
    go_enter Tryz.func42, Tryz.ntmps42
    go_wp2_with (first | (go_at_call_of 83 (Value.slice A0 n0 c0); refine (bytes_equal (s0.all F0) (t0.all F0)).mono ?_; rintro e w1 ⟨rfl, hw1⟩; obtain rfl := hw1.symm) | (go_at_call_of 83 (Value.slice A1 n1 c1); refine (bytes_equal (s1.all F0) (t1.all F0)).mono ?_; rintro e w2 ⟨rfl, hw2⟩; obtain rfl := hw2.symm))
    go_ret
    exact ⟨ret_bool (by simp [Hn.out]), F0⟩
  subst hlsn
  by_cases hback : back = back'
  case neg =>
    have hf : (back == back') = false := beq_false_of_ne hback
    have Hn := Lib.hid hback
    clear hback
    go_enter Tryz.func42, Tryz.ntmps42
    go_wp2_with (first | (go_at_call_of 83 (Value.slice A0 n0 c0); refine (bytes_equal (s0.all F0) (t0.all F0)).mono ?_; rintro e w1 ⟨rfl, hw1⟩; obtain rfl := hw1.symm) | (go_at_call_of 83 (Value.slice A1 n1 c1); refine (bytes_equal (s1.all F0) (t1.all F0)).mono ?_; rintro e w2 ⟨rfl, hw2⟩; obtain rfl := hw2.symm))
    go_ret
    exact ⟨ret_bool (by simp [Hn.out]), F0⟩
  subst hback
  by_cases hepoch : epoch = epoch'
  case neg =>
    have hf : (epoch == epoch') = false := beq_false_of_ne hepoch
    have Hn := Lib.hid hepoch
    clear hepoch
    go_enter Tryz.func42, Tryz.ntmps42
    go_wp2_with (first | (go_at_call_of 83 (Value.slice A0 n0 c0); refine (bytes_equal (s0.all F0) (t0.all F0)).mono ?_; rintro e w1 ⟨rfl, hw1⟩; obtain rfl := hw1.symm) | (go_at_call_of 83 (Value.slice A1 n1 c1); refine (bytes_equal (s1.all F0) (t1.all F0)).mono ?_; rintro e w2 ⟨rfl, hw2⟩; obtain rfl := hw2.symm))
    go_ret
    exact ⟨ret_bool (by simp [Hn.out]), F0⟩
  subst hepoch
  by_cases hgroup : group = group'
  case neg =>
    have hf : (group == group') = false := beq_false_of_ne hgroup
    have Hn := Lib.hid hgroup
    clear hgroup
    go_enter Tryz.func42, Tryz.ntmps42
    go_wp2_with (first | (go_at_call_of 83 (Value.slice A0 n0 c0); refine (bytes_equal (s0.all F0) (t0.all F0)).mono ?_; rintro e w1 ⟨rfl, hw1⟩; obtain rfl := hw1.symm) | (go_at_call_of 83 (Value.slice A1 n1 c1); refine (bytes_equal (s1.all F0) (t1.all F0)).mono ?_; rintro e w2 ⟨rfl, hw2⟩; obtain rfl := hw2.symm))
    go_ret
    exact ⟨ret_bool (by simp [Hn.out]), F0⟩
  subst hgroup
  exact absurd ⟨rfl, rfl, rfl, rfl⟩ Hne.out
end Go.Proofs.YtoaamcpiljoojaaGreatDoor
