/- make of an empty row; sextetref.Bytes; SameRedo of a record that is the same. -/
import Derived.Test.YtblogahililddaaDoorWire
import Derived.Test.YtblogahililddaaDoorRef
import Derived.Test.YtblogahililddaaDoorVIx
import Derived.Laws.MakeOwn
namespace Go.Proofs.YtblogahililddaaDoor
open Go.RowKit

theorem run_mk {P : Program} {α : Type} (d : Kd α) (S : Nat → Prop) (w : World) (base : Nat) (t e : TypeId) (z : Value) (bytes : Nat) (ht : P.underlying t = some (.slice e)) (hinfo : (P.info? e).map (fun i => (i.zero, i.size, i.bytes)) = some (some z, d.sz, bytes))
    (c : Nat) (hbytes : bytes * c ≤ 281474976710656) (h63 : c ≤ maxLen) (hbase : base ≤ w.heap.size) :
    ∃ w', (Instr.makeSlice t (.int .i64 0) (.int .i64 (c : Int))).run P w = .ok (.slice (some ⟨w.heap.size, 0, none⟩) 0 c) w' ∧ Own d e base S w' (.slice (some ⟨w.heap.size, 0, none⟩) 0 c) ([] : List α) ∧ Fr All w w' := by
  obtain ⟨i0, hi, hzz⟩ := Option.map_eq_some_iff.1 hinfo
  simp only [Prod.mk.injEq] at hzz
  obtain ⟨hz0, hz1, hz2⟩ := hzz
  have h63' : (c : Int) ≤ 9223372036854775807 := by
    have h := h63
    simp [maxLen] at h
    omega
  have hb' : (i0.bytes : Int) * (c : Int) ≤ 281474976710656 := by
    rw [hz2]
    have h : ((bytes * c : Nat) : Int) ≤ 281474976710656 := by omega
    rwa [Int.natCast_mul] at h
  have hr := run_make (P := P) w t e i0 z ht hi hz0 .i64 .i64 0 c (Int.le_refl _) (by omega) hb' h63'
  simp only [Int.toNat_zero, Int.toNat_natCast] at hr
  rw [hz1] at hr
  exact ⟨_, hr, ⟨[], World.ownsRow_made w _ c hbase h63 (size_madeCells _ _), rfl⟩, (Fr.refl _ _).alloc _⟩

set_option maxRecDepth 100000 in
set_option maxHeartbeats 1000000 in
theorem ref_bytes {v : Value} {xs : List UInt8} {S : Nat → Prop} {w : World} (h : Sl kByte S w v xs) (hn : xs.length ≤ 1000000) :
    Calls Tryd.prog 18 #[v] w fun e w' => ∃ v', e = .returned v' ∧ Own kByte 5 w.heap.size All w' v' xs ∧ Fr All w w' := by
  obtain ⟨A, n, c, rfl, en, _⟩ := h.open_
  have En := Lib.hid en
  rw [en] at hn
  clear en
  obtain ⟨w1, hmk, o1, f1⟩ := run_mk (P := Tryd.prog) kByte All w w.heap.size 23 5 (.int .u8 0) 1 Tryd.underlying23 info_u8 n (by omega) (by simp only [maxLen]; omega) (Nat.le_refl _)
  go_enter Tryd.func18, Tryd.ntmps18
  go_wp2_with fail
  have H1 := f1.size
  clear hmk
  go_loopw [3, 4] (fun u i wr => ∃ k : Nat, k ≤ n ∧ i = .int .i64 k ∧ Own kByte 5 w.heap.size All wr u (xs.take k) ∧ Fr All w wr) (fun _ i _ => n - (intOf i).toNat)
  case atStart => exact ⟨0, Nat.zero_le _, rfl, o1, f1⟩
  case round =>
    obtain ⟨k, hk, rfl, HO, HF⟩ := hrel
    obtain ⟨A', c', rfl⟩ := HO.length
    by_cases hlt : k < n
    · obtain ⟨x, hx, _⟩ := get_of (l := xs) (k := k) (by rw [En.out]; exact hlt)
      obtain ⟨b, o, hA, c0⟩ := (h.all HF).at1 hx
      subst hA
      have b0 : (0 : Int) ≤ (k : Int) := by omega
      have b1 : (k : Int) < (n : Int) := by omega
      have Hx := Lib.hid hx
      have hl : (xs.take k).length ≤ 1000000 := by rw [List.length_take]; omega
      have HO2 : Own kByte 5 w.heap.size All (wr.alloc (.cells #[.int .u8 (x.toNat : Int)] 5)) (.slice A' (xs.take k).length c') (xs.take k) := HO.all ((Fr.refl All wr).alloc _)
      have HY : Src kByte Nowhere (wr.alloc (.cells #[.int .u8 (x.toNat : Int)] 5)) (.slice (some ⟨wr.heap.size, 0, none⟩) 1 1) [x] := Src.box (d := kByte) (x := x) (cs := [.int .u8 (x.toNat : Int)]) rfl _ 1
      have HS := HF.size
      clear hx
      go_wp2_with (at_builtin; refine wpList_app rfl rfl Tryd.underlying23 info_u8 rfl (by decide) HO2 HY rfl rfl (fun _ h _ => h.elim) (by simp only [List.length_cons, List.length_nil]; omega) (by simp; omega) ?_; intro v' w' h3 h4 h5)
      go_roundw
      case rel => exact ⟨k + 1, by omega, by go_num, by rw [take_snoc Hx.out]; exact h3, (HF.alloc _).row h4.grown fun m hm => (own_lt HO2 m hm).1⟩
      case measure => simp [intOf]; omega
    · obtain rfl : k = n := by omega
      have HT : ∀ v, Own kByte 5 w.heap.size All wr v (xs.take k) → Own kByte 5 w.heap.size All wr v xs := fun v h => by
        rw [List.take_of_length_le (by rw [En.out]; exact Nat.le_refl _)] at h
        exact h
      go_wp2_with fail
      go_ret
      exact ⟨_, rfl, HT _ HO, HF⟩

set_option maxRecDepth 100000 in
set_option maxHeartbeats 2000000 in
theorem same_redo_eq {w : World} {x : Redo} {A0 A1 B0 B1 : Option Addr} {n0 c0 n1 c1 m0 d0 m1 d1 : Nat} {S0 S1 T0 T1 : Nat → Prop} (s0 : Sl kByte S0 w (.slice A0 n0 c0) x.key) (s1 : Sl kByte S1 w (.slice A1 n1 c1) x.val) (t0 : Sl kByte T0 w (.slice B0 m0 d0) x.key) (t1 : Sl kByte T1 w (.slice B1 m1 d1) x.val) (hk : x.key.length ≤ 1000000) (hv : x.val.length ≤ 1000000) :
    Calls Tryd.prog 20 #[.agg #[.int .i64 x.lsn, .int .i64 x.back, .int .i64 x.epoch, .int .i64 x.group, .int .i64 x.page, .int .i64 x.kind, .int .i64 x.slot, .slice A0 n0 c0, .slice A1 n1 c1, .bool x.last], .agg #[.int .i64 x.lsn, .int .i64 x.back, .int .i64 x.epoch, .int .i64 x.group, .int .i64 x.page, .int .i64 x.kind, .int .i64 x.slot, .slice B0 m0 d0, .slice B1 m1 d1, .bool x.last]] w fun e w' => e = .returned (.bool true) ∧ Fr All w w' := by
  have F0 := ((Fr.refl All w).alloc (.cells #[.int .i64 x.lsn, .int .i64 x.back, .int .i64 x.epoch, .int .i64 x.group, .int .i64 x.page, .int .i64 x.kind, .int .i64 x.slot, .slice A0 n0 c0, .slice A1 n1 c1, .bool x.last] 25)).alloc (.cells #[.int .i64 x.lsn, .int .i64 x.back, .int .i64 x.epoch, .int .i64 x.group, .int .i64 x.page, .int .i64 x.kind, .int .i64 x.slot, .slice B0 m0 d0, .slice B1 m1 d1, .bool x.last] 25)
  have P := heap_alloc2_old w (.cells #[.int .i64 x.lsn, .int .i64 x.back, .int .i64 x.epoch, .int .i64 x.group, .int .i64 x.page, .int .i64 x.kind, .int .i64 x.slot, .slice A0 n0 c0, .slice A1 n1 c1, .bool x.last] 25) (.cells #[.int .i64 x.lsn, .int .i64 x.back, .int .i64 x.epoch, .int .i64 x.group, .int .i64 x.page, .int .i64 x.kind, .int .i64 x.slot, .slice B0 m0 d0, .slice B1 m1 d1, .bool x.last] 25)
  have Q := heap_alloc2_new w (.cells #[.int .i64 x.lsn, .int .i64 x.back, .int .i64 x.epoch, .int .i64 x.group, .int .i64 x.page, .int .i64 x.kind, .int .i64 x.slot, .slice A0 n0 c0, .slice A1 n1 c1, .bool x.last] 25) (.cells #[.int .i64 x.lsn, .int .i64 x.back, .int .i64 x.epoch, .int .i64 x.group, .int .i64 x.page, .int .i64 x.kind, .int .i64 x.slot, .slice B0 m0 d0, .slice B1 m1 d1, .bool x.last] 25)
  obtain ⟨W, hW⟩ : ∃ W, (w.alloc (.cells #[.int .i64 x.lsn, .int .i64 x.back, .int .i64 x.epoch, .int .i64 x.group, .int .i64 x.page, .int .i64 x.kind, .int .i64 x.slot, .slice A0 n0 c0, .slice A1 n1 c1, .bool x.last] 25)).alloc (.cells #[.int .i64 x.lsn, .int .i64 x.back, .int .i64 x.epoch, .int .i64 x.group, .int .i64 x.page, .int .i64 x.kind, .int .i64 x.slot, .slice B0 m0 d0, .slice B1 m1 d1, .bool x.last] 25) = W := ⟨_, rfl⟩
  rw [hW] at P Q F0
  obtain ⟨p0, p1, p2, p3, p4, p5, p6, p7, p8, p9, pz⟩ := blk10 P
  obtain ⟨q0, q1, q2, q3, q4, q5, q6, q7, q8, q9, qz⟩ := blk10 Q
  have hdk : decide (x.key = x.key) = true := decide_eq_true rfl
  have hdv : decide (x.val = x.val) = true := decide_eq_true rfl
  go_enter Tryd.func20, Tryd.ntmps20
  go_wp2_with fail
  refine (same_bytes (s0.all F0) (t0.all F0) (by omega)).mono ?_
  rintro e w1 ⟨rfl, f1⟩
  have P1 := (f1.block _ (blk_lt P) trivial).trans P
  have Q1 := (f1.block _ (blk_lt Q) trivial).trans Q
  have F1 := F0.trans f1
  clear p0 p1 p2 p3 p4 p5 p6 p7 p8 p9 pz q0 q1 q2 q3 q4 q5 q6 q7 q8 q9 qz P Q f1
  obtain ⟨p0, p1, p2, p3, p4, p5, p6, p7, p8, p9, pz⟩ := blk10 P1
  obtain ⟨q0, q1, q2, q3, q4, q5, q6, q7, q8, q9, qz⟩ := blk10 Q1
  go_wp2_with fail
  refine (same_bytes (s1.all F1) (t1.all F1) (by omega)).mono ?_
  rintro e w2 ⟨rfl, f2⟩
  have P2 := (f2.block _ (blk_lt P1) trivial).trans P1
  have Q2 := (f2.block _ (blk_lt Q1) trivial).trans Q1
  have F2 := F1.trans f2
  clear p0 p1 p2 p3 p4 p5 p6 p7 p8 p9 pz q0 q1 q2 q3 q4 q5 q6 q7 q8 q9 qz P1 Q1 f2 F1
  obtain ⟨p0, p1, p2, p3, p4, p5, p6, p7, p8, p9, pz⟩ := blk10 P2
  obtain ⟨q0, q1, q2, q3, q4, q5, q6, q7, q8, q9, qz⟩ := blk10 Q2
  go_wp2_with fail
  go_ret
  exact ⟨rfl, F2⟩
end Go.Proofs.YtblogahililddaaDoor
