/- The walk of the law that records that are unlike have unlike bytes. -/
import Derived.Test.YtblogahililddaaDoorPre
import Derived.Test.YtblogahililddaaDoorRSame2
import Derived.Test.YtblogahililddaaDoorWorld
import Derived.Test.YtblogahililddaaDoorBounds
import Derived.Test.YtblogahililddaaDoorCutting
import Derived.Deep.Cut
namespace Go.Proofs.YtblogahililddaaDoor
open Go.RowKit

theorem redoBytes_small {r : Redo} (h : validIx r = none) : (redoBytes r).length ≤ 186 := by
  have h0 := validIx_none h
  have h1 := vints_len (redoNums r) (redoNums_small h)
  have h2 := vint_len 9 (zig r.key.length) (by decide) (by simp only [zig]; split <;> omega)
  have h3 := vint_len 9 (zig r.val.length) (by decide) (by simp only [zig]; split <;> omega)
  have h4 : (redoNums r).length = 8 := rfl
  simp only [redoBytes, bytesOf, List.length_append]
  omega
/-- A row laid just now, read. -/
theorem Sl.lay {α : Type} {d : Kd α} {w : World} {xs : List α} {cs : List Value} (h : Reps d All w xs cs) (t : TypeId) (n : Nat) (hl : xs.length = n) (hm : n ≤ maxLen) : Sl d All (w.alloc (.cells cs.toArray t)) (.slice (some ⟨w.heap.size, 0, none⟩) n n) xs := by
  subst hl
  refine ⟨_, xs.length, rfl, Nat.le_refl _, hm, fun _ => ⟨w.heap.size, 0, rfl, trivial, fun i x hi => ?_⟩⟩
  obtain ⟨el, hk, hc⟩ := h.get hi
  refine ⟨el, d.move' hk ((Fr.refl All w).alloc _) fun _ _ _ => trivial, fun j u hu => ?_⟩
  have h1 := World.news_of_block (cs := cs.toArray) (t := t) (fr := (0, 0)) (heap_alloc_new w _) (i * d.sz + j) u (by simpa using hc j u hu)
  rw [addr_lit, ← Nat.add_assoc] at h1
  exact h1

set_option hygiene false in
set_option maxRecDepth 100000 in
set_option maxHeartbeats 4000000 in
theorem unlike_walk {qs : List Addr} {w : World} (h : Errs w qs) {x y : Redo} {v0 v1 u0 u1 : Value} (s0 : Sl kByte All w v0 x.key) (s1 : Sl kByte All w v1 x.val) (t0 : Sl kByte All w u0 y.key) (t1 : Sl kByte All w u1 y.val) :
    Calls Tryd.prog 4 #[.agg #[.int .i64 x.lsn, .int .i64 x.back, .int .i64 x.epoch, .int .i64 x.group, .int .i64 x.page, .int .i64 x.kind, .int .i64 x.slot, v0, v1, .bool x.last], .agg #[.int .i64 y.lsn, .int .i64 y.back, .int .i64 y.epoch, .int .i64 y.group, .int .i64 y.page, .int .i64 y.kind, .int .i64 y.slot, u0, u1, .bool y.last]] w
      fun e w' => e = .returned (.bool true) ∧ Fr All w w' := by
  obtain ⟨A0, n0, c0, rfl, ea, _⟩ := s0.open_
  obtain ⟨A1, n1, c1, rfl, eb, _⟩ := s1.open_
  obtain ⟨B0, m0, d0, rfl, ec, _⟩ := t0.open_
  obtain ⟨B1, m1, d1, rfl, ed, _⟩ := t1.open_
  clear ea eb ec ed
  have F0 := ((Fr.refl All w).alloc (.cells #[.int .i64 x.lsn, .int .i64 x.back, .int .i64 x.epoch, .int .i64 x.group, .int .i64 x.page, .int .i64 x.kind, .int .i64 x.slot, .slice A0 n0 c0, .slice A1 n1 c1, .bool x.last] 25)).alloc (.cells #[.int .i64 y.lsn, .int .i64 y.back, .int .i64 y.epoch, .int .i64 y.group, .int .i64 y.page, .int .i64 y.kind, .int .i64 y.slot, .slice B0 m0 d0, .slice B1 m1 d1, .bool y.last] 25)
  have P := heap_alloc2_old w (.cells #[.int .i64 x.lsn, .int .i64 x.back, .int .i64 x.epoch, .int .i64 x.group, .int .i64 x.page, .int .i64 x.kind, .int .i64 x.slot, .slice A0 n0 c0, .slice A1 n1 c1, .bool x.last] 25) (.cells #[.int .i64 y.lsn, .int .i64 y.back, .int .i64 y.epoch, .int .i64 y.group, .int .i64 y.page, .int .i64 y.kind, .int .i64 y.slot, .slice B0 m0 d0, .slice B1 m1 d1, .bool y.last] 25)
  have Q := heap_alloc2_new w (.cells #[.int .i64 x.lsn, .int .i64 x.back, .int .i64 x.epoch, .int .i64 x.group, .int .i64 x.page, .int .i64 x.kind, .int .i64 x.slot, .slice A0 n0 c0, .slice A1 n1 c1, .bool x.last] 25) (.cells #[.int .i64 y.lsn, .int .i64 y.back, .int .i64 y.epoch, .int .i64 y.group, .int .i64 y.page, .int .i64 y.kind, .int .i64 y.slot, .slice B0 m0 d0, .slice B1 m1 d1, .bool y.last] 25)
  go_enter Tryd.func4, Tryd.ntmps4
  go_wp2_with fail
  refine (first3_call (h.move F0)).mono ?_
  rintro e w1 ⟨rfl, f1⟩
  have F1 := F0.trans f1
  have P1 := (f1.block _ (blk_lt P) trivial).trans P
  have Q1 := (f1.block _ (blk_lt Q) trivial).trans Q
  clear P Q F0 f1
  obtain ⟨p0, p1, p2, p3, p4, p5, p6, p7, p8, p9, pz⟩ := blk10 P1
  obtain ⟨q0, q1, q2, q3, q4, q5, q6, q7, q8, q9, qz⟩ := blk10 Q1
  have HR := Sl.lay (Reps.append (Reps.single (kRedo_mk (s0.all F1) (s1.all F1))) (Reps.single (kRedo_mk (t0.all F1) (t1.all F1)))) 25 2 rfl (by decide)
  have FR := F1.alloc (.cells (([.int .i64 x.lsn, .int .i64 x.back, .int .i64 x.epoch, .int .i64 x.group, .int .i64 x.page, .int .i64 x.kind, .int .i64 x.slot, .slice A0 n0 c0, .slice A1 n1 c1, .bool x.last] : List Value) ++ ([.int .i64 y.lsn, .int .i64 y.back, .int .i64 y.epoch, .int .i64 y.group, .int .i64 y.page, .int .i64 y.kind, .int .i64 y.slot, .slice B0 m0 d0, .slice B1 m1 d1, .bool y.last] : List Value)).toArray 25)
  go_wp2_with fail
  refine (right_call 2 (by decide) HR).mono ?_
  rintro e w2 ⟨b, rfl, hb, f2⟩
  have F2 : Fr All w w2 := FR.trans f2
  have PQ : Fr All w1 w2 := ((Fr.refl All w1).alloc _).trans f2
  have P2 := (PQ.block _ (blk_lt P1) trivial).trans P1
  have Q2 := (PQ.block _ (blk_lt Q1) trivial).trans Q1
  clear P1 Q1 FR f2 PQ HR p0 p1 p2 p3 p4 p5 p6 p7 p8 p9 pz q0 q1 q2 q3 q4 q5 q6 q7 q8 q9 qz F1
  have Hb := Lib.hid hb
  clear hb
  cases b with
  | false =>
    go_wp2_with fail
    go_ret
    exact ⟨rfl, F2⟩
  | true =>
    have okx : validIx x = none := (Hb.out rfl).2 x (by simp)
    have oky : validIx y = none := (Hb.out rfl).2 y (by simp)
    have okx2 := Lib.hid okx
    clear Hb
    obtain ⟨p0, p1, p2, p3, p4, p5, p6, p7, p8, p9, pz⟩ := blk10 P2
    obtain ⟨q0, q1, q2, q3, q4, q5, q6, q7, q8, q9, qz⟩ := blk10 Q2
    go_wp2_with fail
    refine (redo_bytes (h.move F2) (s0.all F2) (s1.all F2) okx).mono ?_
    rintro e w3 ⟨A3, c3, rfl, o3, f3⟩
    obtain ⟨xs, hxs⟩ : ∃ xs, redoBytes x = xs := ⟨_, rfl⟩
    rw [hxs] at o3 ⊢
    have Hxs := Lib.hid hxs
    have F3 := F2.trans f3
    have P3 := (f3.block _ (blk_lt P2) trivial).trans P2
    have Q3 := (f3.block _ (blk_lt Q2) trivial).trans Q2
    clear P2 Q2 p0 p1 p2 p3 p4 p5 p6 p7 p8 p9 pz q0 q1 q2 q3 q4 q5 q6 q7 q8 q9 qz F2 f3 okx hxs
    obtain ⟨p0, p1, p2, p3, p4, p5, p6, p7, p8, p9, pz⟩ := blk10 P3
    obtain ⟨q0, q1, q2, q3, q4, q5, q6, q7, q8, q9, qz⟩ := blk10 Q3
    go_wp2_with fail
    refine (redo_bytes (h.move F3) (t0.all F3) (t1.all F3) oky).mono ?_
    rintro e w4 ⟨A4, c4, rfl, o4, f4⟩
    obtain ⟨ys, hys⟩ : ∃ ys, redoBytes y = ys := ⟨_, rfl⟩
    rw [hys] at o4 ⊢
    have Hys := Lib.hid hys
    have F4 := F3.trans f4
    have P4 := (f4.block _ (blk_lt P3) trivial).trans P3
    have Q4 := (f4.block _ (blk_lt Q3) trivial).trans Q3
    have sx : Sl kByte _ w4 _ xs := (o3.all f4).sl
    have sy : Sl kByte _ w4 _ ys := o4.sl
    clear P3 Q3 p0 p1 p2 p3 p4 p5 p6 p7 p8 p9 pz q0 q1 q2 q3 q4 q5 q6 q7 q8 q9 qz F3 f4 oky hys o3 o4
    obtain ⟨p0, p1, p2, p3, p4, p5, p6, p7, p8, p9, pz⟩ := blk10 P4
    obtain ⟨q0, q1, q2, q3, q4, q5, q6, q7, q8, q9, qz⟩ := blk10 Q4
    obtain ⟨m, hm⟩ : ∃ m, m = min xs.length ys.length := ⟨_, rfl⟩
    have hmin : min (xs.length : Int) (ys.length : Int) = (m : Int) := by omega
    have key := take_min_iff (r := x) (s := y) m (by rw [Hxs.out, Hys.out]; exact hm)
    rw [Hxs.out, Hys.out] at key
    have Hkey := Lib.hid key
    have Hm := Lib.hid hm
    obtain ⟨_, nx, _, hex, hlx, hcx, _⟩ := sx.open_
    obtain ⟨_, ny, _, hey, hly, hcy, _⟩ := sy.open_
    have h1 := (Value.slice.inj hex).2.2
    have h2 := (Value.slice.inj hey).2.2
    have g0 : (0 : Int) ≤ (m : Int) := by omega
    have g1 : (m : Int) ≤ (c3 : Int) := by omega
    have g2 : (m : Int) ≤ (c4 : Int) := by omega
    have g1' : m ≤ c3 := by omega
    have g2' : m ≤ c4 := by omega
    have tx := Sl.take sx (s := m) (by omega)
    have ty := Sl.take sy (s := m) (by omega)
    have hsmall : (xs.take m).length ≤ 100000000000000 := by
      have hsz := redoBytes_small okx2.out
      rw [Hxs.out] at hsz
      rw [List.length_take]
      omega
    clear key hm hex hey hlx hly hcx hcy h1 h2 sx sy P4 Q4
    go_upto_region 11 with (fail)
    clear hmin
    obtain ⟨b, hb1, hb2⟩ : ∃ b, decide (x = y) = b ∧ decide (xs.take m = ys.take m) = b := ⟨decide (x = y), rfl, by rw [Bool.eq_iff_iff]; simp only [decide_eq_true_eq]; exact Hkey.out.symm⟩
    go_region_held3 (fun w' => w'.cell? ⟨w.heap.size, 0, none⟩ = some (.int .i64 x.lsn) ∧ w'.cell? ⟨w.heap.size, 1, none⟩ = some (.int .i64 x.back) ∧ w'.cell? ⟨w.heap.size, 2, none⟩ = some (.int .i64 x.epoch) ∧ w'.cell? ⟨w.heap.size, 3, none⟩ = some (.int .i64 x.group) ∧ w'.cell? ⟨w.heap.size, 4, none⟩ = some (.int .i64 x.page) ∧ w'.cell? ⟨w.heap.size, 5, none⟩ = some (.int .i64 x.kind) ∧ w'.cell? ⟨w.heap.size, 6, none⟩ = some (.int .i64 x.slot) ∧ w'.cell? ⟨w.heap.size, 7, none⟩ = some (.slice A0 n0 c0) ∧ w'.cell? ⟨w.heap.size, 8, none⟩ = some (.slice A1 n1 c1) ∧ w'.cell? ⟨w.heap.size, 9, none⟩ = some (.bool x.last) ∧ w'.cell? ⟨w.heap.size + 1, 0, none⟩ = some (.int .i64 y.lsn) ∧ w'.cell? ⟨w.heap.size + 1, 1, none⟩ = some (.int .i64 y.back) ∧ w'.cell? ⟨w.heap.size + 1, 2, none⟩ = some (.int .i64 y.epoch) ∧ w'.cell? ⟨w.heap.size + 1, 3, none⟩ = some (.int .i64 y.group) ∧ w'.cell? ⟨w.heap.size + 1, 4, none⟩ = some (.int .i64 y.page) ∧ w'.cell? ⟨w.heap.size + 1, 5, none⟩ = some (.int .i64 y.kind) ∧ w'.cell? ⟨w.heap.size + 1, 6, none⟩ = some (.int .i64 y.slot) ∧ w'.cell? ⟨w.heap.size + 1, 7, none⟩ = some (.slice B0 m0 d0) ∧ w'.cell? ⟨w.heap.size + 1, 8, none⟩ = some (.slice B1 m1 d1) ∧ w'.cell? ⟨w.heap.size + 1, 9, none⟩ = some (.bool y.last))
      (first | go_keep | (go_split_ands; refine ⟨?_, ?_, ?_, ?_, ?_, ?_, ?_, ?_, ?_, ?_, ?_, ?_, ?_, ?_, ?_, ?_, ?_, ?_, ?_, ?_⟩ <;> exact Fr.cell (by assumption) trivial (by assumption)))
      (first
        | (go_at_call_of 15 (Value.agg #[.int .i64 y.lsn, .int .i64 y.back, .int .i64 y.epoch, .int .i64 y.group, .int .i64 y.page, .int .i64 y.kind, .int .i64 y.slot, .slice B0 m0 d0, .slice B1 m1 d1, .bool y.last]); refine (redo_same (s0.all F4.drew) (s1.all F4.drew) (t0.all F4.drew) (t1.all F4.drew)).mono ?_; rintro e w5 ⟨rfl, f5⟩)
        | (go_at_call 16; refine (same_bytes ((tx.all (Fr.refl All _).drew).all f5) ((ty.all (Fr.refl All _).drew).all f5) hsmall).mono ?_; rintro e w6 ⟨rfl, f6⟩)
        | (go_at_call 15; refine (redo_same (s0.all ((F4.drew.trans f5).trans f6)) (s1.all ((F4.drew.trans f5).trans f6)) (s0.all ((F4.drew.trans f5).trans f6)) (s1.all ((F4.drew.trans f5).trans f6))).mono ?_; rintro e w7 ⟨rfl, f7⟩))
    go_wp2_with fail
    go_ret
    exact ⟨rfl, ((F4.drew.trans f5).trans f6).trans f7⟩
end Go.Proofs.YtblogahililddaaDoor
