/- The walk of the law on bounds. -/
import Derived.Test.YtblogahililddaaDoorValid
namespace Go.Proofs.YtblogahililddaaDoor
open Go.RowKit

/-- What a walk's error is, by its number. -/
theorem sees_at {qs : List Addr} {w : World} (h : Errs w qs) (k : Nat) (hk : k < 17) : Sees w (errAt qs (some k)) (101 + k) false 0 := by
  have hl := h.len
  have e : qs[k]? = some (qs[k]'(by omega)) := List.getElem?_eq_getElem _
  have e2 : errAt qs (some k) = errV (qs[k]'(by omega)) := by
    unfold errAt
    simp only [e]
  rw [e2]
  exact Sees.bare h e

theorem first3_call {qs : List Addr} {w : World} (h : Errs w qs) : Calls Tryd.prog 9 #[] w fun e w' => e = .returned (.bool true) ∧ Fr All w w' := by
  go_enter Tryd.func9, Tryd.ntmps9
  go_wp2_with fail
  refine (valid_call (r := ⟨0, 0, 0, 0, 0, 0, 0, [], [], false⟩) h (Sl.nil_ _ All _) (Sl.nil_ _ All _)).mono ?_
  rintro e w1 ⟨rfl, f1⟩
  rw [show validIx ⟨0, 0, 0, 0, 0, 0, 0, [], [], false⟩ = some 4 by decide]
  go_wp2_with fail
  refine (see_is (sees_at (h.move f1) 4 (by decide)) 105).mono ?_
  rintro e w2 ⟨rfl, f2⟩
  go_wp2_with fail
  go_ret
  exact ⟨ret_bool (by decide), f1.trans f2⟩

theorem lsn_call (n : Int) (w : World) (h : decide (n ≥ 1) = true) (h2 : decide (n ≤ 1099511627776) = true) : Calls Tryd.prog 12 #[.int .i64 n] w fun e w' => e = .returned (.bool true) ∧ w' = w := by
  go_enter Tryd.func12, Tryd.ntmps12
  go_wp2_with fail
  go_ret
  exact ⟨rfl, rfl⟩

theorem bounds_bad (lsn back epoch group page kind : Int)
    (h : ¬ (lsn ≥ 1 ∧ lsn ≤ 1099511627776 ∧ back ≥ 0 ∧ back < lsn ∧ epoch ≥ 0 ∧ epoch ≤ 1073741824 ∧ group ≥ 0 ∧ group < 4 ∧ page ≥ 0 ∧ page < 256)) : validIx ⟨lsn, back, epoch, group, page, kind, 0, [], [], false⟩ = some 4 := by
  unfold validIx
  simp only [inB]
  split
  · rfl
  · split
    · rfl
    · rename_i h1 h2
      simp at h1 h2
      omega
theorem bounds_kind (lsn back epoch group page kind : Int)
    (h : lsn ≥ 1 ∧ lsn ≤ 1099511627776 ∧ back ≥ 0 ∧ back < lsn ∧ epoch ≥ 0 ∧ epoch ≤ 1073741824 ∧ group ≥ 0 ∧ group < 4 ∧ page ≥ 0 ∧ page < 256) : validIx ⟨lsn, back, epoch, group, page, kind, 0, [], [], false⟩ = if kind < 1 ∨ kind > 6 then some 5 else none := by
  unfold validIx
  simp only [inB]
  split
  · rename_i h1
    simp at h1
    omega
  · split
    · rename_i h1
      simp at h1
      omega
    · by_cases hk : kind < 1 ∨ kind > 6
      · rw [if_pos hk, if_pos (by simpa using hk)]
      · rw [if_neg hk, if_neg (by simpa using hk)]
        simp

set_option hygiene false in
set_option maxHeartbeats 4000000 in
set_option maxRecDepth 100000 in
theorem bounds_walk {qs : List Addr} {w : World} (h : Errs w qs) (lsn back epoch group page kind : Int) :
    Calls Tryd.prog 3 #[.int .i64 lsn, .int .i64 back, .int .i64 epoch, .int .i64 group, .int .i64 page, .int .i64 kind] w fun e w' => e = .returned (.bool true) ∧ Fr All w w' := by
  go_enter Tryd.func3, Tryd.ntmps3
  go_wp2_with fail
  refine (first3_call h).mono ?_
  rintro e w1 ⟨rfl, f1⟩
  go_upto_region 5 with (fail)
  have B := heap_alloc_new w1 (.cells #[.int .i64 lsn, .int .i64 back, .int .i64 epoch, .int .i64 group, .int .i64 page, .int .i64 kind, .int .i64 0, .slice none 0 0, .slice none 0 0, .bool false] 25)
  refine wp_name ?_
  intro W hW
  have F := f1.alloc (.cells #[.int .i64 lsn, .int .i64 back, .int .i64 epoch, .int .i64 group, .int .i64 page, .int .i64 kind, .int .i64 0, .slice none 0 0, .slice none 0 0, .bool false] 25)
  rw [← hW] at B F
  clear hW
  obtain ⟨q0, q1, q2, q3, q4, q5, q6, q7, q8, q9, qz⟩ := blk10 B
  go_wp2_with fail
  refine (valid_call (r := ⟨lsn, back, epoch, group, page, kind, 0, [], [], false⟩) (h.move F) (Sl.nil_ _ All _) (Sl.nil_ _ All _)).mono ?_
  rintro e w2 ⟨rfl, f2⟩
  clear q0 q1 q2 q3 q4 q5 q6 q7 q8 q9 qz
  obtain ⟨ix, hix⟩ : ∃ ix, validIx ⟨lsn, back, epoch, group, page, kind, 0, [], [], false⟩ = ix := ⟨_, rfl⟩
  rw [hix]
  have Hx := Lib.hid hix
  clear hix
  go_upto_region 6 with (fail)
  cases h1 : decide (lsn ≥ 1) with
  | false =>
    obtain rfl : ix = some 4 := by
      rw [← Hx.out]
      exact bounds_bad _ _ _ _ _ _ (by rintro ⟨a1, a2, a3, a4, a5, a6, a7, a8, a9, a10⟩; simp only [decide_eq_true_eq, decide_eq_false_iff_not] at *; omega)
    go_wp2_with fail
    refine (see_is (sees_at ((h.move F).move f2) 4 (by decide)) 105).mono ?_
    rintro e w3 ⟨rfl, f3⟩
    go_wp2_with fail
    go_ret
    exact ⟨ret_bool (by decide), (F.trans f2).trans f3⟩
  | true =>
  cases h2 : decide (lsn ≤ 1099511627776) with
  | false =>
    obtain rfl : ix = some 4 := by
      rw [← Hx.out]
      exact bounds_bad _ _ _ _ _ _ (by rintro ⟨a1, a2, a3, a4, a5, a6, a7, a8, a9, a10⟩; simp only [decide_eq_true_eq, decide_eq_false_iff_not] at *; omega)
    go_wp2_with fail
    refine (see_is (sees_at ((h.move F).move f2) 4 (by decide)) 105).mono ?_
    rintro e w3 ⟨rfl, f3⟩
    go_wp2_with fail
    go_ret
    exact ⟨ret_bool (by decide), (F.trans f2).trans f3⟩
  | true =>
  cases h3 : decide (back ≥ 0) with
  | false =>
    obtain rfl : ix = some 4 := by
      rw [← Hx.out]
      exact bounds_bad _ _ _ _ _ _ (by rintro ⟨a1, a2, a3, a4, a5, a6, a7, a8, a9, a10⟩; simp only [decide_eq_true_eq, decide_eq_false_iff_not] at *; omega)
    go_wp2_with fail
    refine (see_is (sees_at ((h.move F).move f2) 4 (by decide)) 105).mono ?_
    rintro e w3 ⟨rfl, f3⟩
    go_wp2_with fail
    go_ret
    exact ⟨ret_bool (by decide), (F.trans f2).trans f3⟩
  | true =>
  cases h4 : decide (back < lsn) with
  | false =>
    obtain rfl : ix = some 4 := by
      rw [← Hx.out]
      exact bounds_bad _ _ _ _ _ _ (by rintro ⟨a1, a2, a3, a4, a5, a6, a7, a8, a9, a10⟩; simp only [decide_eq_true_eq, decide_eq_false_iff_not] at *; omega)
    go_wp2_with fail
    refine (see_is (sees_at ((h.move F).move f2) 4 (by decide)) 105).mono ?_
    rintro e w3 ⟨rfl, f3⟩
    go_wp2_with fail
    go_ret
    exact ⟨ret_bool (by decide), (F.trans f2).trans f3⟩
  | true =>
  cases h5 : decide (epoch ≥ 0) with
  | false =>
    obtain rfl : ix = some 4 := by
      rw [← Hx.out]
      exact bounds_bad _ _ _ _ _ _ (by rintro ⟨a1, a2, a3, a4, a5, a6, a7, a8, a9, a10⟩; simp only [decide_eq_true_eq, decide_eq_false_iff_not] at *; omega)
    go_wp2_with fail
    refine (see_is (sees_at ((h.move F).move f2) 4 (by decide)) 105).mono ?_
    rintro e w3 ⟨rfl, f3⟩
    go_wp2_with fail
    go_ret
    exact ⟨ret_bool (by decide), (F.trans f2).trans f3⟩
  | true =>
  cases h6 : decide (epoch ≤ 1073741824) with
  | false =>
    obtain rfl : ix = some 4 := by
      rw [← Hx.out]
      exact bounds_bad _ _ _ _ _ _ (by rintro ⟨a1, a2, a3, a4, a5, a6, a7, a8, a9, a10⟩; simp only [decide_eq_true_eq, decide_eq_false_iff_not] at *; omega)
    go_wp2_with fail
    refine (see_is (sees_at ((h.move F).move f2) 4 (by decide)) 105).mono ?_
    rintro e w3 ⟨rfl, f3⟩
    go_wp2_with fail
    go_ret
    exact ⟨ret_bool (by decide), (F.trans f2).trans f3⟩
  | true =>
  cases h7 : decide (group ≥ 0) with
  | false =>
    obtain rfl : ix = some 4 := by
      rw [← Hx.out]
      exact bounds_bad _ _ _ _ _ _ (by rintro ⟨a1, a2, a3, a4, a5, a6, a7, a8, a9, a10⟩; simp only [decide_eq_true_eq, decide_eq_false_iff_not] at *; omega)
    go_wp2_with fail
    refine (see_is (sees_at ((h.move F).move f2) 4 (by decide)) 105).mono ?_
    rintro e w3 ⟨rfl, f3⟩
    go_wp2_with fail
    go_ret
    exact ⟨ret_bool (by decide), (F.trans f2).trans f3⟩
  | true =>
  cases h8 : decide (group < 4) with
  | false =>
    obtain rfl : ix = some 4 := by
      rw [← Hx.out]
      exact bounds_bad _ _ _ _ _ _ (by rintro ⟨a1, a2, a3, a4, a5, a6, a7, a8, a9, a10⟩; simp only [decide_eq_true_eq, decide_eq_false_iff_not] at *; omega)
    go_wp2_with fail
    refine (see_is (sees_at ((h.move F).move f2) 4 (by decide)) 105).mono ?_
    rintro e w3 ⟨rfl, f3⟩
    go_wp2_with fail
    go_ret
    exact ⟨ret_bool (by decide), (F.trans f2).trans f3⟩
  | true =>
  cases h9 : decide (page ≥ 0) with
  | false =>
    obtain rfl : ix = some 4 := by
      rw [← Hx.out]
      exact bounds_bad _ _ _ _ _ _ (by rintro ⟨a1, a2, a3, a4, a5, a6, a7, a8, a9, a10⟩; simp only [decide_eq_true_eq, decide_eq_false_iff_not] at *; omega)
    go_wp2_with fail
    refine (see_is (sees_at ((h.move F).move f2) 4 (by decide)) 105).mono ?_
    rintro e w3 ⟨rfl, f3⟩
    go_wp2_with fail
    go_ret
    exact ⟨ret_bool (by decide), (F.trans f2).trans f3⟩
  | true =>
  cases h10 : decide (page < 256) with
  | false =>
    obtain rfl : ix = some 4 := by
      rw [← Hx.out]
      exact bounds_bad _ _ _ _ _ _ (by rintro ⟨a1, a2, a3, a4, a5, a6, a7, a8, a9, a10⟩; simp only [decide_eq_true_eq, decide_eq_false_iff_not] at *; omega)
    go_wp2_with fail
    refine (see_is (sees_at ((h.move F).move f2) 4 (by decide)) 105).mono ?_
    rintro e w3 ⟨rfl, f3⟩
    go_wp2_with fail
    go_ret
    exact ⟨ret_bool (by decide), (F.trans f2).trans f3⟩
  | true =>
  have hn : lsn ≥ 1 ∧ lsn ≤ 1099511627776 ∧ back ≥ 0 ∧ back < lsn ∧ epoch ≥ 0 ∧ epoch ≤ 1073741824 ∧ group ≥ 0 ∧ group < 4 ∧ page ≥ 0 ∧ page < 256 := by
    simp only [decide_eq_true_eq] at *
    omega
  have hk := bounds_kind lsn back epoch group page kind hn
  rw [Hx.out] at hk
  have Hn := Lib.hid hn
  clear hn
  cases h11 : decide (kind < 1) with
  | true =>
    obtain rfl : ix = some 5 := by
      rw [hk, if_pos (.inl (of_decide_eq_true h11))]
    clear hk
    go_wp2_with fail
    refine (see_is (sees_at ((h.move F).move f2) 5 (by decide)) 106).mono ?_
    rintro e w3 ⟨rfl, f3⟩
    go_wp2_with fail
    go_ret
    exact ⟨ret_bool (by decide), (F.trans f2).trans f3⟩
  | false =>
  cases h12 : decide (kind > 6) with
  | true =>
    obtain rfl : ix = some 5 := by
      rw [hk, if_pos (.inr (of_decide_eq_true h12))]
    clear hk
    go_wp2_with fail
    refine (see_is (sees_at ((h.move F).move f2) 5 (by decide)) 106).mono ?_
    rintro e w3 ⟨rfl, f3⟩
    go_wp2_with fail
    go_ret
    exact ⟨ret_bool (by decide), (F.trans f2).trans f3⟩
  | false =>
    obtain rfl : ix = none := by
      rw [hk, if_neg]
      have a1 := of_decide_eq_false h11
      have a2 := of_decide_eq_false h12
      omega
    clear hk
    rw [show errAt qs none = .nilIface from rfl]
    go_wp2_with (first | (go_at_call 12; refine (lsn_call _ _ h1 h2).mono ?_; rintro e _ ⟨rfl, rfl⟩))
    go_ret
    exact ⟨rfl, F.trans f2⟩
end Go.Proofs.YtblogahililddaaDoor
