/- redo.Sort's comparison: by number, then by epoch. -/
import Derived.Test.YtalidmlomfobdaaDoorSLay
import Derived.Outline
import Derived.Deep.QuietTactic
import Derived.BigQuiet
import Derived.Deep.RegionHeld3
import Derived.Deep.Cut
namespace Go.Proofs.YtalidmlomfobdaaDoor
open Go.RowKit Go.Sort

def cmpI (a b : Int) : Int := if a < b then -1 else if b < a then 1 else 0

theorem nan64 (n : Int) (w : World) : Calls Tryd.prog 126 #[.int .i64 n] w fun e w' => e = .returned (.bool false) ∧ w' = w := by
  go_enter Tryd.func126, Tryd.ntmps126
  go_wp2_with fail
  go_ret
  exact ⟨ret_bool (by simp), rfl⟩
theorem nanint (n : Int) (w : World) : Calls Tryd.prog 130 #[.int .i64 n] w fun e w' => e = .returned (.bool false) ∧ w' = w := by
  go_enter Tryd.func130, Tryd.ntmps130
  go_wp2_with fail
  go_ret
  exact ⟨ret_bool (by simp), rfl⟩
theorem compare64 (a b : Int) (w : World) : Calls Tryd.prog 107 #[.int .i64 a, .int .i64 b] w fun e w' => e = .returned (.int .i64 (cmpI a b)) ∧ w' = w := by
  unfold cmpI
  by_cases h1 : a < b
  · have hd : decide (a < b) = true := decide_eq_true h1
    rw [if_pos h1]
    clear h1
    go_enter Tryd.func107, Tryd.ntmps107
    go_wp2_with (first | (go_at_call 126; refine (nan64 _ _).mono ?_; rintro e _ ⟨rfl, rfl⟩) | (go_at_call 130; refine (nanint _ _).mono ?_; rintro e _ ⟨rfl, rfl⟩))
    go_ret
    exact ⟨rfl, rfl⟩
  · have hd : decide (a < b) = false := decide_eq_false h1
    rw [if_neg h1]
    clear h1
    by_cases h2 : b < a
    · have hd2 : decide (a > b) = true := decide_eq_true h2
      rw [if_pos h2]
      clear h2
      go_enter Tryd.func107, Tryd.ntmps107
      go_wp2_with (first | (go_at_call 126; refine (nan64 _ _).mono ?_; rintro e _ ⟨rfl, rfl⟩) | (go_at_call 130; refine (nanint _ _).mono ?_; rintro e _ ⟨rfl, rfl⟩))
      go_ret
      exact ⟨rfl, rfl⟩
    · have hd2 : decide (a > b) = false := decide_eq_false h2
      rw [if_neg h2]
      clear h2
      go_enter Tryd.func107, Tryd.ntmps107
      go_wp2_with (first | (go_at_call 126; refine (nan64 _ _).mono ?_; rintro e _ ⟨rfl, rfl⟩) | (go_at_call 130; refine (nanint _ _).mono ?_; rintro e _ ⟨rfl, rfl⟩))
      go_ret
      exact ⟨rfl, rfl⟩
theorem compareint (a b : Int) (w : World) : Calls Tryd.prog 108 #[.int .i64 a, .int .i64 b] w fun e w' => e = .returned (.int .i64 (cmpI a b)) ∧ w' = w := by
  unfold cmpI
  by_cases h1 : a < b
  · have hd : decide (a < b) = true := decide_eq_true h1
    rw [if_pos h1]
    clear h1
    go_enter Tryd.func108, Tryd.ntmps108
    go_wp2_with (first | (go_at_call 126; refine (nan64 _ _).mono ?_; rintro e _ ⟨rfl, rfl⟩) | (go_at_call 130; refine (nanint _ _).mono ?_; rintro e _ ⟨rfl, rfl⟩))
    go_ret
    exact ⟨rfl, rfl⟩
  · have hd : decide (a < b) = false := decide_eq_false h1
    rw [if_neg h1]
    clear h1
    by_cases h2 : b < a
    · have hd2 : decide (a > b) = true := decide_eq_true h2
      rw [if_pos h2]
      clear h2
      go_enter Tryd.func108, Tryd.ntmps108
      go_wp2_with (first | (go_at_call 126; refine (nan64 _ _).mono ?_; rintro e _ ⟨rfl, rfl⟩) | (go_at_call 130; refine (nanint _ _).mono ?_; rintro e _ ⟨rfl, rfl⟩))
      go_ret
      exact ⟨rfl, rfl⟩
    · have hd2 : decide (a > b) = false := decide_eq_false h2
      rw [if_neg h2]
      clear h2
      go_enter Tryd.func108, Tryd.ntmps108
      go_wp2_with (first | (go_at_call 126; refine (nan64 _ _).mono ?_; rintro e _ ⟨rfl, rfl⟩) | (go_at_call 130; refine (nanint _ _).mono ?_; rintro e _ ⟨rfl, rfl⟩))
      go_ret
      exact ⟨rfl, rfl⟩

def orI (a b : Int) : Int := if a = 0 then b else a

set_option maxHeartbeats 1000000 in
theorem or_call {b : Nat} {x y : Int} {w : World} (hx : w.cell? ⟨b, 0, none⟩ = some (.int .i64 x)) (hy : w.cell? ⟨b, 1, none⟩ = some (.int .i64 y)) :
    Calls Tryd.prog 106 #[.slice (some ⟨b, 0, none⟩) 2 2] w fun e w' => e = .returned (.int .i64 (orI x y)) ∧ w' = w := by
  have hor : x ≠ 0 → orI x y = x := fun h => if_neg h
  have hor0 : orI 0 y = y := if_pos rfl
  have Ho := Lib.hid hor
  have Ho0 := Lib.hid hor0
  clear hor hor0
  go_enter Tryd.func106, Tryd.ntmps106
  go_wp2_with fail
  go_loopw [8] (fun i wr => ∃ k : Nat, k ≤ 2 ∧ i = .int .i64 k ∧ wr = w ∧ Hid (0 < k → x = 0) ∧ Hid (1 < k → y = 0)) (fun i _ => 2 - (intOf i).toNat)
  case atStart => exact ⟨0, by decide, rfl, rfl, (fun h => absurd h (by decide) : 0 < 0 → x = 0), (fun h => absurd h (by decide) : 1 < 0 → y = 0)⟩
  case round =>
    obtain ⟨k, hk, rfl, rfl, h1, h2⟩ := hrel
    match k, hk with
    | 0, _ =>
      by_cases hx0 : x = 0
      · subst hx0
        go_wp2_with fail
        go_roundw
        case rel => exact ⟨1, by decide, by go_num, trivial, (fun _ => trivial : 0 < 1 → True), (fun h => absurd h (by decide) : 1 < 1 → y = 0)⟩
        case measure => simp [intOf]
      · have hb : (x != 0) = true := by rw [bne_iff_ne]; exact hx0
        have Hx := Lib.hid (Ho.out hx0)
        clear hx0
        go_wp2_with fail
        go_ret
        exact ⟨by rw [Hx.out]; rfl, rfl⟩
    | 1, _ =>
      have hx0 := h1.out (by decide)
      subst hx0
      by_cases hy0 : y = 0
      · subst hy0
        go_wp2_with fail
        go_roundw
        case rel => exact ⟨2, by decide, by go_num, trivial, (fun _ => trivial : 0 < 2 → True), (fun _ => trivial : 1 < 2 → True)⟩
        case measure => simp [intOf]
      · have hb : (y != 0) = true := by rw [bne_iff_ne]; exact hy0
        clear hy0
        go_wp2_with fail
        go_ret
        exact ⟨by rw [Ho0.out]; rfl, rfl⟩
    | 2, _ =>
      have hx0 := h1.out (by decide)
      have hy0 := h2.out (by decide)
      subst hx0
      subst hy0
      go_wp2_with fail
      go_ret
      exact ⟨by rw [Ho0.out]; rfl, rfl⟩

theorem or_call' (x y : Int) (W : World) (T : TypeId) : Calls Tryd.prog 106 #[.slice (some ⟨W.heap.size, 0, none⟩) 2 2] (W.alloc (.cells #[.int .i64 x, .int .i64 y] T)).drew fun e w' => e = .returned (.int .i64 (orI x y)) ∧ w' = (W.alloc (.cells #[.int .i64 x, .int .i64 y] T)).drew :=
  or_call (w := (W.alloc (.cells #[.int .i64 x, .int .i64 y] T)).drew) (b := W.heap.size) (blk2 (heap_alloc_new W (.cells #[.int .i64 x, .int .i64 y] T))).1 (blk2 (heap_alloc_new W (.cells #[.int .i64 x, .int .i64 y] T))).2.1

/-- The order of records. -/
def redoCmp (a b : Redo) : Int := orI (cmpI a.lsn b.lsn) (cmpI a.epoch b.epoch)

/-- A record's ten cells. -/
structure RC where
  lsn : Int
  back : Int
  epoch : Int
  group : Int
  page : Int
  kind : Int
  slot : Int
  k : Option Addr × Nat × Nat
  v : Option Addr × Nat × Nat
  last : Bool
instance : Inhabited RC := ⟨⟨0, 0, 0, 0, 0, 0, 0, (none, 0, 0), (none, 0, 0), false⟩⟩
def RC.enc (r : RC) : List Value := [.int .i64 r.lsn, .int .i64 r.back, .int .i64 r.epoch, .int .i64 r.group, .int .i64 r.page, .int .i64 r.kind, .int .i64 r.slot, .slice r.k.1 r.k.2.1 r.k.2.2, .slice r.v.1 r.v.2.1 r.v.2.2, .bool r.last]
def rcCmp (a b : RC) : Int := orI (cmpI a.lsn b.lsn) (cmpI a.epoch b.epoch)

set_option maxRecDepth 100000 in
set_option maxHeartbeats 1000000 in
theorem sort_cmp (x y : RC) (w : World) : Calls Tryd.prog 105 #[.agg x.enc.toArray, .agg y.enc.toArray] w fun e w' => e = .returned (.int .i64 (rcCmp x y)) ∧ ∃ q os, w' = grow (w.drewN q) os := by
  obtain ⟨lsn, back, epoch, group, page, kind, slot, ⟨A0, n0, c0⟩, ⟨A1, n1, c1⟩, last⟩ := x
  obtain ⟨lsn', back', epoch', group', page', kind', slot', ⟨B0, m0, d0⟩, ⟨B1, m1, d1⟩, last'⟩ := y
  unfold RC.enc rcCmp
  dsimp only
  obtain ⟨p0, p1, p2, p3, p4, p5, p6, p7, p8, p9, pz⟩ := blk10 (heap_alloc2_old w (.cells #[.int .i64 lsn, .int .i64 back, .int .i64 epoch, .int .i64 group, .int .i64 page, .int .i64 kind, .int .i64 slot, .slice A0 n0 c0, .slice A1 n1 c1, .bool last] 34) (.cells #[.int .i64 lsn', .int .i64 back', .int .i64 epoch', .int .i64 group', .int .i64 page', .int .i64 kind', .int .i64 slot', .slice B0 m0 d0, .slice B1 m1 d1, .bool last'] 34))
  obtain ⟨q0, q1, q2, q3, q4, q5, q6, q7, q8, q9, qz⟩ := blk10 (heap_alloc2_new w (.cells #[.int .i64 lsn, .int .i64 back, .int .i64 epoch, .int .i64 group, .int .i64 page, .int .i64 kind, .int .i64 slot, .slice A0 n0 c0, .slice A1 n1 c1, .bool last] 34) (.cells #[.int .i64 lsn', .int .i64 back', .int .i64 epoch', .int .i64 group', .int .i64 page', .int .i64 kind', .int .i64 slot', .slice B0 m0 d0, .slice B1 m1 d1, .bool last'] 34))
  obtain ⟨W, hW⟩ : ∃ W, (w.alloc (.cells #[.int .i64 lsn, .int .i64 back, .int .i64 epoch, .int .i64 group, .int .i64 page, .int .i64 kind, .int .i64 slot, .slice A0 n0 c0, .slice A1 n1 c1, .bool last] 34)).alloc (.cells #[.int .i64 lsn', .int .i64 back', .int .i64 epoch', .int .i64 group', .int .i64 page', .int .i64 kind', .int .i64 slot', .slice B0 m0 d0, .slice B1 m1 d1, .bool last'] 34) = W := ⟨_, rfl⟩
  rw [hW] at p0 p1 p2 p3 p4 p5 p6 p7 p8 p9 pz q0 q1 q2 q3 q4 q5 q6 q7 q8 q9 qz
  have HW := Lib.hid hW
  clear p1 p3 p4 p5 p6 p7 p8 p9 pz q1 q3 q4 q5 q6 q7 q8 q9 qz
  go_enter Tryd.func105, Tryd.ntmps105
  go_upto_region 1 with (fail)
  clear hW
  go_region_held3 (fun w' => w'.cell? ⟨w.heap.size, 0, none⟩ = some (.int .i64 lsn) ∧ w'.cell? ⟨w.heap.size, 2, none⟩ = some (.int .i64 epoch) ∧ w'.cell? ⟨w.heap.size + 1, 0, none⟩ = some (.int .i64 lsn') ∧ w'.cell? ⟨w.heap.size + 1, 2, none⟩ = some (.int .i64 epoch'))
    (first | go_keep | (go_split_ands; refine ⟨?_, ?_, ?_, ?_⟩ <;> exact Fr.cell (by assumption) trivial (by assumption)) | (go_split_ands; refine ⟨?_, ?_, ?_, ?_⟩ <;> exact ((Fr.refl All _).alloc _).cell trivial (by assumption)))
    (first
      | (go_at_call 107; refine (compare64 _ _ _).mono ?_; rintro e _ ⟨rfl, rfl⟩)
      | (go_at_call 108; refine (compareint _ _ _).mono ?_; rintro e _ ⟨rfl, rfl⟩)
      | (go_at_call 106; refine (or_call' _ _ _ _).mono ?_; rintro e _ ⟨rfl, rfl⟩))
  go_wp2_with fail
  go_ret
  refine ⟨rfl, 1, #[.cells #[.int .i64 lsn, .int .i64 back, .int .i64 epoch, .int .i64 group, .int .i64 page, .int .i64 kind, .int .i64 slot, .slice A0 n0 c0, .slice A1 n1 c1, .bool last] 34 (0, 0), .cells #[.int .i64 lsn', .int .i64 back', .int .i64 epoch', .int .i64 group', .int .i64 page', .int .i64 kind', .int .i64 slot', .slice B0 m0 d0, .slice B1 m1 d1, .bool last'] 34 (0, 0), .cells #[.int .i64 (cmpI lsn lsn'), .int .i64 (cmpI epoch epoch')] 3 (0, 0)], ?_⟩
  rw [← HW.out, alloc_eq_grow, alloc_eq_grow, alloc_eq_grow, grow_grow, grow_grow, drew_grow]
  rfl
end Go.Proofs.YtalidmlomfobdaaDoor
