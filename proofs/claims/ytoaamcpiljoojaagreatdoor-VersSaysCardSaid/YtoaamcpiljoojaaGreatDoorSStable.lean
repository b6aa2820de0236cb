/- The library's insertion sort, at rows of records: its contract off the shelf lies at this program. redo.Sort's comparison: by number, then by epoch. The insertion sort's row is the same records in another order. A row of records of one's own, sorted in place. slices.SortStableFunc of at most twenty records. -/
import Derived.Test.YtoaamcpiljoojaaGreatDoorD
import Derived.Test.YtoaamcpiljoojaaGreatDoorProg
import Derived.KernelRfl
import Derived.Shelf.SlSortCmp.InsertionK
import Derived.Outline
import Derived.Deep.QuietTactic
import Derived.BigQuiet
import Derived.Deep.RegionHeld3
import Derived.Deep.Cut
import Derived.Sort.LotA
namespace Go.Proofs.YtoaamcpiljoojaaGreatDoor
open Go.RowKit Go.Shelf Go.Lib Go.Sort

def sortRen : Ren := ⟨fun k => if k = 20 then 158 else k, fun k => if k = 22 then 27 else if k = 24 then 33 else if k = 25 then 166 else k, fun k => k⟩

theorem sortLays : SlLaysF0.n20 Tryz.prog sortRen where
  mixed := by kernel_rfl
  f20 := ⟨Tryz.f158.name, by kernel_rfl, by kernel_rfl⟩
  t0 := by kernel_rfl
  a0 := fun _ => by kernel_rfl
  z0 := fun _ => by kernel_rfl
  v0 := fun _ => by kernel_rfl
  t3 := by kernel_rfl
  a3 := fun _ => by kernel_rfl
  z3 := fun _ => by kernel_rfl
  v3 := fun _ => by kernel_rfl
  t4 := by kernel_rfl
  a4 := fun _ => by kernel_rfl
  z4 := fun _ => by kernel_rfl
  v4 := fun _ => by kernel_rfl
  t22 := by kernel_rfl
  a22 := fun _ => by kernel_rfl
  z22 := fun _ => by kernel_rfl
  v22 := fun _ => by kernel_rfl
  t25 := by kernel_rfl
  a25 := fun _ => by kernel_rfl
  z25 := fun _ => by kernel_rfl
  v25 := fun _ => by kernel_rfl
end Go.Proofs.YtoaamcpiljoojaaGreatDoor
namespace Go.Proofs.YtoaamcpiljoojaaGreatDoor
open Go.RowKit Go.Sort

def cmpI (a b : Int) : Int := if a < b then -1 else if b < a then 1 else 0

theorem nan64 (n : Int) (w : World) : Calls Tryz.prog 149 #[.int .i64 n] w fun e w' => e = .returned (.bool false) ∧ w' = w := by
  go_enter Tryz.func149, Tryz.ntmps149
  go_wp2_with fail
  go_ret
  exact ⟨ret_bool (by simp), rfl⟩
theorem nanint (n : Int) (w : World) : Calls Tryz.prog 151 #[.int .i64 n] w fun e w' => e = .returned (.bool false) ∧ w' = w := by
  go_enter Tryz.func151, Tryz.ntmps151
  go_wp2_with fail
  go_ret
  exact ⟨ret_bool (by simp), rfl⟩
theorem compare64 (a b : Int) (w : World) : Calls Tryz.prog 129 #[.int .i64 a, .int .i64 b] w fun e w' => e = .returned (.int .i64 (cmpI a b)) ∧ w' = w := by
  unfold cmpI
  by_cases h1 : a < b
  · have hd : decide (a < b) = true := decide_eq_true h1
    rw [if_pos h1]
    clear h1
    go_enter Tryz.func129, Tryz.ntmps129
    go_wp2_with (first | (go_at_call 149; refine (nan64 _ _).mono ?_; rintro e _ ⟨rfl, rfl⟩) | (go_at_call 151; refine (nanint _ _).mono ?_; rintro e _ ⟨rfl, rfl⟩))
    go_ret
    exact ⟨rfl, rfl⟩
  · have hd : decide (a < b) = false := decide_eq_false h1
    rw [if_neg h1]
    clear h1
    by_cases h2 : b < a
    · have hd2 : decide (a > b) = true := decide_eq_true h2
      rw [if_pos h2]
      clear h2
      go_enter Tryz.func129, Tryz.ntmps129
      go_wp2_with (first | (go_at_call 149; refine (nan64 _ _).mono ?_; rintro e _ ⟨rfl, rfl⟩) | (go_at_call 151; refine (nanint _ _).mono ?_; rintro e _ ⟨rfl, rfl⟩))
      go_ret
      exact ⟨rfl, rfl⟩
    · have hd2 : decide (a > b) = false := decide_eq_false h2
      rw [if_neg h2]
      clear h2
      go_enter Tryz.func129, Tryz.ntmps129
      go_wp2_with (first | (go_at_call 149; refine (nan64 _ _).mono ?_; rintro e _ ⟨rfl, rfl⟩) | (go_at_call 151; refine (nanint _ _).mono ?_; rintro e _ ⟨rfl, rfl⟩))
      go_ret
      exact ⟨rfl, rfl⟩
theorem compareint (a b : Int) (w : World) : Calls Tryz.prog 130 #[.int .i64 a, .int .i64 b] w fun e w' => e = .returned (.int .i64 (cmpI a b)) ∧ w' = w := by
  unfold cmpI
  by_cases h1 : a < b
  · have hd : decide (a < b) = true := decide_eq_true h1
    rw [if_pos h1]
    clear h1
    go_enter Tryz.func130, Tryz.ntmps130
    go_wp2_with (first | (go_at_call 149; refine (nan64 _ _).mono ?_; rintro e _ ⟨rfl, rfl⟩) | (go_at_call 151; refine (nanint _ _).mono ?_; rintro e _ ⟨rfl, rfl⟩))
    go_ret
    exact ⟨rfl, rfl⟩
  · have hd : decide (a < b) = false := decide_eq_false h1
    rw [if_neg h1]
    clear h1
    by_cases h2 : b < a
    · have hd2 : decide (a > b) = true := decide_eq_true h2
      rw [if_pos h2]
      clear h2
      go_enter Tryz.func130, Tryz.ntmps130
      go_wp2_with (first | (go_at_call 149; refine (nan64 _ _).mono ?_; rintro e _ ⟨rfl, rfl⟩) | (go_at_call 151; refine (nanint _ _).mono ?_; rintro e _ ⟨rfl, rfl⟩))
      go_ret
      exact ⟨rfl, rfl⟩
    · have hd2 : decide (a > b) = false := decide_eq_false h2
      rw [if_neg h2]
      clear h2
      go_enter Tryz.func130, Tryz.ntmps130
      go_wp2_with (first | (go_at_call 149; refine (nan64 _ _).mono ?_; rintro e _ ⟨rfl, rfl⟩) | (go_at_call 151; refine (nanint _ _).mono ?_; rintro e _ ⟨rfl, rfl⟩))
      go_ret
      exact ⟨rfl, rfl⟩

def orI (a b : Int) : Int := if a = 0 then b else a

set_option maxHeartbeats 1000000 in
theorem or_call {b : Nat} {x y : Int} {w : World} (hx : w.cell? ⟨b, 0, none⟩ = some (.int .i64 x)) (hy : w.cell? ⟨b, 1, none⟩ = some (.int .i64 y)) :
    Calls Tryz.prog 128 #[.slice (some ⟨b, 0, none⟩) 2 2] w fun e w' => e = .returned (.int .i64 (orI x y)) ∧ w' = w := by
  have hor : x ≠ 0 → orI x y = x := fun h => if_neg h
  have hor0 : orI 0 y = y := if_pos rfl
  have Ho := Lib.hid hor
  have Ho0 := Lib.hid hor0
  clear hor hor0
  go_enter Tryz.func128, Tryz.ntmps128
  go_wp2_with fail
  go_loopw [8] (fun i wr => ∃ k : Nat, k ≤ 2 ∧ i = .int .i64 k ∧ wr = w ∧ Hid (0 < k → x = 0) ∧ Hid (1 < k → y = 0)) (fun i _ => 2 - (intOf i).toNat)
  case atStart => exact ⟨0, by decide, rfl, rfl, (fun h => absurd h (by decide) : 0 < 0 → x = 0), (fun h => absurd h (by decide) : 1 < 0 → y = 0)⟩
  case round =>
    obtain ⟨k, hk, rfl, rfl, h1, h2⟩ := hrel
    match k, hk with
    | 0, _ =>
      by_cases hx0 : x = 0
      · subst hx0
        go_wp2_with fail
        go_roundw
        case rel => exact ⟨1, by decide, by go_num, trivial, (fun _ => trivial : 0 < 1 → True), (fun h => absurd h (by decide) : 1 < 1 → y = 0)⟩
        case measure => simp [intOf]
      · have hb : (x != 0) = true := by rw [bne_iff_ne]; exact hx0
        have Hx := Lib.hid (Ho.out hx0)
        clear hx0
        go_wp2_with fail
        go_ret
        exact ⟨by rw [Hx.out]; rfl, rfl⟩
    | 1, _ =>
      have hx0 := h1.out (by decide)
      subst hx0
      by_cases hy0 : y = 0
      · subst hy0
        go_wp2_with fail
        go_roundw
        case rel => exact ⟨2, by decide, by go_num, trivial, (fun _ => trivial : 0 < 2 → True), (fun _ => trivial : 1 < 2 → True)⟩
        case measure => simp [intOf]
      · have hb : (y != 0) = true := by rw [bne_iff_ne]; exact hy0
        clear hy0
        go_wp2_with fail
        go_ret
        exact ⟨by rw [Ho0.out]; rfl, rfl⟩
    | 2, _ =>
      have hx0 := h1.out (by decide)
      have hy0 := h2.out (by decide)
      subst hx0
      subst hy0
      go_wp2_with fail
      go_ret
      exact ⟨by rw [Ho0.out]; rfl, rfl⟩

theorem or_call' (x y : Int) (W : World) (T : TypeId) : Calls Tryz.prog 128 #[.slice (some ⟨W.heap.size, 0, none⟩) 2 2] (W.alloc (.cells #[.int .i64 x, .int .i64 y] T)).drew fun e w' => e = .returned (.int .i64 (orI x y)) ∧ w' = (W.alloc (.cells #[.int .i64 x, .int .i64 y] T)).drew :=
  or_call (w := (W.alloc (.cells #[.int .i64 x, .int .i64 y] T)).drew) (b := W.heap.size) (blk2 (heap_alloc_new W (.cells #[.int .i64 x, .int .i64 y] T))).1 (blk2 (heap_alloc_new W (.cells #[.int .i64 x, .int .i64 y] T))).2.1

/-- The order of records. -/
def redoCmp (a b : Redo) : Int := orI (cmpI a.lsn b.lsn) (cmpI a.epoch b.epoch)

/-- A record's ten cells. -/
structure RC where
  lsn : Int
  back : Int
  epoch : Int
  group : Int
  page : Int
  kind : Int
  slot : Int
  k : Option Addr × Nat × Nat
  v : Option Addr × Nat × Nat
  last : Bool
instance : Inhabited RC := ⟨⟨0, 0, 0, 0, 0, 0, 0, (none, 0, 0), (none, 0, 0), false⟩⟩
def RC.enc (r : RC) : List Value := [.int .i64 r.lsn, .int .i64 r.back, .int .i64 r.epoch, .int .i64 r.group, .int .i64 r.page, .int .i64 r.kind, .int .i64 r.slot, .slice r.k.1 r.k.2.1 r.k.2.2, .slice r.v.1 r.v.2.1 r.v.2.2, .bool r.last]
def rcCmp (a b : RC) : Int := orI (cmpI a.lsn b.lsn) (cmpI a.epoch b.epoch)

set_option maxRecDepth 100000 in
set_option maxHeartbeats 1000000 in
theorem sort_cmp (x y : RC) (w : World) : Calls Tryz.prog 127 #[.agg x.enc.toArray, .agg y.enc.toArray] w fun e w' => e = .returned (.int .i64 (rcCmp x y)) ∧ ∃ q os, w' = grow (w.drewN q) os := by
  obtain ⟨lsn, back, epoch, group, page, kind, slot, ⟨A0, n0, c0⟩, ⟨A1, n1, c1⟩, last⟩ := x
  obtain ⟨lsn', back', epoch', group', page', kind', slot', ⟨B0, m0, d0⟩, ⟨B1, m1, d1⟩, last'⟩ := y
  unfold RC.enc rcCmp
  dsimp only
  obtain ⟨p0, p1, p2, p3, p4, p5, p6, p7, p8, p9, pz⟩ := blk10 (heap_alloc2_old w (.cells #[.int .i64 lsn, .int .i64 back, .int .i64 epoch, .int .i64 group, .int .i64 page, .int .i64 kind, .int .i64 slot, .slice A0 n0 c0, .slice A1 n1 c1, .bool last] 33) (.cells #[.int .i64 lsn', .int .i64 back', .int .i64 epoch', .int .i64 group', .int .i64 page', .int .i64 kind', .int .i64 slot', .slice B0 m0 d0, .slice B1 m1 d1, .bool last'] 33))
  obtain ⟨q0, q1, q2, q3, q4, q5, q6, q7, q8, q9, qz⟩ := blk10 (heap_alloc2_new w (.cells #[.int .i64 lsn, .int .i64 back, .int .i64 epoch, .int .i64 group, .int .i64 page, .int .i64 kind, .int .i64 slot, .slice A0 n0 c0, .slice A1 n1 c1, .bool last] 33) (.cells #[.int .i64 lsn', .int .i64 back', .int .i64 epoch', .int .i64 group', .int .i64 page', .int .i64 kind', .int .i64 slot', .slice B0 m0 d0, .slice B1 m1 d1, .bool last'] 33))
  obtain ⟨W, hW⟩ : ∃ W, (w.alloc (.cells #[.int .i64 lsn, .int .i64 back, .int .i64 epoch, .int .i64 group, .int .i64 page, .int .i64 kind, .int .i64 slot, .slice A0 n0 c0, .slice A1 n1 c1, .bool last] 33)).alloc (.cells #[.int .i64 lsn', .int .i64 back', .int .i64 epoch', .int .i64 group', .int .i64 page', .int .i64 kind', .int .i64 slot', .slice B0 m0 d0, .slice B1 m1 d1, .bool last'] 33) = W := ⟨_, rfl⟩
  rw [hW] at p0 p1 p2 p3 p4 p5 p6 p7 p8 p9 pz q0 q1 q2 q3 q4 q5 q6 q7 q8 q9 qz
  have HW := Lib.hid hW
  clear p1 p3 p4 p5 p6 p7 p8 p9 pz q1 q3 q4 q5 q6 q7 q8 q9 qz
  go_enter Tryz.func127, Tryz.ntmps127
  go_upto_region 1 with (fail)
  clear hW
  go_region_held3 (fun w' => w'.cell? ⟨w.heap.size, 0, none⟩ = some (.int .i64 lsn) ∧ w'.cell? ⟨w.heap.size, 2, none⟩ = some (.int .i64 epoch) ∧ w'.cell? ⟨w.heap.size + 1, 0, none⟩ = some (.int .i64 lsn') ∧ w'.cell? ⟨w.heap.size + 1, 2, none⟩ = some (.int .i64 epoch'))
    (first | go_keep | (go_split_ands; refine ⟨?_, ?_, ?_, ?_⟩ <;> exact Fr.cell (by assumption) trivial (by assumption)) | (go_split_ands; refine ⟨?_, ?_, ?_, ?_⟩ <;> exact ((Fr.refl All _).alloc _).cell trivial (by assumption)))
    (first
      | (go_at_call 129; refine (compare64 _ _ _).mono ?_; rintro e _ ⟨rfl, rfl⟩)
      | (go_at_call 130; refine (compareint _ _ _).mono ?_; rintro e _ ⟨rfl, rfl⟩)
      | (go_at_call 128; refine (or_call' _ _ _ _).mono ?_; rintro e _ ⟨rfl, rfl⟩))
  go_wp2_with fail
  go_ret
  refine ⟨rfl, 1, #[.cells #[.int .i64 lsn, .int .i64 back, .int .i64 epoch, .int .i64 group, .int .i64 page, .int .i64 kind, .int .i64 slot, .slice A0 n0 c0, .slice A1 n1 c1, .bool last] 33 (0, 0), .cells #[.int .i64 lsn', .int .i64 back', .int .i64 epoch', .int .i64 group', .int .i64 page', .int .i64 kind', .int .i64 slot', .slice B0 m0 d0, .slice B1 m1 d1, .bool last'] 33 (0, 0), .cells #[.int .i64 (cmpI lsn lsn'), .int .i64 (cmpI epoch epoch')] 3 (0, 0)], ?_⟩
  rw [← HW.out, alloc_eq_grow, alloc_eq_grow, alloc_eq_grow, grow_grow, grow_grow, drew_grow]
  rfl
end Go.Proofs.YtoaamcpiljoojaaGreatDoor
namespace Go.Proofs.YtoaamcpiljoojaaGreatDoor
open Go.RowKit Go.Sort

section
variable {α : Type} [Inhabited α]
theorem swp_perm (d : Array α) (i j : Nat) (hi : i < d.size) (hj : j < d.size) : (swp d i j).toList.Perm d.toList := by
  have h : swp d i j = d.swap i j := by
    unfold swp
    rw [getElem!_pos d j hj, getElem!_pos d i hi]
    apply Array.ext_getElem?
    intro k
    simp only [Array.getElem?_setIfInBounds, Array.getElem?_swap, Array.size_setIfInBounds]
    repeat' split
    all_goals first | rfl | omega | simp_all
  rw [h]
  exact (Array.swap_perm hi hj).toList
theorem insInner_perm (lt : α → α → Bool) (a : Nat) : ∀ (j : Nat) (d : Array α), j < d.size → (insInner lt a j d).toList.Perm d.toList ∧ (insInner lt a j d).size = d.size
  | 0, d, _ => by
    unfold insInner
    exact ⟨List.Perm.refl _, rfl⟩
  | j + 1, d, hj => by
    unfold insInner
    split
    · have hs : (swp d (j + 1) j).size = d.size := by simp [swp]
      obtain ⟨h1, h2⟩ := insInner_perm lt a j (swp d (j + 1) j) (by omega)
      exact ⟨h1.trans (swp_perm d _ _ hj (by omega)), by rw [h2, hs]⟩
    · exact ⟨List.Perm.refl _, rfl⟩
theorem insOuter_perm (lt : α → α → Bool) (a b : Nat) : ∀ (n i : Nat) (d : Array α), b - i = n → b ≤ d.size → (insOuter lt a b i d).toList.Perm d.toList ∧ (insOuter lt a b i d).size = d.size
  | 0, i, d, hn, hb => by
    unfold insOuter
    rw [if_neg (by omega)]
    exact ⟨List.Perm.refl _, rfl⟩
  | n + 1, i, d, hn, hb => by
    unfold insOuter
    split
    · obtain ⟨h1, h2⟩ := insInner_perm lt a i d (by omega)
      obtain ⟨h3, h4⟩ := insOuter_perm lt a b n (i + 1) (insInner lt a i d) (by omega) (by omega)
      exact ⟨h3.trans h1, by rw [h4, h2]⟩
    · exact ⟨List.Perm.refl _, rfl⟩
theorem insertionSort_perm' (lt : α → α → Bool) (d : Array α) (a b : Nat) (hb : b ≤ d.size) : (insertionSort lt d a b).toList.Perm d.toList ∧ (insertionSort lt d a b).size = d.size :=
  insOuter_perm lt a b _ (a + 1) d rfl hb
end

theorem perm_lift {α β : Type} {f : α → β} {l1 l2 : List β} (h : l1.Perm l2) : ∀ ps : List α, ps.map f = l2 → ∃ ps' : List α, ps'.Perm ps ∧ ps'.map f = l1 := by
  induction h with
  | nil =>
    intro ps hp
    exact ⟨[], by rw [List.map_eq_nil_iff.1 hp], rfl⟩
  | cons x _ ih =>
    intro ps hp
    cases ps with
    | nil => simp at hp
    | cons p ps =>
      simp only [List.map_cons, List.cons.injEq] at hp
      obtain ⟨ps', h1, h2⟩ := ih ps hp.2
      exact ⟨p :: ps', h1.cons p, by rw [List.map_cons, h2, hp.1]⟩
  | swap x y l =>
    intro ps hp
    match ps with
    | [] => simp at hp
    | [p] => simp at hp
    | p :: q :: ps =>
      simp only [List.map_cons, List.cons.injEq] at hp
      exact ⟨q :: p :: ps, List.Perm.swap p q ps, by simp [hp.1, hp.2.1, hp.2.2]⟩
  | trans _ _ ih1 ih2 =>
    intro ps hp
    obtain ⟨ps2, h1, h2⟩ := ih2 ps hp
    obtain ⟨ps3, h3, h4⟩ := ih1 ps2 h2
    exact ⟨ps3, h3.trans h1, h4⟩
/-- Another order of the same records; rising ones stay as they are. -/
structure PermR (l' l : List Redo) : Prop where
  perm : l'.Perm l
  same : l.Pairwise (fun a b => a.lsn < b.lsn) → l' = l
theorem PermR.refl (l : List Redo) : PermR l l := ⟨List.Perm.refl l, fun _ => rfl⟩
theorem PermR.trans {a b c : List Redo} (h : PermR a b) (k : PermR b c) : PermR a c := ⟨h.perm.trans k.perm, fun hr => (h.same (by rw [k.same hr]; exact hr)).trans (k.same hr)⟩
theorem PermR.length_eq {a b : List Redo} (h : PermR a b) : a.length = b.length := h.perm.length_eq
theorem PermR.mem_iff {a b : List Redo} (h : PermR a b) {x : Redo} : x ∈ a ↔ x ∈ b := h.perm.mem_iff
theorem insInner_id {α : Type} [Inhabited α] (lt : α → α → Bool) (a : Nat) (d : Array α) : ∀ j, (0 < j → a < j → lt d[j]! d[j - 1]! = false) → insInner lt a j d = d
  | 0, _ => rfl
  | j + 1, h => by
    unfold insInner
    by_cases ha : a < j + 1
    · rw [show lt d[j + 1]! d[j]! = false from h (by omega) ha, Bool.and_false]
      rfl
    · rw [decide_eq_false (by omega : ¬ j + 1 > a), Bool.false_and]
      rfl
theorem insOuter_id {α : Type} [Inhabited α] (lt : α → α → Bool) (a b : Nat) (d : Array α) (h : ∀ j, a < j → j < b → lt d[j]! d[j - 1]! = false) : ∀ n i, b - i = n → insOuter lt a b i d = d
  | 0, i, hn => by
    unfold insOuter
    rw [if_neg (by omega)]
  | n + 1, i, hn => by
    unfold insOuter
    rw [if_pos (by omega), insInner_id lt a d i (fun _ hi => h i hi (by omega))]
    exact insOuter_id lt a b d h n (i + 1) (by omega)
theorem insertionSort_id {α : Type} [Inhabited α] (lt : α → α → Bool) (d : Array α) (a b : Nat) (h : ∀ j, a < j → j < b → lt d[j]! d[j - 1]! = false) : insertionSort lt d a b = d := insOuter_id lt a b d h _ _ rfl
end Go.Proofs.YtoaamcpiljoojaaGreatDoor
namespace Go.Proofs.YtoaamcpiljoojaaGreatDoor
open Go.RowKit Go.Sort Go.Shelf

theorem rcs_of {S : Nat → Prop} {w : World} : ∀ {l : List Redo} {cs : List Value}, Reps kRedo S w l cs → ∃ ps : List (Redo × RC), ps.map (·.1) = l ∧ cs = (ps.map (·.2)).flatMap RC.enc ∧ ∀ p ∈ ps, kRedo.K S w p.1 p.2.enc
  | [], cs, h => ⟨[], rfl, by rw [h]; rfl, fun p hp => by simp at hp⟩
  | x :: l, cs, h => by
    obtain ⟨c1, c2, rfl, h1, h2⟩ := h
    obtain ⟨ps, e1, e2, e3⟩ := rcs_of h2
    have h1' := h1
    obtain ⟨v0, v1, rfl, k0, k1⟩ := kRedo_open h1
    obtain ⟨A0, n0, c0, rfl, _⟩ := k0.open_
    obtain ⟨A1, n1, c1, rfl, _⟩ := k1.open_
    refine ⟨(x, ⟨x.lsn, x.back, x.epoch, x.group, x.page, x.kind, x.slot, (A0, n0, c0), (A1, n1, c1), x.last⟩) :: ps, by rw [List.map_cons, e1], by rw [List.map_cons, List.flatMap_cons, e2]; rfl, fun p hp => ?_⟩
    rcases List.mem_cons.1 hp with rfl | hp
    · exact h1'
    · exact e3 p hp
theorem reps_rcs {S : Nat → Prop} {w : World} : ∀ (ps : List (Redo × RC)), (∀ p ∈ ps, kRedo.K S w p.1 p.2.enc) → Reps kRedo S w (ps.map (·.1)) ((ps.map (·.2)).flatMap RC.enc)
  | [], _ => rfl
  | p :: ps, h => ⟨p.2.enc, (ps.map (·.2)).flatMap RC.enc, rfl, h p List.mem_cons_self, reps_rcs ps fun q hq => h q (List.mem_cons_of_mem _ hq)⟩

theorem flat_get : ∀ (l : List RC) (t : Nat), t < l.length * 10 → (l.flatMap RC.enc)[t]? = some (((l.getD (t / 10) default).enc)[t % 10]!)
  | [], t, h => by simp at h
  | x :: l, t, h => by
    have hx : x.enc.length = 10 := rfl
    rw [List.flatMap_cons]
    by_cases ht : t < 10
    · rw [List.getElem?_append_left (by omega), show t / 10 = 0 by omega, show t % 10 = t by omega, List.getElem?_eq_getElem (by omega)]
      simp only [List.getD_cons_zero]
      rw [getElem!_pos x.enc t (by omega)]
    · rw [List.getElem?_append_right (by omega), hx, flat_get l (t - 10) (by simp only [List.length_cons] at h; omega), show t / 10 = (t - 10) / 10 + 1 by omega, List.getD_cons_succ, show (t - 10) % 10 = t % 10 by omega]

theorem flat_len : ∀ l : List RC, (l.flatMap RC.enc).length = l.length * 10
  | [] => rfl
  | x :: l => by
    rw [List.flatMap_cons, List.length_append, flat_len l, List.length_cons]
    show 10 + l.length * 10 = (l.length + 1) * 10
    omega
theorem flatK_toList (d : Array RC) : (flatK RC.enc 10 d).toList = d.toList.flatMap RC.enc := by
  apply List.ext_getElem?
  intro t
  by_cases ht : t < d.size * 10
  · rw [flat_get d.toList t (by simpa using ht)]
    have h1 := get_flatK RC.enc 10 d t ht
    have hs : t < (flatK RC.enc 10 d).size := by simpa using ht
    rw [getElem!_pos _ t hs] at h1
    rw [Array.getElem?_toList, Array.getElem?_eq_getElem hs, h1]
    have hd : t / 10 < d.size := by omega
    rw [getElem!_pos d _ hd, List.getD_eq_getElem?_getD, Array.getElem?_toList, Array.getElem?_eq_getElem hd]
    rfl
  · rw [List.getElem?_eq_none (by simpa using ht), List.getElem?_eq_none]
    rw [flat_len]
    simpa using ht

theorem rc_lsn {S : Nat → Prop} {w : World} {x : Redo} {y : RC} (h : kRedo.K S w x y.enc) : y.lsn = x.lsn := by
  obtain ⟨v0, v1, he, _⟩ := kRedo_open h
  have h1 : Value.int .i64 y.lsn = Value.int .i64 x.lsn := (List.cons.inj he).1
  injection h1
/-- The insertion sort of a row of one's own. -/
theorem insertion_own {base : Nat} {S : Nat → Prop} {w : World} {g n c a b : Nat} {l : List Redo} (h : Own kRedo 33 base S w (.slice (some ⟨g, 0, none⟩) n c) l) (hab : a ≤ b) (hb : b ≤ n) (hn : n ≤ 1000000) :
    Calls Tryz.prog 158 #[.slice (some ⟨g, 0, none⟩) n c, .int .i64 a, .int .i64 b, .func (.func 127) #[] #[]] w fun e w' =>
      e = .returned (.tuple #[]) ∧ ∃ l', PermR l' l ∧ Own kRedo 33 base S w' (.slice (some ⟨g, 0, none⟩) n c) l' ∧ Fr (But (some g)) w w' := by
  obtain ⟨cs, ho, hr⟩ := h
  obtain ⟨ps, rfl, rfl, hK⟩ := rcs_of hr
  obtain ⟨hlen, ho⟩ := ho
  rcases ho with ⟨hv, _⟩ | ⟨g', cap, cur, hv, hbg, hg, hnc, hcm, hcs, ht⟩
  · cases hv
  obtain ⟨e1, e2, e3⟩ := Value.slice.inj hv
  obtain rfl : g = g' := by
    injection e1 with e1
    injection e1
  subst e3
  have hglt := (Array.getElem?_eq_some_iff.1 hg).1
  have hpl : ps.length = n := by rw [e2, List.length_map]
  rw [← e2] at hnc ht hlen
  rw [show kRedo.sz = 10 from rfl] at hlen ht hcs
  -- the row
  have hd : ((ps.map (·.2)).toArray : Array RC).size = n := by simp [hpl]
  have hH : HoldsK RC.enc 10 w g 0 (ps.map (·.2)).toArray := by
    intro j hj
    rw [size_flatK, hd] at hj
    refine ⟨?_, frozen_of_row w g _ cur _ hg⟩
    rw [Nat.zero_add, cell_of_row w g j cur _ (0, 0) hg]
    have h1 : cur.toList[j]? = ((ps.map (·.2)).flatMap RC.enc)[j]? := by
      rw [← ht, List.getElem?_take, if_pos hj]
    have h2 := flat_get (ps.map (·.2)) j (by rw [List.length_map, hpl]; exact hj)
    rw [h2] at h1
    rw [Array.getElem?_toList] at h1
    rw [h1, get_flatK RC.enc 10 _ j (by rw [hd]; exact hj), getElem!_pos _ (j / 10) (by rw [hd]; omega), List.getD_eq_getElem?_getD]
    simp only [List.getElem_toArray, id_eq]
    rw [List.getElem?_eq_getElem (by rw [List.length_map]; omega)]
    rfl
  have hC := AnyQ.insertionSortCmpFunc (P := Tryz.prog) (ρ := sortRen) sortLays 10 (fun _ => by kernel_rfl) (fun _ => by kernel_rfl) RC.enc (fun _ => rfl) (fun x v hv => by
      simp only [RC.enc, List.mem_cons, List.not_mem_nil, or_false] at hv
      rcases hv with rfl | rfl | rfl | rfl | rfl | rfl | rfl | rfl | rfl | rfl <;> rfl) rcCmp 127 #[] g 0 c a b (ps.map (·.2)).toArray w (fun args w => by kernel_rfl) (fun m os dk _ x y => by
      refine (sort_cmp x y _).mono fun e w' ⟨h1, q, os', h2⟩ => ⟨h1, q, os', h2⟩) hH hglt hab (by rw [hd]; exact hb) (by rw [hd]; omega)
  rw [hd] at hC
  refine (show Calls Tryz.prog 158 #[.slice (some ⟨g, 0, none⟩) n c, .int .i64 a, .int .i64 b, .func (.func 127) #[] #[]] w _ from hC).mono ?_
  rintro e w' ⟨rfl, m, os, rfl⟩
  obtain ⟨hp, hsz⟩ := insertionSort_perm' (ltOf rcCmp) (ps.map (·.2)).toArray a b (by rw [hd]; exact hb)
  obtain ⟨d', hd'⟩ : ∃ d', insertionSort (ltOf rcCmp) (ps.map (·.2)).toArray a b = d' := ⟨_, rfl⟩
  rw [hd'] at hp hsz ⊢
  rw [hd] at hsz
  obtain ⟨ps', hp1, hp2, hp3⟩ : ∃ ps' : List (Redo × RC), ps'.Perm ps ∧ ps'.map (·.2) = d'.toList ∧ ((ps.map (·.1)).Pairwise (fun a b => a.lsn < b.lsn) → ps' = ps) := by
    by_cases hr0 : (ps.map (·.1)).Pairwise (fun a b => a.lsn < b.lsn)
    · refine ⟨ps, List.Perm.refl _, ?_, fun _ => rfl⟩
      rw [← hd', insertionSort_id]
      intro j hj1 hj2
      have hjn : j < ps.length := by omega
      have e1 : (ps.map (·.2)).toArray[j]! = (ps[j]'hjn).2 := by rw [getElem!_pos _ j (by simpa using hjn)]; simp
      have e2 : (ps.map (·.2)).toArray[j - 1]! = (ps[j - 1]'(by omega)).2 := by rw [getElem!_pos _ (j - 1) (by simp; omega)]; simp
      have h5 := (List.pairwise_iff_getElem.1 hr0) (j - 1) j (by simp; omega) (by simpa using hjn) (by omega)
      simp only [List.getElem_map] at h5
      have k1 := hK _ (List.getElem_mem hjn)
      have k2 := hK _ (List.getElem_mem (show j - 1 < ps.length by omega))
      have l1 : (ps[j]'hjn).2.lsn = (ps[j]'hjn).1.lsn := rc_lsn k1
      have l2 : (ps[j - 1]'(by omega)).2.lsn = (ps[j - 1]'(by omega)).1.lsn := rc_lsn k2
      rw [e1, e2]
      have hc : cmpI (ps[j]'hjn).2.lsn (ps[j - 1]'(by omega)).2.lsn = 1 := by
        unfold cmpI
        rw [if_neg (by omega), if_pos (by omega)]
      unfold ltOf rcCmp
      rw [hc]
      rfl
    · obtain ⟨ps', h1, h2⟩ := perm_lift (f := fun x : Redo × RC => x.2) hp ps (by simp)
      exact ⟨ps', h1, h2, fun h => absurd h hr0⟩
  have hblocks : ∀ k, k < w.heap.size → k ≠ g → (sortWorldK RC.enc 10 w g 0 m d' os).heap[k]? = w.heap[k]? := by
    intro k hk hkg
    unfold sortWorldK grow putRowK putRow mapBlock
    simp only
    rw [Array.getElem?_append_left (by simp [Sort.ahead]; omega), Array.getElem?_modify, if_neg (Ne.symm hkg)]
    rfl
  have hF : Fr (But (some g)) w (sortWorldK RC.enc 10 w g 0 m d' os) := ⟨rfl, rfl, rfl, by unfold sortWorldK grow putRowK putRow mapBlock; simp [Sort.ahead], fun k hk hb => hblocks k hk fun e => hb (by rw [e])⟩
  have hgs : (sortWorldK RC.enc 10 w g 0 m d' os).heap[g]? = some (.cells (putCells id 0 (flatK RC.enc 10 d') cur) 33 (0, 0)) := by
    unfold sortWorldK grow putRowK putRow mapBlock
    simp only
    rw [Array.getElem?_append_left (by simp [Sort.ahead]; omega), Array.getElem?_modify, if_pos rfl]
    show (w.heap[g]?).map _ = _
    rw [hg]
    rfl
  refine ⟨rfl, ps'.map (·.1), ⟨hp1.map _, fun h => by rw [hp3 h]⟩, ⟨(ps'.map (·.2)).flatMap RC.enc, ⟨?_, .inr ⟨g, c, putCells id 0 (flatK RC.enc 10 d') cur, ?_, hbg, hgs, ?_, hcm, ?_, ?_⟩⟩, ?_⟩, hF⟩
  · rw [flat_len, List.length_map, hp1.length_eq, List.length_map, hp1.length_eq]
    rfl
  · rw [List.length_map, hp1.length_eq, hpl]
  · rw [List.length_map, hp1.length_eq, hpl]
    exact hnc
  · simp [putCells, hcs]
    rfl
  · have hlf : (flatK RC.enc 10 d').size = n * 10 := by rw [size_flatK, hsz]
    rw [List.length_map, hp1.length_eq, hpl, show kRedo.sz = 10 from rfl, hp2, ← flatK_toList]
    apply List.ext_getElem?
    intro k
    rw [List.getElem?_take, Array.getElem?_toList, Array.getElem?_toList]
    by_cases hk : k < n * 10
    · have hkc : k < cur.size := by rw [hcs]; have := Nat.mul_le_mul_right 10 hnc; omega
      rw [if_pos hk]
      unfold putCells
      rw [Array.getElem?_mapIdx, Array.getElem?_eq_getElem hkc, Option.map_some, if_pos ⟨Nat.zero_le _, by rw [hlf]; omega⟩, Nat.sub_zero, getElem!_pos _ k (by rw [hlf]; exact hk), Array.getElem?_eq_getElem (by rw [hlf]; exact hk)]
      rfl
    · rw [if_neg hk, Array.getElem?_eq_none (by rw [hlf]; omega)]
  · exact reps_rcs ps' fun p hp => kRedo.move' (hK p (hp1.mem_iff.1 hp)) hF fun b hb _ => hb.2
end Go.Proofs.YtoaamcpiljoojaaGreatDoor
namespace Go.Proofs.YtoaamcpiljoojaaGreatDoor
open Go.RowKit

theorem insertion_none (c : Nat) (A : Option Addr) (w : World) : Calls Tryz.prog 158 #[.slice A 0 c, .int .i64 0, .int .i64 0, .func (.func 127) #[] #[]] w fun e w' => e = .returned (.tuple #[]) ∧ w' = w := by
  go_enter Tryz.func158, Tryz.ntmps158
  go_wp2_with fail
  go_loopw [8] (fun i wr => i = .int .i64 1 ∧ wr = w) (fun _ _ => 0)
  case atStart => exact ⟨rfl, rfl⟩
  case round =>
    obtain ⟨rfl, rfl⟩ := hrel
    go_wp2_with fail
    go_end0
    exact ⟨rfl, rfl⟩

set_option maxHeartbeats 1000000 in
theorem stable_call {base : Nat} {S : Nat → Prop} {w : World} {g n c : Nat} {l : List Redo} (h : Own kRedo 33 base S w (.slice (some ⟨g, 0, none⟩) n c) l) (hn : n ≤ 20) :
    Calls Tryz.prog 150 #[.slice (some ⟨g, 0, none⟩) n c, .int .i64 n, .func (.func 127) #[] #[]] w fun e w' =>
      e = .returned (.tuple #[]) ∧ ∃ l', PermR l' l ∧ Own kRedo 33 base S w' (.slice (some ⟨g, 0, none⟩) n c) l' ∧ Fr (But (some g)) w w' := by
  go_enter Tryz.func150, Tryz.ntmps150
  go_wp2_with fail
  go_loopw [7, 8] (fun a b wr => ∃ (k : Nat) (l1 : List Redo), k ≤ 1 ∧ a = .int .i64 (20 * (k : Int)) ∧ b = .int .i64 (20 * (k : Int) + 20) ∧ 20 * k ≤ n ∧ Hid (PermR l1 l) ∧ Own kRedo 33 base S wr (.slice (some ⟨g, 0, none⟩) n c) l1 ∧ Fr (But (some g)) w wr) (fun _ b _ => 40 - (intOf b).toNat)
  case atStart => exact ⟨0, l, by decide, rfl, rfl, by omega, PermR.refl l, h, Fr.refl _ _⟩
  case round =>
    obtain ⟨k, l1, hk, rfl, rfl, hkn, HP, HO, HF⟩ := hrel
    match k, hk with
    | 0, _ =>
      by_cases hlt : 20 ≤ n
      · have hd : decide ((20 : Int) ≤ (n : Int)) = true := decide_eq_true (by omega)
        go_wp2_with fail
        refine (insertion_own (a := 0) (b := 20) HO (by decide) hlt (by omega)).mono ?_
        rintro e w1 ⟨rfl, l2, p2, o2, f2⟩
        go_wp2_with fail
        go_roundw
        case rel => exact ⟨1, l2, by decide, by go_num, by go_num, by omega, (p2.trans HP.out : PermR l2 l), o2, HF.trans f2⟩
        case measure => simp [intOf]
      · have hd : decide ((20 : Int) ≤ (n : Int)) = false := decide_eq_false (by omega)
        have hd2 : decide ((20 : Int) < (n : Int)) = false := decide_eq_false (by omega)
        go_wp2_with fail
        refine (insertion_own (a := 0) (b := n) HO (by omega) (by omega) (by omega)).mono ?_
        rintro e w1 ⟨rfl, l2, p2, o2, f2⟩
        go_wp2_with fail
        go_loopw [6] (fun i wr => i = .int .i64 20 ∧ wr = w1) (fun _ _ => 0)
        case atStart => exact ⟨rfl, rfl⟩
        case round =>
          obtain ⟨rfl, rfl⟩ := hrel
          go_wp2_with fail
          go_end0
          exact ⟨rfl, l2, p2.trans HP.out, o2, HF.trans f2⟩
    | 1, _ =>
      have hd : decide ((40 : Int) ≤ (n : Int)) = false := decide_eq_false (by omega)
      have hd2 : decide ((20 : Int) < (n : Int)) = false := decide_eq_false (by omega)
      go_wp2_with fail
      refine (insertion_own (a := 20) (b := n) HO (by omega) (by omega) (by omega)).mono ?_
      rintro e w1 ⟨rfl, l2, p2, o2, f2⟩
      go_wp2_with fail
      go_loopw [6] (fun i wr => i = .int .i64 20 ∧ wr = w1) (fun _ _ => 0)
      case atStart => exact ⟨rfl, rfl⟩
      case round =>
        obtain ⟨rfl, rfl⟩ := hrel
        go_wp2_with fail
        go_end0
        exact ⟨rfl, l2, p2.trans HP.out, o2, HF.trans f2⟩

set_option maxHeartbeats 1000000 in
theorem stable_none (c : Nat) (A : Option Addr) (w : World) : Calls Tryz.prog 150 #[.slice A 0 c, .int .i64 0, .func (.func 127) #[] #[]] w fun e w' => e = .returned (.tuple #[]) ∧ w' = w := by
  go_enter Tryz.func150, Tryz.ntmps150
  go_wp2_with fail
  go_loopw [7, 8] (fun a b wr => a = .int .i64 0 ∧ b = .int .i64 20 ∧ wr = w) (fun _ _ _ => 0)
  case atStart => exact ⟨rfl, rfl, rfl⟩
  case round =>
    obtain ⟨rfl, rfl, rfl⟩ := hrel
    go_wp2_with fail
    refine (insertion_none _ _ _).mono ?_
    rintro e w1 ⟨rfl, hw1⟩
    have Hw := Lib.hid hw1
    clear hw1
    go_wp2_with fail
    go_loopw [6] (fun i wr => i = .int .i64 20 ∧ wr = w1) (fun _ _ => 0)
    case atStart => exact ⟨rfl, rfl⟩
    case round =>
      obtain ⟨rfl, hw⟩ := hrel
      have Hv := Lib.hid hw
      clear hw
      go_wp2_with fail
      go_end0
      exact ⟨rfl, Hv.out.trans Hw.out⟩

/-- slices.SortStableFunc of at most twenty records, a row of one's own. -/
theorem sort_stable {base : Nat} {S : Nat → Prop} {w : World} {A : Option Addr} {n c : Nat} {l : List Redo} (h : Own kRedo 33 base S w (.slice A n c) l) (hn : n ≤ 20) :
    Calls Tryz.prog 126 #[.slice A n c, .func (.func 127) #[] #[]] w fun e w' =>
      e = .returned (.tuple #[]) ∧ ∃ l', PermR l' l ∧ Own kRedo 33 base S w' (.slice A n c) l' ∧ Fr (But (Value.slice A n c).ownBlock) w w' := by
  obtain ⟨cs, ho, hr⟩ := id h
  rcases ho.2 with ⟨hv, h0⟩ | ⟨g, cap, cur, hv, _⟩
  · cases hv
    go_enter Tryz.func126, Tryz.ntmps126
    go_wp2_with fail
    refine (stable_none _ _ _).mono ?_
    rintro e _ ⟨rfl, rfl⟩
    go_wp2_with fail
    go_end0
    exact ⟨rfl, l, PermR.refl _, h, Fr.refl _ _⟩
  · cases hv
    have en := h.sl.len
    have H := Lib.hid h
    clear ho hr
    go_enter Tryz.func126, Tryz.ntmps126
    go_wp2_with fail
    refine (stable_call H.out hn).mono ?_
    rintro e w1 ⟨rfl, l2, p2, o2, f2⟩
    go_wp2_with fail
    go_end0
    exact ⟨rfl, l2, p2, o2, f2⟩
end Go.Proofs.YtoaamcpiljoojaaGreatDoor
