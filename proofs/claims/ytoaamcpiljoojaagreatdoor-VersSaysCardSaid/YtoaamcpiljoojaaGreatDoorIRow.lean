/- Rows of numbers of one's own: sorted; neighbours that are alike made one. -/
import Derived.Test.YtoaamcpiljoojaaGreatDoorW
import Derived.Test.YtoaamcpiljoojaaGreatDoorMapLay4
import Derived.Shelf.SortM.Plain
import Derived.Shelf.SortM.SortNone
import Derived.Shelf.SlicesE.Compact
import Derived.Outline
namespace Go.Proofs.YtoaamcpiljoojaaGreatDoor
open Go.RowKit Go.Sort Go.Shelf Go.Lib

/-- Two rising rows with the same numbers are one. -/
theorem asc_ext : ∀ (a b : List Int), a.Pairwise (· < ·) → b.Pairwise (· < ·) → (∀ k, k ∈ a ↔ k ∈ b) → a = b
  | [], [], _, _, _ => rfl
  | [], y :: ys, _, _, h => by
    have := (h y).2 List.mem_cons_self
    cases this
  | x :: xs, [], _, _, h => by
    have := (h x).1 List.mem_cons_self
    cases this
  | x :: xs, y :: ys, ha, hb, h => by
    obtain ⟨a1, a2⟩ := List.pairwise_cons.1 ha
    obtain ⟨b1, b2⟩ := List.pairwise_cons.1 hb
    have e : x = y := by
      rcases List.mem_cons.1 ((h x).1 List.mem_cons_self) with e | e
      · exact e
      · rcases List.mem_cons.1 ((h y).2 List.mem_cons_self) with f | f
        · exact f.symm
        · have := a1 y f
          have := b1 x e
          omega
    subst e
    rw [asc_ext xs ys a2 b2 fun k => ?_]
    constructor
    · intro hk
      rcases List.mem_cons.1 ((h k).1 (List.mem_cons_of_mem _ hk)) with f | f
      · have := a1 k hk
        omega
      · exact f
    · intro hk
      rcases List.mem_cons.1 ((h k).2 (List.mem_cons_of_mem _ hk)) with f | f
      · have := b1 k hk
        omega
      · exact f

theorem irow_get {S : Nat → Prop} {w : World} : ∀ {l : List Int} {cs : List Value}, Reps kInt S w l cs → cs = l.map (Value.int .i64)
  | [], _, h => h
  | x :: l, _, h => by
    obtain ⟨c1, c2, rfl, h1, h2⟩ := h
    have h1 : c1 = [Value.int .i64 x] := h1
    rw [h1, irow_get h2]
    rfl
theorem irow_mk {S : Nat → Prop} {w : World} : ∀ (l : List Int), Reps kInt S w l (l.map (Value.int .i64))
  | [] => rfl
  | x :: l => ⟨[Value.int .i64 x], _, rfl, rfl, irow_mk l⟩

section
variable {e : TypeId} {base g n c : Nat} {S : Nat → Prop} {w : World} {l l' : List Int}
theorem own_holds (h : Own kInt e base S w (.slice (some ⟨g, 0, none⟩) n c) l) : Holds (Value.int .i64) w g 0 l.toArray ∧ g < w.heap.size ∧ l.length = n ∧ n ≤ c ∧ c ≤ maxLen := by
  obtain ⟨cs, ho, hr⟩ := h
  have hcs := irow_get hr
  subst hcs
  rcases ho.2 with ⟨he, _⟩ | ⟨g', cap, cur, he, hb, hg, h1, h2, h3, h4⟩
  · cases he
  · obtain ⟨e1, e2, e3⟩ := Value.slice.inj he
    injection e1 with e1
    injection e1 with e1
    subst e1
    subst e3
    refine ⟨fun j hj => ?_, blk_lt hg, e2.symm, by omega, h2⟩
    have hj : j < l.length := by simpa using hj
    refine ⟨?_, frozen_of_row w g _ cur _ hg⟩
    rw [Nat.zero_add, cell_of_row w g j cur _ (0, 0) hg]
    have h5 : cur.toList[j]? = (l.map (Value.int .i64))[j]? := by
      rw [← h4, List.getElem?_take, if_pos (by show j < l.length * 1; omega)]
    rw [Array.getElem?_toList] at h5
    rw [h5, List.getElem?_map, List.getElem?_eq_getElem hj, getElem!_pos l.toArray j (by simpa using hj)]
    rfl
theorem own_putrow (h : Own kInt e base S w (.slice (some ⟨g, 0, none⟩) n c) l) (hl : l'.length = n) (q : Nat) (os : Array Obj) :
    Own kInt e base S (grow (putRow (Value.int .i64) (Sort.ahead w q) g 0 l'.toArray) os) (.slice (some ⟨g, 0, none⟩) n c) l' ∧ Fr (But (some g)) w (grow (putRow (Value.int .i64) (Sort.ahead w q) g 0 l'.toArray) os) := by
  obtain ⟨cs, ho, hr⟩ := h
  rcases ho.2 with ⟨he, _⟩ | ⟨g', cap, cur, he, hb, hg, h1, h2, h3, h4⟩
  · cases he
  obtain ⟨e1, e2, e3⟩ := Value.slice.inj he
  injection e1 with e1
  injection e1 with e1
  subst e1
  subst e3
  have hglt := blk_lt hg
  have hblocks : ∀ k, k < w.heap.size → k ≠ g → (grow (putRow (Value.int .i64) (Sort.ahead w q) g 0 l'.toArray) os).heap[k]? = w.heap[k]? := by
    intro k hk hkg
    unfold grow putRow mapBlock
    simp only
    rw [Array.getElem?_append_left (by simp [Sort.ahead]; omega), Array.getElem?_modify, if_neg (Ne.symm hkg)]
    rfl
  have hF : Fr (But (some g)) w (grow (putRow (Value.int .i64) (Sort.ahead w q) g 0 l'.toArray) os) := ⟨rfl, rfl, rfl, by unfold grow putRow mapBlock; simp [Sort.ahead], fun k hk hb => hblocks k hk fun e => hb (by rw [e])⟩
  have hgs : (grow (putRow (Value.int .i64) (Sort.ahead w q) g 0 l'.toArray) os).heap[g]? = some (.cells (putCells (Value.int .i64) 0 l'.toArray cur) e (0, 0)) := by
    unfold grow putRow mapBlock
    simp only
    rw [Array.getElem?_append_left (by simp [Sort.ahead]; omega), Array.getElem?_modify, if_pos rfl]
    show (w.heap[g]?).map _ = _
    rw [hg]
    rfl
  have hsz : cur.size = c := by rw [h3]; exact Nat.mul_one c
  refine ⟨⟨l'.map (Value.int .i64), ⟨by rw [List.length_map]; exact (Nat.mul_one _).symm, .inr ⟨g, c, putCells (Value.int .i64) 0 l'.toArray cur, by rw [hl], hb, hgs, by rw [hl]; omega, h2, by simp [putCells, h3], ?_⟩⟩, irow_mk l'⟩, hF⟩
  apply List.ext_getElem?
  intro k
  rw [List.getElem?_take, Array.getElem?_toList, List.getElem?_map]
  by_cases hk : k < n
  · rw [if_pos (by show k < l'.length * 1; omega)]
    unfold putCells
    rw [Array.getElem?_mapIdx, Array.getElem?_eq_getElem (by omega), Option.map_some, if_pos ⟨Nat.zero_le _, by simp; omega⟩, Nat.sub_zero, getElem!_pos l'.toArray k (by simp; omega), List.getElem?_eq_getElem (by omega)]
    rfl
  · rw [if_neg (by show ¬ k < l'.length * 1; omega), List.getElem?_eq_none (by omega)]
    rfl
theorem own_zero {A : Option Addr} (h : Own kInt e base S w (.slice A 0 c) l) : l = [] := List.eq_nil_of_length_eq_zero h.sl.len
end

theorem own_split {e : TypeId} {base n c : Nat} {S : Nat → Prop} {w : World} {A : Option Addr} {l : List Int} (h : Own kInt e base S w (.slice A n c) l) (h0 : 0 < n) : ∃ g, A = some ⟨g, 0, none⟩ := by
  obtain ⟨cs, ho, _⟩ := h
  rcases ho.2 with ⟨he, _⟩ | ⟨g, cap, cur, he, _⟩
  · injection he with _ h1 _; omega
  · injection he with h1 _ _; exact ⟨g, h1⟩

def ascend (l : List Int) : List Int := l.mergeSort fun x y => decide (x ≤ y)
theorem ascend_mem {l : List Int} {x : Int} : x ∈ ascend l ↔ x ∈ l := (List.mergeSort_perm l _).mem_iff
theorem ascend_len (l : List Int) : (ascend l).length = l.length := (List.mergeSort_perm l _).length_eq
theorem ascend_nil : ascend [] = [] := List.eq_nil_of_length_eq_zero (ascend_len [])
theorem ascend_le (l : List Int) : (ascend l).Pairwise (fun a b => a ≤ b) := by
  have := List.pairwise_mergeSort (le := fun x y : Int => decide (x ≤ y)) (fun a b c h1 h2 => by simp only [decide_eq_true_eq] at *; omega) (fun a b => by simp only [Bool.or_eq_true, decide_eq_true_eq]; omega) l
  exact this.imp fun {a b} h => by simpa using h

theorem sort_longs {base n c : Nat} {S : Nat → Prop} {w : World} {A : Option Addr} {l : List Int} (h : Own kInt 2 base S w (.slice A n c) l) (hn : n ≤ 1000000) :
    Calls Tryz.prog 59 #[.slice A n c] w fun e w' => e = .returned (.tuple #[]) ∧ Own kInt 2 base S w' (.slice A n c) (ascend l) ∧ Fr (But (Value.slice A n c).ownBlock) w w' := by
  rcases Nat.eq_zero_or_pos n with rfl | h0
  · refine (AnyM.slices_Sort_int_none sortLLays A c w).mono ?_
    rintro e w' ⟨rfl, rfl⟩
    obtain rfl := own_zero h
    exact ⟨rfl, by rw [ascend_nil]; exact h, Fr.refl _ _⟩
  · obtain ⟨g, rfl⟩ := own_split h h0
    obtain ⟨hH, hg, hl, hnc, hc⟩ := own_holds h
    have hC := AnyM.slices_Sort_int sortLLays g 0 c l w hH hg (by omega)
    rw [hl] at hC
    refine (show Calls Tryz.prog 59 #[.slice (some ⟨g, 0, none⟩) n c] w _ from hC).mono ?_
    rintro e w' ⟨rfl, q, os, rfl⟩
    exact ⟨rfl, own_putrow h ((ascend_len l).trans hl) q os⟩
theorem sort_ints {base n c : Nat} {S : Nat → Prop} {w : World} {A : Option Addr} {l : List Int} (h : Own kInt 3 base S w (.slice A n c) l) (hn : n ≤ 1000000) :
    Calls Tryz.prog 74 #[.slice A n c] w fun e w' => e = .returned (.tuple #[]) ∧ Own kInt 3 base S w' (.slice A n c) (ascend l) ∧ Fr (But (Value.slice A n c).ownBlock) w w' := by
  rcases Nat.eq_zero_or_pos n with rfl | h0
  · refine (AnyM.slices_Sort_int_none sortILays A c w).mono ?_
    rintro e w' ⟨rfl, rfl⟩
    obtain rfl := own_zero h
    exact ⟨rfl, by rw [ascend_nil]; exact h, Fr.refl _ _⟩
  · obtain ⟨g, rfl⟩ := own_split h h0
    obtain ⟨hH, hg, hl, hnc, hc⟩ := own_holds h
    have hC := AnyM.slices_Sort_int sortILays g 0 c l w hH hg (by omega)
    rw [hl] at hC
    refine (show Calls Tryz.prog 74 #[.slice (some ⟨g, 0, none⟩) n c] w _ from hC).mono ?_
    rintro e w' ⟨rfl, q, os, rfl⟩
    exact ⟨rfl, own_putrow h ((ascend_len l).trans hl) q os⟩

/-! ### Neighbours made one -/
theorem getE {l : List Int} {k : Nat} (hk : k < l.length) : l.toArray[k]! = l[k] := by rw [getElem!_pos l.toArray k (by simpa using hk)]; rfl
theorem comp_is {l : List Int} (hs : l.Pairwise (fun a b => a ≤ b)) : ∀ m, m ≤ l.length → (compactUpTo l.toArray m).Pairwise (· < ·) ∧ (∀ x, x ∈ compactUpTo l.toArray m ↔ ∃ j, j < m ∧ l[j]? = some x) ∧ (compactUpTo l.toArray m).length ≤ m
  | 0, _ => ⟨List.Pairwise.nil, fun x => by simp [compactUpTo], Nat.le_refl _⟩
  | m + 1, hm => by
    obtain ⟨h1, h2, h3⟩ := comp_is hs m (by omega)
    have hle : ∀ j (hj : j < m), l[j]'(by omega) ≤ l[m]'(by omega) := fun j hj => (List.pairwise_iff_getElem.1 hs) j m (by omega) (by omega) hj
    rw [compactUpTo_succ]
    by_cases hk : keeps l.toArray m = true
    · rw [if_pos hk, getE (by omega)]
      refine ⟨List.pairwise_append.2 ⟨h1, List.pairwise_singleton _ _, fun x hx y hy => ?_⟩, fun x => ?_, by simp; omega⟩
      · obtain rfl := List.mem_singleton.1 hy
        obtain ⟨j, hj, hjx⟩ := (h2 x).1 hx
        obtain ⟨hjl, rfl⟩ := List.getElem?_eq_some_iff.1 hjx
        have h4 := hle j hj
        rcases Nat.lt_or_eq_of_le (Nat.le_of_lt_succ (show j < m - 1 + 1 by omega)) with h5 | h5
        · have h6 := (List.pairwise_iff_getElem.1 hs) j (m - 1) (by omega) (by omega) h5
          have h7 := hle (m - 1) (by omega)
          have h8 : l[m]'(by omega) ≠ l[m - 1]'(by omega) := by
            simp only [keeps, decide_eq_true_eq] at hk
            rcases hk with hk | hk
            · omega
            · rwa [getE (by omega), getE (by omega)] at hk
          omega
        · subst h5
          have h8 : l[m]'(by omega) ≠ l[m - 1]'(by omega) := by
            simp only [keeps, decide_eq_true_eq] at hk
            rcases hk with hk | hk
            · omega
            · rwa [getE (by omega), getE (by omega)] at hk
          omega
      · rw [List.mem_append, h2, List.mem_singleton]
        constructor
        · rintro (⟨j, hj, hx⟩ | rfl)
          · exact ⟨j, by omega, hx⟩
          · exact ⟨m, by omega, List.getElem?_eq_getElem _⟩
        · rintro ⟨j, hj, hx⟩
          rcases Nat.lt_or_eq_of_le (Nat.le_of_lt_succ hj) with h5 | rfl
          · exact .inl ⟨j, h5, hx⟩
          · obtain ⟨_, rfl⟩ := List.getElem?_eq_some_iff.1 hx
            exact .inr rfl
    · rw [if_neg hk, List.append_nil]
      refine ⟨h1, fun x => ?_, by omega⟩
      rw [h2]
      constructor
      · rintro ⟨j, hj, hx⟩
        exact ⟨j, by omega, hx⟩
      · rintro ⟨j, hj, hx⟩
        rcases Nat.lt_or_eq_of_le (Nat.le_of_lt_succ hj) with h5 | rfl
        · exact ⟨j, h5, hx⟩
        · simp only [keeps, decide_eq_true_eq, not_or, Decidable.not_not] at hk
          rw [getE (by omega), getE (by omega)] at hk
          refine ⟨j - 1, by omega, ?_⟩
          rw [List.getElem?_eq_getElem (by omega), ← hk.2, ← hx, List.getElem?_eq_getElem (by omega)]
/-- Each number once. -/
def onces (l : List Int) : List Int := compactUpTo l.toArray l.length
theorem onces_is {l : List Int} (hs : l.Pairwise (fun a b => a ≤ b)) : (onces l).Pairwise (· < ·) ∧ ∀ x, x ∈ onces l ↔ x ∈ l := by
  obtain ⟨h1, h2, _⟩ := comp_is hs l.length (Nat.le_refl _)
  refine ⟨h1, fun x => (h2 x).trans ?_⟩
  rw [List.mem_iff_getElem?]
  constructor
  · rintro ⟨j, _, hx⟩
    exact ⟨j, hx⟩
  · rintro ⟨j, hx⟩
    exact ⟨j, (List.getElem?_eq_some_iff.1 hx).1, hx⟩
theorem onces_len {l : List Int} (hs : l.Pairwise (fun a b => a ≤ b)) : (onces l).length ≤ l.length := (comp_is hs l.length (Nat.le_refl _)).2.2

theorem compact_longs {base n c : Nat} {S : Nat → Prop} {w : World} {A : Option Addr} {l : List Int} (h : Own kInt 2 base S w (.slice A n c) l) (hs : l.Pairwise (fun a b => a ≤ b)) (hn : n ≤ 1000000) :
    Calls Tryz.prog 60 #[.slice A n c] w fun e w' => ∃ m, e = .returned (.slice A m c) ∧ Own kInt 2 base S w' (.slice A m c) (onces l) ∧ Fr (But (Value.slice A n c).ownBlock) w w' := by
  rcases Nat.eq_zero_or_pos n with rfl | h0
  · obtain rfl := own_zero h
    have H := Lib.hid h
    clear h hs
    go_enter Tryz.func60, Tryz.ntmps60
    go_wp2_with fail
    go_ret
    exact ⟨0, rfl, H.out, Fr.refl _ _⟩
  · obtain ⟨g, rfl⟩ := own_split h h0
    obtain ⟨hH, hg, hl, hnc, hc⟩ := own_holds h
    have hC := AnyE.slices_Compact compLLays (Value.int .i64) (fun _ => rfl) (EqlAt.intD _ _ .i64) (NeqAt.intD _ _ .i64) 0 (fun _ => by kernel_rfl) g 0 c l.toArray w hH (by simp; omega) (by simp; omega)
    have hsz : l.toArray.size = n := by simpa using hl
    rw [hsz] at hC
    refine (show Calls Tryz.prog 60 #[.slice (some ⟨g, 0, none⟩) n c] w _ from hC).mono ?_
    rintro e w' ⟨rfl, q, hw⟩
    have ho : compactUpTo l.toArray n = onces l := by rw [onces, hl]
    rw [ho] at hw ⊢
    have hol := onces_len hs
    obtain ⟨o1, f1⟩ := own_putrow (l' := onces l ++ List.replicate (n - (onces l).length) 0) h (by simp; omega) q #[]
    rw [grow_empty, ← hw] at o1 f1
    have o2 := o1.take (i := (onces l).length) (by omega)
    rw [List.take_left] at o2
    exact ⟨_, rfl, o2, f1⟩
theorem compact_ints {base n c : Nat} {S : Nat → Prop} {w : World} {A : Option Addr} {l : List Int} (h : Own kInt 3 base S w (.slice A n c) l) (hs : l.Pairwise (fun a b => a ≤ b)) (hn : n ≤ 1000000) :
    Calls Tryz.prog 75 #[.slice A n c] w fun e w' => ∃ m, e = .returned (.slice A m c) ∧ Own kInt 3 base S w' (.slice A m c) (onces l) ∧ Fr (But (Value.slice A n c).ownBlock) w w' := by
  rcases Nat.eq_zero_or_pos n with rfl | h0
  · obtain rfl := own_zero h
    have H := Lib.hid h
    clear h hs
    go_enter Tryz.func75, Tryz.ntmps75
    go_wp2_with fail
    go_ret
    exact ⟨0, rfl, H.out, Fr.refl _ _⟩
  · obtain ⟨g, rfl⟩ := own_split h h0
    obtain ⟨hH, hg, hl, hnc, hc⟩ := own_holds h
    have hC := AnyE.slices_Compact compILays (Value.int .i64) (fun _ => rfl) (EqlAt.intD _ _ .i64) (NeqAt.intD _ _ .i64) 0 (fun _ => by kernel_rfl) g 0 c l.toArray w hH (by simp; omega) (by simp; omega)
    have hsz : l.toArray.size = n := by simpa using hl
    rw [hsz] at hC
    refine (show Calls Tryz.prog 75 #[.slice (some ⟨g, 0, none⟩) n c] w _ from hC).mono ?_
    rintro e w' ⟨rfl, q, hw⟩
    have ho : compactUpTo l.toArray n = onces l := by rw [onces, hl]
    rw [ho] at hw ⊢
    have hol := onces_len hs
    obtain ⟨o1, f1⟩ := own_putrow (l' := onces l ++ List.replicate (n - (onces l).length) 0) h (by simp; omega) q #[]
    rw [grow_empty, ← hw] at o1 f1
    have o2 := o1.take (i := (onces l).length) (by omega)
    rw [List.take_left] at o2
    exact ⟨_, rfl, o2, f1⟩
end Go.Proofs.YtoaamcpiljoojaaGreatDoor
