/- The insertion sort's row is the same records in another order. -/
import Derived.Test.YtalidmlomfobdaaDoorSCmp
import Derived.Sort.LotA
namespace Go.Proofs.YtalidmlomfobdaaDoor
open Go.RowKit Go.Sort

section
variable {α : Type} [Inhabited α]
theorem swp_perm (d : Array α) (i j : Nat) (hi : i < d.size) (hj : j < d.size) : (swp d i j).toList.Perm d.toList := by
  have h : swp d i j = d.swap i j := by
    unfold swp
    rw [getElem!_pos d j hj, getElem!_pos d i hi]
    apply Array.ext_getElem?
    intro k
    simp only [Array.getElem?_setIfInBounds, Array.getElem?_swap, Array.size_setIfInBounds]
    repeat' split
    all_goals first | rfl | omega | simp_all
  rw [h]
  exact (Array.swap_perm hi hj).toList
theorem insInner_perm (lt : α → α → Bool) (a : Nat) : ∀ (j : Nat) (d : Array α), j < d.size → (insInner lt a j d).toList.Perm d.toList ∧ (insInner lt a j d).size = d.size
  | 0, d, _ => by
    unfold insInner
    exact ⟨List.Perm.refl _, rfl⟩
  | j + 1, d, hj => by
    unfold insInner
    split
    · have hs : (swp d (j + 1) j).size = d.size := by simp [swp]
      obtain ⟨h1, h2⟩ := insInner_perm lt a j (swp d (j + 1) j) (by omega)
      exact ⟨h1.trans (swp_perm d _ _ hj (by omega)), by rw [h2, hs]⟩
    · exact ⟨List.Perm.refl _, rfl⟩
theorem insOuter_perm (lt : α → α → Bool) (a b : Nat) : ∀ (n i : Nat) (d : Array α), b - i = n → b ≤ d.size → (insOuter lt a b i d).toList.Perm d.toList ∧ (insOuter lt a b i d).size = d.size
  | 0, i, d, hn, hb => by
    unfold insOuter
    rw [if_neg (by omega)]
    exact ⟨List.Perm.refl _, rfl⟩
  | n + 1, i, d, hn, hb => by
    unfold insOuter
    split
    · obtain ⟨h1, h2⟩ := insInner_perm lt a i d (by omega)
      obtain ⟨h3, h4⟩ := insOuter_perm lt a b n (i + 1) (insInner lt a i d) (by omega) (by omega)
      exact ⟨h3.trans h1, by rw [h4, h2]⟩
    · exact ⟨List.Perm.refl _, rfl⟩
theorem insertionSort_perm' (lt : α → α → Bool) (d : Array α) (a b : Nat) (hb : b ≤ d.size) : (insertionSort lt d a b).toList.Perm d.toList ∧ (insertionSort lt d a b).size = d.size :=
  insOuter_perm lt a b _ (a + 1) d rfl hb
end

theorem perm_lift {α β : Type} {f : α → β} {l1 l2 : List β} (h : l1.Perm l2) : ∀ ps : List α, ps.map f = l2 → ∃ ps' : List α, ps'.Perm ps ∧ ps'.map f = l1 := by
  induction h with
  | nil =>
    intro ps hp
    exact ⟨[], by rw [List.map_eq_nil_iff.1 hp], rfl⟩
  | cons x _ ih =>
    intro ps hp
    cases ps with
    | nil => simp at hp
    | cons p ps =>
      simp only [List.map_cons, List.cons.injEq] at hp
      obtain ⟨ps', h1, h2⟩ := ih ps hp.2
      exact ⟨p :: ps', h1.cons p, by rw [List.map_cons, h2, hp.1]⟩
  | swap x y l =>
    intro ps hp
    match ps with
    | [] => simp at hp
    | [p] => simp at hp
    | p :: q :: ps =>
      simp only [List.map_cons, List.cons.injEq] at hp
      exact ⟨q :: p :: ps, List.Perm.swap p q ps, by simp [hp.1, hp.2.1, hp.2.2]⟩
  | trans _ _ ih1 ih2 =>
    intro ps hp
    obtain ⟨ps2, h1, h2⟩ := ih2 ps hp
    obtain ⟨ps3, h3, h4⟩ := ih1 ps2 h2
    exact ⟨ps3, h3.trans h1, h4⟩
/-- Another order of the same records; rising ones stay as they are. -/
structure PermR (l' l : List Redo) : Prop where
  perm : l'.Perm l
  same : l.Pairwise (fun a b => a.lsn < b.lsn) → l' = l
theorem PermR.refl (l : List Redo) : PermR l l := ⟨List.Perm.refl l, fun _ => rfl⟩
theorem PermR.trans {a b c : List Redo} (h : PermR a b) (k : PermR b c) : PermR a c := ⟨h.perm.trans k.perm, fun hr => (h.same (by rw [k.same hr]; exact hr)).trans (k.same hr)⟩
theorem PermR.length_eq {a b : List Redo} (h : PermR a b) : a.length = b.length := h.perm.length_eq
theorem PermR.mem_iff {a b : List Redo} (h : PermR a b) {x : Redo} : x ∈ a ↔ x ∈ b := h.perm.mem_iff
theorem insInner_id {α : Type} [Inhabited α] (lt : α → α → Bool) (a : Nat) (d : Array α) : ∀ j, (0 < j → a < j → lt d[j]! d[j - 1]! = false) → insInner lt a j d = d
  | 0, _ => rfl
  | j + 1, h => by
    unfold insInner
    by_cases ha : a < j + 1
    · rw [show lt d[j + 1]! d[j]! = false from h (by omega) ha, Bool.and_false]
      rfl
    · rw [decide_eq_false (by omega : ¬ j + 1 > a), Bool.false_and]
      rfl
theorem insOuter_id {α : Type} [Inhabited α] (lt : α → α → Bool) (a b : Nat) (d : Array α) (h : ∀ j, a < j → j < b → lt d[j]! d[j - 1]! = false) : ∀ n i, b - i = n → insOuter lt a b i d = d
  | 0, i, hn => by
    unfold insOuter
    rw [if_neg (by omega)]
  | n + 1, i, hn => by
    unfold insOuter
    rw [if_pos (by omega), insInner_id lt a d i (fun _ hi => h i hi (by omega))]
    exact insOuter_id lt a b d h n (i + 1) (by omega)
theorem insertionSort_id {α : Type} [Inhabited α] (lt : α → α → Bool) (d : Array α) (a b : Nat) (h : ∀ j, a < j → j < b → lt d[j]! d[j - 1]! = false) : insertionSort lt d a b = d := insOuter_id lt a b d h _ _ rfl
end Go.Proofs.YtalidmlomfobdaaDoor
