/- The statements' records in a log, as plain Lean: some of a row; how far all is there; what lacks. -/
import Derived.Test.YtalidmlomfobdaaDoorFst
namespace Go.Proofs.YtalidmlomfobdaaDoor
open Go.RowKit

/-- Two rising rows with the same records are one. -/
theorem Rise.ext : ∀ (a b : List Redo), Rise a → Rise b → (∀ k, k ∈ a ↔ k ∈ b) → a = b
  | [], [], _, _, _ => rfl
  | [], y :: ys, _, _, h => by
    have := (h y).2 List.mem_cons_self
    cases this
  | x :: xs, [], _, _, h => by
    have := (h x).1 List.mem_cons_self
    cases this
  | x :: xs, y :: ys, ha, hb, h => by
    obtain ⟨a1, a2⟩ := List.pairwise_cons.1 ha
    obtain ⟨b1, b2⟩ := List.pairwise_cons.1 hb
    have e : x = y := by
      rcases List.mem_cons.1 ((h x).1 List.mem_cons_self) with e | e
      · exact e
      · rcases List.mem_cons.1 ((h y).2 List.mem_cons_self) with f | f
        · exact f.symm
        · have := a1 y f
          have := b1 x e
          omega
    subst e
    rw [Rise.ext xs ys a2 b2 fun k => ?_]
    constructor
    · intro hk
      rcases List.mem_cons.1 ((h k).1 (List.mem_cons_of_mem _ hk)) with f | f
      · subst f
        have := a1 k hk
        omega
      · exact f
    · intro hk
      rcases List.mem_cons.1 ((h k).2 (List.mem_cons_of_mem _ hk)) with f | f
      · subst f
        have := b1 k hk
        omega
      · exact f

structure Has (n : Nat) (P : Nat → Bool) (l : List Redo) : Prop where
  rise : Rise l
  mem : ∀ r, r ∈ l ↔ ∃ i, i < n ∧ P i = true ∧ r = rec9 i
theorem rec9_lsn (i : Nat) : (rec9 i).lsn = 2 * (i : Int) + 2 := rfl
theorem rec9_back (i : Nat) : (rec9 i).back = 2 * (i : Int) := rfl
section
variable {n : Nat} {P Q : Nat → Bool} {l : List Redo}
theorem Has.nil_ (n : Nat) (h : ∀ i, i < n → P i = false) : Has n P [] := ⟨List.Pairwise.nil, fun r => ⟨fun h => (by simp at h), fun ⟨i, hi, hp, _⟩ => by rw [h i hi] at hp; cases hp⟩⟩
theorem Has.isL (h : Has n P l) {i : Nat} (hi : i < n) : isL l (2 * (i : Int) + 2) = P i := by
  rw [Bool.eq_iff_iff, isL_mem]
  constructor
  · rintro ⟨x, hx, he⟩
    obtain ⟨j, hj, hp, rfl⟩ := (h.mem x).1 hx
    have := rec9_lsn j
    obtain rfl : j = i := by omega
    exact hp
  · exact fun hp => ⟨rec9 i, (h.mem _).2 ⟨i, hi, hp, rfl⟩, rec9_lsn i⟩
theorem Has.add (h : Has n P l) {i : Nat} (hi : i < n) (hp : P i = false) (hQ : ∀ j, j < n → Q j = (P j || j == i)) : Has n Q (lins l (rec9 i)) := by
  refine ⟨lins_rise h.rise (by rw [rec9_lsn, h.isL hi, hp]), fun r => ?_⟩
  rw [lins_mem, h.mem]
  constructor
  · rintro (rfl | ⟨j, hj, hpj, rfl⟩)
    · exact ⟨i, hi, by rw [hQ i hi]; simp, rfl⟩
    · exact ⟨j, hj, by rw [hQ j hj, hpj]; rfl, rfl⟩
  · rintro ⟨j, hj, hq, rfl⟩
    rw [hQ j hj, Bool.or_eq_true] at hq
    rcases hq with hq | hq
    · exact .inr ⟨j, hj, hq, rfl⟩
    · obtain rfl : j = i := by simpa using hq
      exact .inl rfl
theorem Has.same (h : Has n P l) (hQ : ∀ j, j < n → Q j = P j) : Has n Q l := ⟨h.rise, fun r => (h.mem r).trans ⟨fun ⟨i, hi, hp, e⟩ => ⟨i, hi, by rw [hQ i hi]; exact hp, e⟩, fun ⟨i, hi, hp, e⟩ => ⟨i, hi, by rw [← hQ i hi]; exact hp, e⟩⟩⟩
theorem some9_rise (n : Nat) (P : Nat → Bool) : Rise (((List.range n).filter P).map rec9) := by
  unfold Rise
  rw [List.pairwise_map]
  refine (List.Pairwise.filter _ (List.pairwise_lt_range)).imp fun {a b} h => ?_
  rw [rec9_lsn, rec9_lsn]
  omega
theorem Has.eq (h : Has n P l) : l = ((List.range n).filter P).map rec9 := by
  refine Rise.ext _ _ h.rise (some9_rise n P) fun r => ?_
  rw [h.mem, List.mem_map]
  constructor
  · rintro ⟨i, hi, hp, rfl⟩
    exact ⟨i, List.mem_filter.2 ⟨List.mem_range.2 hi, hp⟩, rfl⟩
  · rintro ⟨i, hi, rfl⟩
    obtain ⟨h1, h2⟩ := List.mem_filter.1 hi
    exact ⟨i, List.mem_range.1 h1, h2, rfl⟩
theorem Has.len (h : Has n P l) : l.length ≤ n := by
  rw [h.eq, List.length_map]
  have := List.length_filter_le P (List.range n)
  rwa [List.length_range] at this
theorem Has.all (h : Has n P l) (hp : ∀ i, i < n → P i = true) : l = rows9 n := by
  rw [h.eq, rows9, List.filter_eq_self.2 fun i hi => hp i (List.mem_range.1 hi)]
theorem Has.rows (n : Nat) : Has n (fun _ => true) (rows9 n) := by
  refine ⟨?_, fun r => ?_⟩
  · have := some9_rise n fun _ => true
    rwa [List.filter_eq_self.2 fun i hi => rfl] at this
  · rw [rows9, List.mem_map]
    constructor
    · rintro ⟨i, hi, rfl⟩
      exact ⟨i, List.mem_range.1 hi, rfl, rfl⟩
    · rintro ⟨i, hi, _, rfl⟩
      exact ⟨i, List.mem_range.2 hi, rfl⟩
theorem Has.pick (h : Has n P l) {i : Nat} (hi : i < n) (hp : P i = true) : pick l (2 * (i : Int)) = some (rec9 i) :=
  pick_one ((h.mem _).2 ⟨i, hi, hp, rfl⟩) rfl fun y hy hb => by
    obtain ⟨j, hj, _, rfl⟩ := (h.mem y).1 hy
    rw [rec9_back] at hb
    obtain rfl : j = i := by omega
    rfl
theorem Has.stop (h : Has n P l) {i : Nat} (hi : i = n ∨ P i = false) : Go.Proofs.YtalidmlomfobdaaDoor.pick l (2 * (i : Int)) = none := by
  rw [pick_none_iff]
  intro x hx hb
  obtain ⟨j, hj, hp, rfl⟩ := (h.mem x).1 hx
  rw [rec9_back] at hb
  obtain rfl : j = i := by omega
  rcases hi with hi | hi
  · omega
  · rw [hi] at hp; cases hp
theorem Has.climb (h : Has n P l) {far : Nat} (hf : far ≤ n) (hall : ∀ i, i < far → P i = true) (hst : far = n ∨ P far = false) : Climb l 0 (2 * (far : Int)) := by
  have key : ∀ d k, k + d = far → Climb l (2 * (k : Int)) (2 * (far : Int)) := by
    intro d
    induction d with
    | zero =>
      intro k hk
      obtain rfl : k = far := by omega
      exact .stop (h.stop hst)
    | succ d ih =>
      intro k hk
      have h1 := ih (k + 1) (by omega)
      refine .step (h.pick (by omega) (hall k (by omega))) ?_
      rw [rec9_lsn, show 2 * (k : Int) + 2 = 2 * ((k + 1 : Nat) : Int) by omega]
      exact h1
  exact key far 0 (by omega)
/-- How many stand at the front. -/
def lead (P : Nat → Bool) : Nat → Nat
  | 0 => 0
  | j + 1 => if lead P j = j ∧ P j = true then j + 1 else lead P j
theorem lead_is (P : Nat → Bool) : ∀ j, lead P j ≤ j ∧ (∀ i, i < lead P j → P i = true) ∧ (lead P j = j ∨ P (lead P j) = false)
  | 0 => ⟨Nat.le_refl _, fun i hi => absurd hi (Nat.not_lt_zero _), .inl rfl⟩
  | j + 1 => by
    obtain ⟨h1, h2, h3⟩ := lead_is P j
    rw [lead]
    split
    · rename_i h
      refine ⟨Nat.le_refl _, fun i hi => ?_, .inl rfl⟩
      rcases Nat.lt_or_eq_of_le (Nat.le_of_lt_succ hi) with h5 | rfl
      · exact h2 i (by omega)
      · exact h.2
    · rename_i h
      refine ⟨by omega, h2, .inr ?_⟩
      rcases h3 with h3 | h3
      · have hh : ¬ P j = true := fun e => h ⟨h3, e⟩
        rw [h3]
        simpa using hh
      · exact h3
theorem Has.lead (h : Has n P l) : Climb l 0 (2 * (Go.Proofs.YtalidmlomfobdaaDoor.lead P n : Int)) := by
  obtain ⟨h1, h2, h3⟩ := lead_is P n
  exact h.climb h1 h2 h3
/-- What lacks ahead of something, of the first j. -/
def gapP (P : Nat → Bool) (j : Nat) : List Int := ((List.range j).filter fun i => P i && (decide (0 < i) && !P (i - 1))).map fun i : Nat => 2 * (i : Int)
theorem gapP_succ (P : Nat → Bool) (j : Nat) : gapP P (j + 1) = gapP P j ++ (if P j && (decide (0 < j) && !P (j - 1)) then [2 * (j : Int)] else []) := by
  unfold gapP
  rw [List.range_succ, List.filter_append, List.map_append]
  congr 1
  by_cases h : (P j && (decide (0 < j) && !P (j - 1))) = true
  · rw [if_pos h, List.filter_cons, if_pos h]; rfl
  · rw [if_neg h, List.filter_cons, if_neg h]; rfl
theorem gapP_len (P : Nat → Bool) (j : Nat) : (gapP P j).length ≤ j := by
  unfold gapP
  rw [List.length_map]
  have := List.length_filter_le (fun i => P i && (decide (0 < i) && !P (i - 1))) (List.range j)
  rwa [List.length_range] at this
theorem Has.gaps (h : Has n P l) : GapsIs l (gapP P n) := by
  refine ⟨?_, fun b => ?_⟩
  · unfold gapP
    rw [List.pairwise_map]
    exact (List.Pairwise.filter _ (List.pairwise_lt_range)).imp fun {a b} h => by omega
  · unfold gapP
    rw [List.mem_map]
    constructor
    · rintro ⟨i, hi, rfl⟩
      obtain ⟨h1, h2⟩ := List.mem_filter.1 hi
      have h1 := List.mem_range.1 h1
      simp only [Bool.and_eq_true, decide_eq_true_eq, Bool.not_eq_true'] at h2
      obtain ⟨h3, h4, h5⟩ := h2
      have e : (2 * (i : Int)) = 2 * ((i - 1 : Nat) : Int) + 2 := by omega
      exact ⟨rec9 i, (h.mem _).2 ⟨i, h1, h3, rfl⟩, rfl, by omega, by rw [e, h.isL (by omega), h5]⟩
    · rintro ⟨r, hr, rfl, h0, hi⟩
      obtain ⟨i, h1, h2, rfl⟩ := (h.mem r).1 hr
      rw [rec9_back] at h0 hi ⊢
      have e : (2 * (i : Int)) = 2 * ((i - 1 : Nat) : Int) + 2 := by omega
      rw [e, h.isL (by omega)] at hi
      refine ⟨i, List.mem_filter.2 ⟨List.mem_range.2 h1, ?_⟩, rfl⟩
      simp only [Bool.and_eq_true, decide_eq_true_eq, Bool.not_eq_true']
      exact ⟨h2, by omega, hi⟩
end

/-- A log of group 0, never cut, with some of the row. -/
structure St9 (n : Nat) (P : Nat → Bool) (s : HSt) : Prop where
  has : Has n P s.l
  group : s.group = 0
  spans : s.spans = []
theorem St9.new (n : Nat) (P : Nat → Bool) (h : ∀ i, i < n → P i = false) : St9 n P (.new 0) := ⟨Has.nil_ n h, rfl, rfl⟩
theorem St9.same {n : Nat} {P Q : Nat → Bool} {s : HSt} (h : St9 n P s) (hQ : ∀ j, j < n → Q j = P j) : St9 n Q s := ⟨h.has.same hQ, h.group, h.spans⟩
theorem St9.knows {n : Nat} {P : Nat → Bool} {s : HSt} (h : St9 n P s) (v : Int) : St9 n P (s.knows v) := ⟨h.has, h.group, h.spans⟩
theorem hadd9 {X : Nat → Prop} {w0 w : World} {B : Nat} {s : HSt} {n i : Nat} {P Q : Nat → Bool} {v0 v1 : Value} {S0 S1 : Nat → Prop} (h : HHd X w0 w B s) (st : St9 n P s) (hn : n ≤ 1000) (hi : i < n) (hp : P i = false) (hQ : ∀ j, j < n → Q j = (P j || j == i))
    (k0 : Sl kByte S0 w v0 (rec9 i).key) (k1 : Sl kByte S1 w v1 (rec9 i).val) :
    Calls Tryd.prog 16 #[.pointer (some ⟨B, 0, none⟩), .agg #[.int .i64 (rec9 i).lsn, .int .i64 (rec9 i).back, .int .i64 (rec9 i).epoch, .int .i64 (rec9 i).group, .int .i64 (rec9 i).page, .int .i64 (rec9 i).kind, .int .i64 (rec9 i).slot, v0, v1, .bool (rec9 i).last]] w
      fun e w' => e = .returned (.tuple #[.bool true, .nilIface]) ∧ HHd X w0 w' B (s.add (rec9 i)) ∧ St9 n Q (s.add (rec9 i)) ∧ Fr X w w' := by
  refine (hadd h k0 k1 (rec9_valid (by omega)) st.group.symm (by rw [st.spans]; rfl) (by rw [rec9_lsn, st.has.isL hi, hp]) (by have := st.has.len; omega)).mono ?_
  rintro e w' ⟨rfl, h2, f⟩
  exact ⟨rfl, h2, ⟨st.has.add hi hp hQ, st.group, st.spans⟩, f⟩
end Go.Proofs.YtalidmlomfobdaaDoor
