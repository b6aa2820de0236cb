/- What a crash keeps: plain. The disk's Crash. -/
import Derived.Test.YteclgcnndjcmmaaDoorDk
import Derived.Test.YteclgcnndjcmmaaDoorDkC
import Derived.Test.YteclgcnndjcmmaaDoorRef
namespace Go.Proofs.YteclgcnndjcmmaaDoor

/-- Is the j-th pick set? od tells which numbers are odd. -/
def isPick (od : Int → Bool) (ps : List Int) (j : Nat) : Bool := match ps[j]? with | some p => od p | none => false
/-- The first j keys looked at. -/
def pickTo (od : Int → Bool) (pen m : Int → Option (List UInt8)) (ks ps : List Int) : Nat → Int → Option (List UInt8)
  | 0 => m
  | j + 1 => if isPick od ps j then upd (pickTo od pen m ks ps j) (ks.getD j 0) ((pen (ks.getD j 0)).getD []) else pickTo od pen m ks ps j

theorem pickTo_none {od : Int → Bool} {pen m : Int → Option (List UInt8)} {ks ps : List Int} (h : ∀ j, isPick od ps j = false) : ∀ n, pickTo od pen m ks ps n = m
  | 0 => rfl
  | n + 1 => by
    unfold pickTo
    rw [h n, if_neg (by simp), pickTo_none h n]
theorem isPick_nil (od : Int → Bool) (j : Nat) : isPick od [] j = false := by simp [isPick]

theorem pickTo_off {od : Int → Bool} {pen m : Int → Option (List UInt8)} {ks ps : List Int} {k : Int} : ∀ n, n ≤ ks.length → (∀ j, j < n → ks[j]? ≠ some k) → pickTo od pen m ks ps n k = m k
  | 0, _, _ => rfl
  | n + 1, hn, h => by
    have ih := pickTo_off (od := od) (pen := pen) (m := m) (ps := ps) n (by omega) fun j hj => h j (by omega)
    unfold pickTo
    split
    · have h2 := h n (by omega)
      have h3 : ks.getD n 0 ≠ k := by
        rw [List.getD_eq_getElem?_getD]
        rw [List.getElem?_eq_getElem (by omega)] at h2 ⊢
        simpa using h2
      simp only [upd, if_neg (Ne.symm h3)]
      exact ih
    · exact ih
theorem pickTo_at {od : Int → Bool} {pen m : Int → Option (List UInt8)} {ks ps : List Int} {k : Int} {i : Nat} (hs : ks.Pairwise (· < ·)) (hi : ks[i]? = some k) : ∀ n, n ≤ ks.length → i < n → pickTo od pen m ks ps n k = if isPick od ps i then some ((pen k).getD []) else m k
  | 0, _, h => by omega
  | n + 1, hn, h => by
    have hil := (List.getElem?_eq_some_iff.1 hi).1
    by_cases hin : i = n
    · subst hin
      have h3 : ks.getD i 0 = k := by rw [List.getD_eq_getElem?_getD, hi]; rfl
      unfold pickTo
      rw [h3]
      split
      · simp [upd]
      · refine pickTo_off i (by omega) fun j hj e => ?_
        have e1 := List.getElem?_eq_some_iff.1 e
        have e2 := List.getElem?_eq_some_iff.1 hi
        have := List.pairwise_iff_getElem.1 hs j i e1.1 hil hj
        rw [e1.2, e2.2] at this
        omega
    · have ih := pickTo_at (od := od) (pen := pen) (m := m) (ps := ps) hs hi n (by omega) (by omega)
      unfold pickTo
      split
      · have h3 : ks.getD n 0 ≠ k := by
          intro e
          have e2 := List.getElem?_eq_some_iff.1 hi
          have := List.pairwise_iff_getElem.1 hs i n hil (by omega) (by omega)
          rw [List.getD_eq_getElem?_getD, List.getElem?_eq_getElem (by omega)] at e
          simp only [Option.getD_some] at e
          rw [e2.2, e] at this
          omega
        simp only [upd, if_neg (Ne.symm h3)]
        rw [ih]
      · exact ih
end Go.Proofs.YteclgcnndjcmmaaDoor
namespace Go.Proofs.YteclgcnndjcmmaaDoor
open Go.RowKit Go.Maps
variable {G : Nat → Prop}

/-- Behind a crash. -/
def DSt.crashed (s : DSt) (m : Int → Option (List UInt8)) (n : Nat) : DSt := { s with syn := m, ns := n, pen := fun _ => none, np := 0, down := false, arm := 0 }
/-- The keys of what is pending, rising. -/
structure DSt.Keys (s : DSt) (ks : List Int) : Prop where
  len : ks.length = s.np
  rise : ks.Pairwise (· < ·)
  mem : ∀ k, k ∈ ks ↔ In64 k ∧ (s.pen k).isSome
def odd64 (p : Int) : Bool := bits .and .i64 p 1 == 1

theorem pickTo_skip {od : Int → Bool} {pen m : Int → Option (List UInt8)} {ks ps : List Int} {j : Nat} (h : isPick od ps j = false) : pickTo od pen m ks ps (j + 1) = pickTo od pen m ks ps j := by
  rw [pickTo, h, if_neg (by simp)]
theorem pickTo_take {od : Int → Bool} {pen m : Int → Option (List UInt8)} {ks ps : List Int} {j : Nat} {k : Int} {xs : List UInt8} (h : isPick od ps j = true) (hk : ks[j]? = some k) (hx : pen k = some xs) : pickTo od pen m ks ps (j + 1) = upd (pickTo od pen m ks ps j) k xs := by
  rw [pickTo, h, if_pos rfl, List.getD_eq_getElem?_getD, hk, Option.getD_some, hx, Option.getD_some]

end Go.Proofs.YteclgcnndjcmmaaDoor
