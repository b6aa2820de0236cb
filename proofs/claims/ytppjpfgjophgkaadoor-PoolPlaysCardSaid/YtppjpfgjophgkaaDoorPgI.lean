/- Which error a page has, plain. -/
import Derived.Test.YtppjpfgjophgkaaDoorD
import Derived.Test.YtppjpfgjophgkaaDoorVIx
namespace Go.Proofs.YtppjpfgjophgkaaDoor
open Go.RowKit

/-- Which error a page has: of its numbers, of what it holds. -/
def pageIx (p : Page) : Option Nat :=
  if ¬ (0 ≤ p.id ∧ p.id < 256 ∧ 0 ≤ p.lsn ∧ p.lsn ≤ 1099511627776 ∧ 0 ≤ p.level ∧ p.level ≤ 16 ∧ -1 ≤ p.next ∧ p.next < 256) then some 4
  else if 8 < p.ents.length then some 3
  else if p.ents.any (fun e => decide (32 < e.key.length) || decide (64 < e.val.length)) then some 3 else none
theorem pageIx_none {p : Page} (h : pageIx p = none) : (0 ≤ p.id ∧ p.id < 256 ∧ 0 ≤ p.lsn ∧ p.lsn ≤ 1099511627776 ∧ 0 ≤ p.level ∧ p.level ≤ 16 ∧ -1 ≤ p.next ∧ p.next < 256) ∧ p.ents.length ≤ 8 ∧ ∀ e ∈ p.ents, e.key.length ≤ 32 ∧ e.val.length ≤ 64 := by
  unfold pageIx at h
  split at h
  · cases h
  split at h
  · cases h
  split at h
  · cases h
  · rename_i h1 h2 h3
    refine ⟨Decidable.not_not.1 h1, by omega, fun e he => ?_⟩
    have h4 : ¬ (decide (32 < e.key.length) || decide (64 < e.val.length)) = true := fun h5 => h3 (List.any_eq_true.2 ⟨e, he, h5⟩)
    rw [Bool.or_eq_true, decide_eq_true_eq, decide_eq_true_eq] at h4
    omega
end Go.Proofs.YtppjpfgjophgkaaDoor
