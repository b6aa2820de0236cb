/- A region whose last three operations wait, each for all ahead of it. -/
import Derived.Test.YtalidmlomfobdaaDoorLast
namespace Go.Proofs.YtalidmlomfobdaaDoor

theorem wp_region_last3 {P : Program} {Q : Exit → Act → World → Prop} {S : World → Prop} {L : List Oper} (n : Nat) {o1 o2 o3 : Oper} {id : Nat} {a : Act} {w : World} (hm : P.follows .mixedOrders = true) (hL : L = L.take n ++ [o1] ++ [o2] ++ [o3])
    (h1 : (lastB (L.take n) o1 && o1.after.all fun e => decide (e.on < (L.take n).length)) = true)
    (h2 : (lastB (L.take n ++ [o1]) o2 && o2.after.all fun e => decide (e.on < (L.take n ++ [o1]).length)) = true)
    (h3 : (lastB (L.take n ++ [o1] ++ [o2]) o3 && o3.after.all fun e => decide (e.on < (L.take n ++ [o1] ++ [o2]).length)) = true)
    (hS : S w.drew) (h : S w.drew → wpAnyH P .any (L.take n).toArray (LastPost P o1 (LastPost P o2 (LastPost P o3 Q))) S (L.take n).length (Array.replicate (L.take n).length false) a w.drew) : (Code.region id L.toArray true).wp P Q a w := by
  rw [Bool.and_eq_true] at h1 h2 h3
  refine wp_region_any hm ?_
  have hcl : ∀ (l : List Oper) (k : Nat) ok, l[k]? = some ok → (Array.replicate l.length false).getD k false = true → ∀ e ∈ ok.after, Region.binds .any e = true → (Array.replicate l.length false).getD e.on false = true := fun l k ok hk hl => by
    have hkl : k < l.length := (List.getElem?_eq_some_iff.1 hk).1
    rw [Array.getD_eq_getD_getElem?, Array.getElem?_replicate, if_pos hkl] at hl
    cases hl
  have k1 := wpAny_last (Q := LastPost P o2 (LastPost P o3 Q)) h1.1 h1.2 _ _ a w.drew (by simp) (hcl _) (wpAny_of_held _ _ _ _ (h hS))
  have hpush : ∀ (l : List Oper) (o : Oper), (Array.replicate l.length false).push false = Array.replicate (l ++ [o]).length false := fun l o => by
    rw [List.length_append, List.length_singleton, Array.replicate_succ]
  rw [hpush _ o1, show (L.take n).length + 1 = (L.take n ++ [o1]).length by simp] at k1
  have k2 := wpAny_last (Q := LastPost P o3 Q) h2.1 h2.2 _ _ a w.drew (by simp) (hcl _) k1
  rw [hpush _ o2, show (L.take n ++ [o1]).length + 1 = (L.take n ++ [o1] ++ [o2]).length by simp] at k2
  have k3 := wpAny_last (Q := Q) h3.1 h3.2 _ _ a w.drew (by simp) (hcl _) k2
  rw [hpush _ o3, show (L.take n ++ [o1] ++ [o2]).length + 1 = (L.take n ++ [o1] ++ [o2] ++ [o3]).length by simp, ← hL] at k3
  simpa using k3
end Go.Proofs.YtalidmlomfobdaaDoor
