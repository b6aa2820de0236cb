/- Regions walked in whole; a row of one's own as a source. -/
import Derived.Test.YteclgcnndjcmmaaDoorW
import Derived.Test.YteclgcnndjcmmaaDoorLast3
namespace Go.Proofs.YteclgcnndjcmmaaDoor
open Go.RowKit

theorem wp_region_all {P : Program} {Q : Exit → Act → World → Prop} {S : World → Prop} {L : List Oper} {id : Nat} {a : Act} {w : World} (hm : P.follows .mixedOrders = true) (hS : S w.drew)
    (h : S w.drew → wpAnyH P .any L.toArray Q S L.length (Array.replicate L.length false) a w.drew) : (Code.region id L.toArray true).wp P Q a w := by
  refine wp_region_any hm ?_
  have h1 := wpAny_of_held _ _ _ _ (h hS)
  rw [List.size_toArray]
  exact h1
theorem Own.src {α : Type} {d : Kd α} {e : TypeId} {base : Nat} {S : Nat → Prop} {w : World} {v : Value} {xs : List α} (h : Own d e base S w v xs) : Src d (fun b => S b ∧ some b ≠ v.ownBlock) w v xs := by
  obtain ⟨cs, ho, hr⟩ := h
  rcases ho.2 with ⟨rfl, h0⟩ | ⟨g, cap, cur, rfl, hb, hg, hn, hcm, hcs, ht⟩
  · obtain rfl := List.eq_nil_of_length_eq_zero h0
    exact ⟨none, 0, [], rfl, rfl, fun h => absurd h (by simp)⟩
  · exact ⟨_, cap, cs, rfl, hr, fun _ => ⟨g, 0, rfl, fun j u hu => by have h1 := ho.cells (g := g) rfl _ _ hu; rwa [addr_lit] at h1⟩⟩
theorem Src.all {α : Type} {d : Kd α} {S : Nat → Prop} {w w' : World} {y : Value} {ys : List α} (h : Src d S w y ys) (f : Fr All w w') : Src d S w' y ys := by
  obtain ⟨A, c, news, rfl, hr, hx⟩ := h
  refine ⟨A, c, news, rfl, hr.move' f fun _ _ _ => trivial, fun h0 => ?_⟩
  obtain ⟨b, o, hA, hc⟩ := hx h0
  exact ⟨b, o, hA, fun j u hu => f.cell (p := ⟨b, o + j, none⟩) trivial (hc j u hu)⟩

end Go.Proofs.YteclgcnndjcmmaaDoor
