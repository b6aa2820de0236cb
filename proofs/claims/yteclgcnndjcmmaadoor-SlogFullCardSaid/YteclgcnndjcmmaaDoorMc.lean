/- The library's calls on maps: maps.Keys, slices.Sorted, maps.Copy, maps.Clone. -/
import Derived.Test.YteclgcnndjcmmaaDoorMapLay
import Derived.Test.YteclgcnndjcmmaaDoorMg
import Derived.Test.YteclgcnndjcmmaaDoorD
import Derived.Shelf.SlIterI.Nil
import Derived.Shelf.SlIterI.Keys
import Derived.Shelf.SlIterI.Sorted
import Derived.Shelf.SortM.Plain
import Derived.Shelf.SortM.SortNone
import Derived.Shelf.SlMaps.Copy
import Derived.Shelf.SlMaps.Clone
namespace Go.Proofs.YteclgcnndjcmmaaDoor
open Go.RowKit Go.Maps Go.Shelf Go.Sort

theorem reps_plain {α : Type} {enc : α → Value} {h1 : ∀ x, (enc x).oneCell' = true} {S : Nat → Prop} {w : World} : ∀ xs : List α, Reps (Kd.plain enc h1) S w xs (xs.map enc)
  | [] => rfl
  | x :: xs => ⟨[enc x], xs.map enc, rfl, rfl, reps_plain xs⟩

theorem copy_call {S : Nat → Prop} {w : World} {bd bs nd ns : Nat} {md ms : Int → Option (List UInt8)} (hd : MapIs Tryd.prog 3 S w bd md nd) (hs : MapIs Tryd.prog 3 S w bs ms ns) (hne : bd ≠ bs) (hS : ∀ x, S x → x ≠ bd) (hn : nd + ns ≤ 1000000) :
    Calls Tryd.prog 71 #[.map (some bd), .map (some bs)] w fun e w' => e = .returned (.tuple #[]) ∧ (∃ n', n' ≤ nd + ns ∧ MapIs Tryd.prog 3 S w' bd (fun k => ms k <|> md k) n') ∧ MapIs Tryd.prog 3 S w' bs ms ns ∧ Fr (fun x => x ≠ bd) w w' := by
  obtain ⟨Dd, d1, d2, d3⟩ := hd
  obtain ⟨Ds, s1, s2, s3⟩ := hs
  have hi := int_keyed (P := Tryd.prog) Tryd.underlying3
  refine (AnyX.maps_Copy copyMLays hi elH bd bs nd ns Dd Ds w d1 s1 hne (by simp only [maxLen]; omega)).mono ?_
  rintro e w' ⟨rfl, ho, ho2, hg⟩
  have hf : Fr (fun x => x ≠ bd) w w' := (Fr.of_grown hg).mono fun x hx e => hx (Option.some.inj e)
  refine ⟨rfl, ⟨_, by have := ho.size_le; omega, _, owns_exact ho, rfl, fun k hk => ?_⟩, ⟨Ds, ho2, s2, fun k hk => (s3 k hk).move hf fun x hx _ => hS x hx⟩, hf⟩
  exact (mergeD_entry hi.one (s1.canonK hi) d1.isMap (d3 k hk) (s3 k hk)).move hf fun x hx _ => hS x hx

end Go.Proofs.YteclgcnndjcmmaaDoor
