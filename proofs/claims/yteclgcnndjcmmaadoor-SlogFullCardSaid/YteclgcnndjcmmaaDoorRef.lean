/- The references' equalities: SameBytes, SameEntry, SameEntrys, SamePage say whether the data are the same. -/
import Derived.Test.YteclgcnndjcmmaaDoorD
import Derived.Test.YteclgcnndjcmmaaDoorProg
import Derived.KernelRfl
import Derived.Outline
import Derived.Deep.QuietTactic
import Derived.BigQuiet
import Derived.Deep.RegionHeld3
namespace Go.Proofs.YteclgcnndjcmmaaDoor
open Go.RowKit

/-- The element at a place of a slice of one-cell values. -/
theorem Sl.at1 {α : Type} {enc : α → Value} {h1 : ∀ x, (enc x).oneCell' = true} {S : Nat → Prop} {w : World} {A : Option Addr} {n c : Nat} {xs : List α} (h : Sl (Kd.plain enc h1) S w (.slice A n c) xs) {k : Nat} {x : α} (hi : xs[k]? = some x) :
    ∃ b o, A = some ⟨b, o, none⟩ ∧ w.cell? ⟨b, o + k, none⟩ = some (enc x) := by
  obtain ⟨A', c', he, _, _, hx⟩ := h
  injection he with ha _ _
  subst ha
  have hk : k < xs.length := (List.getElem?_eq_some_iff.1 hi).1
  obtain ⟨b, o, rfl, _, hr⟩ := hx (by omega)
  obtain ⟨cs, hc, hcell⟩ := hr k x hi
  refine ⟨b, o, rfl, ?_⟩
  have h2 := hcell 0 (enc x) (by rw [hc]; rfl)
  simpa [Kd.plain] using h2
theorem Sl.len_eq {α : Type} {d : Kd α} {S : Nat → Prop} {w : World} {A : Option Addr} {n c : Nat} {xs : List α} (h : Sl d S w (.slice A n c) xs) : n = xs.length := by
  obtain ⟨A', c', he, _⟩ := h
  injection he
/-- The entry at a place. -/
theorem ent_at {S : Nat → Prop} {w : World} {A : Option Addr} {n c : Nat} {xs : List Ent} (h : Sl kEnt S w (.slice A n c) xs) {k : Nat} {x : Ent} (hi : xs[k]? = some x) :
    ∃ b o A0 n0 c0 A1 n1 c1, A = some ⟨b, o, none⟩ ∧ w.cell? ⟨b, o + k * 2, none⟩ = some (.slice A0 n0 c0) ∧ w.cell? ⟨b, o + k * 2 + 1, none⟩ = some (.slice A1 n1 c1) ∧ Sl kByte S w (.slice A0 n0 c0) x.key ∧ Sl kByte S w (.slice A1 n1 c1) x.val := by
  obtain ⟨A', c', he, _, _, hx⟩ := h
  injection he with ha _ _
  subst ha
  have hk : k < xs.length := (List.getElem?_eq_some_iff.1 hi).1
  obtain ⟨b, o, rfl, _, hr⟩ := hx (by omega)
  obtain ⟨cs, hc, hcell⟩ := hr k x hi
  obtain ⟨v0, v1, rfl, h0, h1⟩ := kEnt_open hc
  obtain ⟨A0, n0, c0, rfl, _⟩ := h0.open_
  obtain ⟨A1, n1, c1, rfl, _⟩ := h1.open_
  exact ⟨b, o, A0, n0, c0, A1, n1, c1, rfl, hcell 0 _ rfl, hcell 1 _ rfl, h0, h1⟩
theorem u8_eq (a b : UInt8) : ((a.toNat : Int) == (b.toNat : Int)) = decide (a = b) := by
  rw [Bool.eq_iff_iff]
  simp only [beq_iff_eq, decide_eq_true_eq]
  exact ⟨fun h => UInt8.toNat_inj.1 (by omega), fun h => by rw [h]⟩

end Go.Proofs.YteclgcnndjcmmaaDoor
