/- Rows of integers that come in, as slices that read. -/
import Derived.Test.YtblogahililddaaD
import Derived.OpenShut
namespace Go.Proofs.Ytblogahililddaa
open Go.RowKit

theorem add_at {w : World} {x : Addr} {v : Value} (h : w.cell? (x.add 0) = some v) (i : Nat) : x.add i = ⟨x.block, x.off + i, none⟩ := by
  have hs : x.spot = none := by
    unfold World.cell? Addr.add at h
    simp only [if_true] at h
    split at h
    · split at h
      · cases h
      · rename_i hh
        simpa using hh
    · cases h
  obtain ⟨b, o, s⟩ := x
  dsimp only at hs
  subst hs
  unfold Addr.add
  split
  · rename_i hi
    subst hi
    rfl
  · rfl

theorem bytes_row {w : World} {a : Option Addr} {len cap : Nat} {zs : List Int}
    (h : (a = none ∧ len = 0 ∧ cap = 0 ∧ zs = []) ∨ ∃ x, a = some x ∧ len ≤ cap ∧ cap ≤ maxLen ∧ zs.length = cap ∧ (∀ i, i < zs.length → w.cell? (x.add i) = some (.int .u8 (zs.getD i 0))) ∧ ∀ n ∈ zs, (Lit.int .u8 n).wf = true) :
    ∃ bs : List UInt8, Sl kByte All w (.slice a len cap) bs := by
  rcases h with ⟨rfl, rfl, rfl, rfl⟩ | ⟨x, rfl, hl, hm, hz, hc, hw⟩
  · exact ⟨[], Sl.nil_ _ _ _⟩
  · have hlen : ((zs.take len).map fun n => UInt8.ofNat n.toNat).length = len := by rw [List.length_map, List.length_take]; omega
    refine ⟨(zs.take len).map fun n => UInt8.ofNat n.toNat, some x, cap, by rw [hlen], by omega, hm, fun h0 => ?_⟩
    rw [hlen] at h0
    have h1 := add_at (hc 0 (by omega))
    refine ⟨x.block, x.off, by have := h1 0; rw [show x.add 0 = x from rfl] at this; rw [this], trivial, fun i y hi => ⟨_, rfl, fun j u hu => ?_⟩⟩
    rw [List.getElem?_map, List.getElem?_take] at hi
    split at hi
    · rename_i hil
      have h2 := hc i (by omega)
      rw [h1 i] at h2
      have h3 : zs[i]? = some (zs.getD i 0) := by
        rw [List.getD_eq_getElem?_getD, List.getElem?_eq_getElem (by omega)]
        rfl
      rw [h3] at hi
      have h4 : y = UInt8.ofNat (zs.getD i 0).toNat := (Option.some.inj hi).symm
      have h5 := bounds_u8 (hw _ (List.mem_of_getElem? h3))
      have h6 : (y.toNat : Int) = zs.getD i 0 := by
        rw [h4, UInt8.toNat_ofNat_of_lt' (by simp only [UInt8.size]; omega)]
        omega
      cases j with
      | succ j => simp at hu
      | zero =>
        have h7 : u = .int .u8 (y.toNat : Int) := by simpa using hu.symm
        rw [h7, h6, show kByte.sz = 1 from rfl, Nat.mul_one, Nat.add_zero]
        exact h2
    · cases hi

theorem ints_row {w : World} {a : Option Addr} {len cap : Nat} {zs : List Int}
    (h : (a = none ∧ len = 0 ∧ cap = 0 ∧ zs = []) ∨ ∃ x, a = some x ∧ len ≤ cap ∧ cap ≤ maxLen ∧ zs.length = cap ∧ (∀ i, i < zs.length → w.cell? (x.add i) = some (.int .i64 (zs.getD i 0))) ∧ ∀ n ∈ zs, (Lit.int .i64 n).wf = true) :
    Sl kInt All w (.slice a len cap) (zs.take len) := by
  rcases h with ⟨rfl, rfl, rfl, rfl⟩ | ⟨x, rfl, hl, hm, hz, hc, _⟩
  · exact Sl.nil_ _ _ _
  · have hlen : (zs.take len).length = len := by rw [List.length_take]; omega
    refine ⟨some x, cap, by rw [hlen], by omega, hm, fun h0 => ?_⟩
    rw [hlen] at h0
    have h1 := add_at (hc 0 (by omega))
    refine ⟨x.block, x.off, by have := h1 0; rw [show x.add 0 = x from rfl] at this; rw [this], trivial, fun i y hi => ⟨_, rfl, fun j u hu => ?_⟩⟩
    rw [List.getElem?_take] at hi
    split at hi
    · have h2 := hc i (by omega)
      rw [h1 i] at h2
      have h3 : zs[i]? = some (zs.getD i 0) := by
        rw [List.getD_eq_getElem?_getD, List.getElem?_eq_getElem (by omega)]
        rfl
      rw [h3] at hi
      have h4 : y = zs.getD i 0 := (Option.some.inj hi).symm
      cases j with
      | succ j => simp at hu
      | zero =>
        have h7 : u = .int .i64 y := by simpa using hu.symm
        rw [h7, h4, show kInt.sz = 1 from rfl, Nat.mul_one, Nat.add_zero]
        exact h2
    · cases hi
end Go.Proofs.Ytblogahililddaa
