/- Which error a record has, as plain Lean; a record's cells in a row. -/
import Derived.Test.YteclgcnndjcmmaaDoorD
namespace Go.Proofs.YteclgcnndjcmmaaDoor
open Go.RowKit

def inB (n b : Int) : Bool := decide (0 ≤ n) && decide (n < b)
theorem inB_iff {n b : Int} : inB n b = true ↔ 0 ≤ n ∧ n < b := by simp [inB]
theorem inB_false {n b : Int} : inB n b = false ↔ ¬ (0 ≤ n ∧ n < b) := by rw [← inB_iff]; simp

/-- Which error. -/
def validIx (r : Redo) : Option Nat :=
  if decide (r.lsn < 1) || decide (r.lsn > 1099511627776) || !inB r.epoch 1073741825 || !inB r.group 4 || !inB r.page 256 then some 4
  else if decide (r.back < 0) || decide (r.back ≥ r.lsn) || !inB r.slot 32769 then some 4
  else if decide (r.kind < 1) || decide (r.kind > 6) then some 5
  else if decide ((r.key.length : Int) > 32) || decide ((r.val.length : Int) > 64) then some 3 else none


theorem validIx_none {r : Redo} (h : validIx r = none) : 1 ≤ r.lsn ∧ r.lsn ≤ 1099511627776 ∧ 0 ≤ r.epoch ∧ r.epoch < 1073741825 ∧ 0 ≤ r.group ∧ r.group < 4 ∧ 0 ≤ r.page ∧ r.page < 256 ∧ 0 ≤ r.back ∧ r.back < r.lsn ∧ 0 ≤ r.slot ∧ r.slot < 32769 ∧ 1 ≤ r.kind ∧ r.kind ≤ 6 ∧ r.key.length ≤ 32 ∧ r.val.length ≤ 64 := by
  have key : ∀ a b c d : Bool, (if a then some 4 else if b then some 4 else if c then some 5 else if d then some 3 else none : Option Nat) = none → a = false ∧ b = false ∧ c = false ∧ d = false := by decide
  obtain ⟨h1, h2, h3, h4⟩ := key _ _ _ _ h
  simp [inB] at h1 h2 h3 h4
  omega

/-- The record at a place of a row. -/
theorem redo_at {S : Nat → Prop} {w : World} {A : Option Addr} {n c : Nat} {xs : List Redo} (h : Sl kRedo S w (.slice A n c) xs) {k : Nat} {x : Redo} (hi : xs[k]? = some x) :
    ∃ b o A0 n0 c0 A1 n1 c1, A = some ⟨b, o, none⟩ ∧ w.cell? ⟨b, o + k * 10, none⟩ = some (.int .i64 x.lsn) ∧ w.cell? ⟨b, o + k * 10 + 1, none⟩ = some (.int .i64 x.back) ∧ w.cell? ⟨b, o + k * 10 + 2, none⟩ = some (.int .i64 x.epoch) ∧ w.cell? ⟨b, o + k * 10 + 3, none⟩ = some (.int .i64 x.group) ∧ w.cell? ⟨b, o + k * 10 + 4, none⟩ = some (.int .i64 x.page) ∧ w.cell? ⟨b, o + k * 10 + 5, none⟩ = some (.int .i64 x.kind) ∧ w.cell? ⟨b, o + k * 10 + 6, none⟩ = some (.int .i64 x.slot) ∧
      w.cell? ⟨b, o + k * 10 + 7, none⟩ = some (.slice A0 n0 c0) ∧ w.cell? ⟨b, o + k * 10 + 8, none⟩ = some (.slice A1 n1 c1) ∧ w.cell? ⟨b, o + k * 10 + 9, none⟩ = some (.bool x.last) ∧ Sl kByte S w (.slice A0 n0 c0) x.key ∧ Sl kByte S w (.slice A1 n1 c1) x.val := by
  obtain ⟨A', c', he, _, _, hx⟩ := h
  injection he with ha _ _
  subst ha
  have hk : k < xs.length := (List.getElem?_eq_some_iff.1 hi).1
  obtain ⟨b, o, rfl, _, hr⟩ := hx (by omega)
  obtain ⟨cs, hc, hcell⟩ := hr k x hi
  obtain ⟨v0, v1, rfl, h0, h1⟩ := kRedo_open hc
  obtain ⟨A0, n0, c0, rfl, _⟩ := h0.open_
  obtain ⟨A1, n1, c1, rfl, _⟩ := h1.open_
  exact ⟨b, o, A0, n0, c0, A1, n1, c1, rfl, hcell 0 _ rfl, hcell 1 _ rfl, hcell 2 _ rfl, hcell 3 _ rfl, hcell 4 _ rfl, hcell 5 _ rfl, hcell 6 _ rfl, hcell 7 _ rfl, hcell 8 _ rfl, hcell 9 _ rfl, h0, h1⟩
end Go.Proofs.YteclgcnndjcmmaaDoor
