/- A page's records that come one by one, from the last to the first; the page they make. -/
import Derived.Test.YtalidmlomfobdaaDoorHGp
import Derived.Test.YtalidmlomfobdaaDoorVAt
namespace Go.Proofs.YtalidmlomfobdaaDoor
open Go.RowKit

def byte11 (i : Nat) : UInt8 := UInt8.ofNat (i % 256)
/-- The i-th record, from one on. -/
def rec11 (p i : Nat) : Redo := ⟨i, (i : Int) - 1, 0, 0, p, 2, i, [byte11 i], [], false⟩
theorem rec11_valid {p i : Nat} (hp : p < 256) (h1 : 1 ≤ i) (h8 : i ≤ 8) : validIx (rec11 p i) = none := by
  have a1 : decide ((i : Int) < 1) = false := decide_eq_false (by omega)
  have a2 : decide ((i : Int) > 1099511627776) = false := decide_eq_false (by omega)
  have a4 : decide ((i : Int) - 1 < 0) = false := decide_eq_false (by omega)
  have a5 : decide ((i : Int) - 1 ≥ (i : Int)) = false := decide_eq_false (by omega)
  have a6 : inB (p : Int) 256 = true := inB_iff.2 ⟨by omega, by omega⟩
  have a7 : inB (i : Int) 32769 = true := inB_iff.2 ⟨by omega, by omega⟩
  unfold validIx rec11
  dsimp only
  rw [a1, a2, a4, a5, a6, a7]
  rfl
/-- The log behind those from j on. -/
structure Rw (p n j : Nat) (s : HSt) : Prop where
  rise : Rise s.l
  mem : ∀ r, r ∈ s.l ↔ ∃ i, j < i ∧ i ≤ n ∧ r = rec11 p i
  len : s.l.length + j = n
  group : s.group = 0
  spans : s.spans = []
theorem Rw.new (p n : Nat) : Rw p n n (.new 0) := ⟨List.Pairwise.nil, fun r => ⟨fun h => (by simp [HSt.new] at h), fun ⟨i, h1, h2, _⟩ => by omega⟩, by simp [HSt.new], rfl, rfl⟩
section
variable {p n j : Nat} {s : HSt}
theorem Rw.fresh (h : Rw p n (j + 1) s) : isL s.l (rec11 p (j + 1)).lsn = false := by
  rw [isL_false]
  intro x hx he
  obtain ⟨i, h1, h2, rfl⟩ := (h.mem x).1 hx
  have : (i : Int) = ((j + 1 : Nat) : Int) := he
  omega
theorem Rw.add (h : Rw p n (j + 1) s) : Rw p n j (s.add (rec11 p (j + 1))) := by
  refine ⟨lins_rise h.rise h.fresh, fun r => ?_, ?_, h.group, h.spans⟩
  · show r ∈ lins s.l _ ↔ _
    rw [lins_mem, h.mem]
    constructor
    · rintro (rfl | ⟨i, h1, h2, rfl⟩)
      · exact ⟨j + 1, by omega, by have := h.len; omega, rfl⟩
      · exact ⟨i, by omega, h2, rfl⟩
    · rintro ⟨i, h1, h2, rfl⟩
      by_cases he : i = j + 1
      · subst he; exact .inl rfl
      · exact .inr ⟨i, by omega, h2, rfl⟩
  · show (lins s.l _).length + j = _
    rw [lins_len]
    have := h.len
    omega
def rows11 (p m : Nat) : List Redo := (List.range m).map fun i => rec11 p (i + 1)
theorem rows11_mem {m : Nat} {r : Redo} : r ∈ rows11 p m ↔ ∃ i, 0 < i ∧ i ≤ m ∧ r = rec11 p i := by
  unfold rows11
  rw [List.mem_map]
  constructor
  · rintro ⟨i, hi, rfl⟩
    rw [List.mem_range] at hi
    exact ⟨i + 1, by omega, by omega, rfl⟩
  · rintro ⟨i, h0, h1, rfl⟩
    obtain ⟨k, rfl⟩ : ∃ k, i = k + 1 := ⟨i - 1, by omega⟩
    exact ⟨k, by rw [List.mem_range]; omega, rfl⟩
theorem rows11_rise (p m : Nat) : Rise (rows11 p m) := by
  unfold Rise rows11
  rw [List.pairwise_map]
  refine List.pairwise_lt_range.imp fun {a b} h => ?_
  show ((a + 1 : Nat) : Int) < ((b + 1 : Nat) : Int)
  omega
theorem Rw.of (h : Rw p n 0 s) {m : Nat} (hm : m ≤ n) : ofL s.l p m = rows11 p m := by
  refine Rise.ext _ _ (ofL_rise h.rise _ _) (rows11_rise p m) fun r => ?_
  rw [ofL_mem, rows11_mem, h.mem]
  constructor
  · rintro ⟨⟨i, h0, h1, rfl⟩, _, h2⟩
    have h2 : (i : Int) ≤ (m : Int) := h2
    exact ⟨i, h0, by omega, rfl⟩
  · rintro ⟨i, h0, h1, rfl⟩
    exact ⟨⟨i, h0, by omega, rfl⟩, rfl, by show (i : Int) ≤ (m : Int); omega⟩
end
def ents11 (m : Nat) : List Ent := (List.range m).map fun i => ⟨[byte11 (i + 1)], []⟩
theorem page11 (p : Nat) : ∀ m, m ≤ 8 → pall (page0 p) (rows11 p m) = ⟨p, m, 0, -1, ents11 m⟩
  | 0, _ => rfl
  | m + 1, hm => by
    have e1 : rows11 p (m + 1) = rows11 p m ++ [rec11 p (m + 1)] := by unfold rows11; rw [List.range_succ, List.map_append]; rfl
    have e2 : ents11 (m + 1) = ents11 m ++ [⟨[byte11 (m + 1)], []⟩] := by unfold ents11; rw [List.range_succ, List.map_append]; rfl
    have hl : (ents11 m).length = m := by unfold ents11; simp
    rw [e1, pall_snoc, page11 p m (by omega), e2]
    have hc : ¬((rec11 p (m + 1)).page ≠ (⟨p, m, 0, -1, ents11 m⟩ : Page).id ∨ (rec11 p (m + 1)).lsn ≤ (⟨p, m, 0, -1, ents11 m⟩ : Page).lsn) := by
      rintro (h | h)
      · exact h rfl
      · have h : ((m + 1 : Nat) : Int) ≤ (m : Int) := h
        omega
    unfold papply
    rw [if_neg hc, if_neg (show ¬ (rec11 p (m + 1)).kind = 1 from (by decide : ¬ (2 : Int) = 1)), if_pos (show (rec11 p (m + 1)).kind = 2 from rfl), if_pos (show (ents11 m).length < 8 by rw [hl]; omega)]
    have hmin : min (rec11 p (m + 1)).slot.toNat (ents11 m).length = m := by
      rw [hl]
      show min ((m + 1 : Nat) : Int).toNat m = m
      omega
    dsimp only
    rw [hmin, List.take_of_length_le (by omega), List.drop_of_length_le (by omega)]
    rfl
theorem ents11_get {m i : Nat} (h : i < m) : (ents11 m)[i]? = some ⟨[byte11 (i + 1)], []⟩ := by
  unfold ents11
  rw [List.getElem?_map, List.getElem?_range h]
  rfl
theorem ents11_len (m : Nat) : (ents11 m).length = m := by unfold ents11; simp
end Go.Proofs.YtalidmlomfobdaaDoor
