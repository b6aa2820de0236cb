/- No record's bytes begin another's. -/
import Derived.Test.YtoaamcpiljoojaaDoorRBytes
namespace Go.Proofs.YtoaamcpiljoojaaDoor
open Go.RowKit

theorem u8_ofNat_inj {a b : Nat} (ha : a < 256) (hb : b < 256) (h : UInt8.ofNat a = UInt8.ofNat b) : a = b := by
  have h1 := congrArg UInt8.toNat h
  rwa [UInt8.toNat_ofNat_of_lt' (by simpa only [UInt8.size] using ha), UInt8.toNat_ofNat_of_lt' (by simpa only [UInt8.size] using hb)] at h1

theorem vint_inj : ∀ (x y : Nat) (p q : List UInt8), vint x ++ p = vint y ++ q → x = y ∧ p = q := fun x => by
  induction x using Nat.strongRecOn with
  | _ x ih =>
    intro y p q h
    by_cases hx : x < 128
    · rw [vint_small hx] at h
      by_cases hy : y < 128
      · rw [vint_small hy] at h
        simp only [List.cons_append, List.nil_append, List.cons.injEq] at h
        exact ⟨u8_ofNat_inj (by omega) (by omega) h.1, h.2⟩
      · rw [vint_great hy] at h
        simp only [List.cons_append, List.nil_append, List.cons.injEq] at h
        have := u8_ofNat_inj (by omega) (by omega) h.1
        omega
    · rw [vint_great hx] at h
      by_cases hy : y < 128
      · rw [vint_small hy] at h
        simp only [List.cons_append, List.nil_append, List.cons.injEq] at h
        have := u8_ofNat_inj (by omega) (by omega) h.1
        omega
      · rw [vint_great hy] at h
        simp only [List.cons_append, List.cons.injEq] at h
        have h1 := u8_ofNat_inj (by omega) (by omega) h.1
        obtain ⟨h2, h3⟩ := ih (x / 128) (by omega) (y / 128) p q h.2
        exact ⟨by omega, h3⟩

theorem zig_inj {m n : Int} (h : zig m = zig n) : m = n := by
  unfold zig at h
  split at h <;> split at h <;> omega

theorem vints_inj : ∀ (l m : List Int) (p q : List UInt8), l.length = m.length → vints l ++ p = vints m ++ q → l = m ∧ p = q
  | [], [], p, q, _, h => ⟨rfl, h⟩
  | [], _ :: _, _, _, h, _ => by simp at h
  | _ :: _, [], _, _, h, _ => by simp at h
  | a :: l, b :: m, p, q, hl, h => by
    simp only [vints, List.flatMap_cons, List.append_assoc] at h
    obtain ⟨h1, h2⟩ := vint_inj _ _ _ _ h
    obtain ⟨h3, h4⟩ := vints_inj l m p q (by simpa using hl) h2
    exact ⟨by rw [zig_inj h1, h3], h4⟩

theorem bytesOf_inj {a b p q : List UInt8} (h : bytesOf a ++ p = bytesOf b ++ q) : a = b ∧ p = q := by
  simp only [bytesOf, List.append_assoc] at h
  obtain ⟨h1, h2⟩ := vint_inj _ _ _ _ h
  have h3 := zig_inj h1
  exact List.append_inj h2 (by omega)

theorem redoBytes_inj {r s : Redo} {p q : List UInt8} (h : redoBytes r ++ p = redoBytes s ++ q) : r = s ∧ p = q := by
  simp only [redoBytes, List.append_assoc] at h
  obtain ⟨h1, h2⟩ := vints_inj _ _ _ _ (by simp [redoNums]) h
  obtain ⟨h3, h4⟩ := bytesOf_inj h2
  obtain ⟨h5, h6⟩ := bytesOf_inj h4
  refine ⟨?_, h6⟩
  obtain ⟨lsn, back, epoch, group, page, kind, slot, key, val, last⟩ := r
  obtain ⟨lsn', back', epoch', group', page', kind', slot', key', val', last'⟩ := s
  simp only [redoNums, List.cons.injEq, and_true] at h1
  obtain ⟨rfl, rfl, rfl, rfl, rfl, rfl, rfl, h8⟩ := h1
  dsimp only at h3 h5
  subst h3
  subst h5
  have : last = last' := by
    cases last <;> cases last' <;> first | rfl | (simp at h8)
  rw [this]

theorem take_min_iff {r s : Redo} (n : Nat) (hn : n = min (redoBytes r).length (redoBytes s).length) : r = s ↔ (redoBytes r).take n = (redoBytes s).take n := by
  constructor
  · rintro rfl
    rfl
  · intro h
    by_cases hl : (redoBytes r).length ≤ (redoBytes s).length
    · rw [Nat.min_eq_left hl] at hn
      subst hn
      rw [List.take_length] at h
      have h1 := List.take_append_drop (redoBytes r).length (redoBytes s)
      rw [← h] at h1
      exact (redoBytes_inj (p := (redoBytes s).drop (redoBytes r).length) (q := []) (by rw [h1, List.append_nil])).1
    · rw [Nat.min_eq_right (by omega)] at hn
      subst hn
      rw [List.take_length] at h
      have h1 := List.take_append_drop (redoBytes s).length (redoBytes r)
      rw [h] at h1
      exact (redoBytes_inj (p := (redoBytes r).drop (redoBytes s).length) (q := []) (by rw [h1, List.append_nil])).1.symm
end Go.Proofs.YtoaamcpiljoojaaDoor
