/- Numbers read from bytes, as plain Lean: what is read is what was put. -/
import Derived.Test.YtoaamcpiljoojaaDoorPre
namespace Go.Proofs.YtoaamcpiljoojaaDoor
open Go.RowKit

/-- The number at the front: its value and how many bytes; or which error. -/
def numGo : List UInt8 → Nat → Nat → Except Nat (Nat × Nat)
  | [], _, _ => .error 0
  | c :: r, i, z =>
    if i = 9 ∧ 1 < c.toNat then .error 2
    else if 128 ≤ c.toNat then numGo r (i + 1) (z + c.toNat % 128 * 128 ^ i)
    else if c.toNat = 0 ∧ 0 < i then .error 2
    else .ok (z + c.toNat * 128 ^ i, i + 1)
def zag (z : Nat) : Int := if z % 2 = 0 then ((z / 2 : Nat) : Int) else -((z / 2 : Nat) : Int) - 1
theorem zig_zag (z : Nat) : zig (zag z) = z := by
  unfold zag zig
  split <;> split <;> omega
theorem zag_zig (n : Int) : zag (zig n) = n := by
  unfold zag zig
  split <;> split <;> omega

theorem u8_self (c : UInt8) : UInt8.ofNat c.toNat = c := UInt8.ofNat_toNat

theorem numGo_ok : ∀ (l : List UInt8) (i z z' k : Nat), numGo l i z = .ok (z', k) → ∃ m, z' = z + m * 128 ^ i ∧ i < k ∧ k - i ≤ l.length ∧ l.take (k - i) = vint m ∧ (0 < i → 0 < m)
  | [], i, z, z', k, h => by simp [numGo] at h
  | c :: r, i, z, z', k, h => by
    have hc : c.toNat < 256 := c.toNat_lt
    unfold numGo at h
    split at h
    · cases h
    split at h
    · rename_i hge
      obtain ⟨m, h1, h2, h3, h4, h5⟩ := numGo_ok r (i + 1) _ z' k h
      have hm := h5 (Nat.succ_pos _)
      refine ⟨c.toNat % 128 + 128 * m, ?_, by omega, by simp only [List.length_cons]; omega, ?_, fun _ => by omega⟩
      · rw [h1, Nat.pow_succ, Nat.add_mul, Nat.add_assoc, Nat.mul_comm (128 ^ i) 128, ← Nat.mul_assoc, Nat.mul_comm m 128]
      · rw [vint_great (by omega), show k - i = (k - (i + 1)) + 1 by omega, List.take_succ_cons, h4, show (c.toNat % 128 + 128 * m) / 128 = m by omega, show (c.toNat % 128 + 128 * m) % 128 + 128 = c.toNat by omega, u8_self]
    split at h
    · cases h
    · rename_i hlt hz
      injection h with h
      injection h with h1 h2
      refine ⟨c.toNat, h1.symm, by omega, by simp only [List.length_cons]; omega, ?_, fun hi => by omega⟩
      rw [vint_small (by omega), u8_self, show k - i = 1 by omega]
      rfl

theorem numGo_vint : ∀ (m : Nat) (r : List UInt8) (i z : Nat), m * 128 ^ i < 18446744073709551616 → (0 < i → 0 < m) → numGo (vint m ++ r) i z = .ok (z + m * 128 ^ i, i + (vint m).length) := fun m => by
  induction m using Nat.strongRecOn with
  | _ m ih =>
    intro r i z hb hp
    have hi9 : 9 < i → m = 0 := fun h9 => by
      have h1 : 128 ^ 10 ≤ 128 ^ i := Nat.pow_le_pow_right (by decide) h9
      have h2 : (128 : Nat) ^ 10 = 1180591620717411303424 := by decide
      rcases Nat.eq_zero_or_pos m with h | h
      · exact h
      · have := Nat.mul_le_mul h h1
        omega
    have hi : i ≤ 9 := by
      rcases Nat.lt_or_ge 9 i with h | h
      · have := hi9 h
        have := hp (by omega)
        omega
      · exact h
    by_cases hm : m < 128
    · rw [vint_small hm]
      have ht : (UInt8.ofNat m).toNat = m := by rw [UInt8.toNat_ofNat_of_lt' (by simp only [UInt8.size]; omega)]
      show numGo (UInt8.ofNat m :: r) i z = _
      unfold numGo
      rw [ht, if_neg, if_neg (by omega), if_neg]
      · rfl
      · rintro ⟨h1, h2⟩
        have := hp h2
        omega
      · rintro ⟨rfl, h2⟩
        have : (128 : Nat) ^ 9 = 9223372036854775808 := by decide
        omega
    · rw [vint_great hm]
      have ht : (UInt8.ofNat (m % 128 + 128)).toNat = m % 128 + 128 := by rw [UInt8.toNat_ofNat_of_lt' (by simp only [UInt8.size]; omega)]
      have hi8 : i ≤ 8 := by
        rcases Nat.lt_or_ge 8 i with h | h
        · have : i = 9 := by omega
          subst this
          have : (128 : Nat) ^ 9 = 9223372036854775808 := by decide
          omega
        · exact h
      show numGo (UInt8.ofNat (m % 128 + 128) :: (vint (m / 128) ++ r)) i z = _
      unfold numGo
      have hpow : 128 ^ (i + 1) = 128 * 128 ^ i := by rw [Nat.pow_succ, Nat.mul_comm]
      have hle : m / 128 * 128 ^ (i + 1) ≤ m * 128 ^ i := by
        rw [hpow, ← Nat.mul_assoc]
        exact Nat.mul_le_mul_right _ (Nat.div_mul_le_self m 128)
      rw [ht, if_neg (by omega), if_pos (by omega), ih (m / 128) (by omega) r (i + 1) _ (by omega) (fun _ => by omega)]
      congr 1
      rw [List.length_cons, show i + 1 + (vint (m / 128)).length = i + ((vint (m / 128)).length + 1) by omega]
      congr 1
      rw [hpow, show (m % 128 + 128) % 128 = m % 128 by omega, Nat.add_assoc, ← Nat.mul_assoc, ← Nat.add_mul, show m % 128 + m / 128 * 128 = m by omega]

theorem numGo_cut : ∀ (m j i z : Nat), m * 128 ^ i < 18446744073709551616 → (0 < i → 0 < m) → j < (vint m).length → numGo ((vint m).take j) i z = .error 0 := fun m => by
  induction m using Nat.strongRecOn with
  | _ m ih =>
    intro j i z hb hp hj
    cases j with
    | zero => rfl
    | succ j =>
      by_cases hm : m < 128
      · rw [vint_small hm] at hj
        simp at hj
      · rw [vint_great hm] at hj ⊢
        have ht : (UInt8.ofNat (m % 128 + 128)).toNat = m % 128 + 128 := by rw [UInt8.toNat_ofNat_of_lt' (by simp only [UInt8.size]; omega)]
        have hi8 : i ≤ 8 := by
          rcases Nat.lt_or_ge 8 i with h | h
          · have h1 : 128 ^ 9 ≤ 128 ^ i := Nat.pow_le_pow_right (by decide) h
            have h2 : (128 : Nat) ^ 9 = 9223372036854775808 := by decide
            have := Nat.mul_le_mul (show 128 ≤ m by omega) h1
            omega
          · exact h
        have hpow : 128 ^ (i + 1) = 128 * 128 ^ i := by rw [Nat.pow_succ, Nat.mul_comm]
        have hle : m / 128 * 128 ^ (i + 1) ≤ m * 128 ^ i := by
          rw [hpow, ← Nat.mul_assoc]
          exact Nat.mul_le_mul_right _ (Nat.div_mul_le_self m 128)
        rw [List.take_succ_cons]
        unfold numGo
        rw [ht, if_neg (by omega), if_pos (by omega)]
        exact ih (m / 128) (by omega) j (i + 1) _ (by omega) (fun _ => by omega) (by simpa using hj)
end Go.Proofs.YtoaamcpiljoojaaDoor
