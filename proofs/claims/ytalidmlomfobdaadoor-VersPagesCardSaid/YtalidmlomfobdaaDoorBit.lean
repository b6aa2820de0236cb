/- Bits of an int, as remainders. -/
import Derived.Test.YtalidmlomfobdaaDoorW
import Derived.Laws.BitsLemmas
namespace Go.Proofs.YtalidmlomfobdaaDoor
open Go.RowKit

theorem and_mod (n m : Int) (i : Nat) (h : (BitVec.ofInt 64 m).toNat = 2 ^ i - 1) (hi : i ≤ 62) : bits .and .i64 n m = n % ((2 ^ i : Nat) : Int) := by
  have key : (BitVec.ofInt 64 n &&& BitVec.ofInt 64 m).toNat = (n % ((2 ^ 64 : Nat) : Int)).toNat % 2 ^ i := by
    rw [BitVec.toNat_and, BitVec.toNat_ofInt, h, Nat.and_two_pow_sub_one_eq_mod]
  show IntKind.i64.wrap ((BitVec.ofInt 64 n &&& BitVec.ofInt 64 m).toNat : Nat) = _
  have hp : 2 ^ i ≤ 2 ^ 62 := Nat.pow_le_pow_right (by decide) hi
  have hp0 : 0 < 2 ^ i := Nat.two_pow_pos i
  have hd : (2 ^ i : Nat) ∣ 2 ^ 64 := Nat.pow_dvd_pow 2 (by omega)
  have hlt := Nat.mod_lt (n % ((2 ^ 64 : Nat) : Int)).toNat hp0
  have hm : ((n % ((2 ^ 64 : Nat) : Int)).toNat : Int) = n % ((2 ^ 64 : Nat) : Int) := Int.toNat_of_nonneg (Int.emod_nonneg _ (by decide))
  have he : (((n % ((2 ^ 64 : Nat) : Int)).toNat % 2 ^ i : Nat) : Int) = n % ((2 ^ i : Nat) : Int) := by
    rw [Int.natCast_emod, hm, Int.emod_emod_of_dvd _ (Int.natCast_dvd_natCast.2 hd)]
  rw [key, he, IntKind.wrap_i64]
  have h0 : 0 ≤ n % ((2 ^ i : Nat) : Int) := Int.emod_nonneg _ (by omega)
  have h1 : n % ((2 ^ i : Nat) : Int) < ((2 ^ i : Nat) : Int) := Int.emod_lt_of_pos _ (by omega)
  have h2 : ((2 ^ i : Nat) : Int) ≤ 4611686018427387904 := by
    have : (2 : Nat) ^ 62 = 4611686018427387904 := by decide
    omega
  omega
theorem and1 (n : Int) : bits .and .i64 n 1 = n % 2 := and_mod n 1 1 (by decide) (by decide)
theorem and31 (n : Int) : bits .and .i64 n 31 = n % 32 := and_mod n 31 5 (by decide) (by decide)
theorem and63 (n : Int) : bits .and .i64 n 63 = n % 64 := and_mod n 63 6 (by decide) (by decide)
/-- The bit of a mask, as the walk spells it. -/
def bitM (mask : Int) (i : Nat) : Bool := bits .and .i64 (mask / 2 ^ i) 1 == 1
theorem bitM_not (mask : Int) (i : Nat) : (bits .and .i64 (mask / 2 ^ i) 1 == 0) = !bitM mask i := by
  unfold bitM
  rw [and1]
  rcases Int.emod_two_eq (mask / 2 ^ i) with h | h <;> rw [h] <;> rfl
end Go.Proofs.YtalidmlomfobdaaDoor
