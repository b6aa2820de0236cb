/- sextetworld.Number. -/
import Derived.Test.YteclgcnndjcmmaaDoorClone
import Derived.IntWalk
namespace Go.Proofs.YteclgcnndjcmmaaDoor
open Go.RowKit

theorem number {n k : Int} (w : World) (hk : 0 < k) (hk2 : k ≤ 1000000) : Calls Tryd.prog 7 #[.int .i64 n, .int .i64 k] w fun e w' => ∃ r : Nat, (r : Int) < k ∧ e = .returned (.int .i64 r) ∧ w' = w := by
  have h0 : k ≠ 0 := by omega
  have h1 : (k == 0) = false := by rw [beq_eq_false_iff_ne]; exact h0
  have h2 : (k == -1) = false := by rw [beq_eq_false_iff_ne]; omega
  obtain ⟨m, hm⟩ : ∃ m, n.tmod k = m := ⟨_, rfl⟩
  have hm1 : -k < m ∧ m < k := by
    rw [← hm]
    have a1 := Int.natAbs_tmod n k
    have a2 : n.natAbs % k.natAbs < k.natAbs := Nat.mod_lt _ (by omega)
    omega
  have hw1 : IntKind.i64.wrap m = m := IntWalk.i64_in _ (by omega)
  have hw2 : IntKind.i64.wrap (m + k) = m + k := IntWalk.i64_in _ (by omega)
  by_cases hn : m < 0
  · have hd : decide (m < 0) = true := by rw [decide_eq_true_eq]; exact hn
    go_enter Tryd.func7, Tryd.ntmps7
    go_wp2_with fail
    go_ret
    exact ⟨(m + k).toNat, by omega, by rw [show ((m + k).toNat : Int) = m + k by omega]; rfl, rfl⟩
  · have hd : decide (m < 0) = false := by rw [decide_eq_false_iff_not]; exact hn
    go_enter Tryd.func7, Tryd.ntmps7
    go_wp2_with fail
    go_ret
    exact ⟨m.toNat, by omega, by rw [show (m.toNat : Int) = m by omega]; rfl, rfl⟩

/-- One less than a number that is not 0. -/
theorem number1 {n k : Int} (w : World) (hk : 0 < k) (hk2 : k ≤ 1000000) : Calls Tryd.prog 7 #[.int .i64 n, .int .i64 k] w fun e w' => ∃ r : Nat, 1 ≤ r ∧ (r : Int) ≤ k ∧ e = .returned (.int .i64 ((r : Int) - 1)) ∧ w' = w := by
  refine (number w hk hk2).mono ?_
  rintro e w' ⟨r, hr, rfl, hw⟩
  exact ⟨r + 1, by omega, by omega, by rw [show ((r + 1 : Nat) : Int) - 1 = (r : Int) by omega], hw⟩
end Go.Proofs.YteclgcnndjcmmaaDoor
