/- sextetref.SameInts. -/
import Derived.Test.YtppjpfgjophgkaaDoorRef
namespace Go.Proofs.YtppjpfgjophgkaaDoor
open Go.RowKit

set_option maxHeartbeats 1000000 in
theorem same_ints {v u : Value} {xs ys : List Int} {S T : Nat → Prop} {w : World} (h : Sl kInt S w v xs) (k : Sl kInt T w u ys) (hn : xs.length ≤ 100000000000000) :
    Calls Tryd.prog 24 #[v, u] w fun e w' => e = .returned (.bool (decide (xs = ys))) ∧ Fr All w w' := by
  obtain ⟨A, n, c, rfl, en, _⟩ := h.open_
  obtain ⟨B, m, d, rfl, em, _⟩ := k.open_
  rw [en] at hn
  by_cases hl : n = m
  · subst hl
    have Hn := Lib.hid en
    have Hm := Lib.hid em
    clear en em
    go_enter Tryd.func24, Tryd.ntmps24
    go_wp2_with fail
    go_loopw [5] (fun i wr => ∃ k : Nat, k ≤ n ∧ i = .int .i64 k ∧ Hid (xs.take k = ys.take k) ∧ Fr All w wr) (fun i _ => n - (intOf i).toNat)
    case atStart => exact ⟨0, Nat.zero_le _, rfl, (rfl : xs.take 0 = ys.take 0), Fr.refl _ _⟩
    case round =>
      obtain ⟨j, hj, rfl, HT, HF⟩ := hrel
      by_cases hlt : j < n
      · obtain ⟨x, hx, _⟩ := get_of (l := xs) (k := j) (by rw [Hn.out]; exact hlt)
        obtain ⟨y, hy, _⟩ := get_of (l := ys) (k := j) (by rw [Hm.out]; exact hlt)
        obtain ⟨b, o, rfl, c0⟩ := h.at1 hx
        obtain ⟨b', o', rfl, c1⟩ := k.at1 hy
        have c0' := HF.cell (p := ⟨b, o + j, none⟩) trivial c0
        have c1' := HF.cell (p := ⟨b', o' + j, none⟩) trivial c1
        have Hx := Lib.hid hx
        have Hy := Lib.hid hy
        have b0 : (0 : Int) ≤ (j : Int) := by omega
        have b1 : (j : Int) < (n : Int) := by omega
        clear hx hy c0 c1
        by_cases hxy : x = y
        · subst hxy
          go_wp2_with fail
          go_quiet (fail)
          go_wp2_with fail
          go_roundw
          case rel => exact ⟨j + 1, by omega, by go_num, (by rw [take_snoc Hx.out, take_snoc Hy.out, HT.out] : xs.take (j + 1) = ys.take (j + 1)), by first | exact HF.drewN _ | exact HF⟩
          case measure => simp [intOf]; omega
        · have hne : (x == y) = false := beq_false_of_ne hxy
          have Hxy := Lib.hid hxy
          clear hxy
          go_wp2_with fail
          go_quiet (fail)
          go_wp2_with fail
          go_ret
          have hF : decide (xs = ys) = false := decide_eq_false fun he => by
            have h1 := Hx.out
            rw [he, Hy.out] at h1
            exact Hxy.out (Option.some.inj h1).symm
          exact ⟨ret_bool hF.symm, HF.drewN _⟩
      · obtain rfl : j = n := by omega
        go_wp2_with fail
        go_ret
        exact ⟨ret_bool (decide_eq_true (take_eq_of Hn.out Hm.out (Nat.le_refl _) HT.out)).symm, HF⟩
  · have he : ((n : Int) != (m : Int)) = true := by rw [bne_iff_ne]; omega
    go_enter Tryd.func24, Tryd.ntmps24
    go_wp2_with fail
    go_ret
    exact ⟨ret_bool (decide_eq_false (fun h => by rw [h] at en; omega)).symm, Fr.refl _ _⟩

end Go.Proofs.YtppjpfgjophgkaaDoor
