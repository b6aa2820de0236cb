/- sextetref.Ahead: whether bytes are ahead of bytes. -/
import Derived.Test.YtblogahililddaaFind
namespace Go.Proofs.Ytblogahililddaa
open Go.RowKit

theorem cmp_drop {xs ys : List UInt8} {j : Nat} {x y : UInt8} (hx : xs[j]? = some x) (hy : ys[j]? = some y) : Lib.compareBytes (xs.drop j) (ys.drop j) = if x < y then -1 else if y < x then 1 else Lib.compareBytes (xs.drop (j + 1)) (ys.drop (j + 1)) := by
  have e1 : xs.drop j = x :: xs.drop (j + 1) := by
    obtain ⟨h, he⟩ := List.getElem?_eq_some_iff.1 hx
    rw [List.drop_eq_getElem_cons h, he]
  have e2 : ys.drop j = y :: ys.drop (j + 1) := by
    obtain ⟨h, he⟩ := List.getElem?_eq_some_iff.1 hy
    rw [List.drop_eq_getElem_cons h, he]
  rw [e1, e2]
  rfl
theorem cmp_end : ∀ {xs ys : List UInt8}, (xs = [] ∨ ys = []) → decide (Lib.compareBytes xs ys < 0) = decide (xs.length < ys.length)
  | [], [], _ => rfl
  | [], _ :: _, _ => by simp [Lib.compareBytes]
  | _ :: _, [], _ => by simp [Lib.compareBytes]
  | _ :: _, _ :: _, h => by rcases h with h | h <;> cases h

set_option maxHeartbeats 1000000 in
theorem ahead {v u : Value} {xs ys : List UInt8} {S T : Nat → Prop} {w : World} (h : Sl kByte S w v xs) (k : Sl kByte T w u ys) (hn : xs.length ≤ 100000000000000) :
    Calls Try.prog 29 #[v, u] w fun e w' => e = .returned (.bool (decide (Lib.compareBytes xs ys < 0))) ∧ Fr All w w' := by
  obtain ⟨A, n, c, rfl, en, _⟩ := h.open_
  obtain ⟨B, m, d, rfl, em, _⟩ := k.open_
  rw [en] at hn
  have Hn := Lib.hid en
  have Hm := Lib.hid em
  clear en em
  go_enter Try.func29, Try.ntmps29
  go_wp2_with fail
  go_loopw [5] (fun i wr => ∃ j : Nat, j ≤ n ∧ j ≤ m ∧ i = .int .i64 j ∧ Hid (Lib.compareBytes xs ys = Lib.compareBytes (xs.drop j) (ys.drop j)) ∧ Fr All w wr) (fun i _ => n - (intOf i).toNat)
  case atStart => exact ⟨0, Nat.zero_le _, Nat.zero_le _, rfl, (rfl : Lib.compareBytes xs ys = Lib.compareBytes (xs.drop 0) (ys.drop 0)), Fr.refl _ _⟩
  case round =>
    obtain ⟨j, hj, hj', rfl, HT, HF⟩ := hrel
    by_cases hlt : j < n
    · by_cases hlt' : j < m
      · obtain ⟨x, hx, _⟩ := get_of (l := xs) (k := j) (by rw [Hn.out]; exact hlt)
        obtain ⟨y, hy, _⟩ := get_of (l := ys) (k := j) (by rw [Hm.out]; exact hlt')
        obtain ⟨b, o, rfl, c0⟩ := h.at1 hx
        obtain ⟨b', o', rfl, c1⟩ := k.at1 hy
        have c0' := HF.cell (p := ⟨b, o + j, none⟩) trivial c0
        have c1' := HF.cell (p := ⟨b', o' + j, none⟩) trivial c1
        have Hc := Lib.hid (HT.out.trans (cmp_drop hx hy))
        have b0 : (0 : Int) ≤ (j : Int) := by omega
        have b1 : (j : Int) < (n : Int) := by omega
        have b2 : (j : Int) < (m : Int) := by omega
        have hw1 : IntKind.i64.wrap ((j : Int) + 1) = (j : Int) + 1 := IntWalk.i64_in _ (by omega)
        clear hx hy c0 c1
        by_cases hxy : x = y
        · subst hxy
          go_wp2_with fail
          go_quiet (fail)
          go_wp2_with fail
          go_roundw
          case rel =>
            have h1 := Hc.out
            rw [if_neg (UInt8.lt_irrefl x), if_neg (UInt8.lt_irrefl x)] at h1
            exact ⟨j + 1, by omega, by omega, by go_num, h1, by first | exact HF.drewN _ | exact HF⟩
          case measure => simp [intOf]; omega
        · have hne := u8_eq x y
          rw [decide_eq_false hxy] at hne
          obtain ⟨g, hg⟩ : ∃ g : Bool, decide ((x.toNat : Int) < (y.toNat : Int)) = g := ⟨_, rfl⟩
          have hgs : decide (Lib.compareBytes xs ys < 0) = g := by
            rw [Hc.out, ← hg]
            by_cases hl : x < y
            · have h2 : (x.toNat : Int) < (y.toNat : Int) := by have := UInt8.lt_iff_toNat_lt.1 hl; omega
              rw [if_pos hl, decide_eq_true h2]
              rfl
            · have h2 : y < x := UInt8.lt_of_le_of_ne (UInt8.not_lt.1 hl) (Ne.symm hxy)
              have h3 : ¬(x.toNat : Int) < (y.toNat : Int) := by have := UInt8.lt_iff_toNat_lt.1 h2; omega
              rw [if_neg hl, if_pos h2, decide_eq_false h3]
              rfl
          have Hgs := Lib.hid hgs
          clear hgs
          go_wp2_with fail
          go_quiet (fail)
          go_wp2_with fail
          go_quiet (fail)
          go_wp2_with fail
          go_ret
          exact ⟨ret_bool (by first | exact Hgs.out.symm | (rw [Hgs.out, ← hg]; simp)), by first | exact (HF.drewN _).drewN _ | exact HF.drewN _ | exact HF⟩
      · obtain rfl : j = m := by omega
        have hdd := cmp_end (xs := xs.drop j) (ys := ys.drop j) (.inr (List.drop_of_length_le (by rw [Hm.out]; omega)))
        rw [← HT.out, List.length_drop, List.length_drop, Hn.out, Hm.out] at hdd
        have Hdd := Lib.hid hdd
        clear hdd
        have hnm : ¬ n < j := by omega
        go_wp2_with fail
        go_ret
        exact ⟨ret_bool (by rw [Hdd.out]; first | (simp; done) | (simp; omega)), HF⟩
    · obtain rfl : j = n := by omega
      have hdd := cmp_end (xs := xs.drop j) (ys := ys.drop j) (.inl (List.drop_of_length_le (by rw [Hn.out]; omega)))
      rw [← HT.out, List.length_drop, List.length_drop, Hn.out, Hm.out] at hdd
      have Hdd := Lib.hid hdd
      clear hdd
      go_wp2_with fail
      go_ret
      exact ⟨ret_bool (by rw [Hdd.out]; first | (simp; done) | (simp; omega)), HF⟩
end Go.Proofs.Ytblogahililddaa
