/- (*wire.Reader).number. -/
import Derived.Test.YtoaamcpiljoojaaDoorDec
import Derived.Test.YtoaamcpiljoojaaDoorE
import Derived.Deep.QuietTactic
import Derived.BigQuiet
import Derived.Laws.BitsLemmas
import Derived.Laws.Bits64
import Derived.Laws.BitsAllLaws
namespace Go.Proofs.YtoaamcpiljoojaaDoor
open Go.RowKit

set_option maxRecDepth 100000 in
theorem andNot128 : ∀ x : Nat, x < 256 → bits .andNot .u8 (x : Int) 128 = ((x % 128 : Nat) : Int) := by decide
theorem bits_or_comm (a b : Int) : bits .or .u64 a b = bits .or .u64 b a := by simp only [bits, BitVec.or_comm]
theorem step_lt {y x j : Nat} (hy : y < 128 ^ j) : y + x % 128 * 128 ^ j < 128 ^ (j + 1) := by
  have h1 : x % 128 * 128 ^ j ≤ 127 * 128 ^ j := Nat.mul_le_mul_right _ (by omega)
  rw [Nat.pow_succ]
  omega
theorem step_lt64 {y x j : Nat} (hy : y < 128 ^ j) (hj : j ≤ 9) (h9 : j = 9 → x ≤ 1) : y + x % 128 * 128 ^ j < 18446744073709551616 := by
  by_cases h : j = 9
  · subst h
    have h1 := h9 rfl
    have h2 : (128 : Nat) ^ 9 = 9223372036854775808 := by decide
    rw [h2] at hy ⊢
    have : x % 128 ≤ 1 := by omega
    have := Nat.mul_le_mul_right 9223372036854775808 this
    omega
  · have h1 := step_lt (x := x) hy
    have h2 : 128 ^ (j + 1) ≤ 128 ^ 9 := Nat.pow_le_pow_right (by decide) (by omega)
    have h3 : (128 : Nat) ^ 9 = 9223372036854775808 := by decide
    omega
theorem wrap_u64_nat {a : Nat} (h : a < 18446744073709551616) : IntKind.u64.wrap (a : Int) = (a : Int) := by rw [IntKind.wrap_u64]; omega
theorem or_step {y x j : Nat} (hx : x < 256) (hy : y < 128 ^ j) (hj : j ≤ 9) (h9 : j = 9 → x ≤ 1) :
    bits .or .u64 (y : Int) (IntKind.u64.wrap (IntKind.u64.wrap (bits .andNot .u8 (x : Int) 128) * 2 ^ (7 * j))) = ((y + x % 128 * 128 ^ j : Nat) : Int) := by
  have hlt := step_lt64 hy hj h9
  have hp : (128 : Nat) ^ j = 2 ^ (7 * j) := by rw [Nat.pow_mul]
  rw [andNot128 x hx, wrap_u64_nat (by omega), show ((x % 128 : Nat) : Int) * 2 ^ (7 * j) = ((x % 128 * 128 ^ j : Nat) : Int) by rw [hp]; simp, wrap_u64_nat (by omega), bits_or_comm]
  rw [hp] at hy hlt ⊢
  have h64 : ((2 : Int) ^ 64) = 18446744073709551616 := by decide
  have h1 := bits_join .u64 64 (by decide) (fun n h0 h1 => by rw [IntKind.wrap_u64]; rw [h64] at h1; omega) (7 * j) ((x % 128 * 2 ^ (7 * j) : Nat) : Int) ((y : Nat) : Int) (by omega) (by
    have : ((2 : Int) ^ (7 * j)) = ((2 ^ (7 * j) : Nat) : Int) := by simp
    rw [this]
    exact_mod_cast Nat.mul_mod_left _ _) (by rw [h64]; omega) (by omega) (by
    have : ((2 : Int) ^ (7 * j)) = ((2 ^ (7 * j) : Nat) : Int) := by simp
    rw [this]
    omega) (by rw [h64]; omega)
  rw [h1]
  omega

theorem and_one {Z : Nat} (h : Z < 18446744073709551616) : bits .and .u64 (Z : Int) 1 = ((Z % 2 : Nat) : Int) := by
  have h64 : ((2 : Int) ^ 64) = 18446744073709551616 := by decide
  have h1 := bits_mask .u64 64 (by decide) (fun n h0 h1 => by rw [IntKind.wrap_u64]; rw [h64] at h1; omega) 1 (by decide) (Z : Int) (by omega) (by rw [h64]; omega)
  have e1 : ((2 : Int) ^ 1 - 1) = 1 := by decide
  have e2 : ((2 : Int) ^ 1) = 2 := by decide
  rw [e1, e2] at h1
  rw [h1]
  omega
theorem xor_zero {a : Nat} (h : a < 9223372036854775808) : bits .xor .i64 (a : Int) 0 = (a : Int) := by
  show IntKind.i64.wrap ((BitVec.ofInt 64 (a : Int) ^^^ BitVec.ofInt 64 0).toNat : Int) = _
  rw [show BitVec.ofInt 64 0 = 0#64 by decide, BitVec.xor_zero, BitVec.toNat_ofInt, IntKind.wrap_i64]
  omega
theorem xor_ones {a : Nat} (h : a < 9223372036854775808) : bits .xor .i64 (a : Int) (-1) = -(a : Int) - 1 := by
  show IntKind.i64.wrap ((BitVec.ofInt 64 (a : Int) ^^^ BitVec.ofInt 64 (-1)).toNat : Int) = _
  rw [show BitVec.ofInt 64 (-1) = BitVec.allOnes 64 by decide, BitVec.xor_allOnes, BitVec.toNat_not, BitVec.toNat_ofInt, IntKind.wrap_i64]
  have e : (2 : Nat) ^ 64 = 18446744073709551616 := by decide
  rw [e]
  omega
theorem zag_bits {Z : Nat} (h : Z < 18446744073709551616) : bits .xor .i64 ((Z : Int) / 2) (wrap64 (-wrap64 (bits .and .u64 (Z : Int) 1))) = zag Z := by
  rw [and_one h, show ((Z : Int) / 2) = ((Z / 2 : Nat) : Int) by omega]
  unfold zag
  by_cases h2 : Z % 2 = 0
  · rw [if_pos h2, h2, show wrap64 (-wrap64 ((0 : Nat) : Int)) = 0 by kernel_rfl, xor_zero (by omega)]
  · rw [if_neg h2, show Z % 2 = 1 by omega, show wrap64 (-wrap64 ((1 : Nat) : Int)) = -1 by kernel_rfl, xor_ones (by omega)]

/-- What number answers. -/
def NumRes (qs : List Addr) (res : Except Nat (Nat × Nat)) (e : Ending) : Prop := match res with
  | .ok x => e = .returned (.tuple #[.int .i64 (zag x.1), .int .i64 x.2, .nilIface])
  | .error x => ∃ a, qs[x]? = some a ∧ e = .returned (.tuple #[.int .i64 0, .int .i64 0, errV a])
theorem NumRes.bad {qs : List Addr} {res : Except Nat (Nat × Nat)} {x : Nat} {a : Addr} (h : res = .error x) (ha : qs[x]? = some a) : NumRes qs res (.returned (.tuple #[.int .i64 0, .int .i64 0, .iface 175 (.pointer (some a))])) := by
  subst h
  exact ⟨a, ha, rfl⟩
theorem NumRes.good {qs : List Addr} {res : Except Nat (Nat × Nat)} {z k : Nat} (h : res = .ok (z, k)) : NumRes qs res (.returned (.tuple #[.int .i64 (zag z), .int .i64 k, .nilIface])) := by
  subst h
  rfl

set_option hygiene false in
set_option maxRecDepth 100000 in
set_option maxHeartbeats 2000000 in
theorem number_call {qs : List Addr} {w : World} {R n c pos : Nat} {A : Option Addr} {bs : List UInt8} {S : Nat → Prop} (h : Errs w qs) (k0 : w.cell? ⟨R, 0, none⟩ = some (.slice A n c)) (k1 : w.cell? ⟨R, 1, none⟩ = some (.int .i64 pos)) (hs : Sl kByte S w (.slice A n c) bs) (hp : pos ≤ n) (hn : n ≤ 1000000) :
    Calls Tryd.prog 111 #[.pointer (some ⟨R, 0, none⟩)] w fun e w' => NumRes qs (numGo (bs.drop pos) 0 0) e ∧ Fr All w w' := by
  have En := Lib.hid hs.len
  obtain ⟨aE, qE, gE⟩ := h.at 0 "sextet/api.ErrEnd" 3 rfl (by kernel_rfl)
  obtain ⟨aS, qS, gS⟩ := h.at 2 "sextet/api.ErrShape" 4 rfl (by kernel_rfl)
  have HE := Lib.hid qE
  have HS := Lib.hid qS
  clear qE qS h
  unfold errV at gE gS
  obtain ⟨res, hres⟩ : ∃ res, numGo (bs.drop pos) 0 0 = res := ⟨_, rfl⟩
  rw [hres]
  have Hr := Lib.hid hres
  clear hres
  go_enter Tryd.func111, Tryd.ntmps111
  go_wp2_with fail
  go_loopw [5, 6] (fun z i wr => ∃ (y j : Nat), z = .int .u64 y ∧ i = .int .i64 j ∧ j ≤ 9 ∧ Hid (y < 128 ^ j) ∧ Hid (numGo (bs.drop (pos + j)) j y = res) ∧ Fr All w wr) (fun _ i _ => 10 - (intOf i).toNat)
  case atStart => exact ⟨0, 0, rfl, rfl, by decide, (by decide : 0 < 128 ^ 0), Hr.out, Fr.refl _ _⟩
  case round =>
    obtain ⟨y, j, rfl, rfl, hj, HY, HG, HF⟩ := hrel
    have r0 := HF.cell trivial k0
    have r1 := HF.cell trivial k1
    have e0 := HF.cell (p := ⟨3, 0, none⟩) trivial gE
    have e2 := HF.cell (p := ⟨4, 0, none⟩) trivial gS
    have hw1 : IntKind.i64.wrap ((pos : Int) + (j : Int)) = (pos : Int) + (j : Int) := IntWalk.i64_in _ (by omega)
    by_cases hlt : pos + j < n
    · have hd : decide ((pos : Int) + (j : Int) ≥ (n : Int)) = false := decide_eq_false (by omega)
      obtain ⟨x, hx, _⟩ := get_of (l := bs) (k := pos + j) (by rw [En.out]; exact hlt)
      obtain ⟨b, o, hA, c0⟩ := (hs.all HF).at1 hx
      subst hA
      have Hx := Lib.hid hx
      have b0 : (0 : Int) ≤ (pos : Int) + (j : Int) := by omega
      have b1 : (pos : Int) + (j : Int) < (n : Int) := by omega
      have b2 : ((pos : Int) + (j : Int)).toNat = pos + j := by omega
      clear hx k0 k1 gE gS
      go_wp2_with fail
      go_quiet (fail)
      go_wp2_with fail
      go_quiet (fail)
      have hdrop : bs.drop (pos + j) = x :: bs.drop (pos + (j + 1)) := by
        obtain ⟨h1, h2⟩ := List.getElem?_eq_some_iff.1 Hx.out
        rw [List.drop_eq_getElem_cons h1, h2, Nat.add_assoc]
      have hg := HG.out
      rw [hdrop] at hg
      unfold numGo at hg
      have Hg := Lib.hid hg
      have hx256 : x.toNat < 256 := x.toNat_lt
      clear hg hdrop
      by_cases h9 : j = 9 ∧ 1 < x.toNat
      · have h1 : ((j : Int) == 9) = true := by rw [beq_iff_eq]; omega
        have h2 : decide ((x.toNat : Int) > 1) = true := decide_eq_true (by omega)
        go_wp2_with fail
        go_quiet (fail)
        go_wp2_with fail
        have hg := Hg.out
        rw [if_pos h9] at hg
        exact bodyPost_ret (v := .tuple #[.int .i64 0, .int .i64 0, .iface 175 (.pointer (some aS))]) (by simp [results, Tryd.results111, go_sem]) rfl ⟨NumRes.bad hg.symm HS.out, (HF.drewN _).drewN _⟩
      · obtain ⟨Z, hZ⟩ : ∃ Z, y + x.toNat % 128 * 128 ^ j = Z := ⟨_, rfl⟩
        have h99 : j = 9 → x.toNat ≤ 1 := fun h => by omega
        have hor := or_step hx256 HY.out hj h99
        have hZ64 := step_lt64 HY.out hj h99
        have hZp := step_lt (x := x.toNat) HY.out
        rw [hZ] at hor hZ64 hZp
        have HZ := Lib.hid hZ
        have HZp := Lib.hid hZp
        have hg := Hg.out
        rw [if_neg h9] at hg
        have Hg2 := Lib.hid hg
        clear hZ hZp hg
        have hcases : ((j : Int) == 9) = false ∨ (((j : Int) == 9) = true ∧ decide ((x.toNat : Int) > 1) = false) := by
          by_cases hj9 : j = 9
          · exact .inr ⟨by rw [beq_iff_eq]; omega, decide_eq_false (by omega)⟩
          · exact .inl (by rw [beq_eq_false_iff_ne]; omega)
        rcases hcases with h1 | ⟨h1, h2⟩
        · skip
          by_cases hge : 128 ≤ x.toNat
          · have hd2 : decide ((x.toNat : Int) ≥ 128) = true := decide_eq_true (by omega)
            go_wp2_with fail
            go_roundw
            case rel =>
              have hg := Hg2.out
              rw [if_pos hge, HZ.out] at hg
              exact ⟨Z, j + 1, rfl, by go_num, by omega, HZp.out, hg, HF.drewN _⟩
            case measure => simp [intOf]; omega
          · have hd2 : decide ((x.toNat : Int) ≥ 128) = false := decide_eq_false (by omega)
            have hg := Hg2.out
            rw [if_neg hge] at hg
            have Hg3 := Lib.hid hg
            clear hg
            by_cases h0 : x.toNat = 0 ∧ 0 < j
            · have h3 : ((x.toNat : Int) == 0) = true := by rw [beq_iff_eq]; omega
              have h4 : decide ((j : Int) > 0) = true := decide_eq_true (by omega)
              go_wp2_with fail
              go_quiet (fail)
              go_wp2_with fail
              have hg := Hg3.out
              rw [if_pos h0] at hg
              exact bodyPost_ret (v := .tuple #[.int .i64 0, .int .i64 0, .iface 175 (.pointer (some aS))]) (by simp [results, Tryd.results111, go_sem]) rfl ⟨NumRes.bad hg.symm HS.out, (HF.drewN _).drewN _⟩
            · have hg := Hg3.out
              rw [if_neg h0, show x.toNat = x.toNat % 128 by omega, HZ.out] at hg
              have Hg4 := Lib.hid hg
              clear hg
              have hc2 : ((x.toNat : Int) == 0) = false ∨ (((x.toNat : Int) == 0) = true ∧ decide ((j : Int) > 0) = false) := by
                by_cases hx0 : x.toNat = 0
                · exact .inr ⟨by rw [beq_iff_eq]; omega, decide_eq_false (by omega)⟩
                · exact .inl (by rw [beq_eq_false_iff_ne]; omega)
              rcases hc2 with h3 | ⟨h3, h4⟩
              · have hzag := zag_bits hZ64
                go_wp2_with fail
                go_ret3
                exact ⟨NumRes.good Hg4.out.symm, HF.drewN _⟩
              · have hzag := zag_bits hZ64
                have h5 : decide (0 < j) = false := decide_eq_false (by have := of_decide_eq_false h4; omega)
                have h6 : ¬ 0 < j := of_decide_eq_false h5
                go_wp2_with fail
                go_ret3
                exact ⟨NumRes.good Hg4.out.symm, HF.drewN _⟩
        · skip
          by_cases hge : 128 ≤ x.toNat
          · have hd2 : decide ((x.toNat : Int) ≥ 128) = true := decide_eq_true (by omega)
            go_wp2_with fail
            go_roundw
            case rel =>
              have hg := Hg2.out
              rw [if_pos hge, HZ.out] at hg
              exact ⟨Z, j + 1, rfl, by go_num, by omega, HZp.out, hg, HF.drewN _⟩
            case measure => simp [intOf]; omega
          · have hd2 : decide ((x.toNat : Int) ≥ 128) = false := decide_eq_false (by omega)
            have hg := Hg2.out
            rw [if_neg hge] at hg
            have Hg3 := Lib.hid hg
            clear hg
            by_cases h0 : x.toNat = 0 ∧ 0 < j
            · have h3 : ((x.toNat : Int) == 0) = true := by rw [beq_iff_eq]; omega
              have h4 : decide ((j : Int) > 0) = true := decide_eq_true (by omega)
              go_wp2_with fail
              go_quiet (fail)
              go_wp2_with fail
              have hg := Hg3.out
              rw [if_pos h0] at hg
              exact bodyPost_ret (v := .tuple #[.int .i64 0, .int .i64 0, .iface 175 (.pointer (some aS))]) (by simp [results, Tryd.results111, go_sem]) rfl ⟨NumRes.bad hg.symm HS.out, (HF.drewN _).drewN _⟩
            · have hg := Hg3.out
              rw [if_neg h0, show x.toNat = x.toNat % 128 by omega, HZ.out] at hg
              have Hg4 := Lib.hid hg
              clear hg
              have hc2 : ((x.toNat : Int) == 0) = false ∨ (((x.toNat : Int) == 0) = true ∧ decide ((j : Int) > 0) = false) := by
                by_cases hx0 : x.toNat = 0
                · exact .inr ⟨by rw [beq_iff_eq]; omega, decide_eq_false (by omega)⟩
                · exact .inl (by rw [beq_eq_false_iff_ne]; omega)
              rcases hc2 with h3 | ⟨h3, h4⟩
              · have hzag := zag_bits hZ64
                go_wp2_with fail
                go_ret3
                exact ⟨NumRes.good Hg4.out.symm, HF.drewN _⟩
              · have hzag := zag_bits hZ64
                have h5 : decide (0 < j) = false := decide_eq_false (by have := of_decide_eq_false h4; omega)
                have h6 : ¬ 0 < j := of_decide_eq_false h5
                go_wp2_with fail
                go_ret3
                exact ⟨NumRes.good Hg4.out.symm, HF.drewN _⟩
    · have hd : decide ((pos : Int) + (j : Int) ≥ (n : Int)) = true := decide_eq_true (by omega)
      clear k0 k1 gE gS
      go_wp2_with fail
      go_quiet (fail)
      go_wp2_with fail
      go_quiet (fail)
      go_wp2_with fail
      have hg := HG.out
      rw [List.drop_eq_nil_of_le (by rw [En.out]; omega)] at hg
      exact bodyPost_ret (v := .tuple #[.int .i64 0, .int .i64 0, .iface 175 (.pointer (some aE))]) (by simp [results, Tryd.results111, go_sem]) rfl ⟨NumRes.bad hg.symm HE.out, (HF.drewN _).drewN _⟩
end Go.Proofs.YtoaamcpiljoojaaDoor
