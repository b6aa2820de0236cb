/- The document's Reader.Num. -/
import Derived.Test.YtoaamcpiljoojaaDoorDr
namespace Go.Proofs.YtoaamcpiljoojaaDoor
open Go.RowKit

set_option maxRecDepth 100000 in
theorem and127 : ∀ x : Nat, x < 256 → bits .and .u8 (x : Int) 127 = ((x % 128 : Nat) : Int) := by decide

/-- What Num answers, of what is read. -/
def numSt (low high : Int) (pos : Nat) : Except Nat (Nat × Nat) → Int × Nat × Option (Nat × Nat)
  | .error x => (0, pos, some (x, pos))
  | .ok x => if zag x.1 < low ∨ high < zag x.1 then (0, pos, some (4, pos)) else (zag x.1, pos + x.2, none)
theorem stNum_numSt (low high : Int) (bs : List UInt8) (pos : Nat) : stNum low high bs (pos, none) = numSt low high pos (numGo (bs.drop pos) 0 0) := by
  unfold stNum numSt
  cases numGo (bs.drop pos) 0 0 <;> rfl

theorem bits_xor_comm (a b : Int) : bits .xor .i64 a b = bits .xor .i64 b a := by simp only [bits, BitVec.xor_comm]

set_option hygiene false in
set_option maxRecDepth 100000 in
set_option maxHeartbeats 4000000 in
theorem dr_num {w0 : World} {R n c pos : Nat} {bs : List UInt8} {A : Option Addr} {w : World} {er : Option (Nat × Nat)} (h : Dr w0 R bs A n c w pos er) (low high : Int) :
    Calls Tryd.prog 94 #[.pointer (some ⟨R, 0, none⟩), .int .i64 low, .int .i64 high] w fun e w' => e = .returned (.int .i64 (stNum low high bs (pos, er)).1) ∧ Dr w0 R bs A n c w' (stNum low high bs (pos, er)).2.1 (stNum low high bs (pos, er)).2.2 ∧ Fr (fun b => b ≠ R) w w' := by
  cases er with
  | some x =>
    have H := Lib.hid h
    clear h
    go_enter Tryd.func94, Tryd.ntmps94
    go_wp2_with fail
    refine (dr_ok H.out).mono ?_
    rintro e wn ⟨rfl, hwn⟩
    obtain rfl := hwn.symm
    go_wp2_with fail
    go_ret
    exact ⟨rfl, H.out, Fr.refl _ _⟩
  | none =>
    obtain ⟨st, hst⟩ : ∃ st, stNum low high bs (pos, none) = st := ⟨_, rfl⟩
    rw [hst]
    obtain ⟨res, hres⟩ : ∃ res, numGo (bs.drop pos) 0 0 = res := ⟨_, rfl⟩
    have hst2 : st = numSt low high pos res := by rw [← hst, ← hres, stNum_numSt]
    have Hst := Lib.hid hst2
    have Hr := Lib.hid hres
    have k1 := h.k1
    have En := Lib.hid h.len
    have H := Lib.hid h
    have hpn := h.pos_le
    have hn6 := h.small
    clear hst hst2 hres h
    go_enter Tryd.func94, Tryd.ntmps94
    go_wp2_with fail
    refine (dr_ok H.out).mono ?_
    rintro e wn ⟨rfl, hwn⟩
    obtain rfl := hwn.symm
    clear hwn
    go_wp2_with fail
    go_loopw [7, 8] (fun z i wr => ∃ (y j : Nat), z = .int .u64 y ∧ i = .int .i64 ((pos : Int) + (j : Int)) ∧ j ≤ 9 ∧ Hid (y < 128 ^ j) ∧ Hid (numGo (bs.drop (pos + j)) j y = res) ∧ Fr All w wr) (fun _ i _ => pos + 10 - (intOf i).toNat)
    case atStart => exact ⟨0, 0, rfl, by simp, by decide, (by decide : 0 < 128 ^ 0), Hr.out, Fr.refl _ _⟩
    case round =>
      obtain ⟨y, j, rfl, rfl, hj, HY, HG, HF⟩ := hrel
      have H1 := Lib.hid (H.out.move HF)
      have r0 := H1.out.k0
      have r1 := H1.out.k1
      clear k1
      have hw1 : IntKind.i64.wrap ((pos : Int) + (j : Int)) = (pos : Int) + (j : Int) := IntWalk.i64_in _ (by omega)
      have hw0 : IntKind.i64.wrap ((pos : Int) + (j : Int) - (pos : Int)) = (j : Int) := by rw [IntWalk.i64_in _ (by omega)]; omega
      by_cases hlt : pos + j < n
      · have hd : decide ((pos : Int) + (j : Int) ≥ (n : Int)) = false := decide_eq_false (by omega)
        obtain ⟨x, hx, _⟩ := get_of (l := bs) (k := pos + j) (by rw [En.out]; exact hlt)
        obtain ⟨b, o, hA, c0⟩ := H1.out.sl.at1 hx
        subst hA
        have Hx := Lib.hid hx
        have b0 : (0 : Int) ≤ (pos : Int) + (j : Int) := by omega
        have b1 : (pos : Int) + (j : Int) < (n : Int) := by omega
        have b2 : ((pos : Int) + (j : Int)).toNat = pos + j := by omega
        have hdrop : bs.drop (pos + j) = x :: bs.drop (pos + (j + 1)) := by
          obtain ⟨h1, h2⟩ := List.getElem?_eq_some_iff.1 hx
          rw [List.drop_eq_getElem_cons h1, h2, Nat.add_assoc]
        have hg := HG.out
        rw [hdrop] at hg
        unfold numGo at hg
        have Hg := Lib.hid hg
        have hx256 : x.toNat < 256 := x.toNat_lt
        have hand := and127 x.toNat hx256
        clear hg hdrop hx
        go_upto_region 10 with (fail)
        by_cases h9 : j = 9 ∧ 1 < x.toNat
        · have h1 : ((j : Int) == 9) = true := by rw [beq_iff_eq]; omega
          have h2 : decide ((x.toNat : Int) > 1) = true := decide_eq_true (by omega)
          have hg := Hg.out
          rw [if_pos h9] at hg
          have es : st = (0, pos, some (2, pos)) := by rw [Hst.out, ← hg]; rfl
          have Es := Lib.hid es
          clear hg es hand
          go_wp2_with fail
          refine (dr_fail (x := 2) H1.out H1.out.pos_le).mono ?_
          rintro e w2 ⟨rfl, h2, f2⟩
          have H2 := Lib.hid h2
          clear h2
          go_wp2_with fail
          go_ret
          rw [Es.out]
          exact ⟨rfl, H2.out, (HF.mono fun _ _ => trivial).trans f2⟩
        · obtain ⟨Z, hZ⟩ : ∃ Z, y + x.toNat % 128 * 128 ^ j = Z := ⟨_, rfl⟩
          have h99 : j = 9 → x.toNat ≤ 1 := fun h => by omega
          have hor := or_step hx256 HY.out hj h99
          have hZ64 := step_lt64 HY.out hj h99
          have hZp := step_lt (x := x.toNat) HY.out
          rw [hZ] at hor hZ64 hZp
          rw [andNot128 _ hx256, wrap_u64_nat (show x.toNat % 128 < 18446744073709551616 by omega), show ((x.toNat % 128 : Nat) : Int) = (x.toNat : Int) % 128 by omega] at hor
          have HZ := Lib.hid hZ
          have HZp := Lib.hid hZp
          have hg := Hg.out
          rw [if_neg h9] at hg
          have Hg2 := Lib.hid hg
          have H9 := Lib.hid h9
          clear hZ hZp hg h9
          by_cases h0 : x.toNat = 0 ∧ 0 < j
          · have hg := Hg2.out
            rw [if_neg (by omega), if_pos h0] at hg
            have es : st = (0, pos, some (2, pos)) := by rw [Hst.out, ← hg]; rfl
            have Es := Lib.hid es
            have h3 : ((x.toNat : Int) == 0) = true := by rw [beq_iff_eq]; omega
            have h4 : decide ((j : Int) > 0) = true := decide_eq_true (by omega)
            have h2 : decide ((x.toNat : Int) > 1) = false := decide_eq_false (by omega)
            clear hg es hand hor
            cases h1 : (j : Int) == 9 with
            | true =>
              go_wp2_with fail
              refine (dr_fail (x := 2) H1.out H1.out.pos_le).mono ?_
              rintro e w2 ⟨rfl, h2, f2⟩
              have H2 := Lib.hid h2
              clear h2
              go_wp2_with fail
              go_ret
              rw [Es.out]
              exact ⟨rfl, H2.out, (HF.mono fun _ _ => trivial).trans f2⟩
            | false =>
              go_wp2_with fail
              refine (dr_fail (x := 2) H1.out H1.out.pos_le).mono ?_
              rintro e w2 ⟨rfl, h2, f2⟩
              have H2 := Lib.hid h2
              clear h2
              go_wp2_with fail
              go_ret
              rw [Es.out]
              exact ⟨rfl, H2.out, (HF.mono fun _ _ => trivial).trans f2⟩
          · have hcases : (((j : Int) == 9) = true ∧ decide ((x.toNat : Int) > 1) = false ∧ 0 < j ∧ decide ((j : Int) > 0) = true ∧ ((x.toNat : Int) == 0) = false) ∨ (((j : Int) == 9) = false ∧ ¬ 0 < j ∧ decide (0 < j) = false ∧ decide ((j : Int) > 0) = false) ∨ (((j : Int) == 9) = false ∧ 0 < j ∧ decide ((j : Int) > 0) = true ∧ ((x.toNat : Int) == 0) = false) := by
              have h9 := H9.out
              by_cases hj9 : j = 9
              · exact .inl ⟨by rw [beq_iff_eq]; omega, decide_eq_false (by omega), by omega, decide_eq_true (by omega), by rw [beq_eq_false_iff_ne]; omega⟩
              · by_cases hj0 : j = 0
                · exact .inr (.inl ⟨by rw [beq_eq_false_iff_ne]; omega, by omega, decide_eq_false (by omega), decide_eq_false (by omega)⟩)
                · exact .inr (.inr ⟨by rw [beq_eq_false_iff_ne]; omega, by omega, decide_eq_true (by omega), by rw [beq_eq_false_iff_ne]; omega⟩)
            have H0 := Lib.hid h0
            clear h0
            rcases hcases with ⟨h1, h2, hj0, h3, h4⟩ | ⟨h1, hj0, hj1, h3⟩ | ⟨h1, hj0, h3, h4⟩
            · skip
              by_cases hge : 128 ≤ x.toNat
              · have hd2 : decide ((x.toNat : Int) < 128) = false := decide_eq_false (by omega)
                have hg := Hg2.out
                rw [if_pos hge, HZ.out] at hg
                have Hg3 := Lib.hid hg
                clear hg
                go_wp2_with fail
                go_roundw
                case rel => exact ⟨Z, j + 1, rfl, by go_num, by have := H9.out; omega, HZp.out, Hg3.out, HF⟩
                case measure => simp [intOf]; omega
              · have hd2 : decide ((x.toNat : Int) < 128) = true := decide_eq_true (by omega)
                have hg := Hg2.out
                rw [if_neg hge, if_neg H0.out, show x.toNat = x.toNat % 128 by omega, HZ.out] at hg
                have es0 : st = if zag Z < low ∨ high < zag Z then (0, pos, some (4, pos)) else (zag Z, pos + (j + 1), none) := by rw [Hst.out, ← hg]; rfl
                have hand1 := and_one hZ64
                obtain ⟨v, hv⟩ : ∃ v, zag Z = v := ⟨_, rfl⟩
                rw [hv, ← Nat.add_assoc] at es0
                have Es0 := Lib.hid es0
                clear hg es0
                by_cases hp : Z % 2 = 1
                · rw [hp] at hand1
                  have hand2 : bits .and .u64 (Z : Int) 1 = 1 := hand1
                  have hbx : bits .xor .i64 (if IntKind.i64.signed = true then -1 else 9223372036854775807) ((Z : Int) / 2) = v := by
                    rw [← hv, show (if IntKind.i64.signed = true then (-1 : Int) else 9223372036854775807) = -1 from rfl, show ((Z : Int) / 2) = ((Z / 2 : Nat) : Int) by omega, bits_xor_comm, xor_ones (by omega)]
                    unfold zag
                    rw [if_neg (by omega)]
                  clear hp hand1 hv
                  by_cases hlow : v < low
                  · have hd : decide (v < low) = true := decide_eq_true hlow
                    have es : st = (0, pos, some (4, pos)) := by rw [Es0.out, if_pos (Or.inl hlow)]
                    have Es := Lib.hid es
                    clear hlow es
                    go_wp2_with fail
                    refine (dr_fail (x := 4) H1.out H1.out.pos_le).mono ?_
                    rintro e w2 ⟨rfl, h2, f2⟩
                    have H2 := Lib.hid h2
                    clear h2
                    go_wp2_with fail
                    go_ret
                    rw [Es.out]
                    exact ⟨rfl, H2.out, (HF.mono fun _ _ => trivial).trans f2⟩
                  · have hd : decide (v < low) = false := decide_eq_false hlow
                    by_cases hhigh : high < v
                    · have hd2 : decide (v > high) = true := decide_eq_true hhigh
                      have es : st = (0, pos, some (4, pos)) := by rw [Es0.out, if_pos (Or.inr hhigh)]
                      have Es := Lib.hid es
                      clear hlow hhigh es
                      go_wp2_with fail
                      refine (dr_fail (x := 4) H1.out H1.out.pos_le).mono ?_
                      rintro e w2 ⟨rfl, h2, f2⟩
                      have H2 := Lib.hid h2
                      clear h2
                      go_wp2_with fail
                      go_ret
                      rw [Es.out]
                      exact ⟨rfl, H2.out, (HF.mono fun _ _ => trivial).trans f2⟩
                    · have hd2 : decide (v > high) = false := decide_eq_false hhigh
                      have es : st = (v, pos + j + 1, none) := by rw [Es0.out, if_neg (by rintro (h | h) <;> contradiction)]
                      have Es := Lib.hid es
                      have kz := H1.out.kz
                      clear hlow hhigh es
                      go_wp2_with fail
                      go_ret
                      obtain ⟨h2, f2⟩ := H1.out.setPos (p2 := pos + j + 1) (by omega) (v := .int .i64 ((pos : Int) + (j : Int) + 1)) (by simp)
                      rw [Es.out]
                      exact ⟨rfl, h2, (HF.mono fun _ _ => trivial).trans f2⟩
                · rw [show Z % 2 = 0 by omega] at hand1
                  have hand2 : bits .and .u64 (Z : Int) 1 = 0 := hand1
                  have hbx : (Z : Int) / 2 = v := by
                    rw [← hv]
                    unfold zag
                    rw [if_pos (by omega)]
                    omega
                  clear hp hand1 hv
                  by_cases hlow : v < low
                  · have hd : decide (v < low) = true := decide_eq_true hlow
                    have es : st = (0, pos, some (4, pos)) := by rw [Es0.out, if_pos (Or.inl hlow)]
                    have Es := Lib.hid es
                    clear hlow es
                    go_wp2_with fail
                    refine (dr_fail (x := 4) H1.out H1.out.pos_le).mono ?_
                    rintro e w2 ⟨rfl, h2, f2⟩
                    have H2 := Lib.hid h2
                    clear h2
                    go_wp2_with fail
                    go_ret
                    rw [Es.out]
                    exact ⟨rfl, H2.out, (HF.mono fun _ _ => trivial).trans f2⟩
                  · have hd : decide (v < low) = false := decide_eq_false hlow
                    by_cases hhigh : high < v
                    · have hd2 : decide (v > high) = true := decide_eq_true hhigh
                      have es : st = (0, pos, some (4, pos)) := by rw [Es0.out, if_pos (Or.inr hhigh)]
                      have Es := Lib.hid es
                      clear hlow hhigh es
                      go_wp2_with fail
                      refine (dr_fail (x := 4) H1.out H1.out.pos_le).mono ?_
                      rintro e w2 ⟨rfl, h2, f2⟩
                      have H2 := Lib.hid h2
                      clear h2
                      go_wp2_with fail
                      go_ret
                      rw [Es.out]
                      exact ⟨rfl, H2.out, (HF.mono fun _ _ => trivial).trans f2⟩
                    · have hd2 : decide (v > high) = false := decide_eq_false hhigh
                      have es : st = (v, pos + j + 1, none) := by rw [Es0.out, if_neg (by rintro (h | h) <;> contradiction)]
                      have Es := Lib.hid es
                      have kz := H1.out.kz
                      clear hlow hhigh es
                      go_wp2_with fail
                      go_ret
                      obtain ⟨h2, f2⟩ := H1.out.setPos (p2 := pos + j + 1) (by omega) (v := .int .i64 ((pos : Int) + (j : Int) + 1)) (by simp)
                      rw [Es.out]
                      exact ⟨rfl, h2, (HF.mono fun _ _ => trivial).trans f2⟩
            · skip
              by_cases hge : 128 ≤ x.toNat
              · have hd2 : decide ((x.toNat : Int) < 128) = false := decide_eq_false (by omega)
                have hg := Hg2.out
                rw [if_pos hge, HZ.out] at hg
                have Hg3 := Lib.hid hg
                clear hg
                go_wp2_with fail
                go_roundw
                case rel => exact ⟨Z, j + 1, rfl, by go_num, by have := H9.out; omega, HZp.out, Hg3.out, HF⟩
                case measure => simp [intOf]; omega
              · have hd2 : decide ((x.toNat : Int) < 128) = true := decide_eq_true (by omega)
                have hg := Hg2.out
                rw [if_neg hge, if_neg H0.out, show x.toNat = x.toNat % 128 by omega, HZ.out] at hg
                have es0 : st = if zag Z < low ∨ high < zag Z then (0, pos, some (4, pos)) else (zag Z, pos + (j + 1), none) := by rw [Hst.out, ← hg]; rfl
                have hand1 := and_one hZ64
                obtain ⟨v, hv⟩ : ∃ v, zag Z = v := ⟨_, rfl⟩
                rw [hv, ← Nat.add_assoc] at es0
                have Es0 := Lib.hid es0
                clear hg es0
                by_cases hp : Z % 2 = 1
                · rw [hp] at hand1
                  have hand2 : bits .and .u64 (Z : Int) 1 = 1 := hand1
                  have hbx : bits .xor .i64 (if IntKind.i64.signed = true then -1 else 9223372036854775807) ((Z : Int) / 2) = v := by
                    rw [← hv, show (if IntKind.i64.signed = true then (-1 : Int) else 9223372036854775807) = -1 from rfl, show ((Z : Int) / 2) = ((Z / 2 : Nat) : Int) by omega, bits_xor_comm, xor_ones (by omega)]
                    unfold zag
                    rw [if_neg (by omega)]
                  clear hp hand1 hv
                  by_cases hlow : v < low
                  · have hd : decide (v < low) = true := decide_eq_true hlow
                    have es : st = (0, pos, some (4, pos)) := by rw [Es0.out, if_pos (Or.inl hlow)]
                    have Es := Lib.hid es
                    clear hlow es
                    go_wp2_with fail
                    refine (dr_fail (x := 4) H1.out H1.out.pos_le).mono ?_
                    rintro e w2 ⟨rfl, h2, f2⟩
                    have H2 := Lib.hid h2
                    clear h2
                    go_wp2_with fail
                    go_ret
                    rw [Es.out]
                    exact ⟨rfl, H2.out, (HF.mono fun _ _ => trivial).trans f2⟩
                  · have hd : decide (v < low) = false := decide_eq_false hlow
                    by_cases hhigh : high < v
                    · have hd2 : decide (v > high) = true := decide_eq_true hhigh
                      have es : st = (0, pos, some (4, pos)) := by rw [Es0.out, if_pos (Or.inr hhigh)]
                      have Es := Lib.hid es
                      clear hlow hhigh es
                      go_wp2_with fail
                      refine (dr_fail (x := 4) H1.out H1.out.pos_le).mono ?_
                      rintro e w2 ⟨rfl, h2, f2⟩
                      have H2 := Lib.hid h2
                      clear h2
                      go_wp2_with fail
                      go_ret
                      rw [Es.out]
                      exact ⟨rfl, H2.out, (HF.mono fun _ _ => trivial).trans f2⟩
                    · have hd2 : decide (v > high) = false := decide_eq_false hhigh
                      have es : st = (v, pos + j + 1, none) := by rw [Es0.out, if_neg (by rintro (h | h) <;> contradiction)]
                      have Es := Lib.hid es
                      have kz := H1.out.kz
                      clear hlow hhigh es
                      go_wp2_with fail
                      go_ret
                      obtain ⟨h2, f2⟩ := H1.out.setPos (p2 := pos + j + 1) (by omega) (v := .int .i64 ((pos : Int) + (j : Int) + 1)) (by simp)
                      rw [Es.out]
                      exact ⟨rfl, h2, (HF.mono fun _ _ => trivial).trans f2⟩
                · rw [show Z % 2 = 0 by omega] at hand1
                  have hand2 : bits .and .u64 (Z : Int) 1 = 0 := hand1
                  have hbx : (Z : Int) / 2 = v := by
                    rw [← hv]
                    unfold zag
                    rw [if_pos (by omega)]
                    omega
                  clear hp hand1 hv
                  by_cases hlow : v < low
                  · have hd : decide (v < low) = true := decide_eq_true hlow
                    have es : st = (0, pos, some (4, pos)) := by rw [Es0.out, if_pos (Or.inl hlow)]
                    have Es := Lib.hid es
                    clear hlow es
                    go_wp2_with fail
                    refine (dr_fail (x := 4) H1.out H1.out.pos_le).mono ?_
                    rintro e w2 ⟨rfl, h2, f2⟩
                    have H2 := Lib.hid h2
                    clear h2
                    go_wp2_with fail
                    go_ret
                    rw [Es.out]
                    exact ⟨rfl, H2.out, (HF.mono fun _ _ => trivial).trans f2⟩
                  · have hd : decide (v < low) = false := decide_eq_false hlow
                    by_cases hhigh : high < v
                    · have hd2 : decide (v > high) = true := decide_eq_true hhigh
                      have es : st = (0, pos, some (4, pos)) := by rw [Es0.out, if_pos (Or.inr hhigh)]
                      have Es := Lib.hid es
                      clear hlow hhigh es
                      go_wp2_with fail
                      refine (dr_fail (x := 4) H1.out H1.out.pos_le).mono ?_
                      rintro e w2 ⟨rfl, h2, f2⟩
                      have H2 := Lib.hid h2
                      clear h2
                      go_wp2_with fail
                      go_ret
                      rw [Es.out]
                      exact ⟨rfl, H2.out, (HF.mono fun _ _ => trivial).trans f2⟩
                    · have hd2 : decide (v > high) = false := decide_eq_false hhigh
                      have es : st = (v, pos + j + 1, none) := by rw [Es0.out, if_neg (by rintro (h | h) <;> contradiction)]
                      have Es := Lib.hid es
                      have kz := H1.out.kz
                      clear hlow hhigh es
                      go_wp2_with fail
                      go_ret
                      obtain ⟨h2, f2⟩ := H1.out.setPos (p2 := pos + j + 1) (by omega) (v := .int .i64 ((pos : Int) + (j : Int) + 1)) (by simp)
                      rw [Es.out]
                      exact ⟨rfl, h2, (HF.mono fun _ _ => trivial).trans f2⟩
            · skip
              by_cases hge : 128 ≤ x.toNat
              · have hd2 : decide ((x.toNat : Int) < 128) = false := decide_eq_false (by omega)
                have hg := Hg2.out
                rw [if_pos hge, HZ.out] at hg
                have Hg3 := Lib.hid hg
                clear hg
                go_wp2_with fail
                go_roundw
                case rel => exact ⟨Z, j + 1, rfl, by go_num, by have := H9.out; omega, HZp.out, Hg3.out, HF⟩
                case measure => simp [intOf]; omega
              · have hd2 : decide ((x.toNat : Int) < 128) = true := decide_eq_true (by omega)
                have hg := Hg2.out
                rw [if_neg hge, if_neg H0.out, show x.toNat = x.toNat % 128 by omega, HZ.out] at hg
                have es0 : st = if zag Z < low ∨ high < zag Z then (0, pos, some (4, pos)) else (zag Z, pos + (j + 1), none) := by rw [Hst.out, ← hg]; rfl
                have hand1 := and_one hZ64
                obtain ⟨v, hv⟩ : ∃ v, zag Z = v := ⟨_, rfl⟩
                rw [hv, ← Nat.add_assoc] at es0
                have Es0 := Lib.hid es0
                clear hg es0
                by_cases hp : Z % 2 = 1
                · rw [hp] at hand1
                  have hand2 : bits .and .u64 (Z : Int) 1 = 1 := hand1
                  have hbx : bits .xor .i64 (if IntKind.i64.signed = true then -1 else 9223372036854775807) ((Z : Int) / 2) = v := by
                    rw [← hv, show (if IntKind.i64.signed = true then (-1 : Int) else 9223372036854775807) = -1 from rfl, show ((Z : Int) / 2) = ((Z / 2 : Nat) : Int) by omega, bits_xor_comm, xor_ones (by omega)]
                    unfold zag
                    rw [if_neg (by omega)]
                  clear hp hand1 hv
                  by_cases hlow : v < low
                  · have hd : decide (v < low) = true := decide_eq_true hlow
                    have es : st = (0, pos, some (4, pos)) := by rw [Es0.out, if_pos (Or.inl hlow)]
                    have Es := Lib.hid es
                    clear hlow es
                    go_wp2_with fail
                    refine (dr_fail (x := 4) H1.out H1.out.pos_le).mono ?_
                    rintro e w2 ⟨rfl, h2, f2⟩
                    have H2 := Lib.hid h2
                    clear h2
                    go_wp2_with fail
                    go_ret
                    rw [Es.out]
                    exact ⟨rfl, H2.out, (HF.mono fun _ _ => trivial).trans f2⟩
                  · have hd : decide (v < low) = false := decide_eq_false hlow
                    by_cases hhigh : high < v
                    · have hd2 : decide (v > high) = true := decide_eq_true hhigh
                      have es : st = (0, pos, some (4, pos)) := by rw [Es0.out, if_pos (Or.inr hhigh)]
                      have Es := Lib.hid es
                      clear hlow hhigh es
                      go_wp2_with fail
                      refine (dr_fail (x := 4) H1.out H1.out.pos_le).mono ?_
                      rintro e w2 ⟨rfl, h2, f2⟩
                      have H2 := Lib.hid h2
                      clear h2
                      go_wp2_with fail
                      go_ret
                      rw [Es.out]
                      exact ⟨rfl, H2.out, (HF.mono fun _ _ => trivial).trans f2⟩
                    · have hd2 : decide (v > high) = false := decide_eq_false hhigh
                      have es : st = (v, pos + j + 1, none) := by rw [Es0.out, if_neg (by rintro (h | h) <;> contradiction)]
                      have Es := Lib.hid es
                      have kz := H1.out.kz
                      clear hlow hhigh es
                      go_wp2_with fail
                      go_ret
                      obtain ⟨h2, f2⟩ := H1.out.setPos (p2 := pos + j + 1) (by omega) (v := .int .i64 ((pos : Int) + (j : Int) + 1)) (by simp)
                      rw [Es.out]
                      exact ⟨rfl, h2, (HF.mono fun _ _ => trivial).trans f2⟩
                · rw [show Z % 2 = 0 by omega] at hand1
                  have hand2 : bits .and .u64 (Z : Int) 1 = 0 := hand1
                  have hbx : (Z : Int) / 2 = v := by
                    rw [← hv]
                    unfold zag
                    rw [if_pos (by omega)]
                    omega
                  clear hp hand1 hv
                  by_cases hlow : v < low
                  · have hd : decide (v < low) = true := decide_eq_true hlow
                    have es : st = (0, pos, some (4, pos)) := by rw [Es0.out, if_pos (Or.inl hlow)]
                    have Es := Lib.hid es
                    clear hlow es
                    go_wp2_with fail
                    refine (dr_fail (x := 4) H1.out H1.out.pos_le).mono ?_
                    rintro e w2 ⟨rfl, h2, f2⟩
                    have H2 := Lib.hid h2
                    clear h2
                    go_wp2_with fail
                    go_ret
                    rw [Es.out]
                    exact ⟨rfl, H2.out, (HF.mono fun _ _ => trivial).trans f2⟩
                  · have hd : decide (v < low) = false := decide_eq_false hlow
                    by_cases hhigh : high < v
                    · have hd2 : decide (v > high) = true := decide_eq_true hhigh
                      have es : st = (0, pos, some (4, pos)) := by rw [Es0.out, if_pos (Or.inr hhigh)]
                      have Es := Lib.hid es
                      clear hlow hhigh es
                      go_wp2_with fail
                      refine (dr_fail (x := 4) H1.out H1.out.pos_le).mono ?_
                      rintro e w2 ⟨rfl, h2, f2⟩
                      have H2 := Lib.hid h2
                      clear h2
                      go_wp2_with fail
                      go_ret
                      rw [Es.out]
                      exact ⟨rfl, H2.out, (HF.mono fun _ _ => trivial).trans f2⟩
                    · have hd2 : decide (v > high) = false := decide_eq_false hhigh
                      have es : st = (v, pos + j + 1, none) := by rw [Es0.out, if_neg (by rintro (h | h) <;> contradiction)]
                      have Es := Lib.hid es
                      have kz := H1.out.kz
                      clear hlow hhigh es
                      go_wp2_with fail
                      go_ret
                      obtain ⟨h2, f2⟩ := H1.out.setPos (p2 := pos + j + 1) (by omega) (v := .int .i64 ((pos : Int) + (j : Int) + 1)) (by simp)
                      rw [Es.out]
                      exact ⟨rfl, h2, (HF.mono fun _ _ => trivial).trans f2⟩
      · have hd : decide ((pos : Int) + (j : Int) ≥ (n : Int)) = true := decide_eq_true (by omega)
        have hg := HG.out
        rw [List.drop_eq_nil_of_le (by rw [En.out]; omega)] at hg
        have es : st = (0, pos, some (0, pos)) := by rw [Hst.out, ← hg]; rfl
        have Es := Lib.hid es
        clear hg es
        go_wp2_with fail
        refine (dr_fail (x := 0) H1.out H1.out.pos_le).mono ?_
        rintro e w2 ⟨rfl, h2, f2⟩
        have H2 := Lib.hid h2
        clear h2
        go_wp2_with fail
        go_ret
        rw [Es.out]
        exact ⟨rfl, H2.out, (HF.mono fun _ _ => trivial).trans f2⟩
end Go.Proofs.YtoaamcpiljoojaaDoor
