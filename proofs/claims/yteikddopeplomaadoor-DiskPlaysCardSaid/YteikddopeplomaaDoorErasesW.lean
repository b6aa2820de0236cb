/- The walk of the law that an erased disk has nothing. -/
import Derived.Test.YteikddopeplomaaDoorDkE
namespace Go.Proofs.YteikddopeplomaaDoor
open Go.RowKit Go.Maps

section
variable {w0 w : World} {B bs bp : Nat} {s : DSt}
theorem held_arm (h : Held w0 w B bs bp s) (n : Int) : Calls Tryd.prog 39 #[.pointer (some ⟨B, 0, none⟩), .int .i64 n] w fun e w' => e = .returned (.tuple #[]) ∧ Held w0 w' B bs bp { s with arm := max n 0 } := by
  refine (arm_call h.dk n).mono ?_
  rintro e w' ⟨rfl, d, f⟩
  exact ⟨rfl, h.off (f.mono fun x (hx : Off B bs bp x) => hx.1) d⟩
theorem held_erase (h : Held w0 w B bs bp s) : Calls Tryd.prog 41 #[.pointer (some ⟨B, 0, none⟩)] w fun e w' => e = .returned (.tuple #[]) ∧ Held w0 w' B bs bp s.erased := by
  refine (erase_call h.dk).mono ?_
  rintro e w' ⟨rfl, d, f⟩
  exact ⟨rfl, h.off f d⟩
end

/-- Ahead of the erasing. -/
structure EraseSt (s : DSt) : Prop where
  blocks : s.blocks = 4
  arm : s.arm = 0
  down : s.down = false
  calls : s.calls = 3

set_option hygiene false in
set_option maxRecDepth 100000 in
set_option maxHeartbeats 4000000 in
theorem erases_walk {w : World} {qs : List Addr} (he : Errs w qs) {v : Value} {xs : List UInt8} {S : Nat → Prop} (z : Bool) (s0 : Sl kByte S w v xs) :
    Calls Tryd.prog 8 #[v, .bool z] w fun e w' => e = .returned (.bool true) ∧ Fr All w w' := by
  have HE := Lib.hid he
  clear he
  cases z with
  | false =>
    obtain ⟨A0, n0, c0, rfl, e0, _⟩ := s0.open_
    have E0 := Lib.hid e0
    clear e0
    go_enter Tryd.func8, Tryd.ntmps8
    go_wp2_with fail
    refine (first5_call w).mono ?_
    rintro e w1 ⟨rfl, f1⟩
    cases g0 : decide ((n0 : Int) > 200) with
    | true =>
      go_wp2_with fail
      go_ret
      exact ⟨rfl, f1⟩
    | false =>
    have hn0 : n0 ≤ 200 := by have := of_decide_eq_false g0; omega
    have HS0 := Lib.hid (s0.all f1)
    clear s0
    go_wp2_with fail
    refine (held_new w1 (by omega) (by omega)).mono ?_
    rintro e w2 ⟨B, bs, bp, rfl, h2⟩
    have H2 := Lib.hid h2
    clear h2
    go_wp2_with fail
    refine (held_write H2.out (H2.out.arg HS0.out) (fun _ hx _ => by have := H2.out.l0; omega) rfl rfl (by omega) (by simp [DSt.new]) (by simp [DSt.new]) (by rw [E0.out]; omega) (by simp [DSt.new]) (by simp [DSt.new]) (by simp [DSt.new])).mono ?_
    rintro e w3 ⟨rfl, h3, f3⟩
    have H3 := Lib.hid h3
    clear h3 f3
    go_wp2_with fail
    refine (held_sync H3.out rfl rfl (by simp [DSt.put, DSt.new]) (by simp [DSt.put, DSt.new]) (by simp [DSt.put, DSt.new])).mono ?_
    rintro e w4 ⟨n4, rfl, hn4, h4, f4⟩
    have H4 := Lib.hid h4
    clear h4 f4 hn4
    go_wp2_with fail
    refine (held_write H4.out (H4.out.arg HS0.out) (fun _ hx _ => by have := H4.out.l0; omega) rfl rfl (by omega) (by simp [DSt.new, DSt.put, DSt.sync]) (by simp [DSt.new, DSt.put, DSt.sync]) (by rw [E0.out]; omega) (by simp [DSt.new, DSt.put, DSt.sync]) (by simp [DSt.new, DSt.put, DSt.sync]) (by simp [DSt.new, DSt.put, DSt.sync])).mono ?_
    rintro e w5 ⟨rfl, h5, f5⟩
    obtain ⟨s, hs⟩ : ∃ s, (((DSt.new 4).put 0 xs).sync n4).put 1 xs = s := ⟨_, rfl⟩
    have TS : EraseSt s := by
      subst hs
      exact ⟨rfl, rfl, rfl, rfl⟩
    rw [hs] at h5
    have H5 := Lib.hid h5
    clear h5 hs f5
    go_wp2_with fail
    obtain ⟨s6, hs6⟩ : ∃ s6, s = s6 := ⟨_, rfl⟩
    subst hs6
    have H6 := H5
    have hb6 := TS.blocks
    have hc6 := TS.calls
    obtain ⟨s6, hs6⟩ : ∃ s6, s6 = s := ⟨_, rfl⟩
    rw [← hs6] at H6 hb6 hc6
    clear hs6
    refine (held_erase H6.out).mono ?_
    rintro e w7 ⟨rfl, h7⟩
    have H7 := Lib.hid h7
    clear h7
    have b4 : s6.erased.blocks = 4 := hb6
    have HB4 := Lib.hid b4
    have hc4 : s6.erased.calls = 3 := hc6
    have HC4 := Lib.hid hc4
    clear b4 hc4 hb6 hc6
    go_wp2_with fail
    go_loopw [11] (fun i wr => ∃ j : Nat, j ≤ 4 ∧ i = .int .i64 j ∧ Hid (Held w1 wr B bs bp s6.erased)) (fun i _ => 4 - (intOf i).toNat)
    case atStart => exact ⟨0, Nat.zero_le _, rfl, H7⟩
    case round =>
      obtain ⟨j, hj, rfl, HH⟩ := hrel
      by_cases hlt : j < 4
      · have b1 : (j : Int) < 4 := by omega
        go_wp2_with fail
        refine (held_read HH.out rfl (by omega) (by rw [HB4.out]; omega) (by rw [HB4.out]; omega) (fun xs' hx => by cases hx)).mono ?_
        rintro e w8 ⟨A8, n8, c8, x8, rfl, hx8, o8, h8, f8⟩
        rw [show s6.erased.get (j : Int) = none from rfl] at hx8 ⊢
        have H8 := Lib.hid h8
        clear h8 o8 hx8
        go_wp2_with fail
        go_roundw
        case rel => exact ⟨j + 1, by omega, by go_num, H8⟩
        case measure => simp [intOf]; omega
      · obtain rfl : j = 4 := by omega
        have hdn := down_call HH.out.dk
        have hpn := pending_call HH.out.dk
        rw [show s6.erased.down = false from rfl] at hdn
        rw [show s6.erased.np = 0 from rfl] at hpn
        have HD := Lib.hid hdn
        have HP := Lib.hid hpn
        clear hdn hpn
        go_wp2_with fail
        refine HD.out.mono ?_
        rintro e wn ⟨rfl, hwn⟩
        obtain rfl := hwn.symm
        go_wp2_with fail
        refine HP.out.mono ?_
        rintro e wn ⟨rfl, hwn⟩
        obtain rfl := hwn.symm
        go_wp2_with fail
        refine (held_write HH.out (HH.out.arg HS0.out) (fun _ hx _ => by have := HH.out.l0; omega) rfl rfl (by omega) (by rw [HB4.out]; omega) (by rw [HB4.out]; omega) (by rw [E0.out]; omega) (by simp [DSt.erased]) (by rw [HC4.out]; omega) (by rw [HC4.out]; omega)).mono ?_
        rintro e w9 ⟨rfl, h9, f9⟩
        have H9 := Lib.hid h9
        have hc9 : (s6.erased.put 0 xs).calls = 4 := by
          show s6.erased.calls + 1 = 4
          rw [HC4.out]
          rfl
        have HC9 := Lib.hid hc9
        clear h9 f9 hc9
        go_wp2_with fail
        refine (held_sync H9.out rfl rfl (by simp [DSt.put, DSt.erased]) (by rw [HC9.out]; omega) (by rw [HC9.out]; omega)).mono ?_
        rintro e wa ⟨na, rfl, hna, ha, fa⟩
        have Ha := Lib.hid ha
        clear ha fa hna
        go_wp2_with fail
        go_ret
        exact ⟨rfl, f1.trans Ha.out.fr⟩
  | true =>
    obtain ⟨A0, n0, c0, rfl, e0, _⟩ := s0.open_
    have E0 := Lib.hid e0
    clear e0
    go_enter Tryd.func8, Tryd.ntmps8
    go_wp2_with fail
    refine (first5_call w).mono ?_
    rintro e w1 ⟨rfl, f1⟩
    cases g0 : decide ((n0 : Int) > 200) with
    | true =>
      go_wp2_with fail
      go_ret
      exact ⟨rfl, f1⟩
    | false =>
    have hn0 : n0 ≤ 200 := by have := of_decide_eq_false g0; omega
    have HS0 := Lib.hid (s0.all f1)
    clear s0
    go_wp2_with fail
    refine (held_new w1 (by omega) (by omega)).mono ?_
    rintro e w2 ⟨B, bs, bp, rfl, h2⟩
    have H2 := Lib.hid h2
    clear h2
    go_wp2_with fail
    refine (held_write H2.out (H2.out.arg HS0.out) (fun _ hx _ => by have := H2.out.l0; omega) rfl rfl (by omega) (by simp [DSt.new]) (by simp [DSt.new]) (by rw [E0.out]; omega) (by simp [DSt.new]) (by simp [DSt.new]) (by simp [DSt.new])).mono ?_
    rintro e w3 ⟨rfl, h3, f3⟩
    have H3 := Lib.hid h3
    clear h3 f3
    go_wp2_with fail
    refine (held_sync H3.out rfl rfl (by simp [DSt.put, DSt.new]) (by simp [DSt.put, DSt.new]) (by simp [DSt.put, DSt.new])).mono ?_
    rintro e w4 ⟨n4, rfl, hn4, h4, f4⟩
    have H4 := Lib.hid h4
    clear h4 f4 hn4
    go_wp2_with fail
    refine (held_write H4.out (H4.out.arg HS0.out) (fun _ hx _ => by have := H4.out.l0; omega) rfl rfl (by omega) (by simp [DSt.new, DSt.put, DSt.sync]) (by simp [DSt.new, DSt.put, DSt.sync]) (by rw [E0.out]; omega) (by simp [DSt.new, DSt.put, DSt.sync]) (by simp [DSt.new, DSt.put, DSt.sync]) (by simp [DSt.new, DSt.put, DSt.sync])).mono ?_
    rintro e w5 ⟨rfl, h5, f5⟩
    obtain ⟨s, hs⟩ : ∃ s, (((DSt.new 4).put 0 xs).sync n4).put 1 xs = s := ⟨_, rfl⟩
    have TS : EraseSt s := by
      subst hs
      exact ⟨rfl, rfl, rfl, rfl⟩
    rw [hs] at h5
    have H5 := Lib.hid h5
    clear h5 hs f5
    go_wp2_with fail
    refine (held_arm H5.out 1).mono ?_
    rintro e w6 ⟨rfl, h6⟩
    obtain ⟨t, ht⟩ : ∃ t : DSt, { s with arm := max 1 0 } = t := ⟨_, rfl⟩
    have hup : t.up = { s with arm := 0, down := true } := by
      rw [← ht]
      have hd := TS.down
      have hm : max (1 : Int) 0 = 1 := by decide
      simp [DSt.up, hd, hm]
    have hua : t.arm ≤ 9223372036854775807 := by rw [← ht]; show max 1 0 ≤ 9223372036854775807; omega
    rw [ht] at h6
    have H6a := Lib.hid h6
    have hq := HE.out.move f1
    obtain ⟨qa, hqa⟩ := hq.get 9 (by omega)
    have HQ := Lib.hid hq
    have HQA := Lib.hid hqa
    have HU := Lib.hid hup
    clear h6 ht hup hq hqa
    go_wp2_with fail
    refine (bad_sync H6a.out HQ.out HQA.out hua (by rw [HU.out])).mono ?_
    rintro e w6b ⟨rfl, h6, f6⟩
    rw [HU.out] at h6
    obtain ⟨s6, hs6⟩ : ∃ s6 : DSt, { s with arm := 0, down := true } = s6 := ⟨_, rfl⟩
    have hd6 : s6.down = true := by rw [← hs6]
    have hb6 : s6.blocks = 4 := by rw [← hs6]; exact TS.blocks
    have hc6 : s6.calls = 3 := by rw [← hs6]; exact TS.calls
    rw [hs6] at h6
    have H6 := Lib.hid h6
    have hdn := down_call h6.dk
    rw [hd6] at hdn
    have HD := Lib.hid hdn
    have HD6 := Lib.hid hd6
    clear h6 hs6 hdn f6 hd6
    go_wp2_with fail
    refine HD.out.mono ?_
    rintro e wn ⟨rfl, hwn⟩
    obtain rfl := hwn.symm
    go_wp2_with fail
    refine (bad_read H6.out HQ.out HQA.out HD6.out 0).mono ?_
    rintro e w6d ⟨rfl, h6, _⟩
    have H6' := Lib.hid h6
    clear H6 h6
    have H6 := H6'
    clear H6'
    go_wp2_with fail
    refine (see_is (Sees.bare (HQ.out.move H6.out.fr) HQA.out) 110).mono ?_
    rintro e w6c ⟨rfl, f6⟩
    have H6' := Lib.hid (H6.out.all f6)
    clear H6
    have H6 := H6'
    go_wp2_with fail
    refine (held_erase H6.out).mono ?_
    rintro e w7 ⟨rfl, h7⟩
    have H7 := Lib.hid h7
    clear h7
    have b4 : s6.erased.blocks = 4 := hb6
    have HB4 := Lib.hid b4
    have hc4 : s6.erased.calls = 3 := hc6
    have HC4 := Lib.hid hc4
    clear b4 hc4 hb6 hc6
    go_wp2_with fail
    go_loopw [11] (fun i wr => ∃ j : Nat, j ≤ 4 ∧ i = .int .i64 j ∧ Hid (Held w1 wr B bs bp s6.erased)) (fun i _ => 4 - (intOf i).toNat)
    case atStart => exact ⟨0, Nat.zero_le _, rfl, H7⟩
    case round =>
      obtain ⟨j, hj, rfl, HH⟩ := hrel
      by_cases hlt : j < 4
      · have b1 : (j : Int) < 4 := by omega
        go_wp2_with fail
        refine (held_read HH.out rfl (by omega) (by rw [HB4.out]; omega) (by rw [HB4.out]; omega) (fun xs' hx => by cases hx)).mono ?_
        rintro e w8 ⟨A8, n8, c8, x8, rfl, hx8, o8, h8, f8⟩
        rw [show s6.erased.get (j : Int) = none from rfl] at hx8 ⊢
        have H8 := Lib.hid h8
        clear h8 o8 hx8
        go_wp2_with fail
        go_roundw
        case rel => exact ⟨j + 1, by omega, by go_num, H8⟩
        case measure => simp [intOf]; omega
      · obtain rfl : j = 4 := by omega
        have hdn := down_call HH.out.dk
        have hpn := pending_call HH.out.dk
        rw [show s6.erased.down = false from rfl] at hdn
        rw [show s6.erased.np = 0 from rfl] at hpn
        have HD := Lib.hid hdn
        have HP := Lib.hid hpn
        clear hdn hpn
        go_wp2_with fail
        refine HD.out.mono ?_
        rintro e wn ⟨rfl, hwn⟩
        obtain rfl := hwn.symm
        go_wp2_with fail
        refine HP.out.mono ?_
        rintro e wn ⟨rfl, hwn⟩
        obtain rfl := hwn.symm
        go_wp2_with fail
        refine (held_write HH.out (HH.out.arg HS0.out) (fun _ hx _ => by have := HH.out.l0; omega) rfl rfl (by omega) (by rw [HB4.out]; omega) (by rw [HB4.out]; omega) (by rw [E0.out]; omega) (by simp [DSt.erased]) (by rw [HC4.out]; omega) (by rw [HC4.out]; omega)).mono ?_
        rintro e w9 ⟨rfl, h9, f9⟩
        have H9 := Lib.hid h9
        have hc9 : (s6.erased.put 0 xs).calls = 4 := by
          show s6.erased.calls + 1 = 4
          rw [HC4.out]
          rfl
        have HC9 := Lib.hid hc9
        clear h9 f9 hc9
        go_wp2_with fail
        refine (held_sync H9.out rfl rfl (by simp [DSt.put, DSt.erased]) (by rw [HC9.out]; omega) (by rw [HC9.out]; omega)).mono ?_
        rintro e wa ⟨na, rfl, hna, ha, fa⟩
        have Ha := Lib.hid ha
        clear ha fa hna
        go_wp2_with fail
        go_ret
        exact ⟨rfl, f1.trans Ha.out.fr⟩
end Go.Proofs.YteikddopeplomaaDoor
