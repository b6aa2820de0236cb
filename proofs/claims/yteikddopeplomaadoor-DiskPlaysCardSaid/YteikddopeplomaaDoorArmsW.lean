/- The walk of the law on an armed disk. -/
import Derived.Test.YteikddopeplomaaDoorErasesW
import Derived.Test.YteikddopeplomaaDoorNum
namespace Go.Proofs.YteikddopeplomaaDoor
open Go.RowKit Go.Maps

/-- Armed for n calls, of which j were made. -/
structure ArmSt (s : DSt) (n j : Nat) : Prop where
  blocks : s.blocks = 8
  arm : s.arm = (n : Int) - (min j n : Nat)
  down : s.down = decide (n ≤ j)
  calls : s.calls = (min j (n - 1) : Nat)
  all : s.ns + s.np ≤ j
theorem ArmSt.start {n : Nat} (hn : 1 ≤ n) : ArmSt { DSt.new 8 with arm := max (n : Int) 0 } n 0 := by
  refine ⟨rfl, ?_, ?_, ?_, Nat.le_refl _⟩
  · show max (n : Int) 0 = _
    omega
  · show false = _
    simp
    omega
  · show (0 : Int) = _
    simp
theorem ArmSt.good {s : DSt} {n j : Nat} (h : ArmSt s n j) (hj : j + 1 < n) : s.up = { s with arm := (n : Int) - (j + 1 : Nat), down := false } := by
  have hd : s.down = false := by rw [h.down]; simp; omega
  have ha : s.arm = (n : Int) - (j : Nat) := by rw [h.arm]; omega
  have hp : 0 < s.arm := by rw [ha]; omega
  rw [DSt.up, if_pos ⟨hd, hp⟩]
  have e1 : s.arm - 1 = (n : Int) - (j + 1 : Nat) := by rw [ha]; omega
  rw [e1]
  have e2 : decide ((n : Int) - (j + 1 : Nat) = 0) = false := decide_eq_false (by omega)
  rw [e2]
theorem ArmSt.bad {s : DSt} {n j : Nat} (h : ArmSt s n j) (hj : n ≤ j + 1) (hn : 1 ≤ n) : s.up.down = true ∧ ArmSt s.up n (j + 1) := by
  obtain ⟨g1, g2, g3, g4, g5, g6⟩ := s.up_same
  have hc : s.up.calls = (min (j + 1) (n - 1) : Nat) := by rw [g5, h.calls]; omega
  have hall : s.up.ns + s.up.np ≤ j + 1 := by rw [g4, g2]; have := h.all; omega
  by_cases hjn : n ≤ j
  · have hd : s.down = true := by rw [h.down]; simpa using hjn
    have hu : s.up = s := by simp [DSt.up, hd]
    refine ⟨by rw [hu]; exact hd, by rw [g6]; exact h.blocks, by rw [hu, h.arm]; omega, ?_, hc, hall⟩
    rw [hu, hd]
    simp
    omega
  · have hd : s.down = false := by rw [h.down]; simp; omega
    have ha : s.arm = 1 := by rw [h.arm]; omega
    have hu : s.up = { s with arm := 0, down := true } := by
      rw [DSt.up, if_pos ⟨hd, by rw [ha]; decide⟩, ha]
      rfl
    refine ⟨by rw [hu], by rw [g6]; exact h.blocks, ?_, ?_, hc, hall⟩
    · rw [hu]
      show (0 : Int) = _
      omega
    · rw [hu]
      show true = _
      simp
      omega
theorem ArmSt.wrote {s : DSt} {n j : Nat} (h : ArmSt s n j) (hj : j + 1 < n) (i : Int) (xs : List UInt8) : ArmSt (s.wrote i xs) n (j + 1) := by
  have hu := h.good hj
  unfold DSt.wrote
  rw [hu]
  refine ⟨h.blocks, ?_, ?_, ?_, ?_⟩
  · show (n : Int) - (j + 1 : Nat) = _
    omega
  · show false = _
    simp
    omega
  · show s.calls + 1 = _
    rw [h.calls]
    omega
  · show s.ns + (if (s.pen i).isSome then s.np else s.np + 1) ≤ _
    have := h.all
    split <;> omega
theorem ArmSt.synced {s : DSt} {n j : Nat} (h : ArmSt s n j) (hj : j + 1 < n) {n' : Nat} (hn : n' ≤ s.ns + s.np) : ArmSt (s.synced n') n (j + 1) := by
  have hu := h.good hj
  unfold DSt.synced
  rw [hu]
  refine ⟨h.blocks, ?_, ?_, ?_, ?_⟩
  · show (n : Int) - (j + 1 : Nat) = _
    omega
  · show false = _
    simp
    omega
  · show s.calls + 1 = _
    rw [h.calls]
    omega
  · show n' + 0 ≤ _
    have := h.all
    omega

section
variable {w0 w : World} {B bs bp : Nat} {s : DSt}
theorem held_wrote (h : Held w0 w B bs bp s) {S : Nat → Prop} {v : Value} {xs : List UInt8} {i : Int} (hv : Sl kByte S w v xs) (hS : ∀ x, S x → x < w.heap.size → x ≠ B) (ha : s.arm ≤ 9223372036854775807) (hd : s.up.down = false) (h0 : 0 ≤ i) (h1 : i < s.blocks) (hb : s.blocks ≤ 16384) (hl : xs.length ≤ 256) (hn : s.np ≤ 100000) (hc0 : 0 ≤ s.calls) (hc : s.calls ≤ 1000000) :
    Calls Tryd.prog 26 #[.pointer (some ⟨B, 0, none⟩), .int .i64 i, v] w fun e w' => e = .returned .nilIface ∧ Held w0 w' B bs bp (s.wrote i xs) ∧ Fr (Off B bs bp) w w' := by
  refine (write_call h.dk hv hS ha hd h0 h1 hb hl hn hc0 hc).mono ?_
  rintro e w' ⟨rfl, d, f⟩
  exact ⟨rfl, h.off f d, f⟩
theorem held_synced (h : Held w0 w B bs bp s) (ha : s.arm ≤ 9223372036854775807) (hd : s.up.down = false) (hn : s.ns + s.np ≤ 100000) (hc0 : 0 ≤ s.calls) (hc : s.calls ≤ 1000000) :
    Calls Tryd.prog 36 #[.pointer (some ⟨B, 0, none⟩)] w fun e w' => ∃ n', e = .returned .nilIface ∧ n' ≤ s.ns + s.np ∧ Held w0 w' B bs bp (s.synced n') ∧ Fr (Off B bs bp) w w' := by
  refine (sync_call h.dk ha hd hn hc0 hc).mono ?_
  rintro e w' ⟨rfl, ⟨n', hn', d⟩, f⟩
  exact ⟨n', rfl, hn', h.off f d, f⟩
end

set_option hygiene false in
set_option maxRecDepth 100000 in
set_option maxHeartbeats 4000000 in
theorem arms_walk {w : World} {qs : List Addr} (he : Errs w qs) (a b : Int) :
    Calls Tryd.prog 7 #[.int .i64 a, .int .i64 b] w fun e w' => e = .returned (.bool true) ∧ Fr All w w' := by
  have HE := Lib.hid he
  clear he
  go_enter Tryd.func7, Tryd.ntmps7
  go_wp2_with fail
  refine (first5_call w).mono ?_
  rintro e w1 ⟨rfl, f1⟩
  have hq := HE.out.move f1
  obtain ⟨qa, hqa⟩ := hq.get 9 (by omega)
  have HQ := Lib.hid hq
  have HQA := Lib.hid hqa
  clear hq hqa
  go_wp2_with fail
  refine (number w1 (by omega) (by omega)).mono ?_
  rintro e wn ⟨r, hr, rfl, hwn⟩
  obtain rfl := hwn.symm
  obtain ⟨n, hn⟩ : ∃ n : Nat, r + 1 = n := ⟨_, rfl⟩
  have hn1 : 1 ≤ n ∧ n ≤ 30 := by omega
  have hw : IntKind.i64.wrap ((r : Int) + 1) = (n : Int) := by rw [IntWalk.i64_in _ (by omega)]; omega
  clear hr hn
  go_wp2_with fail
  refine (number w1 (by omega) (by omega)).mono ?_
  rintro e wn ⟨m, hm, rfl, hwn⟩
  obtain rfl := hwn.symm
  clear hw
  go_wp2_with fail
  refine (held_new w1 (by omega) (by omega)).mono ?_
  rintro e w2 ⟨B, bs, bp, rfl, h2⟩
  have H2 := Lib.hid h2
  clear h2
  go_wp2_with fail
  refine (held_arm H2.out _).mono ?_
  rintro e w3 ⟨rfl, h3⟩
  have H3 := Lib.hid h3
  have K3 := Lib.hid (ArmSt.start hn1.1)
  have hwn : IntKind.i64.wrap ((n : Int) - 1) = (n : Int) - 1 := IntWalk.i64_in _ (by omega)
  clear h3
  go_wp2_with fail
  go_loopw [8, 9, 10] (fun g i f wr => ∃ j : Nat, ∃ s, j ≤ m ∧ i = .int .i64 j ∧ g = .int .i64 ((min j (n - 1) : Nat) : Int) ∧ Hid (ArmSt s n j) ∧ Hid (Held w1 wr B bs bp s)) (fun _ i _ _ => m - (intOf i).toNat)
  case atStart => exact ⟨0, _, Nat.zero_le _, rfl, by simp, K3, H3⟩
  case round =>
    obtain ⟨j, s, hj, rfl, rfl, HK, HH⟩ := hrel
    by_cases hlt : j < m
    · have b1 : (j : Int) < (m : Int) := by omega
      by_cases hgood : j + 1 < n
      · have b2 : decide ((j : Int) < (n : Int) - 1) = true := decide_eq_true (by omega)
        have hg2 : min j (n - 1) = j := by omega
        have ha := HK.out.arm
        have hga := HK.out.good hgood
        have hu : s.up.down = false := by rw [hga]
        have hu2 : s.arm ≤ 9223372036854775807 := by rw [ha]; omega
        have hall := HK.out.all
        have hcc := HK.out.calls
        have HU := Lib.hid hu
        have HC := Lib.hid hcc
        clear ha hga hu hcc
        cases h3 : ((j : Int) % 3 == 2) with
        | true =>
          go_wp2_with fail
          refine (held_synced HH.out hu2 HU.out (by omega) (by rw [HC.out]; omega) (by rw [HC.out]; omega)).mono ?_
          rintro e w4 ⟨n4, rfl, hn4, h4, f4⟩
          have H4 := Lib.hid h4
          have K4 := Lib.hid (HK.out.synced hgood hn4)
          clear h4 f4 hn4
          go_wp2_with fail
          go_roundw
          case rel => exact ⟨j + 1, _, by omega, by go_num, congrArg (Value.int .i64) (by omega), K4, H4⟩
          case measure => simp [intOf]; omega
        | false =>
          obtain ⟨y, hy⟩ : ∃ y : UInt8, (y.toNat : Int) = (j : Int) := ⟨UInt8.ofNat j, by rw [UInt8.toNat_ofNat_of_lt' (by simp only [UInt8.size]; omega)]⟩
          have hbx := byte_box wr y
          rw [hy] at hbx
          have HX := Lib.hid hbx
          have HH1 := Lib.hid (HH.out.all ((Fr.refl All wr).alloc (.cells #[.int .u8 (j : Int)] 5)))
          have hB := HH.out.dk.lt
          clear hy hbx
          go_wp2_with fail
          refine (held_wrote HH1.out HX.out (fun x hx _ => by omega) hu2 HU.out (by omega) (by rw [HK.out.blocks]; omega) (by rw [HK.out.blocks]; omega) (by simp) (by omega) (by rw [HC.out]; omega) (by rw [HC.out]; omega)).mono ?_
          rintro e w4 ⟨rfl, h4, f4⟩
          have H4 := Lib.hid h4
          have K4 := Lib.hid (HK.out.wrote hgood ((j : Int) % 8) [y])
          clear h4 f4
          go_wp2_with fail
          go_roundw
          case rel => exact ⟨j + 1, _, by omega, by go_num, congrArg (Value.int .i64) (by omega), K4, H4⟩
          case measure => simp [intOf]; omega
      · have b2 : decide ((j : Int) < (n : Int) - 1) = false := decide_eq_false (by omega)
        have ha := HK.out.arm
        have hu2 : s.arm ≤ 9223372036854775807 := by rw [ha]; omega
        obtain ⟨hu, hk⟩ := HK.out.bad (by omega) hn1.1
        have HU := Lib.hid hu
        have K4 := Lib.hid hk
        clear ha hu hk
        cases h3 : ((j : Int) % 3 == 2) with
        | true =>
          go_wp2_with fail
          refine (bad_sync HH.out HQ.out HQA.out hu2 HU.out).mono ?_
          rintro e w4 ⟨rfl, h4, f4⟩
          have H4 := Lib.hid h4
          clear h4 f4
          go_wp2_with fail
          refine (see_is (Sees.bare (HQ.out.move H4.out.fr) HQA.out) 110).mono ?_
          rintro e w5 ⟨rfl, f5⟩
          have H5 := Lib.hid (H4.out.all f5)
          clear f5
          go_wp2_with fail
          go_roundw
          case rel => exact ⟨j + 1, _, by omega, by go_num, congrArg (Value.int .i64) (by omega), K4, H5⟩
          case measure => simp [intOf]; omega
        | false =>
          have HH1 := Lib.hid (HH.out.all ((Fr.refl All wr).alloc (.cells #[.int .u8 (j : Int)] 5)))
          go_wp2_with fail
          refine (bad_write HH1.out HQ.out HQA.out hu2 HU.out _ _ _ _).mono ?_
          rintro e w4 ⟨rfl, h4, f4⟩
          have H4 := Lib.hid h4
          clear h4 f4
          go_wp2_with fail
          refine (see_is (Sees.bare (HQ.out.move H4.out.fr) HQA.out) 110).mono ?_
          rintro e w5 ⟨rfl, f5⟩
          have H5 := Lib.hid (H4.out.all f5)
          clear f5
          go_wp2_with fail
          go_roundw
          case rel => exact ⟨j + 1, _, by omega, by go_num, congrArg (Value.int .i64) (by omega), K4, H5⟩
          case measure => simp [intOf]; omega
    · obtain rfl : j = m := by omega
      have hdn := down_call HH.out.dk
      rw [HK.out.down] at hdn
      have hcn := calls_call HH.out.dk
      rw [HK.out.calls] at hcn
      have HC := Lib.hid hcn
      by_cases hnm : n ≤ j
      · rw [decide_eq_true hnm] at hdn
        have HD := Lib.hid hdn
        have b2 : decide ((j : Int) ≥ (n : Int)) = true := decide_eq_true (by omega)
        clear hdn hcn
        go_wp2_with fail
        refine HD.out.mono ?_
        rintro e wn ⟨rfl, hwn⟩
        obtain rfl := hwn.symm
        go_wp2_with fail
        refine HC.out.mono ?_
        rintro e wn ⟨rfl, hwn⟩
        obtain rfl := hwn.symm
        go_wp2_with fail
        refine (held_crash0 HH.out (by have := HK.out.all; omega)).mono ?_
        rintro e w6 ⟨n6, rfl, hn6, h6, f6⟩
        have hdn := down_call h6.dk
        rw [show (s.crashed s.syn n6).down = false from rfl] at hdn
        have HD6 := Lib.hid hdn
        have H6 := Lib.hid h6
        have hle := HK.out.all
        have hcc : (s.crashed s.syn n6).calls = (min j (n - 1) : Nat) := HK.out.calls
        have HCC := Lib.hid hcc
        clear h6 f6 hdn hcc
        go_wp2_with fail
        refine HD6.out.mono ?_
        rintro e wn ⟨rfl, hwn⟩
        obtain rfl := hwn.symm
        go_wp2_with fail
        refine (held_sync H6.out rfl rfl (by show n6 + 0 ≤ _; omega) (by rw [HCC.out]; omega) (by rw [HCC.out]; omega)).mono ?_
        rintro e w7 ⟨n7, rfl, hn7, h7, f7⟩
        have H7 := Lib.hid h7
        clear h7 f7 hn7
        go_wp2_with fail
        go_ret
        exact ⟨rfl, f1.trans H7.out.fr⟩
      · rw [decide_eq_false hnm] at hdn
        have HD := Lib.hid hdn
        have b2 : decide ((j : Int) ≥ (n : Int)) = false := decide_eq_false (by omega)
        clear hdn hcn
        go_wp2_with fail
        refine HD.out.mono ?_
        rintro e wn ⟨rfl, hwn⟩
        obtain rfl := hwn.symm
        go_wp2_with fail
        refine HC.out.mono ?_
        rintro e wn ⟨rfl, hwn⟩
        obtain rfl := hwn.symm
        go_wp2_with fail
        refine (held_crash0 HH.out (by have := HK.out.all; omega)).mono ?_
        rintro e w6 ⟨n6, rfl, hn6, h6, f6⟩
        have hdn := down_call h6.dk
        rw [show (s.crashed s.syn n6).down = false from rfl] at hdn
        have HD6 := Lib.hid hdn
        have H6 := Lib.hid h6
        have hle := HK.out.all
        have hcc : (s.crashed s.syn n6).calls = (min j (n - 1) : Nat) := HK.out.calls
        have HCC := Lib.hid hcc
        clear h6 f6 hdn hcc
        go_wp2_with fail
        refine HD6.out.mono ?_
        rintro e wn ⟨rfl, hwn⟩
        obtain rfl := hwn.symm
        go_wp2_with fail
        refine (held_sync H6.out rfl rfl (by show n6 + 0 ≤ _; omega) (by rw [HCC.out]; omega) (by rw [HCC.out]; omega)).mono ?_
        rintro e w7 ⟨n7, rfl, hn7, h7, f7⟩
        have H7 := Lib.hid h7
        clear h7 f7 hn7
        go_wp2_with fail
        go_ret
        exact ⟨rfl, f1.trans H7.out.fr⟩
end Go.Proofs.YteikddopeplomaaDoor
