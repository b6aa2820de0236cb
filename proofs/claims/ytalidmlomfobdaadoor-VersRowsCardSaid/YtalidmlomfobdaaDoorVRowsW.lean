/- VersRows walked. -/
import Derived.Test.YtalidmlomfobdaaDoorVRow
import Derived.Test.YtalidmlomfobdaaDoorVBase
import Derived.Test.YtalidmlomfobdaaDoorNum
import Derived.Test.YtalidmlomfobdaaDoorPRow
namespace Go.Proofs.YtalidmlomfobdaaDoor
open Go.RowKit

theorem byte11_nat {i : Nat} (h : i ≤ 8) : ((byte11 i).toNat : Int) = (i : Int) := by
  unfold byte11
  rw [UInt8.toNat_ofNat']
  omega
theorem key11 (w : World) {i : Nat} (h : i ≤ 8) : Sl kByte All (w.alloc (.cells #[.int .u8 (i : Int)] 5)) (.slice (some ⟨w.heap.size, 0, none⟩) 1 1) [byte11 i] := by
  have h1 := Own.lay (d := kByte) (e := 5) (base := 0) (S := All) (w := w) (xs := [byte11 i]) (cs := [.int .u8 (i : Int)]) (by rw [← byte11_nat h]; exact prow_mk [byte11 i]) (Nat.zero_le _) (by simp [maxLen])
  exact h1.sl.mono fun _ _ _ => trivial
set_option maxRecDepth 100000 in
set_option maxHeartbeats 20000000 in
theorem versRows_walk {qs : List Addr} {w : World} (hq : Errs w qs) (a0 a1 a2 : Int) :
    Calls Tryd.prog 10 #[.int .i64 a0, .int .i64 a1, .int .i64 a2] w fun e w' => e = .returned (.bool true) ∧ Fr All w w' := by
  have HQ := Lib.hid hq
  clear hq
  go_enter Tryd.func10, Tryd.ntmps10
  go_wp2_with fail
  refine (first11_call w).mono ?_
  rintro e w1 ⟨rfl, f1⟩
  go_wp2_with fail
  refine (number1 w1 (by omega) (by omega)).mono ?_
  rintro e wn ⟨n, hn1, hn2, rfl, hwn⟩
  obtain rfl := hwn.symm
  have hn8 : n ≤ 8 := by omega
  clear hwn hn2
  go_wp2_with fail
  refine (number w1 (by omega) (by omega)).mono ?_
  rintro e wn ⟨p, hp, rfl, hwn⟩
  obtain rfl := hwn.symm
  have hp256 : p < 256 := by omega
  clear hwn hp
  go_wp2_with fail
  refine (hnew 0 w1).mono ?_
  rintro e w2 ⟨rfl, h2⟩
  have H2 := Lib.hid h2
  obtain ⟨B, hB⟩ : ∃ B, w1.heap.size = B := ⟨_, rfl⟩
  rw [hB] at H2
  simp only [hB]
  clear h2 hB
  go_wp2_with fail
  go_loopw [9] (fun i wr => ∃ (j : Nat) (s : HSt), j ≤ n ∧ i = .int .i64 j ∧ Hid (HHd (fun _ => False) w1 wr B s) ∧ Hid (Rw p n j s)) (fun i _ => (intOf i).toNat)
  case atStart => exact ⟨n, _, Nat.le_refl _, rfl, H2, Lib.hid (Rw.new p n)⟩
  case round =>
    obtain ⟨j, s, hj, rfl, HS, HT⟩ := hrel
    by_cases hlt : 0 < j
    · have b1 : (1 : Int) ≤ (j : Int) := by omega
      obtain ⟨k, hk⟩ : ∃ k, j = k + 1 := ⟨j - 1, by omega⟩
      have hT1 : Rw p n (k + 1) s := hk ▸ HT.out
      have hlen := hT1.len
      have FA := (Fr.refl All wr).alloc (.cells #[.int .u8 (j : Int)] 5)
      have HK := Lib.hid (key11 wr (i := j) (by omega))
      have HA := Lib.hid (HS.out.all FA)
      have T5 : Hid (Rw p n k (s.add (rec11 p j))) := Lib.hid (by rw [hk]; exact hT1.add)
      have HN : Hid (isL s.l (rec11 p j).lsn = false) := Lib.hid (by rw [hk]; exact hT1.fresh)
      have hg0 := hT1.group
      have hsl : s.l.length < 16384 := by omega
      have hsd : deadS s.spans (rec11 p j).lsn (rec11 p j).epoch = false := by rw [hT1.spans]; rfl
      have HJK := Lib.hid hk
      have HSD := Lib.hid hsd
      have HG0 := Lib.hid hg0.symm
      clear FA HS hT1 hlen hk hsd hg0
      go_wp2_with fail
      refine (hadd (r := rec11 p j) HA.out HK.out (nilB All _) (rec11_valid hp256 (by omega) (by omega)) HG0.out HSD.out HN.out hsl).mono ?_
      rintro e w5 ⟨rfl, h5, _⟩
      have H5 := Lib.hid h5
      clear h5 HA HK HN
      go_wp2_with fail
      go_roundw
      case rel => exact ⟨k, _, by have := HJK.out; omega, by have := HJK.out; rw [show (k : Int) = (j : Int) - 1 by omega], H5, T5⟩
      case measure => have := HJK.out; simp [intOf]; omega
    · obtain rfl : j = 0 := by omega
      go_wp2_with fail
      refine (number1 wr (by omega) (by omega)).mono ?_
      rintro e wn ⟨m, hm1, hm2, rfl, hwn⟩
      obtain rfl := hwn.symm
      have hmn : m ≤ n := by omega
      clear hwn hm2
      obtain ⟨lv, sv, hg, _⟩ := HS.out.ex
      have HG := Lib.hid hg
      have HFR := Lib.hid HS.out.fr
      have HOF := Lib.hid (HT.out.of hmn)
      clear hg
      go_wp2_with fail
      refine (at_call HG.out (id := (p : Int)) (y := (m : Int)) (by omega) (by omega) (by omega) (by omega) (by rw [HOF.out]; intro h; have h2 := congrArg List.length h; simp [rows11] at h2; omega) (by rw [HOF.out]; simp [rows11]; omega)).mono ?_
      rintro e w4 ⟨q, A, c, hq, rfl, s4, f4⟩
      rw [HOF.out, page11 p m (by omega)] at hq
      subst hq
      dsimp only at s4 ⊢
      rw [ents11_len] at s4 ⊢
      have B5 := heap_alloc_new w4 (.cells #[.int .i64 (p : Int), .int .i64 (m : Int), .int .i64 0, .int .i64 (-1), .slice A m c] 66)
      have F5 := f4.alloc (.cells #[.int .i64 (p : Int), .int .i64 (m : Int), .int .i64 0, .int .i64 (-1), .slice A m c] 66)
      have HE := Lib.hid (s4.all ((Fr.refl All w4).alloc (.cells #[.int .i64 (p : Int), .int .i64 (m : Int), .int .i64 0, .int .i64 (-1), .slice A m c] 66)))
      obtain ⟨p0, p1, p2, p3, p4, pz⟩ := blk5 B5
      clear s4 f4
      have HF5 := Lib.hid F5
      go_wp2_with fail
      obtain ⟨W5, hW5⟩ : ∃ W5, w4.alloc (.cells #[.int .i64 (p : Int), .int .i64 (m : Int), .int .i64 0, .int .i64 (-1), .slice A m c] 66) = W5 := ⟨_, rfl⟩
      rw [hW5] at HE HF5 p0 p1 p2 p3 p4 pz ⊢
      clear hW5 B5 F5
      go_loopw [14] (fun i w6 => ∃ k : Nat, k ≤ m ∧ i = .int .i64 k ∧ Fr All W5 w6) (fun i _ => m - (intOf i).toNat)
      case atStart => exact ⟨0, Nat.zero_le _, rfl, Fr.refl _ _⟩
      case round =>
        obtain ⟨k, hk, rfl, HF⟩ := hrel
        by_cases hlt : k < m
        · obtain ⟨b, o, A0, n0, c0, A1, n1, c1, rfl, e0, e1, t0, t1⟩ := ent_at (HE.out.all HF) (ents11_get hlt)
          have hn0 := t0.len
          obtain rfl : n0 = 1 := hn0.symm
          obtain ⟨kb, ko, rfl, g0⟩ := t0.at1 (k := 0) (x := byte11 (k + 1)) rfl
          rw [byte11_nat (by omega)] at g0
          have g0' : wr.cell? ⟨kb, ko, none⟩ = some (Value.int .u8 ((k : Int) + 1)) := g0
          have q4 := HF.cell trivial p4
          have b0 : (0 : Int) ≤ (k : Int) := by omega
          have b1 : (k : Int) < (m : Int) := by omega
          clear hn0 t0 t1 e1 g0
          go_wp2_with fail
          go_roundw
          case rel => exact ⟨k + 1, by omega, by go_num, by first | exact HF | exact HF.drewN _ | exact HF.drew⟩
          case measure => simp [intOf]; omega
        · obtain rfl : m = k := by omega
          have FW := (HF5.out).trans (HF.mono fun _ _ => trivial)
          have HG6 := Lib.hid (HG.out.all FW)
          have HQ6 := Lib.hid (HQ.out.move ((f1.trans HFR.out).trans FW))
          have HF6 := Lib.hid ((f1.trans HFR.out).trans FW)
          have HO0 := Lib.hid ((HT.out.of (m := 0) (Nat.zero_le _)))
          clear p0 p1 p2 p3 p4 pz HF FW HE
          go_wp2_with fail
          refine (at_none (id := (p : Int)) (y := 0) HQ6.out HG6.out (by omega) (by omega) (by decide) (by decide) HO0.out).mono ?_
          rintro e w7 ⟨aN, hN, rfl, f7⟩
          have F8 := (HF6.out.trans f7).alloc (.cells #[.int .i64 0, .int .i64 0, .int .i64 0, .int .i64 0, .slice none 0 0] 66)
          have HQ8 := HQ.out.move F8
          have hd : decide ((101 : Int) + (6 : Nat) = 107 ∧ false = false ∧ (0 : Int) = 0) = true := by decide
          have SI := Lib.hid (show ∀ W, Fr All w W → Calls Tryd.prog 26 #[.iface 179 (.pointer (some aN)), .int .i64 107] W fun r w' => r = .returned (.bool true) ∧ Fr All W w' from fun W hW => by
            refine (see_is (Sees.bare (HQ.out.move hW) hN) 107).mono ?_
            rintro r w' ⟨rfl, f⟩
            exact ⟨ret_bool hd, f⟩)
          have HF8 := Lib.hid F8
          clear F8 HQ8 hd hN f7
          unfold errV
          go_wp2_with fail
          refine (SI.out _ HF8.out).mono ?_
          rintro e w9 ⟨rfl, f9⟩
          go_wp2_with fail
          go_ret
          exact ⟨rfl, HF8.out.trans f9⟩
end Go.Proofs.YtalidmlomfobdaaDoor
