/- VersFloors walked. -/
import Derived.Test.YtalidmlomfobdaaDoorVFb
import Derived.Test.YtalidmlomfobdaaDoorHHe
import Derived.Test.YtalidmlomfobdaaDoorNum
import Derived.Test.YtalidmlomfobdaaDoorBit
import Derived.Test.YtalidmlomfobdaaDoorPRow
namespace Go.Proofs.YtalidmlomfobdaaDoor
open Go.RowKit

set_option maxRecDepth 100000 in
set_option maxHeartbeats 20000000 in
theorem floors_walk {qs : List Addr} {w : World} (hq : Errs w qs) {S1 : Nat → Prop} {PA : Option Addr} {pn pc : Nat} {ps : List Int} (a0 a2 : Int) (s1 : Sl kInt S1 w (.slice PA pn pc) ps) :
    Calls Tryd.prog 12 #[.int .i64 a0, .slice PA pn pc, .int .i64 a2] w fun e w' => e = .returned (.bool true) ∧ Fr All w w' := by
  have HQ := Lib.hid hq
  have HS := Lib.hid s1
  obtain ⟨ask, hask⟩ : ∃ k, bits .and .i64 a2 31 = k := ⟨_, rfl⟩
  have hask0 : 0 ≤ ask := by rw [← hask, and31]; omega
  have hask1 : ask < 32 := by rw [← hask, and31]; omega
  clear hq s1
  go_enter Tryd.func12, Tryd.ntmps12
  go_wp2_with fail
  refine (first11_call w).mono ?_
  rintro e w1 ⟨rfl, f1⟩
  have F1 := Lib.hid f1
  clear f1
  go_wp2_with fail
  refine (number1 w1 (by omega) (by omega)).mono ?_
  rintro e wn ⟨n, hn1, hn2, rfl, hwn⟩
  obtain rfl := hwn.symm
  have hn20 : n ≤ 20 := by omega
  clear hwn hn2
  by_cases hpn : pn ≤ 10
  · go_wp2_with fail
    refine (hnew 0 w1).mono ?_
    rintro e w2 ⟨rfl, h2⟩
    have H2 := Lib.hid h2
    have hB2 := h2.lt
    obtain ⟨B, hB⟩ : ∃ B, w1.heap.size = B := ⟨_, rfl⟩
    rw [hB] at H2 hB2
    simp only [hB]
    clear h2 hB
    go_wp2_with fail
    refine (newbase_call w2).mono ?_
    rintro e w3 ⟨rfl, k3, f3⟩
    obtain ⟨X, hX⟩ : ∃ X : Nat → Prop, X = fun x => w2.heap.size ≤ x ∧ x < w3.heap.size := ⟨_, rfl⟩
    have H3 : Hid (HHe X w1 w3 B (.new 0)) := Lib.hid (by rw [hX]; exact H2.out.guarded f3)
    have HXb : Hid (X w2.heap.size) := Lib.hid (by rw [hX]; exact ⟨Nat.le_refl _, blk_lt k3⟩)
    have K3 := Lib.hid k3
    obtain ⟨b, hb⟩ : ∃ b, w2.heap.size = b := ⟨_, rfl⟩
    have hbB : b ≠ B := by omega
    rw [hb] at HXb K3
    simp only [hb]
    have HB1 : Hid (w1.heap.size ≤ b) := Lib.hid (by have := H2.out.fr.size; omega)
    clear hX k3 f3 hb hB2 H2
    go_wp2_with fail
    go_loopw [10] (fun i wr => ∃ (j : Nat) (s : HSt), 1 ≤ j ∧ j ≤ n + 1 ∧ i = .int .i64 j ∧ Hid (HHe X w1 wr B s) ∧ Hid (Fw (j - 1) s) ∧ Fr X w3 wr) (fun i _ => n + 1 - (intOf i).toNat)
    case atStart => exact ⟨1, _, Nat.le_refl _, by omega, rfl, H3, (Fw.new : Fw (1 - 1) (.new 0)), Fr.refl _ _⟩
    case round =>
      obtain ⟨j, s, hj1, hj2, rfl, HH, HT, HF⟩ := hrel
      by_cases hlt : j ≤ n
      · have b1 : (1 : Int) ≤ (j : Int) := by omega
        have b2 : (j : Int) ≤ (n : Int) := by omega
        obtain ⟨k, hk⟩ : ∃ k, j = k + 1 := ⟨j - 1, by omega⟩
        have hT1 : Fw k s := by have := HT.out; rw [hk] at this; exact this
        have T5 : Hid (Fw k.succ (s.add (recF j))) := Lib.hid (by rw [hk]; exact hT1.add)
        have HN : Hid (isL s.l (recF j).lsn = false) := Lib.hid (by rw [hk]; exact hT1.fresh)
        have hsl : s.l.length < 16384 := by have := hT1.len; omega
        have hsd : deadS s.spans (recF j).lsn (recF j).epoch = false := by rw [hT1.spans]; rfl
        have hg0 : (recF j).group = s.group := hT1.group.symm
        have HJK := Lib.hid hk
        have HSD := Lib.hid hsd
        have HG0 := Lib.hid hg0
        have HFF := Lib.hid HF
        clear hT1 hk hsd hg0 HT HF
        go_wp2_with fail
        refine (headd (r := recF j) HH.out (nilB All _) (nilB All _) (recF_valid (by omega) (by omega)) HG0.out HSD.out HN.out hsl).mono ?_
        rintro e w5 ⟨rfl, h5, f5⟩
        have H5 := Lib.hid h5
        have F5 := HFF.out.trans f5
        clear h5 f5 HH HN
        go_wp2_with fail
        go_roundw
        case rel => exact ⟨j + 1, _, by omega, by omega, by go_num, H5, Lib.hid (by have := T5.out; have h6 := HJK.out; rw [show j + 1 - 1 = k.succ by omega]; exact this), F5⟩
        case measure => simp [intOf]; omega
      · obtain rfl : j = n + 1 := by omega
        rw [show ((n + 1 : Nat) : Int) = (n : Int) + 1 by omega]
        have HTT : Hid (Fw n s) := Lib.hid HT.out
        obtain ⟨lv, sv, hg, hlv⟩ := HH.out.ex
        have HG := Lib.hid hg
        have HLV := Lib.hid hlv
        have HFR := Lib.hid HH.out.fr
        have HKW : Hid (VBlk wr b none 0 0 (.slice none 0 0)) := Lib.hid ((HF.block b (blk_lt K3.out) HXb.out).trans K3.out)
        have HSb : Hid (∀ x, (x ≠ B ∧ ¬ X x) → x ≠ b) := Lib.hid fun x hx e => hx.2 (e ▸ HXb.out)
        have HLb : Hid (lv.ownBlock ≠ some b) := Lib.hid fun e => (HLV.out b e).2 HXb.out
        have hb1 : w1.heap.size ≤ b := HB1.out
        have hB1 : w1.heap.size ≤ B := HH.out.b0
        have hww1 := F1.out.size
        clear hg hlv HT HH HF H3
        rcases (⟨wr, rfl⟩ : ∃ W5, W5 = wr) with ⟨W5, hW5⟩
        subst hW5
        go_wp2_with fail
        go_loopw [11, 12] (fun at_ i w6 => ∃ (t : Int) (k : Nat) (s2 : HSt) (l : Option Addr) (A : Option Addr) (m c : Nat), k ≤ pn ∧ 0 ≤ t ∧ at_ = .int .i64 t ∧ i = .int .i64 k ∧ (l = none ∨ l = some ⟨B, 0, none⟩) ∧ m ≤ 1 ∧ Hid (Fw n s2) ∧ Hid (Hg (fun x => x ≠ B ∧ ¬ X x) w6 B lv sv s2) ∧ Hid (VBlk w6 b l 0 t (.slice A m c)) ∧ Fr (fun x => x ≠ b ∧ x ≠ B) W5 w6) (fun _ i _ => pn - (intOf i).toNat)
        case atStart => exact ⟨0, 0, s, none, none, 0, 0, Nat.zero_le _, Int.le_refl _, rfl, rfl, .inl rfl, Nat.zero_le _, HTT, HG, HKW, Fr.refl _ _⟩
        case round =>
          obtain ⟨t, k, s2, l, A, m, c, hk, ht0, rfl, rfl, hl, hm, HT2, HG2, HK2, HF2⟩ := hrel
          have FW : Hid (Fr All w wr) := Lib.hid (fr_past (F1.out.trans HFR.out) HF2 fun x hx => ⟨by omega, by omega⟩)
          by_cases hlt : k < pn
          · obtain ⟨z, hz, _⟩ := get_of (l := ps) (k := k) (by rw [HS.out.len]; exact hlt)
            obtain ⟨fb, fo, rfl, g0⟩ := (HS.out.all FW.out).at1 (k := k) (x := z) hz
            have b0 : (0 : Int) ≤ (k : Int) := by omega
            have b1 : (k : Int) < (pn : Int) := by omega
            have HF2' := Lib.hid HF2
            clear hz HF2
            go_wp2_with fail
            refine (number wr (by omega) (by omega)).mono ?_
            rintro e wn ⟨f, hf, rfl, hwn⟩
            obtain rfl := hwn.symm
            clear hwn
            go_wp2_with fail
            refine (raise_call HG2.out HT2.out.cuts HK2.out hl hbB HSb.out HLb.out (f : Int) hm HT2.out.ids).mono ?_
            rintro e w7 ⟨v, A', m', c', rfl, hm', hcl, k7, h7, f7⟩
            obtain rfl := hcl.inj HT2.out.climb
            obtain ⟨q, hq⟩ : ∃ q, min (f : Int) (n : Int) = q := ⟨_, rfl⟩
            obtain ⟨t2, ht2⟩ : ∃ t2, max t q = t2 := ⟨_, rfl⟩
            rw [hq, ht2] at k7
            have ht20 : 0 ≤ t2 := by omega
            have K7 := Lib.hid k7
            have H7 := Lib.hid h7
            have F7 := Lib.hid (HF2'.out.trans f7)
            have T7 : Hid (Fw n (s2.knows (n : Int))) := Lib.hid (HT2.out.knows _)
            clear k7 h7 f7 hcl g0
            go_wp2_with fail
            refine (floor_call H7.out T7.out.cuts K7.out).mono ?_
            rintro e w8 ⟨rfl, f8⟩
            have K8 : Hid (VBlk w8 b (some ⟨B, 0, none⟩) 0 t2 (.slice A' m' c')) := Lib.hid ((f8.block b (blk_lt K7.out) trivial).trans K7.out)
            have H8 := Lib.hid (H7.out.all f8)
            have F8 := F7.out.then_all f8
            clear f8
            go_wp2_with fail
            go_roundw
            case rel => exact ⟨t2, k + 1, _, _, A', m', c', by omega, ht20, rfl, by go_num, .inr rfl, hm', T7, H8, K8, F8⟩
            case measure => simp [intOf]; omega
          · obtain rfl : k = pn := by omega
            have hwb : w.heap.size ≤ b := by omega
            clear HF2
            by_cases ha : ask < t
            · have hda : decide (ask < t) = true := decide_eq_true ha
              have HA := Lib.hid ha
              clear ha
              go_wp2_with fail
              refine (bat_ahead HQ.out FW.out hwb HG2.out HT2.out.cuts HK2.out hl hbB HSb.out HLb.out hask0 (by omega) HA.out).mono ?_
              rintro e w7 ⟨aN, hN, rfl, f7⟩
              have F8 := (fr_past FW.out f7 fun x hx => by omega).alloc (.cells #[.int .i64 0, .int .i64 0, .int .i64 0, .int .i64 0, .slice none 0 0] 66)
              have HQ8 := HQ.out.move F8
              have hd : decide ((101 : Int) + (6 : Nat) = 107 ∧ false = false ∧ (0 : Int) = 0) = true := by decide
              have SI := Lib.hid (show ∀ W, Fr All w W → Calls Tryd.prog 26 #[.iface 179 (.pointer (some aN)), .int .i64 107] W fun r w' => r = .returned (.bool true) ∧ Fr All W w' from fun W hW => by
                refine (see_is (Sees.bare (HQ.out.move hW) hN) 107).mono ?_
                rintro r w' ⟨rfl, f⟩
                exact ⟨ret_bool hd, f⟩)
              have HF8 := Lib.hid F8
              clear F8 HQ8 hd hN f7
              unfold errV
              go_wp2_with fail
              refine (SI.out _ HF8.out).mono ?_
              rintro e w9 ⟨rfl, f9⟩
              go_wp2_with fail
              go_ret
              exact ⟨rfl, HF8.out.trans f9⟩
            · have hda : decide (ask < t) = false := decide_eq_false ha
              have HA := Lib.hid ha
              clear ha
              by_cases h0 : ask = 0
              · subst h0
                go_wp2_with fail
                refine (bat_none HQ.out FW.out hwb HG2.out HT2.out.cuts HK2.out hl hbB HSb.out HLb.out (y := 0) (by decide) (by decide) (by have := HA.out; omega) (by rw [HT2.out.of (by decide)]; simp [rowsF])).mono ?_
                rintro e w7 ⟨aN, hN, rfl, f7⟩
                have F8 := (fr_past FW.out f7 fun x hx => by omega).alloc (.cells #[.int .i64 0, .int .i64 0, .int .i64 0, .int .i64 0, .slice none 0 0] 66)
                have HQ8 := HQ.out.move F8
                have hd : decide ((101 : Int) + (6 : Nat) = 107 ∧ false = false ∧ (0 : Int) = 0) = true := by decide
                have SI := Lib.hid (show ∀ W, Fr All w W → Calls Tryd.prog 26 #[.iface 179 (.pointer (some aN)), .int .i64 107] W fun r w' => r = .returned (.bool true) ∧ Fr All W w' from fun W hW => by
                  refine (see_is (Sees.bare (HQ.out.move hW) hN) 107).mono ?_
                  rintro r w' ⟨rfl, f⟩
                  exact ⟨ret_bool hd, f⟩)
                have HF8 := Lib.hid F8
                clear F8 HQ8 hd hN f7
                unfold errV
                go_wp2_with fail
                refine (SI.out _ HF8.out).mono ?_
                rintro e w9 ⟨rfl, f9⟩
                go_wp2_with fail
                go_ret
                exact ⟨rfl, HF8.out.trans f9⟩
              · have hd0 : (ask == 0) = false := beq_false_of_ne h0
                have hask2 : 0 < ask := by omega
                obtain ⟨mm, hmm⟩ : ∃ mm, min ask.toNat n = mm := ⟨_, rfl⟩
                have hmm1 : 1 ≤ mm := by omega
                have hmm2 : mm ≤ 20 := by omega
                have hmin : min ask (n : Int) = (mm : Int) := by omega
                have hof : ofL s2.l 3 ask = rowsF mm := by rw [HT2.out.of hask0, hmm]
                have HMM := Lib.hid hmm
                have HOF := Lib.hid hof
                clear h0 hmm hof
                go_wp2_with fail
                refine (bat_page HQ.out FW.out hwb HG2.out HT2.out.cuts HK2.out hl hbB HSb.out HLb.out hask0 (by omega) (by have := HA.out; omega) (by rw [HOF.out]; intro h; have h2 := congrArg List.length h; rw [rowsF_len] at h2; simp at h2; omega) (by rw [HOF.out, rowsF_len]; exact hmm2)).mono ?_
                rintro e w7 ⟨q, A7, c7, hq7, rfl, k7, ⟨S7, h7⟩, f7⟩
                rw [HOF.out, pageF] at hq7
                subst hq7
                dsimp only [List.length_nil]
                have F7 := fr_past FW.out f7 fun x hx => by omega
                have B8 := heap_alloc_new w7 (.cells #[.int .i64 3, .int .i64 (mm : Int), .int .i64 0, .int .i64 (-1), .slice A7 0 c7] 66)
                have F8 := (Fr.refl All w7).alloc (.cells #[.int .i64 3, .int .i64 (mm : Int), .int .i64 0, .int .i64 (-1), .slice A7 0 c7] 66)
                have K8 : Hid (VBlk (w7.alloc (.cells #[.int .i64 3, .int .i64 (mm : Int), .int .i64 0, .int .i64 (-1), .slice A7 0 c7] 66)) b (some ⟨B, 0, none⟩) 0 t (.slice A m c)) := Lib.hid ((F8.block b (blk_lt k7) trivial).trans k7)
                have H8 := Lib.hid (h7.all F8)
                have HF8 := Lib.hid (F7.trans F8)
                obtain ⟨p0, p1, p2, p3, p4, pz⟩ := blk5 B8
                have hm1 : (m : Int) ≤ 1 := by omega
                clear k7 h7 f7 F7 F8 B8
                go_wp2_with fail
                refine (blen_call H8.out HT2.out.cuts K8.out).mono ?_
                rintro e w9 ⟨rfl, f9⟩
                have HF9 := Lib.hid (HF8.out.trans f9)
                go_wp2_with fail
                go_ret
                exact ⟨rfl, HF9.out⟩
  · go_wp2_with fail
    go_ret
    exact ⟨rfl, F1.out⟩
end Go.Proofs.YtalidmlomfobdaaDoor
