/- HotGaps walked. -/
import Derived.Test.YtalidmlomfobdaaDoorHGp
import Derived.Test.YtalidmlomfobdaaDoorSameL
import Derived.Test.YtalidmlomfobdaaDoorBit
namespace Go.Proofs.YtalidmlomfobdaaDoor
open Go.RowKit

theorem Own.inside {α : Type} {d : Kd α} {e : TypeId} {base : Nat} {w : World} {v : Value} {xs : List α} (o : Own d e base Nowhere w v xs) : Sl d (fun b => base ≤ b ∧ b < w.heap.size) w v xs :=
  o.sl.mono fun b hb _ => by
    rcases hb with hb | hb
    · exact hb.elim
    · exact own_lt o b hb.symm

set_option maxRecDepth 100000 in
set_option maxHeartbeats 2000000 in
theorem gaps_walk (mask : Int) (w : World) : Calls Tryd.prog 3 #[.int .i64 mask] w fun e w' => e = .returned (.bool true) ∧ Fr All w w' := by
  go_enter Tryd.func3, Tryd.ntmps3
  go_wp2_with fail
  refine (first9_call w).mono ?_
  rintro e w1 ⟨rfl, f1⟩
  go_wp2_with fail
  refine (hnew 0 w1).mono ?_
  rintro e w2 ⟨rfl, h2⟩
  have H2 := Lib.hid h2
  clear h2
  go_wp2_with fail
  refine (row9_call (n := 30) (by decide) w2).mono ?_
  rintro e w3 ⟨A, c, rfl, o3, f3⟩
  have H3 := Lib.hid (H2.out.guard f3)
  obtain ⟨B, hB⟩ : ∃ B, w1.heap.size = B := ⟨_, rfl⟩
  rw [hB] at H3
  simp only [hB]
  obtain ⟨X, hX⟩ : ∃ X : Nat → Prop, X = fun b => False ∨ (w2.heap.size ≤ b ∧ b < w3.heap.size) := ⟨_, rfl⟩
  rw [← hX] at H3
  have HR : Hid (Sl kRedo X w3 (.slice A 30 c) (rows9 30)) := Lib.hid (by
    rw [hX]
    exact o3.inside.mono fun b hb _ => .inr hb)
  clear hX hB H2 o3 f3
  go_wp2_with fail
  have S3 : Hid (St9 30 (fun i => bitM mask i && decide (30 ≤ i)) (.new 0)) := Lib.hid (St9.new 30 _ fun i hi => by rw [decide_eq_false (show ¬ 30 ≤ i by omega), Bool.and_false])
  go_loopw [6] (fun i wr => ∃ (j : Nat) (s : HSt), j ≤ 30 ∧ i = .int .i64 ((j : Int) - 1) ∧ Hid (HHd X w1 wr B s) ∧ Hid (St9 30 (fun i => bitM mask i && decide (j ≤ i)) s) ∧ Fr X w3 wr) (fun i _ => (intOf i + 1).toNat)
  case atStart => exact ⟨30, _, by decide, rfl, H3, S3, Fr.refl _ _⟩
  case round =>
    obtain ⟨j, s, hj, rfl, HS, HT, HF⟩ := hrel
    by_cases hlt : 0 < j
    · obtain ⟨k, rfl⟩ : ∃ k, j = k + 1 := ⟨j - 1, by omega⟩
      rw [show ((k + 1 : Nat) : Int) - 1 = (k : Int) by omega]
      have b0 : (0 : Int) ≤ (k : Int) := by omega
      have b1 : (k : Int) < 30 := by omega
      have d0 : decide ((k : Int) ≥ 0) = true := decide_eq_true (by omega)
      cases hb : bitM mask k with
      | false =>
        have hb' : (bits .and .i64 (mask / 2 ^ k) 1 == 1) = false := hb
        have HB := Lib.hid hb
        clear hb
        go_wp2_with fail
        have HT2 : Hid (St9 30 (fun i => bitM mask i && decide (k ≤ i)) s) := Lib.hid (HT.out.same fun i hi => by
          by_cases hik : i = k
          · rw [hik, HB.out]; rfl
          · have : decide (k ≤ i) = decide (k + 1 ≤ i) := by rw [decide_eq_decide]; omega
            rw [this])
        go_roundw
        case rel => exact ⟨k, s, by omega, by go_num, HS, HT2, HF⟩
        case measure => simp [intOf]
      | true =>
        have hb' : (bits .and .i64 (mask / 2 ^ k) 1 == 1) = true := hb
        have HB := Lib.hid hb
        clear hb
        obtain ⟨b, o, X0, n0, c0, X1, n1, c1, rfl, g0, g1, g2, g3, g4, g5, g6, g7, g8, g9, t0, t1⟩ := redo_at (HR.out.move HF) (rows9_get (n := 30) (i := k) (by omega))
        have T0 := Lib.hid t0
        have T1 := Lib.hid t1
        clear t0 t1
        go_wp2_with fail
        refine (hadd9 (Q := fun i => bitM mask i && decide (k ≤ i)) HS.out HT.out (by decide) (by omega) (by rw [decide_eq_false (by omega), Bool.and_false]) (fun i hi => by
          by_cases hik : i = k
          · subst hik; rw [HB.out]; simp
          · have h1 : decide (k ≤ i) = decide (k + 1 ≤ i) := by rw [decide_eq_decide]; omega
            rw [h1, beq_false_of_ne hik, Bool.or_false]) T0.out T1.out).mono ?_
        rintro e w5 ⟨rfl, h5, t5, f5⟩
        have H5 := Lib.hid h5
        have T5 := Lib.hid t5
        have F5 := HF.trans f5
        clear h5 t5 f5 g0 g1 g2 g3 g4 g5 g6 g7 g8 g9
        go_wp2_with fail
        go_roundw
        case rel => exact ⟨k, _, by omega, by go_num, H5, T5, F5⟩
        case measure => simp [intOf]
    · obtain rfl : j = 0 := by omega
      have HT2 : Hid (St9 30 (bitM mask) s) := Lib.hid (HT.out.same fun i hi => by simp)
      obtain ⟨W, hW⟩ : ∃ W, W = wr := ⟨_, rfl⟩
      subst hW
      have HR2 := Lib.hid (HR.out.move HF)
      clear HT
      go_wp2_with fail
      go_loopw [7, 8, 9, 10] (fun v far wh i wr => ∃ j : Nat, j ≤ 30 ∧ i = .int .i64 j ∧ far = .int .i64 (2 * (lead (bitM mask) j : Int)) ∧ wh = .bool (decide (lead (bitM mask) j = j)) ∧ Hid (Own kInt 2 W.heap.size All wr v (gapP (bitM mask) j)) ∧ Fr All W wr) (fun _ _ _ i _ => 30 - (intOf i).toNat)
      case atStart => exact ⟨0, by decide, rfl, rfl, rfl, Lib.hid (Own.nil_ _ _ _ _ _), Fr.refl _ _⟩
      case round =>
        obtain ⟨j, hj, rfl, rfl, rfl, HV, HF2⟩ := hrel
        by_cases hlt : j < 30
        · obtain ⟨b, o, X0, n0, c0, X1, n1, c1, rfl, g0, g1, g2, g3, g4, g5, g6, g7, g8, g9, t0, t1⟩ := redo_at (HR2.out.all HF2) (rows9_get (n := 30) (i := j) (by omega))
          have HS2 := Lib.hid (gapP_succ (bitM mask) j)
          have b0 : (0 : Int) ≤ (j : Int) := by omega
          have b1 : (j : Int) < 30 := by omega
          clear t0 t1 g1 g2 g3 g4 g5 g6 g7 g8 g9
          cases hb : bitM mask j with
          | false =>
            have hb' : (bits .and .i64 (mask / 2 ^ j) 1 == 1) = false := hb
            have hl : lead (bitM mask) (j + 1) = lead (bitM mask) j := by rw [lead, if_neg]; rw [hb]; simp
            have hl2 : decide (lead (bitM mask) (j + 1) = j + 1) = false := decide_eq_false (by rw [hl]; have := (lead_is (bitM mask) j).1; omega)
            have HB := Lib.hid hb
            have HL := Lib.hid hl
            have HL2 := Lib.hid hl2
            have HV2 : Hid (Own kInt 2 W.heap.size All wr u7 (gapP (bitM mask) (j + 1))) := Lib.hid (by
              rw [HS2.out, HB.out]
              simp only [Bool.false_and, Bool.false_eq_true, if_false, List.append_nil]
              exact HV.out)
            clear hb hl hl2
            cases hw : decide (lead (bitM mask) j = j) with
            | true =>
              go_wp2_with fail
              go_roundw
              case rel => exact ⟨j + 1, by omega, by go_num, by rw [HL.out], by rw [HL2.out], HV2, HF2⟩
              case measure => simp [intOf]; omega
            | false =>
              go_wp2_with fail
              go_roundw
              case rel => exact ⟨j + 1, by omega, by go_num, by rw [HL.out], by rw [HL2.out], HV2, HF2⟩
              case measure => simp [intOf]; omega
          | true =>
            have hb' : (bits .and .i64 (mask / 2 ^ j) 1 == 1) = true := hb
            have HB := Lib.hid hb
            clear hb
            cases hw : decide (lead (bitM mask) j = j) with
            | true =>
              have hl : lead (bitM mask) (j + 1) = j + 1 := by rw [lead, if_pos ⟨of_decide_eq_true hw, HB.out⟩]
              have hl2 : decide (lead (bitM mask) (j + 1) = j + 1) = true := decide_eq_true hl
              have HL : Hid (Value.int .i64 (rec9 j).lsn = Value.int .i64 (2 * (lead (bitM mask) (j + 1) : Int))) := Lib.hid (by rw [hl, rec9_lsn]; congr 1)
              have HL2 := Lib.hid hl2
              clear hl hl2
              rcases Nat.eq_zero_or_pos j with h0 | h0
              · have d1 : decide (0 < j) = false := decide_eq_false (by omega)
                have d2 : decide ((j : Int) > 0) = false := decide_eq_false (by omega)
                have HV2 : Hid (Own kInt 2 W.heap.size All wr u7 (gapP (bitM mask) (j + 1))) := Lib.hid (by
                  rw [HS2.out, decide_eq_false (show ¬ 0 < j by omega)]
                  simp only [Bool.false_and, Bool.and_false, Bool.false_eq_true, if_false, List.append_nil]
                  exact HV.out)
                clear h0
                go_wp2_with fail
                go_roundw
                case rel => exact ⟨j + 1, by omega, by go_num, HL.out, by rw [HL2.out], HV2, HF2⟩
                case measure => simp [intOf]; omega
              · obtain ⟨q, hq, hqi⟩ : ∃ q : Nat, j - 1 = q ∧ (j : Int) - 1 = (q : Int) := ⟨j - 1, rfl, by omega⟩
                have HQ := Lib.hid hq
                have d1 : decide (0 < j) = true := decide_eq_true (by omega)
                have H0 := Lib.hid h0
                have HLT := Lib.hid (show q < 30 by omega)
                clear hq h0
                cases hp : bitM mask q with
                | true =>
                  have hp' : (bits .and .i64 (mask / 2 ^ q) 1 == 0) = false := (bitM_not mask q).trans (by rw [hp]; rfl)
                  have HV2 : Hid (Own kInt 2 W.heap.size All wr u7 (gapP (bitM mask) (j + 1))) := Lib.hid (by
                    rw [HS2.out, HQ.out, hp]
                    simp only [Bool.not_true, Bool.and_false, Bool.false_eq_true, if_false, List.append_nil]
                    exact HV.out)
                  clear hp
                  go_wp2_with fail
                  go_roundw
                  case rel => exact ⟨j + 1, by omega, by go_num, HL.out, by rw [HL2.out], HV2, HF2⟩
                  case measure => simp [intOf]; omega
                | false =>
                  have hp' : (bits .and .i64 (mask / 2 ^ q) 1 == 0) = true := (bitM_not mask q).trans (by rw [hp]; rfl)
                  have HP := Lib.hid hp
                  obtain ⟨b2, o2, Y0, m0, d0, Y1, m1, d1', hA, e0, _⟩ := redo_at (HR2.out.all HF2) (rows9_get (n := 30) (i := q) HLT.out)
                  injection hA with hA
                  injection hA with hA1 hA2 _
                  subst hA1
                  subst hA2
                  have FB := (Fr.refl All wr).alloc (.cells #[.int .i64 (rec9 q).lsn] 2)
                  have HO3 := HV.out.all FB
                  have HY : Src kInt Nowhere (wr.alloc (.cells #[.int .i64 (rec9 q).lsn] 2)) (.slice (some ⟨wr.heap.size, 0, none⟩) 1 1) [(rec9 q).lsn] := Src.box (d := kInt) (x := (rec9 q).lsn) (cs := [.int .i64 (rec9 q).lsn]) rfl _ 1
                  have hgl := gapP_len (bitM mask) j
                  have hl6 : ((gapP (bitM mask) j).length + [(rec9 q).lsn].length) * 8 ≤ 140737488355328 := by
                    simp only [List.length_cons, List.length_nil]
                    omega
                  have hb6 : W.heap.size ≤ (wr.alloc (.cells #[.int .i64 (rec9 q).lsn] 2)).heap.size := (HF2.trans FB).size
                  have c0 : (0 : Int) ≤ (q : Int) := by omega
                  have c1 : (q : Int) < 30 := by have := HLT.out; omega
                  clear hgl hp
                  go_wp2_with (at_builtin; refine wpList_app rfl rfl Tryd.underlying35 info_long rfl (by decide) HO3 HY rfl rfl (fun b hb _ => hb.elim) hl6 hb6 ?_; intro v7 w7 o7 f7 h7)
                  have F7 : Fr All W w7 := (HF2.trans FB).row f7.grown fun m hm => (own_lt HO3 m hm).1
                  have HV2 : Hid (Own kInt 2 W.heap.size All w7 v7 (gapP (bitM mask) (j + 1))) := Lib.hid (by
                    rw [HS2.out, HQ.out, HP.out, HB.out, decide_eq_true H0.out]
                    simp only [Bool.not_false, Bool.and_true, if_true]
                    rw [show (2 * (j : Int)) = (rec9 q).lsn by rw [rec9_lsn]; omega]
                    exact o7)
                  clear o7 f7 h7 HO3 HY hl6 hb6
                  go_roundw
                  case rel => exact ⟨_, _, _, _, ⟨j + 1, by omega, by go_num, HL.out, by rw [HL2.out], HV2, F7⟩, rfl, rfl, rfl, rfl⟩
                  case measure => simp [intOf]; omega
            | false =>
              have hl : lead (bitM mask) (j + 1) = lead (bitM mask) j := by rw [lead, if_neg]; exact fun h => of_decide_eq_false hw h.1
              have hl2 : decide (lead (bitM mask) (j + 1) = j + 1) = false := decide_eq_false (by rw [hl]; have := (lead_is (bitM mask) j).1; omega)
              have HL : Hid (Value.int .i64 (2 * (lead (bitM mask) j : Int)) = Value.int .i64 (2 * (lead (bitM mask) (j + 1) : Int))) := Lib.hid (by rw [hl])
              have HL2 := Lib.hid hl2
              clear hl hl2
              rcases Nat.eq_zero_or_pos j with h0 | h0
              · have d1 : decide (0 < j) = false := decide_eq_false (by omega)
                have d2 : decide ((j : Int) > 0) = false := decide_eq_false (by omega)
                have HV2 : Hid (Own kInt 2 W.heap.size All wr u7 (gapP (bitM mask) (j + 1))) := Lib.hid (by
                  rw [HS2.out, decide_eq_false (show ¬ 0 < j by omega)]
                  simp only [Bool.false_and, Bool.and_false, Bool.false_eq_true, if_false, List.append_nil]
                  exact HV.out)
                clear h0
                go_wp2_with fail
                go_roundw
                case rel => exact ⟨j + 1, by omega, by go_num, HL.out, by rw [HL2.out], HV2, HF2⟩
                case measure => simp [intOf]; omega
              · obtain ⟨q, hq, hqi⟩ : ∃ q : Nat, j - 1 = q ∧ (j : Int) - 1 = (q : Int) := ⟨j - 1, rfl, by omega⟩
                have HQ := Lib.hid hq
                have d1 : decide (0 < j) = true := decide_eq_true (by omega)
                have H0 := Lib.hid h0
                have HLT := Lib.hid (show q < 30 by omega)
                clear hq h0
                cases hp : bitM mask q with
                | true =>
                  have hp' : (bits .and .i64 (mask / 2 ^ q) 1 == 0) = false := (bitM_not mask q).trans (by rw [hp]; rfl)
                  have HV2 : Hid (Own kInt 2 W.heap.size All wr u7 (gapP (bitM mask) (j + 1))) := Lib.hid (by
                    rw [HS2.out, HQ.out, hp]
                    simp only [Bool.not_true, Bool.and_false, Bool.false_eq_true, if_false, List.append_nil]
                    exact HV.out)
                  clear hp
                  go_wp2_with fail
                  go_roundw
                  case rel => exact ⟨j + 1, by omega, by go_num, HL.out, by rw [HL2.out], HV2, HF2⟩
                  case measure => simp [intOf]; omega
                | false =>
                  have hp' : (bits .and .i64 (mask / 2 ^ q) 1 == 0) = true := (bitM_not mask q).trans (by rw [hp]; rfl)
                  have HP := Lib.hid hp
                  obtain ⟨b2, o2, Y0, m0, d0, Y1, m1, d1', hA, e0, _⟩ := redo_at (HR2.out.all HF2) (rows9_get (n := 30) (i := q) HLT.out)
                  injection hA with hA
                  injection hA with hA1 hA2 _
                  subst hA1
                  subst hA2
                  have FB := (Fr.refl All wr).alloc (.cells #[.int .i64 (rec9 q).lsn] 2)
                  have HO3 := HV.out.all FB
                  have HY : Src kInt Nowhere (wr.alloc (.cells #[.int .i64 (rec9 q).lsn] 2)) (.slice (some ⟨wr.heap.size, 0, none⟩) 1 1) [(rec9 q).lsn] := Src.box (d := kInt) (x := (rec9 q).lsn) (cs := [.int .i64 (rec9 q).lsn]) rfl _ 1
                  have hgl := gapP_len (bitM mask) j
                  have hl6 : ((gapP (bitM mask) j).length + [(rec9 q).lsn].length) * 8 ≤ 140737488355328 := by
                    simp only [List.length_cons, List.length_nil]
                    omega
                  have hb6 : W.heap.size ≤ (wr.alloc (.cells #[.int .i64 (rec9 q).lsn] 2)).heap.size := (HF2.trans FB).size
                  have c0 : (0 : Int) ≤ (q : Int) := by omega
                  have c1 : (q : Int) < 30 := by have := HLT.out; omega
                  clear hgl hp
                  go_wp2_with (at_builtin; refine wpList_app rfl rfl Tryd.underlying35 info_long rfl (by decide) HO3 HY rfl rfl (fun b hb _ => hb.elim) hl6 hb6 ?_; intro v7 w7 o7 f7 h7)
                  have F7 : Fr All W w7 := (HF2.trans FB).row f7.grown fun m hm => (own_lt HO3 m hm).1
                  have HV2 : Hid (Own kInt 2 W.heap.size All w7 v7 (gapP (bitM mask) (j + 1))) := Lib.hid (by
                    rw [HS2.out, HQ.out, HP.out, HB.out, decide_eq_true H0.out]
                    simp only [Bool.not_false, Bool.and_true, if_true]
                    rw [show (2 * (j : Int)) = (rec9 q).lsn by rw [rec9_lsn]; omega]
                    exact o7)
                  clear o7 f7 h7 HO3 HY hl6 hb6
                  go_roundw
                  case rel => exact ⟨_, _, _, _, ⟨j + 1, by omega, by go_num, HL.out, by rw [HL2.out], HV2, F7⟩, rfl, rfl, rfl, rfl⟩
                  case measure => simp [intOf]; omega
        · obtain rfl : j = 30 := by omega
          obtain ⟨GA, gc, hv⟩ := HV.out.length
          subst hv
          have HS3 := Lib.hid (HS.out.all HF2)
          have hgl := gapP_len (bitM mask) 30
          obtain ⟨L, hL⟩ : ∃ L : Int, 2 * (lead (bitM mask) 30 : Int) = L := ⟨_, rfl⟩
          rw [hL]
          have HLL := Lib.hid hL
          have HGL := Lib.hid hgl
          clear hL hgl
          go_wp2_with fail
          refine (hgaps HS3.out).mono ?_
          rintro e w5 ⟨A5, m5, c5, g5, rfl, hg, o5, f5⟩
          obtain rfl := hg.inj HT2.out.has.gaps
          have O5 := Lib.hid o5.sl
          have HV5 := Lib.hid (HV.out.all f5).sl
          have HS5 := Lib.hid (HS3.out.all f5)
          clear hg o5 f5
          go_wp2_with fail
          refine (same_longs O5.out HV5.out (by have := HGL.out; omega)).mono ?_
          rintro e w6 ⟨rfl, f6⟩
          have HS6 := Lib.hid (HS5.out.all f6)
          have hdd : decide (gapP (bitM mask) 30 = gapP (bitM mask) 30) = true := decide_eq_true rfl
          clear f6
          go_wp2_with fail
          refine (hscl HS6.out).mono ?_
          rintro e w7 ⟨v, rfl, hc, h7, f7⟩
          have hv := hc.inj HT2.out.has.lead
          have HV7 := Lib.hid (hv.trans HLL.out)
          have F7 := Lib.hid h7.fr
          clear hc hv h7 f7
          go_wp2_with fail
          go_ret
          exact ⟨ret_bool (by rw [HV7.out]; simp), f1.trans F7.out⟩
end Go.Proofs.YtalidmlomfobdaaDoor
