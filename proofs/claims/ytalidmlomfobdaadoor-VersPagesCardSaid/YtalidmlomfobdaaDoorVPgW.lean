/- VersPages walked. -/
import Derived.Test.YtalidmlomfobdaaDoorVPg
import Derived.Test.YtalidmlomfobdaaDoorVBase
import Derived.Test.YtalidmlomfobdaaDoorHHe
import Derived.Test.YtalidmlomfobdaaDoorNum
import Derived.Test.YtalidmlomfobdaaDoorBit
import Derived.Test.YtalidmlomfobdaaDoorPRow
import Derived.Test.YtalidmlomfobdaaDoorSameI
namespace Go.Proofs.YtalidmlomfobdaaDoor
open Go.RowKit

theorem byteP_nat {i : Nat} (h : i ≤ 255) : ((byteP i).toNat : Int) = (i : Int) := by
  unfold byteP
  rw [UInt8.toNat_ofNat']
  omega
theorem keyP (w : World) {i : Nat} (h : i ≤ 255) : Sl kByte All (w.alloc (.cells #[.int .u8 (i : Int)] 5)) (.slice (some ⟨w.heap.size, 0, none⟩) 1 1) [byteP i] := by
  have h1 := Own.lay (d := kByte) (e := 5) (base := 0) (S := All) (w := w) (xs := [byteP i]) (cs := [.int .u8 (i : Int)]) (by rw [← byteP_nat h]; exact prow_mk [byteP i]) (Nat.zero_le _) (by simp [maxLen])
  exact h1.sl.mono fun _ _ _ => trivial
theorem infoLong : (Tryd.prog.info? 2).map (fun i => (i.zero, i.size, i.bytes)) = some (some (.int .i64 0), 1, 8) := by kernel_rfl
theorem HHe.move {X : Nat → Prop} {w0 w w' : World} {B : Nat} {s : HSt} (h : HHe X w0 w B s) (f : Fr (fun b => ¬ X b) w w') (hX : ∀ b, X b → w0.heap.size ≤ b) : HHe X w0 w' B s := by
  obtain ⟨lv, sv, h1, h2⟩ := h.ex
  exact ⟨⟨lv, sv, h1.move f h.xB (fun k hk => (h2 k hk).2) (fun b hb _ => hb.2), h2⟩, h.b0, h.xB, fun b hb => Nat.lt_of_lt_of_le (h.xl b hb) f.size, fr_past h.fr f fun x hx hxx => by have := hX x hxx; omega⟩
theorem cnt_nil (y : Int) : (List.range 5).map (cntP [] y) = List.replicate 5 0 := rfl
theorem lst_nil (y : Int) : (List.range 5).map (lstP [] y) = List.replicate 5 0 := rfl
theorem five_get {f : Nat → Int} {d : Nat} (h : d < 5) : ((List.range 5).map f)[d]? = some (f d) := by
  rw [List.getElem?_map, List.getElem?_range h]
  rfl
theorem own_at_five {f : Nat → Int} {t : TypeId} {base g : Nat} {w : World} (o : Own kInt t base All w (.slice (some ⟨g, 0, none⟩) 5 5) ((List.range 5).map f)) {d : Nat} (hd : d < 5) (y : Int) :
    w.cell? ⟨g, d, none⟩ = some (.int .i64 (f d)) ∧ w.frozen? ⟨g, d, none⟩ = false ∧ Own kInt t base All (w.setCell ⟨g, d, none⟩ (.int .i64 y)) (.slice (some ⟨g, 0, none⟩) 5 5) (((List.range 5).map f).set d y) := by
  obtain ⟨g', c', hv, _, _, h1, h2, h3⟩ := own_plain_put (enc := Value.int .i64) o (five_get hd) y
  have hg : g = g' := by
    have h1 := (Value.slice.inj hv).1
    injection h1 with h1
    injection h1
  subst hg
  exact ⟨h1, h2, h3⟩
set_option maxRecDepth 100000 in
set_option maxHeartbeats 20000000 in
theorem pages_walk {qs : List Addr} {w : World} (hq : Errs w qs) {S0 : Nat → Prop} {PA : Option Addr} {pn pc : Nat} {ps : List Int} (a1 : Int) (s0 : Sl kInt S0 w (.slice PA pn pc) ps) :
    Calls Tryd.prog 11 #[.slice PA pn pc, .int .i64 a1] w fun e w' => e = .returned (.bool true) ∧ Fr All w w' := by
  have HQ := Lib.hid hq
  have HS := Lib.hid s0
  obtain ⟨y, hy⟩ : ∃ k, bits .and .i64 a1 31 = k := ⟨_, rfl⟩
  have hy0 : 0 ≤ y := by rw [← hy, and31]; omega
  have hy1 : y < 32 := by rw [← hy, and31]; omega
  clear hq s0
  go_enter Tryd.func11, Tryd.ntmps11
  go_wp2_with fail
  refine (first11_call w).mono ?_
  rintro e w1 ⟨rfl, f1⟩
  have F1 := Lib.hid f1
  clear f1
  by_cases hpn : pn ≤ 30
  · go_wp2_with fail
    refine (hnew 0 w1).mono ?_
    rintro e w2 ⟨rfl, h2⟩
    obtain ⟨w3, hmk3, o3, f3⟩ := run_mkp (enc := Value.int .i64) (h1 := fun _ => rfl) w2 (t := 52) (e := 3) (z := 0) (bytes := 8) Tryd.underlying52 infoInt rfl (n := 5) (by decide) (by decide)
    obtain ⟨w4, hmk4, o4, f4⟩ := run_mkp (enc := Value.int .i64) (h1 := fun _ => rfl) w3 (t := 35) (e := 2) (z := 0) (bytes := 8) Tryd.underlying35 infoLong rfl (n := 5) (by decide) (by decide)
    obtain ⟨B, hB⟩ : ∃ B, w1.heap.size = B := ⟨_, rfl⟩
    obtain ⟨gc, hgc⟩ : ∃ g, w2.heap.size = g := ⟨_, rfl⟩
    obtain ⟨gl, hgl⟩ : ∃ g, w3.heap.size = g := ⟨_, rfl⟩
    obtain ⟨X, hX⟩ : ∃ X : Nat → Prop, X = fun x => w2.heap.size ≤ x ∧ x < w4.heap.size := ⟨_, rfl⟩
    have hz2 := h2.fr.size
    have hc3 := (own_lt o3 w2.heap.size rfl).2
    have hc4 := (own_lt o4 w3.heap.size rfl).2
    have H4 : Hid (HHe X w1 w4 B (.new 0)) := Lib.hid (by rw [hX, ← hB]; exact h2.guarded (f3.trans f4))
    have HXc : Hid (X gc ∧ X gl ∧ gc ≠ gl ∧ ∀ b, X b → w1.heap.size ≤ b) := Lib.hid (by rw [hX, ← hgc, ← hgl]; exact ⟨⟨Nat.le_refl _, by omega⟩, ⟨by omega, by omega⟩, by omega, fun b hb => by have := hb.1; omega⟩)
    have OC : Hid (Own kInt 3 gc All w4 (.slice (some ⟨gc, 0, none⟩) 5 5) ((List.range 5).map (cntP (HSt.new 0).l y))) := Lib.hid (by rw [← hgc]; exact o3.all f4)
    have OL : Hid (Own kInt 2 gl All w4 (.slice (some ⟨gl, 0, none⟩) 5 5) ((List.range 5).map (lstP (HSt.new 0).l y))) := Lib.hid (by rw [← hgl]; exact o4)
    have hmk3' : (Instr.makeSlice 52 (.int .i64 5) (.int .i64 5)).run Tryd.prog w2 = .ok (.slice (some ⟨gc, 0, none⟩) 5 5) w3 := by rw [← hgc]; exact hmk3
    have hmk4' : (Instr.makeSlice 35 (.int .i64 5) (.int .i64 5)).run Tryd.prog w3 = .ok (.slice (some ⟨gl, 0, none⟩) 5 5) w4 := by rw [← hgl]; exact hmk4
    simp only [hB]
    clear hX hB hgc hgl hmk3 hmk4 h2 o3 o4 f3 f4 hz2 hc3 hc4
    go_wp2_with fail
    clear hmk3' hmk4'
    go_loopw [9] (fun i wr => ∃ (j : Nat) (ds : List Nat) (s : HSt), j ≤ pn ∧ i = .int .i64 j ∧ Hid (ds.length = j) ∧ Hid (HHe X w1 wr B s) ∧ Hid (Fp ds s) ∧ Hid (Own kInt 3 gc All wr (.slice (some ⟨gc, 0, none⟩) 5 5) ((List.range 5).map (cntP s.l y))) ∧ Hid (Own kInt 2 gl All wr (.slice (some ⟨gl, 0, none⟩) 5 5) ((List.range 5).map (lstP s.l y)))) (fun i _ => pn - (intOf i).toNat)
    case atStart => exact ⟨0, [], _, Nat.zero_le _, rfl, Lib.hid rfl, H4, Lib.hid Fp.new, OC, OL⟩
    case round =>
      clear OC OL H4
      obtain ⟨j, ds, s, hj, rfl, HJ, HH, HT, OC, OL⟩ := hrel
      by_cases hlt : j < pn
      · obtain ⟨z, hz, _⟩ := get_of (l := ps) (k := j) (by rw [HS.out.len]; exact hlt)
        obtain ⟨fb, fo, rfl, g0⟩ := (HS.out.all (F1.out.trans HH.out.fr)).at1 (k := j) (x := z) hz
        have b0 : (0 : Int) ≤ (j : Int) := by omega
        have b1 : (j : Int) < (pn : Int) := by omega
        have b2 : (j : Int) < 30 := by omega
        clear hz
        go_wp2_with fail
        refine (number wr (by omega) (by omega)).mono ?_
        rintro e wn ⟨d, hd, rfl, hwn⟩
        obtain rfl := hwn.symm
        have hd5 : d < 5 := by omega
        clear hwn hd
        have FA := (Fr.refl All wr).alloc (.cells #[.int .u8 (j : Int)] 5)
        have HK := Lib.hid (keyP wr (i := j) (by omega))
        have HA := Lib.hid (HH.out.all FA)
        have T5 : Hid (Fp (ds ++ [d]) (s.add (recP d j))) := Lib.hid (by rw [← HJ.out]; exact HT.out.add hd5)
        have HL5 : Hid ((s.add (recP d j)).l = s.l ++ [recP d j]) := Lib.hid (by rw [T5.out.l, HT.out.l, recsP_snoc, HJ.out])
        have HN : Hid (isL s.l (recP d j).lsn = false) := Lib.hid (by rw [← HJ.out]; exact HT.out.fresh d)
        have hsl : s.l.length < 16384 := by rw [HT.out.l, recsP_len, HJ.out]; omega
        have HSD : Hid (deadS s.spans (recP d j).lsn (recP d j).epoch = false) := Lib.hid (by rw [HT.out.spans]; rfl)
        have HG0 : Hid ((recP d j).group = s.group) := Lib.hid HT.out.group.symm
        have OCA := Lib.hid (OC.out.all FA)
        have OLA := Lib.hid (OL.out.all FA)
        have HLEN : Hid (s.l.length ≤ 30) := Lib.hid (by rw [HT.out.l, recsP_len, HJ.out]; omega)
        clear FA HH OC OL
        go_wp2_with fail
        refine (headd (r := recP d j) HA.out HK.out (nilB All _) (recP_valid hd5 (by omega)) HG0.out HSD.out HN.out hsl).mono ?_
        rintro e w5 ⟨rfl, h5, f5⟩
        have H5 := Lib.hid h5
        have OC5 : Hid (Own kInt 3 gc All w5 (.slice (some ⟨gc, 0, none⟩) 5 5) ((List.range 5).map (cntP s.l y))) := Lib.hid ((OCA.out.any (T := Nowhere)).move f5 (fun _ hb _ => hb.elim) fun k hk => by obtain rfl := Option.some.inj hk; exact HXc.out.1).any
        have OL5 : Hid (Own kInt 2 gl All w5 (.slice (some ⟨gl, 0, none⟩) 5 5) ((List.range 5).map (lstP s.l y))) := Lib.hid ((OLA.out.any (T := Nowhere)).move f5 (fun _ hb _ => hb.elim) fun k hk => by obtain rfl := Option.some.inj hk; exact HXc.out.2.1).any
        clear h5 f5 HA HK HN g0 OCA OLA HSD HG0
        by_cases hle : (j : Int) + 1 ≤ y
        · obtain ⟨q, hq⟩ : ∃ q, cntP s.l y d = q := ⟨_, rfl⟩
          have q0 : 0 ≤ q := by rw [← hq]; unfold cntP; omega
          have q1 : q ≤ 30 := by rw [← hq]; unfold cntP; have := HLEN.out; have h2 := List.length_filter_le (fun r : Redo => r.page == (d : Int) && decide (r.lsn ≤ y)) s.l; unfold ofL; omega
          have e0 : (0 : Int) ≤ (d : Int) := by omega
          have e1 : (d : Int) < 5 := by omega
          obtain ⟨c0, z0, o6⟩ := own_at_five OC5.out hd5 (q + 1)
          rw [hq] at c0
          have OC6 : Hid (Own kInt 3 gc All (w5.setCell ⟨gc, d, none⟩ (.int .i64 (q + 1))) (.slice (some ⟨gc, 0, none⟩) 5 5) ((List.range 5).map (cntP (s.add (recP d j)).l y))) := Lib.hid (by rw [HL5.out, ← cnt_in hle hd5, hq]; exact o6)
          have F6 : Fr (fun b => b ≠ gc) w5 (w5.setCell ⟨gc, d, none⟩ (.int .i64 (q + 1))) := (Fr.refl _ _).setCell (p := ⟨gc, d, none⟩) (fun b hb => hb) _
          have OL6 := ((OL5.out.any (T := Nowhere)).move F6 (fun _ hb _ => hb.elim) fun k hk => by obtain rfl := Option.some.inj hk; exact HXc.out.2.2.1.symm).any (T := All)
          obtain ⟨l0, lz, o7⟩ := own_at_five OL6 hd5 ((j : Int) + 1)
          have F7 : Fr (fun b => b ≠ gl) (w5.setCell ⟨gc, d, none⟩ (.int .i64 (q + 1))) ((w5.setCell ⟨gc, d, none⟩ (.int .i64 (q + 1))).setCell ⟨gl, d, none⟩ (.int .i64 ((j : Int) + 1))) := (Fr.refl _ _).setCell (p := ⟨gl, d, none⟩) (fun b hb => hb) _
          have OC7 := Lib.hid (((OC6.out.any (T := Nowhere)).move F7 (fun _ hb _ => hb.elim) fun k hk => by obtain rfl := Option.some.inj hk; exact HXc.out.2.2.1).any (T := All))
          have OL7 : Hid (Own kInt 2 gl All ((w5.setCell ⟨gc, d, none⟩ (.int .i64 (q + 1))).setCell ⟨gl, d, none⟩ (.int .i64 ((j : Int) + 1))) (.slice (some ⟨gl, 0, none⟩) 5 5) ((List.range 5).map (lstP (s.add (recP d j)).l y))) := Lib.hid (by rw [HL5.out, ← lst_in hle hd5]; exact o7)
          have H7 : Hid (HHe X w1 ((w5.setCell ⟨gc, d, none⟩ (.int .i64 (q + 1))).setCell ⟨gl, d, none⟩ (.int .i64 ((j : Int) + 1))) B (s.add (recP d j))) := Lib.hid (H5.out.move ((F6.mono fun b hb e => hb (e ▸ HXc.out.1)).trans (F7.mono fun b hb e => hb (e ▸ HXc.out.2.1))) HXc.out.2.2.2)
          have HLE := Lib.hid hle
          clear hq o6 o7 F6 F7 OL6 OC6 OC5 OL5 H5
          go_wp2_with fail
          go_roundw
          case rel => exact ⟨j + 1, ds ++ [d], _, by omega, by go_num, Lib.hid (by rw [List.length_append, HJ.out]; rfl), H7, T5, OC7, OL7⟩
          case measure => simp [intOf]; omega
        · have hdl : decide ((j : Int) + 1 ≤ y) = false := decide_eq_false hle
          have OC7 : Hid (Own kInt 3 gc All w5 (.slice (some ⟨gc, 0, none⟩) 5 5) ((List.range 5).map (cntP (s.add (recP d j)).l y))) := Lib.hid (by
            rw [HL5.out, show cntP (s.l ++ [recP d j]) y = cntP s.l y from funext fun k => by unfold cntP; rw [of_out hle]]
            exact OC5.out)
          have OL7 : Hid (Own kInt 2 gl All w5 (.slice (some ⟨gl, 0, none⟩) 5 5) ((List.range 5).map (lstP (s.add (recP d j)).l y))) := Lib.hid (by
            rw [HL5.out, show lstP (s.l ++ [recP d j]) y = lstP s.l y from funext fun k => by unfold lstP; rw [of_out hle]]
            exact OL5.out)
          clear hle OC5 OL5
          go_wp2_with fail
          go_roundw
          case rel => exact ⟨j + 1, ds ++ [d], _, by omega, by go_num, Lib.hid (by rw [List.length_append, HJ.out]; rfl), H5, T5, OC7, OL7⟩
          case measure => simp [intOf]; omega
      · obtain rfl : j = pn := by omega
        obtain ⟨lv, sv, hg, _⟩ := HH.out.ex
        have HG := Lib.hid hg
        have F5 := Lib.hid (F1.out.trans HH.out.fr)
        have HLEN : Hid (s.l.length ≤ 30) := Lib.hid (by rw [HT.out.l, recsP_len, HJ.out]; omega)
        have HGX : Hid (gc < wr.heap.size ∧ gl < wr.heap.size) := Lib.hid ⟨(own_lt OC.out gc rfl).2, (own_lt OL.out gl rfl).2⟩
        clear hg HH HJ
        rcases (⟨wr, rfl⟩ : ∃ W5, W5 = wr) with ⟨W5, hW5⟩
        subst hW5
        go_wp2_with fail
        go_loopw [14, 15] (fun v i wr => ∃ k : Nat, k ≤ 5 ∧ i = .int .i64 k ∧ Hid (Own kInt 3 W5.heap.size All wr v (haveP s.l y k)) ∧ Fr All W5 wr) (fun _ i _ => 5 - (intOf i).toNat)
        case atStart => exact ⟨0, Nat.zero_le _, rfl, Lib.hid (Own.nil_ _ _ _ _ _), Fr.refl _ _⟩
        case round =>
          obtain ⟨k, hk, rfl, HV, HF⟩ := hrel
          have HQr := Lib.hid (HQ.out.move (F5.out.trans HF))
          have HGr := Lib.hid (HG.out.all HF)
          have HFF := Lib.hid HF
          by_cases hlt : k < 5
          · have e0 : (0 : Int) ≤ (k : Int) := by omega
            have e1 : (k : Int) < 5 := by omega
            have HSN := Lib.hid (haveP_snoc s.l y k)
            obtain ⟨cn, hcn⟩ : ∃ cn : Nat, (ofL s.l (k : Int) y).length = cn := ⟨_, rfl⟩
            have hcn2 : cntP s.l y k = (cn : Int) := by unfold cntP; rw [hcn]
            have HOC := Lib.hid (OC.out.all HF)
            have HOL := Lib.hid (OL.out.all HF)
            by_cases hz : cn = 0
            · have hno : ofL s.l (k : Int) y = [] := List.eq_nil_of_length_eq_zero (hcn.trans hz)
              subst hz
              have HNO := Lib.hid hno
              have HCN := Lib.hid hcn2
              clear hno hcn hcn2 HF
              go_wp2_with fail
              refine (at_none (id := (k : Int)) HQr.out HGr.out e0 (by omega) hy0 (by omega) HNO.out).mono ?_
              rintro e w7 ⟨aN, hN, rfl, f7⟩
              have F8 := f7.alloc (.cells #[.int .i64 0, .int .i64 0, .int .i64 0, .int .i64 0, .slice none 0 0] 66)
              have HFF8 := Lib.hid (HFF.out.trans F8)
              obtain ⟨c0, _, _⟩ := own_at_five (HOC.out.all F8) (d := k) hlt 0
              rw [HCN.out] at c0
              have c0' : (w7.alloc (.cells #[.int .i64 0, .int .i64 0, .int .i64 0, .int .i64 0, .slice none 0 0] 66)).cell? ⟨gc, k, none⟩ = some (.int .i64 0) := c0
              have hd : decide ((101 : Int) + (6 : Nat) = 107 ∧ false = false ∧ (0 : Int) = 0) = true := by decide
              have SI := Lib.hid (show ∀ W, Fr All w W → Calls Tryd.prog 26 #[.iface 179 (.pointer (some aN)), .int .i64 107] W fun r w' => r = .returned (.bool true) ∧ Fr All W w' from fun W hW => by
                refine (see_is (Sees.bare (HQ.out.move hW) hN) 107).mono ?_
                rintro r w' ⟨rfl, f⟩
                exact ⟨ret_bool hd, f⟩)
              have HF8 := Lib.hid F8
              clear F8 hd hN f7 c0
              unfold errV
              go_wp2_with fail
              refine (SI.out _ (F5.out.trans HFF8.out)).mono ?_
              rintro e w9 ⟨rfl, f9⟩
              have HV9 : Hid (Own kInt 3 W5.heap.size All w9 u14 (haveP s.l y (k + 1))) := Lib.hid (by rw [HSN.out, if_pos (show cntP s.l y k = 0 from HCN.out)]; exact (HV.out.all HF8.out).all f9)
              have HF9 := Lib.hid (HFF8.out.trans f9)
              clear c0'
              go_wp2_with fail
              go_roundw
              case rel => exact ⟨k + 1, by omega, by go_num, HV9, HF9.out⟩
              case measure => simp [intOf]; omega
            · have hno : ofL s.l (k : Int) y ≠ [] := fun h => hz (by rw [← hcn, h]; rfl)
              have hcnz : ((cn : Int) == 0) = false := beq_false_of_ne (by omega)
              have HNO := Lib.hid hno
              have HCN := Lib.hid hcn2
              obtain ⟨g1, g2, g3⟩ := HT.out.page k y
              rw [hcn] at g2
              obtain ⟨m8, hm8⟩ : ∃ m8, min cn 8 = m8 := ⟨_, rfl⟩
              obtain ⟨lz, hlz⟩ : ∃ lz, lastL (ofL s.l (k : Int) y) = lz := ⟨_, rfl⟩
              have hmin : min (cn : Int) 8 = (m8 : Int) := by omega
              have HG1 := Lib.hid g1
              have HG2 := Lib.hid (g2.trans hm8)
              have HG3 := Lib.hid (g3.trans hlz)
              have HLZ : Hid (lstP s.l y k = lz) := Lib.hid hlz
              have HPL : Hid ((haveP s.l y k).length ≤ 5) := Lib.hid (by unfold haveP; rw [List.length_map]; exact Nat.le_trans (List.length_filter_le _ _) (by rw [List.length_range]; omega))
              clear hno hcn hcn2 HF g1 g2 g3 hm8 hlz hz
              go_wp2_with fail
              refine (at_call (id := (k : Int)) HGr.out e0 (by omega) hy0 (by omega) HNO.out).mono ?_
              rintro e w7 ⟨q, A7, c7, hq, rfl, s7, f7⟩
              have q1 : q.id = (k : Int) := by rw [hq]; exact HG1.out
              have q2 : q.ents.length = m8 := by rw [hq]; exact HG2.out
              have q3 : q.lsn = lz := by rw [hq]; exact HG3.out
              rw [q1, q2, q3]
              generalize q.level = ql
              generalize q.next = qn
              clear q1 q2 q3 hq s7 HG1 HG2 HG3
              have F8 := f7.alloc (.cells #[.int .i64 (k : Int), .int .i64 lz, .int .i64 ql, .int .i64 qn, .slice A7 m8 c7] 66)
              obtain ⟨c0, _, _⟩ := own_at_five (HOC.out.all F8) (d := k) hlt 0
              rw [HCN.out] at c0
              have FB := F8.alloc (.cells #[.int .i64 (k : Int)] 3)
              have HO3 := HV.out.all FB
              have HY : Src kInt Nowhere ((w7.alloc (.cells #[.int .i64 (k : Int), .int .i64 lz, .int .i64 ql, .int .i64 qn, .slice A7 m8 c7] 66)).alloc (.cells #[.int .i64 (k : Int)] 3)) (.slice (some ⟨(w7.alloc (.cells #[.int .i64 (k : Int), .int .i64 lz, .int .i64 ql, .int .i64 qn, .slice A7 m8 c7] 66)).heap.size, 0, none⟩) 1 1) [(k : Int)] := Src.box (d := kInt) (x := (k : Int)) (cs := [.int .i64 (k : Int)]) rfl _ 1
              have hl6 : ((haveP s.l y k).length + [(k : Int)].length) * 8 ≤ 140737488355328 := by
                have := HPL.out
                simp only [List.length_cons, List.length_nil]
                omega
              have hb6 : W5.heap.size ≤ ((w7.alloc (.cells #[.int .i64 (k : Int), .int .i64 lz, .int .i64 ql, .int .i64 qn, .slice A7 m8 c7] 66)).alloc (.cells #[.int .i64 (k : Int)] 3)).heap.size := (HFF.out.trans FB).size
              have HOW := Lib.hid (own_lt HV.out)
              have B8 := Lib.hid (heap_alloc2_old w7 (.cells #[.int .i64 (k : Int), .int .i64 lz, .int .i64 ql, .int .i64 qn, .slice A7 m8 c7] 66) (.cells #[.int .i64 (k : Int)] 3))
              have hz7 := f7.size
              rw [World.size_alloc] at HY
              simp only [World.size_alloc] at hb6
              go_upto_region 32 with (at_builtin; refine wpList_app rfl rfl Tryd.underlying52 infoInt rfl (by decide) HO3 HY rfl rfl (fun b hb _ => hb.elim) hl6 (by simp only [World.size_alloc]; exact hb6) ?_; intro v9 w9 o9 f9 h9)
              have B9 := (f9.block w7.heap.size (by simp only [World.size_alloc]; omega) (fun e => by have := (HOW.out _ e.symm).2; omega)).trans B8.out
              obtain ⟨p0, p1, p2, p3, p4, pz⟩ := blk5 B9
              have HV9 : Hid (Own kInt 3 W5.heap.size All w9 v9 (haveP s.l y (k + 1))) := Lib.hid (by rw [HSN.out, if_neg (show ¬ cntP s.l y k = 0 by rw [HCN.out]; intro h; rw [h] at hcnz; cases hcnz)]; exact o9)
              have F9 := Lib.hid ((HFF.out.trans FB).row f9.grown fun m hm => (own_lt HO3 m hm).1)
              obtain ⟨c1, _, _⟩ := own_at_five (((HOC.out.all FB).any (T := Nowhere)).move f9 (fun _ hb _ => hb.elim) (fun j hj e => by have h1 := (HOW.out _ e.symm).1; have h2 : gc = j := Option.some.inj hj; have := HGX.out.1; omega) |>.any (T := All)) (d := k) hlt 0
              obtain ⟨c2, _, _⟩ := own_at_five (((HOL.out.all FB).any (T := Nowhere)).move f9 (fun _ hb _ => hb.elim) (fun j hj e => by have h1 := (HOW.out _ e.symm).1; have h2 : gl = j := Option.some.inj hj; have := HGX.out.2; omega) |>.any (T := All)) (d := k) hlt 0
              rw [HCN.out] at c1
              rw [HLZ.out] at c2
              clear o9 f9 h9 HO3 HY hl6 hb6 B9 FB F8 f7 c0 hz7
              go_quiet (fail)
              go_wp2_with fail
              go_roundw
              case rel => exact ⟨k + 1, by omega, by go_num, Lib.hid (HV9.out.all ((Fr.refl All w9).drewN _)), by first | exact F9.out | exact F9.out.drew | exact F9.out.drewN _⟩
              case measure => simp [intOf]; omega
          · obtain rfl : k = 5 := by omega
            go_wp2_with fail
            refine (ids_call HGr.out y).mono ?_
            rintro e w7 ⟨A7, m7, c7, rfl, o7, f7⟩
            have HS7 := Lib.hid o7.sl
            have HV7 := Lib.hid (HV.out.all f7).sl
            have HF7 := Lib.hid ((F5.out.trans HFF.out).trans f7)
            have HIDS := Lib.hid (haveP_ids HT.out y)
            clear o7 f7
            go_wp2_with fail
            refine (same_ints HS7.out HV7.out (by rw [HIDS.out]; unfold haveP; rw [List.length_map]; exact Nat.le_trans (List.length_filter_le _ _) (by rw [List.length_range]; decide))).mono ?_
            rintro e w9 ⟨rfl, f9⟩
            have HF9 := Lib.hid (HF7.out.trans f9)
            rw [HIDS.out, decide_eq_true rfl]
            go_wp2_with fail
            go_ret
            exact ⟨rfl, HF9.out⟩
  · go_wp2_with fail
    go_ret
    exact ⟨rfl, F1.out⟩
end Go.Proofs.YtalidmlomfobdaaDoor
