/- The walk of the law that a page as bytes, and bytes as a page, are what the chapter says. -/
import Derived.Test.YtoaamcpiljoojaaDoorDRead
import Derived.Test.YtoaamcpiljoojaaDoorDPB
import Derived.Test.YtoaamcpiljoojaaDoorFst4
import Derived.Test.YtoaamcpiljoojaaDoorNum
namespace Go.Proofs.YtoaamcpiljoojaaDoor
open Go.RowKit

theorem smallPage_iff {l : List Ent} (h : smallPage l = true) : l.length ≤ 20 ∧ ∀ e ∈ l, e.key.length ≤ 100 ∧ e.val.length ≤ 150 := by
  unfold smallPage at h
  rw [Bool.and_eq_true, decide_eq_true_eq, List.all_eq_true] at h
  exact ⟨h.1, fun e he => by have := h.2 e he; rwa [Bool.and_eq_true, decide_eq_true_eq, decide_eq_true_eq] at this⟩

theorem pageIx_lt {p : Page} {k : Nat} (h : pageIx p = some k) : k < 17 := by
  unfold pageIx at h
  split at h
  · obtain rfl := Option.some.inj h; decide
  split at h
  · obtain rfl := Option.some.inj h; decide
  split at h
  · obtain rfl := Option.some.inj h; decide
  · cases h

set_option hygiene false in
set_option maxRecDepth 100000 in
set_option maxHeartbeats 4000000 in
theorem pgbytes_walk {qs : List Addr} {w : World} (hq : Errs w qs) (cut : Int) {p : Page} {v vb : Value} {bs : List UInt8} (s0 : Sl kEnt All w v p.ents) (s1 : Sl kByte All w vb bs) :
    Calls Tryd.prog 4 #[.agg #[.int .i64 p.id, .int .i64 p.lsn, .int .i64 p.level, .int .i64 p.next, v], vb, .int .i64 cut] w
      fun e w' => e = .returned (.bool true) ∧ Fr All w w' := by
  obtain ⟨A, n, c, rfl, en, _⟩ := s0.open_
  obtain ⟨B, nb, cb, rfl, eb, _⟩ := s1.open_
  have En := Lib.hid en
  have Eb := Lib.hid eb
  have P := heap_alloc_new w (.cells #[.int .i64 p.id, .int .i64 p.lsn, .int .i64 p.level, .int .i64 p.next, .slice A n c] 39)
  have F0 := (Fr.refl All w).alloc (.cells #[.int .i64 p.id, .int .i64 p.lsn, .int .i64 p.level, .int .i64 p.next, .slice A n c] 39)
  clear en eb
  go_enter Tryd.func4, Tryd.ntmps4
  go_wp2_with fail
  refine (first4_call _).mono ?_
  rintro e w1 ⟨rfl, f1⟩
  have F1 := F0.trans f1
  have P1 := (f1.block _ (blk_lt P) trivial).trans P
  clear P F0 f1
  obtain ⟨p0, p1, p2, p3, p4, pz⟩ := blk5 P1
  go_wp2_with fail
  refine (world_page (p := p) (s0.all F1)).mono ?_
  rintro e w2 ⟨rfl, f2⟩
  have F2 := F1.trans f2
  have P2 := (f2.block _ (blk_lt P1) trivial).trans P1
  clear p0 p1 p2 p3 p4 pz P1 F1 f2
  cases hsm : smallPage p.ents with
  | false =>
    go_wp2_with fail
    go_ret
    exact ⟨rfl, F2⟩
  | true =>
    obtain ⟨h20, hes⟩ := smallPage_iff hsm
    rw [En.out] at h20
    have Hes := Lib.hid hes
    clear hes hsm
    by_cases hbig : nb > 1500
    · have hd : decide ((nb : Int) > 1500) = true := decide_eq_true (by omega)
      go_wp2_with fail
      go_ret
      exact ⟨rfl, F2⟩
    · have hd : decide ((nb : Int) > 1500) = false := decide_eq_false (by omega)
      have hbl : bs.length ≤ 1000000 := by have := Eb.out; omega
      go_wp2_with fail
      refine (page_read (hq.move F2) (s1.all F2) hbl).mono ?_
      rintro e w3 ⟨y, m, er, A3, n3, c3, ev, Y1, rfl, k3, pe3, f3⟩
      have F3 := F2.trans f3
      have P3 := (f3.block _ (blk_lt P2) trivial).trans P2
      have X3 := heap_alloc_new w3 (.cells #[.int .i64 y.id, .int .i64 y.lsn, .int .i64 y.level, .int .i64 y.next, .slice A3 n3 c3] 39)
      have g3 := (Fr.refl All w3).alloc (.cells #[.int .i64 y.id, .int .i64 y.lsn, .int .i64 y.level, .int .i64 y.next, .slice A3 n3 c3] 39)
      obtain ⟨W3, hW3⟩ : ∃ W3, w3.alloc (.cells #[.int .i64 y.id, .int .i64 y.lsn, .int .i64 y.level, .int .i64 y.next, .slice A3 n3 c3] 39) = W3 := ⟨_, rfl⟩
      rw [hW3] at X3 g3
      have G3 := F3.trans g3
      have Q3 := (g3.block _ (blk_lt P3) trivial).trans P3
      have K3 := k3.all g3
      have E3 := pe3.move g3
      clear P2 P3 k3 pe3 f3 F3
      go_wp2_with fail
      refine (read_page (s1.all G3) hbl).mono ?_
      rintro e w4 ⟨y', m', er', A4, n4, c4, Y2, rfl, k4, f4⟩
      obtain ⟨rfl, hme⟩ := Prod.mk.inj (Y1.out.symm.trans Y2.out)
      obtain ⟨rfl, rfl⟩ := Prod.mk.inj hme
      have X4 := heap_alloc2_old w4 (.cells #[.int .i64 y.id, .int .i64 y.lsn, .int .i64 y.level, .int .i64 y.next, .slice A4 n4 c4] 39) (.cells #[.int .i64 (erC er), .bool er.isSome, .int .i64 (erP er)] 46)
      have Z4 := heap_alloc2_new w4 (.cells #[.int .i64 y.id, .int .i64 y.lsn, .int .i64 y.level, .int .i64 y.next, .slice A4 n4 c4] 39) (.cells #[.int .i64 (erC er), .bool er.isSome, .int .i64 (erP er)] 46)
      have g4 := ((Fr.refl All w4).alloc (.cells #[.int .i64 y.id, .int .i64 y.lsn, .int .i64 y.level, .int .i64 y.next, .slice A4 n4 c4] 39)).alloc (.cells #[.int .i64 (erC er), .bool er.isSome, .int .i64 (erP er)] 46)
      obtain ⟨W4, hW4⟩ : ∃ W4, (w4.alloc (.cells #[.int .i64 y.id, .int .i64 y.lsn, .int .i64 y.level, .int .i64 y.next, .slice A4 n4 c4] 39)).alloc (.cells #[.int .i64 (erC er), .bool er.isSome, .int .i64 (erP er)] 46) = W4 := ⟨_, rfl⟩
      rw [hW4] at X4 Z4 g4
      have f34 := f4.trans g4
      have G4 := G3.trans f34
      have Q4 := (f34.block _ (blk_lt Q3) trivial).trans Q3
      have V4 := (f34.block _ (blk_lt X3) trivial).trans X3
      have K4 := K3.all f34
      have K4' := k4.all g4
      have E4 := (E3.move f34).sees (hq.move G4)
      clear hme Y2 hW3 Q3 X3 K3 E3 k4 f4 g4 f34 G3 g3
      obtain ⟨p0, p1, p2, p3, p4, pz⟩ := blk5 Q4
      obtain ⟨ix, hix⟩ : ∃ ix, pageIx p = ix := ⟨_, rfl⟩
      have hpb := page_bytes (p := p) (hq.move G4) (s0.all G4)
      have hvi : ∀ W (f : Fr All w W), Calls Tryd.prog 20 #[.agg #[.int .i64 p.id, .int .i64 p.lsn, .int .i64 p.level, .int .i64 p.next, .slice A n c]] W fun e w' => e = .returned (.int .i64 (ixC (pageIx p))) ∧ Fr All W w' := fun W f => ref_valid_ix (p := p) (s0.all f)
      rw [hix] at hpb hvi
      obtain ⟨ee, hee⟩ : ∃ ee, errAt qs ix = ee := ⟨_, rfl⟩
      obtain ⟨ic, hic⟩ : ∃ ic, ixC ix = ic := ⟨_, rfl⟩
      rw [hee] at hpb
      rw [hic] at hvi
      have hse : ∀ W (f : Fr All w W), Sees W ee ic false 0 := fun W f => by
        rw [← hee, ← hic]
        cases ix with
        | none => exact Sees.nil_ W
        | some k =>
          have hk : k < 17 := pageIx_lt hix
          have hq' : k < qs.length := by have := hq.len; omega
          rw [errAt_is (List.getElem?_eq_getElem hq')]
          exact Sees.bare (hq.move f) (List.getElem?_eq_getElem hq')
      have HPB := Lib.hid hpb
      have HVI := Lib.hid hvi
      have HSE := Lib.hid hse
      have Hix := Lib.hid hix
      have Hic := Lib.hid hic
      clear hpb hvi hse hix hee hic
      go_wp2_with fail
      refine HPB.out.mono ?_
      rintro e w5 ⟨zs, A5, c5, rfl, HZ, o5, f5⟩
      have Q5 := (f5.block _ (blk_lt Q4) trivial).trans Q4
      have G5 := G4.trans f5
      clear p0 p1 p2 p3 p4 pz
      obtain ⟨p0, p1, p2, p3, p4, pz⟩ := blk5 Q5
      go_wp2_with fail
      refine (HVI.out _ G5).mono ?_
      rintro e w6 ⟨rfl, f6⟩
      have f46 := f5.trans f6
      have Q6 := (f6.block _ (blk_lt Q5) trivial).trans Q5
      have V6 := (f46.block _ (blk_lt V4) trivial).trans V4
      have X6 := (f46.block _ (blk_lt X4) trivial).trans X4
      have Z6 := (f46.block _ (blk_lt Z4) trivial).trans Z4
      have K6 := K4.all f46
      have K6' := K4'.all f46
      have E6 := E4.move f46
      have G6 := G5.trans f6
      have o6 := o5.all f6
      clear p0 p1 p2 p3 p4 pz V4 X4 Z4 K4 K4' E4 Q4 Q5 o5 f46 f5 f6 G4 G5
      obtain ⟨v0, v1, v2, v3, v4, vz⟩ := blk5 V6
      obtain ⟨x0, x1, x2, x3, x4, xz⟩ := blk5 X6
      obtain ⟨z0, z1, z2, zz⟩ := blk3 Z6
      have hok := pgOf_ok bs
      rw [Y1.out] at hok
      have Hok := Lib.hid hok
      have hmm : ((m : Int) != (m : Int)) = false := by simp
      clear hok
      go_wp2_with fail
      refine (same_page K6 K6' (by have := Hok.out.1; omega) (fun x hx => by have := Hok.out.2 x hx; omega)).mono ?_
      rintro e w7 ⟨rfl, f7⟩
      have Z7 := (f7.block _ (blk_lt Z6) trivial).trans Z6
      clear v0 v1 v2 v3 v4 vz x0 x1 x2 x3 x4 xz z0 z1 z2 zz
      obtain ⟨z0, z1, z2, zz⟩ := blk3 Z7
      go_wp2_with fail
      refine (see_same (E6.move f7) (erC er) er.isSome (erP er)).mono ?_
      rintro e w8 ⟨rfl, f8⟩
      rw [show decide (erC er = erC er ∧ er.isSome = er.isSome ∧ erP er = erP er) = true by simp]
      go_wp2_with fail
      refine (see_is (HSE.out _ ((G6.trans f7).trans f8)) ic).mono ?_
      rintro e w9 ⟨rfl, f9⟩
      rw [show decide (ic = ic ∧ false = false ∧ (0 : Int) = 0) = true by simp]
      have f69 := (f7.trans f8).trans f9
      have G9 := G6.trans f69
      have Q9 := (f69.block _ (blk_lt Q6) trivial).trans Q6
      have O9 := Lib.hid (o6.all f69)
      clear z0 z1 z2 zz V6 X6 Z6 Z7 K6 K6' E6 Q6 f7 f8 f9 f69 G6 o6
      cases ix with
      | some k =>
        have hz : zs = [] := by rw [HZ.out]; unfold pgB; rw [if_neg (by rw [Hix.out]; simp)]
        have hbad : (ic != 0) = true := by
          rw [← Hic.out]
          show ((101 : Int) + (k : Int) != 0) = true
          rw [bne_iff_ne]
          omega
        subst hz
        clear hmm hd
        go_wp2_with fail
        go_ret
        exact ⟨by simp, G9⟩
      | none =>
        obtain rfl : ic = 0 := Hic.out.symm
        have hz : zs = pageBytes p := by rw [HZ.out]; unfold pgB; rw [if_pos Hix.out]
        have Hz := Lib.hid hz
        have hL : zs.length ≤ 1000 := by rw [hz]; exact pageBytes_short Hix.out
        have hL0 : 0 < zs.length := by rw [hz]; exact pageBytes_pos p
        obtain ⟨L, hLe⟩ : ∃ L, zs.length = L := ⟨_, rfl⟩
        have HL := Lib.hid hLe
        rw [hLe] at O9 hL hL0 ⊢
        clear hz hLe hmm hd
        go_wp2_with fail
        refine (page_read (hq.move G9) O9.out.sl (by rw [HL.out]; omega)).mono ?_
        rintro e w10 ⟨z, k, er2, A6, n6, c6, ev2, Y3, rfl, k10, pe10, f10⟩
        have hy3 := Y3.out
        rw [Hz.out, pgOf_good Hix.out] at hy3
        obtain ⟨rfl, hy4⟩ := Prod.mk.inj hy3
        obtain ⟨hy5, rfl⟩ := Prod.mk.inj hy4
        obtain rfl : ev2 = .nilIface := pe10
        obtain rfl : k = L := by rw [← hy5, ← Hz.out]; exact HL.out
        have X10 := heap_alloc_new w10 (.cells #[.int .i64 p.id, .int .i64 p.lsn, .int .i64 p.level, .int .i64 p.next, .slice A6 n6 c6] 39)
        have g10 := (Fr.refl All w10).alloc (.cells #[.int .i64 p.id, .int .i64 p.lsn, .int .i64 p.level, .int .i64 p.next, .slice A6 n6 c6] 39)
        obtain ⟨W10, hW10⟩ : ∃ W10, w10.alloc (.cells #[.int .i64 p.id, .int .i64 p.lsn, .int .i64 p.level, .int .i64 p.next, .slice A6 n6 c6] 39) = W10 := ⟨_, rfl⟩
        rw [hW10] at X10 g10
        have f11 := f10.trans g10
        have G11 := G9.trans f11
        have Q11 := (f11.block _ (blk_lt Q9) trivial).trans Q9
        have K11 := k10.all g10
        have O11 := Lib.hid (O9.out.all f11)
        clear hy3 hy4 hy5 Y3 k10 f10 g10 f11 Q9 O9 G9
        go_wp2_with fail
        refine (number W10 (n := cut) (k := (k : Int)) (by omega) (by omega)).mono ?_
        rintro e wn ⟨r, hr, rfl, hwn⟩
        obtain rfl := hwn.symm
        have hs3 := O11.out.sl
        obtain ⟨_, _, _, he3, _, hcap, _⟩ := hs3.open_
        have hc3 := (Value.slice.inj he3).2.2
        have hn3 := (Value.slice.inj he3).2.1
        have b0 : (0 : Int) ≤ (r : Int) := by omega
        have b1 : (r : Int) ≤ (c5 : Int) := by omega
        have b2 : r ≤ c5 := by omega
        have hrL : r < k := by omega
        have ht := hs3.take (s := r) (by omega)
        have htl : (zs.take r).length ≤ 1000000 := by rw [List.length_take]; omega
        have hcut := pgOf_cut Hix.out (k := r) (by rw [← Hz.out, HL.out]; exact hrL)
        rw [← Hz.out] at hcut
        have Hcut := Lib.hid hcut
        clear hs3 he3 hcap hc3 hn3 hwn hW10 hcut
        go_wp2_with fail
        refine (page_read (hq.move G11) ht htl).mono ?_
        rintro e w12 ⟨y2, m2, er3, A7, n7, c7, ev3, Y4, rfl, k12, pe12, f12⟩
        obtain ⟨t, hcut⟩ := Hcut.out
        rw [Y4.out] at hcut
        obtain ⟨rfl, hc2⟩ := Prod.mk.inj hcut
        obtain ⟨rfl, rfl⟩ := Prod.mk.inj hc2
        obtain ⟨ta, tb, _, rfl, _, _⟩ := pe12
        have g12 := f12.alloc (.cells #[.int .i64 0, .int .i64 0, .int .i64 0, .int .i64 0, .slice A7 n7 c7] 39)
        obtain ⟨W12, hW12⟩ : ∃ W12, w12.alloc (.cells #[.int .i64 0, .int .i64 0, .int .i64 0, .int .i64 0, .slice A7 n7 c7] 39) = W12 := ⟨_, rfl⟩
        rw [hW12] at g12
        have G12 := G11.trans g12
        have Q12 := (g12.block _ (blk_lt Q11) trivial).trans Q11
        have X12 := (g12.block _ (blk_lt X10) trivial).trans X10
        have K12 := K11.all g12
        have O12 := Lib.hid (O11.out.all g12)
        clear Y4 k12 hcut hc2 ht htl b0 b1 b2 f12 g12 Q11 X10 K11 O11 G11 Hcut
        obtain ⟨p0, p1, p2, p3, p4, pz⟩ := blk5 Q12
        go_wp2_with fail
        refine (ref_page_bytes Hix.out (s0.all G12)).mono ?_
        rintro e w13 ⟨us, A8, c8, rfl, HU, o8, f13⟩
        have hus : us = zs := by rw [HU.out, Hz.out]
        have Hus := Lib.hid hus
        clear hus p0 p1 p2 p3 p4 pz
        go_wp2_with fail
        refine (same_bytes (O12.out.all f13).sl o8.sl (by rw [HL.out]; omega)).mono ?_
        rintro e w14 ⟨rfl, f14⟩
        rw [show decide (zs = us) = true by rw [Hus.out]; simp]
        have f134 := f13.trans f14
        have G14 := G12.trans f134
        obtain ⟨p0, p1, p2, p3, p4, pz⟩ := blk5 ((f134.block _ (blk_lt Q12) trivial).trans Q12)
        obtain ⟨x0, x1, x2, x3, x4, xz⟩ := blk5 ((f134.block _ (blk_lt X12) trivial).trans X12)
        have hpo := pageIx_none Hix.out
        have Hpo := Lib.hid hpo
        have hkk : ((k : Int) == (k : Int)) = true := by simp
        clear hpo hW12
        go_wp2_with fail
        refine (same_page (K12.all f134) (s0.all G14) (by have := Hpo.out.2.1; omega) (fun x hx => by have := Hpo.out.2.2 x hx; omega)).mono ?_
        rintro e w15 ⟨rfl, f15⟩
        go_wp2_with fail
        go_ret
        exact ⟨by simp, G14.trans f15⟩
end Go.Proofs.YtoaamcpiljoojaaDoor
