/- The walk of the law on a disk's copy. -/
import Derived.Test.YteikddopeplomaaDoorDkL
import Derived.Test.YteikddopeplomaaDoorRefY
namespace Go.Proofs.YteikddopeplomaaDoor
open Go.RowKit Go.Maps

/-- A disk's struct and maps beside another disk that turns. -/
theorem Dk.beside {w w' : World} {B bs bp B' bs' bp' : Nat} {s : DSt} (h : Dk w B' bs' bp' s) (m1 : MapIs Tryd.prog 3 (fun x => Off B bs bp x ∧ Off B' bs' bp' x) w bs' s.syn s.ns) (m2 : MapIs Tryd.prog 3 (fun x => Off B bs bp x ∧ Off B' bs' bp' x) w bp' s.pen s.np)
    (f : Fr (Off B bs bp) w w') (o0 : Off B bs bp B') (o1 : Off B bs bp bs') (o2 : Off B bs bp bp') : Dk w' B' bs' bp' s where
  c0 := f.cell (p := ⟨B', 0, none⟩) o0 h.c0
  c1 := f.cell (p := ⟨B', 1, none⟩) o0 h.c1
  c2 := f.cell (p := ⟨B', 2, none⟩) o0 h.c2
  c3 := f.cell (p := ⟨B', 3, none⟩) o0 h.c3
  c4 := f.cell (p := ⟨B', 4, none⟩) o0 h.c4
  c5 := f.cell (p := ⟨B', 5, none⟩) o0 h.c5
  cz := fun j => (World.frozen?_of_block (a := ⟨B', j, none⟩) (f.block _ h.lt o0)).trans (h.cz j)
  syn := (m1.move f o1 fun x hx _ => hx.1).mono fun x hx _ => hx.2
  pen := (m2.move f o2 fun x hx _ => hx.1).mono fun x hx _ => hx.2
  n1 := h.n1
  n2 := h.n2
  n3 := h.n3

theorem u8_succ (x : UInt8) : IntKind.u8.wrap ((x.toNat : Int) + 1) = ((x + 1).toNat : Int) := by
  have := x.toNat_lt
  rw [IntKind.wrap_u8, UInt8.toNat_add]
  simp

/-- Ahead of the copy. -/
structure TwinSt (s : DSt) (xs : List UInt8) (z : Bool) : Prop where
  get : s.get 3 = some xs
  syn : s.syn 3 = if z then some xs else none
  blocks : s.blocks = 8
  arm : s.arm = 0
  down : s.down = false
  calls : 0 ≤ s.calls ∧ s.calls ≤ 2
  np : s.np ≤ 1
  ns : s.ns ≤ 1

set_option hygiene false in
set_option maxRecDepth 100000 in
set_option maxHeartbeats 4000000 in
theorem twins_false {w : World} {v u : Value} {xs ys : List UInt8} {S T : Nat → Prop} (s0 : Sl kByte S w v xs) (s1 : Sl kByte T w u ys) :
    Calls Tryd.prog 9 #[v, u, .bool false] w fun e w' => e = .returned (.bool true) ∧ Fr All w w' := by
  obtain ⟨A0, n0, c0, rfl, e0, _⟩ := s0.open_
  obtain ⟨A1, n1, c1, rfl, e1, _⟩ := s1.open_
  have E0 := Lib.hid e0
  have E1 := Lib.hid e1
  clear e0 e1
  go_enter Tryd.func9, Tryd.ntmps9
  go_wp2_with fail
  refine (first5_call w).mono ?_
  rintro e w1 ⟨rfl, f1⟩
  cases g0 : decide ((n0 : Int) > 200) with
  | true =>
    go_wp2_with fail
    go_ret
    exact ⟨rfl, f1⟩
  | false =>
  cases g1 : decide ((n1 : Int) > 200) with
  | true =>
    go_wp2_with fail
    go_ret
    exact ⟨rfl, f1⟩
  | false =>
  have hn0 : n0 ≤ 200 := by have := of_decide_eq_false g0; omega
  have hn1 : n1 ≤ 200 := by have := of_decide_eq_false g1; omega
  have HS0 := Lib.hid (s0.all f1)
  have HS1 := Lib.hid (s1.all f1)
  clear s0 s1
  go_wp2_with fail
  refine (held_new w1 (by omega) (by omega)).mono ?_
  rintro e w2 ⟨B, bs, bp, rfl, h2⟩
  have H2 := Lib.hid h2
  clear h2
  go_wp2_with fail
  refine (held_write H2.out (H2.out.arg HS0.out) (fun x hx _ => by have := H2.out.l0; omega) rfl rfl (by omega) (by simp [DSt.new]) (by simp [DSt.new]) (by rw [E0.out]; omega) (by simp [DSt.new]) (by simp [DSt.new]) (by simp [DSt.new])).mono ?_
  rintro e w3 ⟨rfl, h3, f3⟩
  have H3 := Lib.hid h3
  clear h3 f3
  obtain ⟨s, hs⟩ : ∃ s, (DSt.new 8).put 3 xs = s := ⟨_, rfl⟩
  have TS : TwinSt s xs false := by
    subst hs
    refine ⟨rfl, rfl, rfl, rfl, rfl, ?_, ?_, ?_⟩ <;> simp [DSt.put, DSt.new]
  have H4 := H3
  rw [hs] at H4
  clear H3 hs
  obtain ⟨w4, hw4⟩ : ∃ w4, w3 = w4 := ⟨_, rfl⟩
  subst hw4
  have hcs : 0 ≤ s.calls ∧ s.calls ≤ 2 := TS.calls
  have hwc : IntKind.i64.wrap (s.calls + 1 - 1) = s.calls := by
    rw [IntWalk.i64_in _ (by omega)]
    omega
  go_wp2_with fail
  refine (ref_bytes (H4.out.arg HS0.out) (by rw [E0.out]; omega)).mono ?_
  rintro e w5 ⟨v5, rfl, o5, f5⟩
  obtain ⟨A5, c5, rfl⟩ := o5.length
  have H5 := Lib.hid (H4.out.all f5)
  have L0 := H4.out.dk.lt
  have L1 := H4.out.dk.syn.lt
  have L2 := H4.out.dk.pen.lt
  have HW5 := Lib.hid (o5.plain_in (T := fun b => Off B bs bp b ∧ b < w5.heap.size) fun b hb hl => ⟨⟨by omega, by omega, by omega⟩, hl⟩)
  have ls5 := f5.size
  clear o5
  go_wp2_with fail
  refine (dclone_call H5.out.dk).mono ?_
  rintro e w6 ⟨B', bs', bp', rfl, l0, l1, l2, d6, m6, k6, f6⟩
  have H6 := Lib.hid (H5.out.all f6)
  have HW6 := Lib.hid (HW5.out.all f6)
  have HD6 := Lib.hid d6
  have HM6 := Lib.hid m6
  have HK6 := Lib.hid k6
  clear d6 m6 k6
  go_wp2_with fail
  refine (held_write H6.out (H6.out.arg HS1.out) (fun x hx _ => by have := H6.out.l0; omega) TS.arm TS.down (by omega) (by rw [TS.blocks]; omega) (by rw [TS.blocks]; omega) (by rw [E1.out]; omega) (by have := TS.np; omega) hcs.1 (by omega)).mono ?_
  rintro e w7 ⟨rfl, h7, f7⟩
  have H7 := Lib.hid h7
  have HW7 := Lib.hid (HW6.out.move' f7 fun b hb _ => hb.1)
  have d7 : Dk w7 B' bs' bp' s := HD6.out.beside HM6.out HK6.out f7 ⟨by omega, by omega, by omega⟩ ⟨by omega, by omega, by omega⟩ ⟨by omega, by omega, by omega⟩
  have L3 := H4.out.l0
  have HC7 : Hid (Held w1 w7 B' bs' bp' s) := Lib.hid ⟨d7, by omega, by omega, by omega, H7.out.fr⟩
  have hc1 := calls_call HC7.out.dk
  have hc2 := calls_call H7.out.dk
  rw [show (s.put 3 ys).calls = s.calls + 1 from rfl] at hc2
  have HC1 := Lib.hid hc1
  have HC2 := Lib.hid hc2
  clear h7 d7 hc1 hc2
  by_cases g2 : 0 < n0
  · go_wp2_with fail
    refine HC1.out.mono ?_
    rintro e wn ⟨rfl, hwn⟩
    obtain rfl := hwn.symm
    go_wp2_with fail
    refine HC2.out.mono ?_
    rintro e wn ⟨rfl, hwn⟩
    obtain rfl := hwn.symm
    go_wp2_with fail
    refine (held_read HC7.out TS.down (by omega) (by rw [TS.blocks]; omega) (by rw [TS.blocks]; omega) (fun xs' hx => by rw [TS.get] at hx; obtain rfl := Option.some.inj hx; rw [E0.out]; omega)).mono ?_
    rintro e w8 ⟨A8, n8, c8, x8, rfl, hx8, o8, h8, f8⟩
    rw [TS.get] at hx8 ⊢
    obtain rfl : xs = x8 := hx8.symm
    clear hx8
    have H8 := Lib.hid h8
    have HW8 := Lib.hid (HW7.out.all f8)
    have n8e : n8 = xs.length := Sl.len_eq o8.sl
    have HO8 := Lib.hid o8
    have HN : Hid (xs.length = n8) := Lib.hid n8e.symm
    have hn2 : n8 ≤ 200 := by rw [n8e, E0.out]; exact hn0
    clear n8e
    have hdd : decide (xs = xs) = true := decide_eq_true rfl
    clear h8 o8
    go_wp2_with fail
    refine (same_bytes HO8.out.sl HW8.out (by rw [E0.out]; omega)).mono ?_
    rintro e w9 ⟨rfl, f9⟩
    have H9 := Lib.hid (H8.out.all f9)
    have HW9 := Lib.hid (HW8.out.all f9)
    have HO9 := Lib.hid (HO8.out.all f9)
    have F9 := f8.trans f9
    go_wp2_with fail
    clear H8 HW8 HO8 f8 f9
    go_loopw [15] (fun i wr => ∃ j : Nat, ∃ zs : List UInt8, j ≤ n8 ∧ i = .int .i64 j ∧ Hid (zs.length = n8) ∧ Hid (Own kByte 5 w7.heap.size All wr (.slice A8 n8 c8) zs) ∧ Fr All w7 wr) (fun i _ => n8 - (intOf i).toNat)
    case atStart => exact ⟨0, xs, Nat.zero_le _, rfl, HN, HO9, F9⟩
    case round =>
      obtain ⟨j, zs, hj, rfl, HZ, HO, FR⟩ := hrel
      by_cases hlt : j < n8
      · obtain ⟨x, hx, _⟩ := get_of (l := zs) (k := j) (by rw [HZ.out]; exact hlt)
        obtain ⟨g, cc, hv, hg, hg2, cg, cz, ho⟩ := own_byte_put HO.out hx (x + 1)
        injection hv with hv1 hv2 hv3
        subst hv1
        have b0 : (0 : Int) ≤ (j : Int) := by omega
        have b1 : (j : Int) < (n8 : Int) := by omega
        obtain ⟨y, hy⟩ : ∃ y, x + 1 = y := ⟨_, rfl⟩
        have hw : IntKind.u8.wrap ((x.toNat : Int) + 1) = (y.toNat : Int) := by
          rw [← hy]
          exact u8_succ x
        rw [hy] at ho
        have HO2 := Lib.hid ho
        have hl : Hid ((zs.set j y).length = n8) := Lib.hid (by rw [List.length_set]; exact HZ.out)
        clear ho hx hv2 hv3 hy
        go_wp2_with fail
        go_roundw
        case rel => exact ⟨j + 1, zs.set j y, by omega, by go_num, hl, HO2, FR.setNew hg _⟩
        case measure => simp [intOf]; omega
      · obtain rfl : j = n8 := by omega
        have HC8 := Lib.hid (HC7.out.all FR)
        have HW8 := Lib.hid (HW7.out.all FR)
        go_wp2_with fail
        refine (held_read HC8.out TS.down (by omega) (by rw [TS.blocks]; omega) (by rw [TS.blocks]; omega) (fun xs' hx => by rw [TS.get] at hx; obtain rfl := Option.some.inj hx; rw [E0.out]; omega)).mono ?_
        rintro e wa ⟨Aa, na, ca, xa, rfl, hxa, oa, ha, fa⟩
        rw [TS.get] at hxa ⊢
        obtain rfl : xs = xa := hxa.symm
        clear hxa
        have HCa := Lib.hid ha
        have HWa := Lib.hid (HW8.out.all fa)
        have K0 := HC8.out.dk.lt
        have K1 := HC8.out.dk.syn.lt
        have K2 := HC8.out.dk.pen.lt
        have HOa := Lib.hid (oa.plain_in (T := Off B' bs' bp') fun b hb _ => ⟨by omega, by omega, by omega⟩)
        clear ha oa
        go_wp2_with fail
        refine (held_crash0 HCa.out (by have := TS.np; have := TS.ns; omega)).mono ?_
        rintro e wb ⟨nb, rfl, hnb, hb, fb⟩
        have HCb := Lib.hid hb
        have HWb := Lib.hid (HWa.out.move' fb fun b hb _ => (⟨by have := hb.2; omega, by have := hb.2; omega, by have := hb.2; omega⟩ : Off B' bs' bp' b))
        have HOb := Lib.hid (HOa.out.move fb)
        have hg : (s.crashed s.syn nb).get 3 = s.syn 3 := rfl
        rw [TS.syn] at hg
        have HG := Lib.hid hg
        have hbl : (s.crashed s.syn nb).blocks = 8 := TS.blocks
        have HBL := Lib.hid hbl
        clear hb hnb hg hbl
        go_wp2_with fail
        refine (held_read HCb.out rfl (by omega) (by rw [HBL.out]; omega) (by rw [HBL.out]; omega) (fun xs' hx => by rw [HG.out] at hx; first | (cases hx; done) | (obtain rfl := Option.some.inj hx; rw [E0.out]; omega))).mono ?_
        rintro e wc ⟨Ac, nc, cc, xc, rfl, hxc, oc, hc, fc⟩
        rw [HG.out] at hxc ⊢
        have HCc := Lib.hid hc
        have HWc := Lib.hid (HWb.out.all fc)
        have HOc := Lib.hid (HOb.out.all fc)
        have HQc := Lib.hid oc.sl
        have HXc := Lib.hid hxc
        clear hc oc hxc
        have hdd : decide (xs = xs) = true := decide_eq_true rfl
        go_wp2_with fail
        refine (same_bytes HOc.out HWc.out (by rw [E0.out]; omega)).mono ?_
        rintro e wd ⟨rfl, fd⟩
        go_wp2_with fail
        go_ret
        exact ⟨rfl, f1.trans (HCc.out.all fd).fr⟩
  · go_wp2_with fail
    refine (held_read HC7.out TS.down (by omega) (by rw [TS.blocks]; omega) (by rw [TS.blocks]; omega) (fun xs' hx => by rw [TS.get] at hx; obtain rfl := Option.some.inj hx; rw [E0.out]; omega)).mono ?_
    rintro e w8 ⟨A8, n8, c8, x8, rfl, hx8, o8, h8, f8⟩
    rw [TS.get] at hx8 ⊢
    obtain rfl : xs = x8 := hx8.symm
    clear hx8
    have H8 := Lib.hid h8
    have HW8 := Lib.hid (HW7.out.all f8)
    have n8e : n8 = xs.length := Sl.len_eq o8.sl
    have HO8 := Lib.hid o8
    have HN : Hid (xs.length = n8) := Lib.hid n8e.symm
    have hn2 : n8 ≤ 200 := by rw [n8e, E0.out]; exact hn0
    clear n8e
    have hdd : decide (xs = xs) = true := decide_eq_true rfl
    clear h8 o8
    go_wp2_with fail
    refine (same_bytes HO8.out.sl HW8.out (by rw [E0.out]; omega)).mono ?_
    rintro e w9 ⟨rfl, f9⟩
    have H9 := Lib.hid (H8.out.all f9)
    have HW9 := Lib.hid (HW8.out.all f9)
    have HO9 := Lib.hid (HO8.out.all f9)
    have F9 := f8.trans f9
    go_wp2_with fail
    clear H8 HW8 HO8 f8 f9
    go_loopw [15] (fun i wr => ∃ j : Nat, ∃ zs : List UInt8, j ≤ n8 ∧ i = .int .i64 j ∧ Hid (zs.length = n8) ∧ Hid (Own kByte 5 w7.heap.size All wr (.slice A8 n8 c8) zs) ∧ Fr All w7 wr) (fun i _ => n8 - (intOf i).toNat)
    case atStart => exact ⟨0, xs, Nat.zero_le _, rfl, HN, HO9, F9⟩
    case round =>
      obtain ⟨j, zs, hj, rfl, HZ, HO, FR⟩ := hrel
      by_cases hlt : j < n8
      · obtain ⟨x, hx, _⟩ := get_of (l := zs) (k := j) (by rw [HZ.out]; exact hlt)
        obtain ⟨g, cc, hv, hg, hg2, cg, cz, ho⟩ := own_byte_put HO.out hx (x + 1)
        injection hv with hv1 hv2 hv3
        subst hv1
        have b0 : (0 : Int) ≤ (j : Int) := by omega
        have b1 : (j : Int) < (n8 : Int) := by omega
        obtain ⟨y, hy⟩ : ∃ y, x + 1 = y := ⟨_, rfl⟩
        have hw : IntKind.u8.wrap ((x.toNat : Int) + 1) = (y.toNat : Int) := by
          rw [← hy]
          exact u8_succ x
        rw [hy] at ho
        have HO2 := Lib.hid ho
        have hl : Hid ((zs.set j y).length = n8) := Lib.hid (by rw [List.length_set]; exact HZ.out)
        clear ho hx hv2 hv3 hy
        go_wp2_with fail
        go_roundw
        case rel => exact ⟨j + 1, zs.set j y, by omega, by go_num, hl, HO2, FR.setNew hg _⟩
        case measure => simp [intOf]; omega
      · obtain rfl : j = n8 := by omega
        have HC8 := Lib.hid (HC7.out.all FR)
        have HW8 := Lib.hid (HW7.out.all FR)
        go_wp2_with fail
        refine (held_read HC8.out TS.down (by omega) (by rw [TS.blocks]; omega) (by rw [TS.blocks]; omega) (fun xs' hx => by rw [TS.get] at hx; obtain rfl := Option.some.inj hx; rw [E0.out]; omega)).mono ?_
        rintro e wa ⟨Aa, na, ca, xa, rfl, hxa, oa, ha, fa⟩
        rw [TS.get] at hxa ⊢
        obtain rfl : xs = xa := hxa.symm
        clear hxa
        have HCa := Lib.hid ha
        have HWa := Lib.hid (HW8.out.all fa)
        have K0 := HC8.out.dk.lt
        have K1 := HC8.out.dk.syn.lt
        have K2 := HC8.out.dk.pen.lt
        have HOa := Lib.hid (oa.plain_in (T := Off B' bs' bp') fun b hb _ => ⟨by omega, by omega, by omega⟩)
        clear ha oa
        go_wp2_with fail
        refine (held_crash0 HCa.out (by have := TS.np; have := TS.ns; omega)).mono ?_
        rintro e wb ⟨nb, rfl, hnb, hb, fb⟩
        have HCb := Lib.hid hb
        have HWb := Lib.hid (HWa.out.move' fb fun b hb _ => (⟨by have := hb.2; omega, by have := hb.2; omega, by have := hb.2; omega⟩ : Off B' bs' bp' b))
        have HOb := Lib.hid (HOa.out.move fb)
        have hg : (s.crashed s.syn nb).get 3 = s.syn 3 := rfl
        rw [TS.syn] at hg
        have HG := Lib.hid hg
        have hbl : (s.crashed s.syn nb).blocks = 8 := TS.blocks
        have HBL := Lib.hid hbl
        clear hb hnb hg hbl
        go_wp2_with fail
        refine (held_read HCb.out rfl (by omega) (by rw [HBL.out]; omega) (by rw [HBL.out]; omega) (fun xs' hx => by rw [HG.out] at hx; first | (cases hx; done) | (obtain rfl := Option.some.inj hx; rw [E0.out]; omega))).mono ?_
        rintro e wc ⟨Ac, nc, cc, xc, rfl, hxc, oc, hc, fc⟩
        rw [HG.out] at hxc ⊢
        have HCc := Lib.hid hc
        have HWc := Lib.hid (HWb.out.all fc)
        have HOc := Lib.hid (HOb.out.all fc)
        have HQc := Lib.hid oc.sl
        have HXc := Lib.hid hxc
        clear hc oc hxc
        have hdd : decide (xs = xs) = true := decide_eq_true rfl
        go_wp2_with fail
        refine (same_bytes HOc.out HWc.out (by rw [E0.out]; omega)).mono ?_
        rintro e wd ⟨rfl, fd⟩
        go_wp2_with fail
        go_ret
        exact ⟨rfl, f1.trans (HCc.out.all fd).fr⟩
set_option hygiene false in
set_option maxRecDepth 100000 in
set_option maxHeartbeats 4000000 in
theorem twins_true {w : World} {v u : Value} {xs ys : List UInt8} {S T : Nat → Prop} (s0 : Sl kByte S w v xs) (s1 : Sl kByte T w u ys) :
    Calls Tryd.prog 9 #[v, u, .bool true] w fun e w' => e = .returned (.bool true) ∧ Fr All w w' := by
  obtain ⟨A0, n0, c0, rfl, e0, _⟩ := s0.open_
  obtain ⟨A1, n1, c1, rfl, e1, _⟩ := s1.open_
  have E0 := Lib.hid e0
  have E1 := Lib.hid e1
  clear e0 e1
  go_enter Tryd.func9, Tryd.ntmps9
  go_wp2_with fail
  refine (first5_call w).mono ?_
  rintro e w1 ⟨rfl, f1⟩
  cases g0 : decide ((n0 : Int) > 200) with
  | true =>
    go_wp2_with fail
    go_ret
    exact ⟨rfl, f1⟩
  | false =>
  cases g1 : decide ((n1 : Int) > 200) with
  | true =>
    go_wp2_with fail
    go_ret
    exact ⟨rfl, f1⟩
  | false =>
  have hn0 : n0 ≤ 200 := by have := of_decide_eq_false g0; omega
  have hn1 : n1 ≤ 200 := by have := of_decide_eq_false g1; omega
  have HS0 := Lib.hid (s0.all f1)
  have HS1 := Lib.hid (s1.all f1)
  clear s0 s1
  go_wp2_with fail
  refine (held_new w1 (by omega) (by omega)).mono ?_
  rintro e w2 ⟨B, bs, bp, rfl, h2⟩
  have H2 := Lib.hid h2
  clear h2
  go_wp2_with fail
  refine (held_write H2.out (H2.out.arg HS0.out) (fun x hx _ => by have := H2.out.l0; omega) rfl rfl (by omega) (by simp [DSt.new]) (by simp [DSt.new]) (by rw [E0.out]; omega) (by simp [DSt.new]) (by simp [DSt.new]) (by simp [DSt.new])).mono ?_
  rintro e w3 ⟨rfl, h3, f3⟩
  have H3 := Lib.hid h3
  clear h3 f3
  go_wp2_with fail
  refine (held_sync H3.out rfl rfl (by simp [DSt.put, DSt.new]) (by simp [DSt.put, DSt.new]) (by simp [DSt.put, DSt.new])).mono ?_
  rintro e w4 ⟨n4, rfl, hn4, h4, f4⟩
  have hn4' : n4 ≤ 1 := by simpa [DSt.put, DSt.new] using hn4
  obtain ⟨s, hs⟩ : ∃ s, ((DSt.new 8).put 3 xs).sync n4 = s := ⟨_, rfl⟩
  have TS : TwinSt s xs true := by
    subst hs
    refine ⟨rfl, rfl, rfl, rfl, rfl, ?_, ?_, ?_⟩
    · simp [DSt.put, DSt.new, DSt.sync]
    · simp [DSt.put, DSt.new, DSt.sync]
    · exact hn4'
  rw [hs] at h4
  have H4 := Lib.hid h4
  clear h4 hs f4 hn4 hn4'
  have hcs : 0 ≤ s.calls ∧ s.calls ≤ 2 := TS.calls
  have hwc : IntKind.i64.wrap (s.calls + 1 - 1) = s.calls := by
    rw [IntWalk.i64_in _ (by omega)]
    omega
  go_wp2_with fail
  refine (ref_bytes (H4.out.arg HS0.out) (by rw [E0.out]; omega)).mono ?_
  rintro e w5 ⟨v5, rfl, o5, f5⟩
  obtain ⟨A5, c5, rfl⟩ := o5.length
  have H5 := Lib.hid (H4.out.all f5)
  have L0 := H4.out.dk.lt
  have L1 := H4.out.dk.syn.lt
  have L2 := H4.out.dk.pen.lt
  have HW5 := Lib.hid (o5.plain_in (T := fun b => Off B bs bp b ∧ b < w5.heap.size) fun b hb hl => ⟨⟨by omega, by omega, by omega⟩, hl⟩)
  have ls5 := f5.size
  clear o5
  go_wp2_with fail
  refine (dclone_call H5.out.dk).mono ?_
  rintro e w6 ⟨B', bs', bp', rfl, l0, l1, l2, d6, m6, k6, f6⟩
  have H6 := Lib.hid (H5.out.all f6)
  have HW6 := Lib.hid (HW5.out.all f6)
  have HD6 := Lib.hid d6
  have HM6 := Lib.hid m6
  have HK6 := Lib.hid k6
  clear d6 m6 k6
  go_wp2_with fail
  refine (held_write H6.out (H6.out.arg HS1.out) (fun x hx _ => by have := H6.out.l0; omega) TS.arm TS.down (by omega) (by rw [TS.blocks]; omega) (by rw [TS.blocks]; omega) (by rw [E1.out]; omega) (by have := TS.np; omega) hcs.1 (by omega)).mono ?_
  rintro e w7 ⟨rfl, h7, f7⟩
  have H7 := Lib.hid h7
  have HW7 := Lib.hid (HW6.out.move' f7 fun b hb _ => hb.1)
  have d7 : Dk w7 B' bs' bp' s := HD6.out.beside HM6.out HK6.out f7 ⟨by omega, by omega, by omega⟩ ⟨by omega, by omega, by omega⟩ ⟨by omega, by omega, by omega⟩
  have L3 := H4.out.l0
  have HC7 : Hid (Held w1 w7 B' bs' bp' s) := Lib.hid ⟨d7, by omega, by omega, by omega, H7.out.fr⟩
  have hc1 := calls_call HC7.out.dk
  have hc2 := calls_call H7.out.dk
  rw [show (s.put 3 ys).calls = s.calls + 1 from rfl] at hc2
  have HC1 := Lib.hid hc1
  have HC2 := Lib.hid hc2
  clear h7 d7 hc1 hc2
  by_cases g2 : 0 < n0
  · go_wp2_with fail
    refine HC1.out.mono ?_
    rintro e wn ⟨rfl, hwn⟩
    obtain rfl := hwn.symm
    go_wp2_with fail
    refine HC2.out.mono ?_
    rintro e wn ⟨rfl, hwn⟩
    obtain rfl := hwn.symm
    go_wp2_with fail
    refine (held_read HC7.out TS.down (by omega) (by rw [TS.blocks]; omega) (by rw [TS.blocks]; omega) (fun xs' hx => by rw [TS.get] at hx; obtain rfl := Option.some.inj hx; rw [E0.out]; omega)).mono ?_
    rintro e w8 ⟨A8, n8, c8, x8, rfl, hx8, o8, h8, f8⟩
    rw [TS.get] at hx8 ⊢
    obtain rfl : xs = x8 := hx8.symm
    clear hx8
    have H8 := Lib.hid h8
    have HW8 := Lib.hid (HW7.out.all f8)
    have n8e : n8 = xs.length := Sl.len_eq o8.sl
    have HO8 := Lib.hid o8
    have HN : Hid (xs.length = n8) := Lib.hid n8e.symm
    have hn2 : n8 ≤ 200 := by rw [n8e, E0.out]; exact hn0
    clear n8e
    have hdd : decide (xs = xs) = true := decide_eq_true rfl
    clear h8 o8
    go_wp2_with fail
    refine (same_bytes HO8.out.sl HW8.out (by rw [E0.out]; omega)).mono ?_
    rintro e w9 ⟨rfl, f9⟩
    have H9 := Lib.hid (H8.out.all f9)
    have HW9 := Lib.hid (HW8.out.all f9)
    have HO9 := Lib.hid (HO8.out.all f9)
    have F9 := f8.trans f9
    go_wp2_with fail
    clear H8 HW8 HO8 f8 f9
    go_loopw [15] (fun i wr => ∃ j : Nat, ∃ zs : List UInt8, j ≤ n8 ∧ i = .int .i64 j ∧ Hid (zs.length = n8) ∧ Hid (Own kByte 5 w7.heap.size All wr (.slice A8 n8 c8) zs) ∧ Fr All w7 wr) (fun i _ => n8 - (intOf i).toNat)
    case atStart => exact ⟨0, xs, Nat.zero_le _, rfl, HN, HO9, F9⟩
    case round =>
      obtain ⟨j, zs, hj, rfl, HZ, HO, FR⟩ := hrel
      by_cases hlt : j < n8
      · obtain ⟨x, hx, _⟩ := get_of (l := zs) (k := j) (by rw [HZ.out]; exact hlt)
        obtain ⟨g, cc, hv, hg, hg2, cg, cz, ho⟩ := own_byte_put HO.out hx (x + 1)
        injection hv with hv1 hv2 hv3
        subst hv1
        have b0 : (0 : Int) ≤ (j : Int) := by omega
        have b1 : (j : Int) < (n8 : Int) := by omega
        obtain ⟨y, hy⟩ : ∃ y, x + 1 = y := ⟨_, rfl⟩
        have hw : IntKind.u8.wrap ((x.toNat : Int) + 1) = (y.toNat : Int) := by
          rw [← hy]
          exact u8_succ x
        rw [hy] at ho
        have HO2 := Lib.hid ho
        have hl : Hid ((zs.set j y).length = n8) := Lib.hid (by rw [List.length_set]; exact HZ.out)
        clear ho hx hv2 hv3 hy
        go_wp2_with fail
        go_roundw
        case rel => exact ⟨j + 1, zs.set j y, by omega, by go_num, hl, HO2, FR.setNew hg _⟩
        case measure => simp [intOf]; omega
      · obtain rfl : j = n8 := by omega
        have HC8 := Lib.hid (HC7.out.all FR)
        have HW8 := Lib.hid (HW7.out.all FR)
        go_wp2_with fail
        refine (held_read HC8.out TS.down (by omega) (by rw [TS.blocks]; omega) (by rw [TS.blocks]; omega) (fun xs' hx => by rw [TS.get] at hx; obtain rfl := Option.some.inj hx; rw [E0.out]; omega)).mono ?_
        rintro e wa ⟨Aa, na, ca, xa, rfl, hxa, oa, ha, fa⟩
        rw [TS.get] at hxa ⊢
        obtain rfl : xs = xa := hxa.symm
        clear hxa
        have HCa := Lib.hid ha
        have HWa := Lib.hid (HW8.out.all fa)
        have K0 := HC8.out.dk.lt
        have K1 := HC8.out.dk.syn.lt
        have K2 := HC8.out.dk.pen.lt
        have HOa := Lib.hid (oa.plain_in (T := Off B' bs' bp') fun b hb _ => ⟨by omega, by omega, by omega⟩)
        clear ha oa
        go_wp2_with fail
        refine (held_crash0 HCa.out (by have := TS.np; have := TS.ns; omega)).mono ?_
        rintro e wb ⟨nb, rfl, hnb, hb, fb⟩
        have HCb := Lib.hid hb
        have HWb := Lib.hid (HWa.out.move' fb fun b hb _ => (⟨by have := hb.2; omega, by have := hb.2; omega, by have := hb.2; omega⟩ : Off B' bs' bp' b))
        have HOb := Lib.hid (HOa.out.move fb)
        have hg : (s.crashed s.syn nb).get 3 = s.syn 3 := rfl
        rw [TS.syn] at hg
        have HG := Lib.hid hg
        have hbl : (s.crashed s.syn nb).blocks = 8 := TS.blocks
        have HBL := Lib.hid hbl
        clear hb hnb hg hbl
        go_wp2_with fail
        refine (held_read HCb.out rfl (by omega) (by rw [HBL.out]; omega) (by rw [HBL.out]; omega) (fun xs' hx => by rw [HG.out] at hx; first | (cases hx; done) | (obtain rfl := Option.some.inj hx; rw [E0.out]; omega))).mono ?_
        rintro e wc ⟨Ac, nc, cc, xc, rfl, hxc, oc, hc, fc⟩
        rw [HG.out] at hxc ⊢
        have HCc := Lib.hid hc
        have HWc := Lib.hid (HWb.out.all fc)
        have HOc := Lib.hid (HOb.out.all fc)
        have HQc := Lib.hid oc.sl
        have HXc := Lib.hid hxc
        clear hc oc hxc
        have hdd : decide (xs = xs) = true := decide_eq_true rfl
        go_wp2_with fail
        refine (same_bytes HOc.out HWc.out (by rw [E0.out]; omega)).mono ?_
        rintro e wd ⟨rfl, fd⟩
        obtain rfl : xs = xc := HXc.out.symm
        have HWd := Lib.hid (HWc.out.all fd)
        have HQd := Lib.hid (HQc.out.all fd)
        go_wp2_with fail
        refine (same_bytes HQd.out HWd.out (by rw [E0.out]; omega)).mono ?_
        rintro e we ⟨rfl, fe⟩
        go_wp2_with fail
        go_ret
        exact ⟨rfl, f1.trans ((HCc.out.all fd).all fe).fr⟩
  · go_wp2_with fail
    refine (held_read HC7.out TS.down (by omega) (by rw [TS.blocks]; omega) (by rw [TS.blocks]; omega) (fun xs' hx => by rw [TS.get] at hx; obtain rfl := Option.some.inj hx; rw [E0.out]; omega)).mono ?_
    rintro e w8 ⟨A8, n8, c8, x8, rfl, hx8, o8, h8, f8⟩
    rw [TS.get] at hx8 ⊢
    obtain rfl : xs = x8 := hx8.symm
    clear hx8
    have H8 := Lib.hid h8
    have HW8 := Lib.hid (HW7.out.all f8)
    have n8e : n8 = xs.length := Sl.len_eq o8.sl
    have HO8 := Lib.hid o8
    have HN : Hid (xs.length = n8) := Lib.hid n8e.symm
    have hn2 : n8 ≤ 200 := by rw [n8e, E0.out]; exact hn0
    clear n8e
    have hdd : decide (xs = xs) = true := decide_eq_true rfl
    clear h8 o8
    go_wp2_with fail
    refine (same_bytes HO8.out.sl HW8.out (by rw [E0.out]; omega)).mono ?_
    rintro e w9 ⟨rfl, f9⟩
    have H9 := Lib.hid (H8.out.all f9)
    have HW9 := Lib.hid (HW8.out.all f9)
    have HO9 := Lib.hid (HO8.out.all f9)
    have F9 := f8.trans f9
    go_wp2_with fail
    clear H8 HW8 HO8 f8 f9
    go_loopw [15] (fun i wr => ∃ j : Nat, ∃ zs : List UInt8, j ≤ n8 ∧ i = .int .i64 j ∧ Hid (zs.length = n8) ∧ Hid (Own kByte 5 w7.heap.size All wr (.slice A8 n8 c8) zs) ∧ Fr All w7 wr) (fun i _ => n8 - (intOf i).toNat)
    case atStart => exact ⟨0, xs, Nat.zero_le _, rfl, HN, HO9, F9⟩
    case round =>
      obtain ⟨j, zs, hj, rfl, HZ, HO, FR⟩ := hrel
      by_cases hlt : j < n8
      · obtain ⟨x, hx, _⟩ := get_of (l := zs) (k := j) (by rw [HZ.out]; exact hlt)
        obtain ⟨g, cc, hv, hg, hg2, cg, cz, ho⟩ := own_byte_put HO.out hx (x + 1)
        injection hv with hv1 hv2 hv3
        subst hv1
        have b0 : (0 : Int) ≤ (j : Int) := by omega
        have b1 : (j : Int) < (n8 : Int) := by omega
        obtain ⟨y, hy⟩ : ∃ y, x + 1 = y := ⟨_, rfl⟩
        have hw : IntKind.u8.wrap ((x.toNat : Int) + 1) = (y.toNat : Int) := by
          rw [← hy]
          exact u8_succ x
        rw [hy] at ho
        have HO2 := Lib.hid ho
        have hl : Hid ((zs.set j y).length = n8) := Lib.hid (by rw [List.length_set]; exact HZ.out)
        clear ho hx hv2 hv3 hy
        go_wp2_with fail
        go_roundw
        case rel => exact ⟨j + 1, zs.set j y, by omega, by go_num, hl, HO2, FR.setNew hg _⟩
        case measure => simp [intOf]; omega
      · obtain rfl : j = n8 := by omega
        have HC8 := Lib.hid (HC7.out.all FR)
        have HW8 := Lib.hid (HW7.out.all FR)
        go_wp2_with fail
        refine (held_read HC8.out TS.down (by omega) (by rw [TS.blocks]; omega) (by rw [TS.blocks]; omega) (fun xs' hx => by rw [TS.get] at hx; obtain rfl := Option.some.inj hx; rw [E0.out]; omega)).mono ?_
        rintro e wa ⟨Aa, na, ca, xa, rfl, hxa, oa, ha, fa⟩
        rw [TS.get] at hxa ⊢
        obtain rfl : xs = xa := hxa.symm
        clear hxa
        have HCa := Lib.hid ha
        have HWa := Lib.hid (HW8.out.all fa)
        have K0 := HC8.out.dk.lt
        have K1 := HC8.out.dk.syn.lt
        have K2 := HC8.out.dk.pen.lt
        have HOa := Lib.hid (oa.plain_in (T := Off B' bs' bp') fun b hb _ => ⟨by omega, by omega, by omega⟩)
        clear ha oa
        go_wp2_with fail
        refine (held_crash0 HCa.out (by have := TS.np; have := TS.ns; omega)).mono ?_
        rintro e wb ⟨nb, rfl, hnb, hb, fb⟩
        have HCb := Lib.hid hb
        have HWb := Lib.hid (HWa.out.move' fb fun b hb _ => (⟨by have := hb.2; omega, by have := hb.2; omega, by have := hb.2; omega⟩ : Off B' bs' bp' b))
        have HOb := Lib.hid (HOa.out.move fb)
        have hg : (s.crashed s.syn nb).get 3 = s.syn 3 := rfl
        rw [TS.syn] at hg
        have HG := Lib.hid hg
        have hbl : (s.crashed s.syn nb).blocks = 8 := TS.blocks
        have HBL := Lib.hid hbl
        clear hb hnb hg hbl
        go_wp2_with fail
        refine (held_read HCb.out rfl (by omega) (by rw [HBL.out]; omega) (by rw [HBL.out]; omega) (fun xs' hx => by rw [HG.out] at hx; first | (cases hx; done) | (obtain rfl := Option.some.inj hx; rw [E0.out]; omega))).mono ?_
        rintro e wc ⟨Ac, nc, cc, xc, rfl, hxc, oc, hc, fc⟩
        rw [HG.out] at hxc ⊢
        have HCc := Lib.hid hc
        have HWc := Lib.hid (HWb.out.all fc)
        have HOc := Lib.hid (HOb.out.all fc)
        have HQc := Lib.hid oc.sl
        have HXc := Lib.hid hxc
        clear hc oc hxc
        have hdd : decide (xs = xs) = true := decide_eq_true rfl
        go_wp2_with fail
        refine (same_bytes HOc.out HWc.out (by rw [E0.out]; omega)).mono ?_
        rintro e wd ⟨rfl, fd⟩
        obtain rfl : xs = xc := HXc.out.symm
        have HWd := Lib.hid (HWc.out.all fd)
        have HQd := Lib.hid (HQc.out.all fd)
        go_wp2_with fail
        refine (same_bytes HQd.out HWd.out (by rw [E0.out]; omega)).mono ?_
        rintro e we ⟨rfl, fe⟩
        go_wp2_with fail
        go_ret
        exact ⟨rfl, f1.trans ((HCc.out.all fd).all fe).fr⟩
theorem twins_walk {w : World} {v u : Value} {xs ys : List UInt8} {S T : Nat → Prop} (z : Bool) (s0 : Sl kByte S w v xs) (s1 : Sl kByte T w u ys) :
    Calls Tryd.prog 9 #[v, u, .bool z] w fun e w' => e = .returned (.bool true) ∧ Fr All w w' := by
  cases z with
  | false => exact twins_false s0 s1
  | true => exact twins_true s0 s1
end Go.Proofs.YteikddopeplomaaDoor
