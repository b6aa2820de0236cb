/- The walk of the law on what a pool has and wants. -/
import Derived.Test.YteikddopeplomaaDoorRoQ
namespace Go.Proofs.YteikddopeplomaaDoor
open Go.RowKit Go.Maps

theorem Pk.bare_move {S : Nat → Prop} {w w' : World} {B l t : Nat} {s : PSt} (h : Pk w B l t s) (hb : ∀ k p, s.have_ k = some p → p.ents = []) (f : Fr S w w') (h0 : S B) (h1 : S l) (h2 : S t) : Pk w' B l t s :=
  ⟨f.cell (p := ⟨B, 0, none⟩) h0 h.c0, f.cell (p := ⟨B, 1, none⟩) h0 h.c1, ((h.hv.bare hb (S' := Nowhere)).move f h1 (fun _ hx _ => hx.elim)).bare hb, ((h.tv.free (S' := Nowhere)).move f h2 (fun _ hx _ => hx.elim)).free, h.n1, h.n2, h.n3⟩

/-- The pool, the statement's rows. -/
structure RoSt (w0 w : World) (B l t G : Nat) (s : PSt) (hv : List Int) (v : Value) (ws : List Int) : Prop where
  pk : PHeld w0 w B l t s
  ho : Own kInt 2 G All w (.slice (some ⟨G, 0, none⟩) 8 8) hv
  wo : Own kInt 3 (G + 1) All w v ws
  gB : B < G
  gl : l < G
  gt : t < G
  gw : G < w.heap.size
section
variable {w0 w w' : World} {B l t G : Nat} {s s' : PSt} {hv ws ws' : List Int} {v v' : Value}
theorem RoSt.all (h : RoSt w0 w B l t G s hv v ws) (f : Fr All w w') : RoSt w0 w' B l t G s hv v ws :=
  ⟨h.pk.all f, h.ho.all f, h.wo.all f, h.gB, h.gl, h.gt, Nat.lt_of_lt_of_le h.gw f.size⟩
theorem RoSt.off (h : RoSt w0 w B l t G s hv v ws) (f : Fr (Off B l t) w w') (d : Pk w' B l t s') : RoSt w0 w' B l t G s' hv v ws := by
  have gB := h.gB
  have gl := h.gl
  have gt := h.gt
  refine ⟨h.pk.off f d, (h.ho.any (T := Nowhere)).move f (fun _ hx _ => hx.elim) (fun k hk => ?_) |>.any, (h.wo.any (T := Nowhere)).move f (fun _ hx _ => hx.elim) (fun k hk => ?_) |>.any, gB, gl, gt, Nat.lt_of_lt_of_le h.gw f.size⟩
  · have := (own_lt h.ho k hk).1
    exact ⟨by omega, by omega, by omega⟩
  · have := (own_lt h.wo k hk).1
    exact ⟨by omega, by omega, by omega⟩
/-- The wanted ones turn. -/
theorem RoSt.turn (h : RoSt w0 w B l t G s hv v ws) (hb : ∀ k p, s.have_ k = some p → p.ents = []) (f : Fr (But v.ownBlock) w w') (o : Own kInt 3 (G + 1) All w' v' ws') : RoSt w0 w' B l t G s hv v' ws' := by
  have gB := h.gB
  have gl := h.gl
  have gt := h.gt
  have hk : ∀ x, x ≤ G → But v.ownBlock x := fun x hx e => by
    have := (own_lt h.wo x e.symm).1
    omega
  have h0 := h.pk.l0
  refine ⟨⟨h.pk.pk.bare_move hb f (hk _ (by omega)) (hk _ (by omega)) (hk _ (by omega)), h.pk.l0, h.pk.l1, h.pk.l2, h.pk.fr.over f fun x hx => hk x (by omega)⟩, (h.ho.any (T := Nowhere)).move f (fun _ hx _ => hx.elim) (fun k hk2 => hk k ?_) |>.any, o, gB, gl, gt, Nat.lt_of_lt_of_le h.gw f.size⟩
  have : G = k := Option.some.inj hk2
  omega
/-- A number of have turns. -/
theorem RoSt.hput (h : RoSt w0 w B l t G s hv v ws) (hb : ∀ k p, s.have_ k = some p → p.ents = []) {k : Nat} {x : Int} (hx : hv[k]? = some x) (y : Int) :
    w.cell? ⟨G, k, none⟩ = some (.int .i64 x) ∧ w.frozen? ⟨G, k, none⟩ = false ∧ RoSt w0 (w.setCell ⟨G, k, none⟩ (.int .i64 y)) B l t G s (hv.set k y) v ws := by
  have gB := h.gB
  have gl := h.gl
  have gt := h.gt
  have h0 := h.pk.l0
  obtain ⟨g, c, hvv, _, _, hc, hz, ho⟩ := own_int_put h.ho hx y
  injection hvv with hg _ _
  have hg2 := Option.some.inj hg
  injection hg2 with hg3 _ _
  subst hg3
  have f : Fr (fun x => x ≠ G) w (w.setCell ⟨G, k, none⟩ (.int .i64 y)) := Fr.setCell (S := fun x => x ≠ G) (p := ⟨G, k, none⟩) (Fr.refl _ w) (fun b hb => hb) _
  refine ⟨hc, hz, ⟨h.pk.pk.bare_move hb f (by omega) (by omega) (by omega), h.pk.l0, h.pk.l1, h.pk.l2, h.pk.fr.over f fun x hx => by omega⟩, ho, (h.wo.any (T := Nowhere)).move f (fun _ hx _ => hx.elim) (fun k hk => ?_) |>.any, gB, gl, gt, Nat.lt_of_lt_of_le h.gw f.size⟩
  have := (own_lt h.wo k hk).1
  omega
theorem RoSt.at (h : RoSt w0 w B l t G s hv v ws) {k : Nat} {x : Int} (hx : hv[k]? = some x) : w.cell? ⟨G, k, none⟩ = some (.int .i64 x) := by
  obtain ⟨b, o, hA, hc⟩ := h.ho.sl.at1 hx
  have hg2 := Option.some.inj hA
  injection hg2 with hg3 hg4 _
  subst hg3
  subst hg4
  rwa [Nat.zero_add] at hc
end
theorem rising_call' {w : World} {v : Value} {l : List Int} {S : Nat → Prop} (h : Sl kInt S w v l) (hn : l.length ≤ 10000) :
    Calls Tryd.prog 30 #[v] w fun e w' => ∃ v', e = .returned v' ∧ Own kInt 3 w.heap.size All w' v' (risingI l) ∧ Fr All w w' := by
  obtain ⟨A, n, c, rfl, en, _⟩ := h.open_
  exact rising_call h (by omega)
theorem rising_snoc {ws : List Int} (hs : ws.Pairwise (· < ·)) (i : Int) : risingI (ws ++ [i]) = insI i ws := by
  have h1 : risingI ws = ws := sorted_ext _ _ (rising_rise List.Pairwise.nil) hs fun k => by
    show k ∈ ws.foldl (fun out x => insI x out) [] ↔ _
    rw [rising_mem]
    simp
  rw [risingI, List.foldl_append]
  show insI i (risingI ws) = _
  rw [h1]

set_option hygiene false in
set_option maxRecDepth 100000 in
set_option maxHeartbeats 4000000 in
theorem rows_walk {w : World} {S0 : Nat → Prop} {A0 : Option Addr} {n0 c0 : Nat} {ls : List Int} (s0 : Sl kInt S0 w (.slice A0 n0 c0) ls) (drop : Int) :
    Calls Tryd.prog 5 #[.slice A0 n0 c0, .int .i64 drop] w fun e w' => e = .returned (.bool true) ∧ Fr All w w' := by
  have E0 : Hid (n0 = ls.length) := Lib.hid s0.len.symm
  go_enter Tryd.func5, Tryd.ntmps5
  go_wp2_with fail
  refine (first20_call w).mono ?_
  rintro e w1 ⟨rfl, f1⟩
  cases g0 : decide ((n0 : Int) > 20) with
  | true =>
    go_wp2_with fail
    go_ret
    exact ⟨rfl, f1⟩
  | false =>
  have hn0 : n0 ≤ 20 := by have := of_decide_eq_false g0; omega
  have HS := Lib.hid (s0.all f1)
  clear s0
  obtain ⟨L, hL⟩ : ∃ L, bits .and .i64 drop 31 = L := ⟨_, rfl⟩
  go_wp2_with fail
  refine (pool_new w1).mono ?_
  rintro e w2 ⟨B, l, t, rfl, l0, l1, l2, h2, f2⟩
  have H2 : Hid (PHeld w1 w2 B l t .new) := Lib.hid ⟨h2, l0, l1, l2, f2⟩
  have g0 := h2.lt
  have g1 := h2.hv.lt
  have g2 := h2.tv.lt
  obtain ⟨w3, hmk, o3, f3⟩ := run_mkl w2 (n := 8) (by omega)
  have hg3 : w2.heap.size < w3.heap.size := own_lt o3 w2.heap.size rfl |>.2
  have H3 : Hid (RoSt w1 w3 B l t w2.heap.size .new (List.replicate 8 0) (.slice none 0 0) []) := Lib.hid ⟨H2.out.all f3, o3, Own.nil_ _ _ _ _ _, g0, g1, g2, hg3⟩
  have R3 : Hid (RowSt .new (List.replicate 8 0) []) := Lib.hid RowSt.start
  obtain ⟨G, hG⟩ : ∃ G, w2.heap.size = G := ⟨_, rfl⟩
  rw [hG] at hmk H3
  rw [show ((8 : Nat) : Int) = 8 from rfl] at hmk
  clear h2 f2 o3 f3 hg3 g0 g1 g2 H2 l0 l1 l2
  go_wp2_with fail
  clear hmk hG hL
  go_loopw [8, 9] (fun wv i wr => ∃ (j : Nat) (s : PSt) (hv ws : List Int), j ≤ n0 ∧ i = .int .i64 j ∧ Hid (RowSt s hv ws) ∧ Hid (RoSt w1 wr B l t G s hv wv ws)) (fun _ i _ => n0 - (intOf i).toNat)
  case atStart => exact ⟨0, _, _, _, Nat.zero_le _, rfl, R3, H3⟩
  case round =>
    obtain ⟨j, s, hv, ws, hj, rfl, HR, HT⟩ := hrel
    by_cases hlt : j < n0
    · obtain ⟨x, hx, _⟩ := get_of (l := ls) (k := j) (by rw [← E0.out]; exact hlt)
      have hsr := HS.out.all HT.out.pk.fr
      obtain ⟨b, o1, rfl, cx⟩ := hsr.at1 hx
      have b0 : (0 : Int) ≤ (j : Int) := by omega
      have b1 : (j : Int) < (n0 : Int) := by omega
      clear hsr
      go_wp2_with fail
      refine (number wr (by omega) (by omega)).mono ?_
      rintro e wn ⟨i0, hi0, rfl, hwn⟩
      obtain rfl := hwn.symm
      go_wp2_with fail
      refine (number wr (by omega) (by omega)).mono ?_
      rintro e wn ⟨y0, hy0, rfl, hwn⟩
      obtain rfl := hwn.symm
      have hw : IntKind.i64.wrap ((y0 : Int) + 1) = (y0 : Int) + 1 := IntWalk.i64_in _ (by omega)
      obtain ⟨y, hy, _⟩ := get_of (l := hv) (k := i0) (by rw [HR.out.len]; omega)
      have hyb := HR.out.bnd i0 y hy
      have hi8 : i0 < 8 := by omega
      have HY := Lib.hid hy
      clear hx hwn hy
      cases hm : (x.tmod 5 == 0) with
      | true =>
        cases d1 : decide (y > 0) with
        | true =>
          have hmy := HR.out.get HY.out
          rw [if_pos (of_decide_eq_true d1)] at hmy
          have HM := Lib.hid hmy
          clear hmy
          go_wp2_with fail
          refine (pool_get_some HT.out.pk.pk (in64_of (by omega) (by omega)) HM.out ⟨by simp, by simp⟩).mono ?_
          rintro e w4 ⟨A4, c4, rfl, h4, f4⟩
          dsimp only [List.length_nil]
          have F5 := f4.alloc (.cells #[.int .i64 (i0 : Int), .int .i64 y, .int .i64 0, .int .i64 (-1), .slice A4 0 c4] 24)
          have H8 := Lib.hid (HT.out.all F5)
          have R8 := HR
          have cy := H8.out.at HY.out
          have e0 : (0 : Int) ≤ (i0 : Int) := by omega
          have e1 : (i0 : Int) < 8 := by omega
          obtain ⟨ws8, rfl⟩ : ∃ ws8, ws8 = ws := ⟨_, rfl⟩
          clear h4 f4 F5 cx
          go_wp2_with fail
          have hnw := R8.out.nw H8.out.pk.pk.tv
          have hwn8 : ws8.length ≤ 8 := by omega
          refine (pool_wants H8.out.pk.pk (by omega)).mono ?_
          rintro e w9 ⟨A9, c9, ks, rfl, hkl, hrise, hmem, ho, f9⟩
          have hks : ks = ws8 := sorted_ext _ _ hrise R8.out.rise fun k => by
            rw [hmem, R8.out.mem]
            constructor
            · exact fun hh => hh.2
            · intro hh
              have := R8.out.small k ((R8.out.mem k).2 hh)
              exact ⟨in64_of (by omega) (by omega), hh⟩
          obtain rfl := hks.symm
          have H9 := Lib.hid (H8.out.all f9)
          have HO9 := Lib.hid ho
          have HW9 := Lib.hid H9.out.wo.sl
          have hdd : decide (ws8 = ws8) = true := decide_eq_true rfl
          clear hkl hrise hmem ho f9 hks hnw
          go_wp2_with fail
          refine (same_ints HO9.out HW9.out (by omega)).mono ?_
          rintro e w10 ⟨rfl, f10⟩
          have H10 := Lib.hid (H9.out.all f10)
          clear f10
          go_wp2_with fail
          go_roundw
          case rel => exact ⟨j + 1, _, _, _, by omega, by go_num, R8, H10⟩
          case measure => simp [intOf]; omega
        | false =>
          have hmy := HR.out.get HY.out
          rw [if_neg (fun hh => by have := of_decide_eq_false d1; omega)] at hmy
          have HM := Lib.hid hmy
          have hnw0 := (HR.out.nw HT.out.pk.pk.tv).2
          have hwl := (HR.out.nw HT.out.pk.pk.tv).1
          clear hmy
          go_wp2_with fail
          refine (pool_get_none HT.out.pk.pk (i := (i0 : Int)) (by omega) (by omega) HM.out (by omega)).mono ?_
          rintro e w4 ⟨rfl, h4, f4⟩
          have F5 := (Fr.refl All w4).alloc (.cells #[.int .i64 0, .int .i64 0, .int .i64 0, .int .i64 0, .slice none 0 0] 24)
          have H5 := Lib.hid ((HT.out.off f4 h4).all F5)
          have R8 := Lib.hid (HR.out.want (i := i0) hi8)
          have cy := H5.out.at HY.out
          have e0 : (0 : Int) ≤ (i0 : Int) := by omega
          have e1 : (i0 : Int) < 8 := by omega
          clear h4 f4 F5 cx
          go_upto_region 22 with (fail)
          refine wp_name ?_
          intro W hW
          have H5 : Hid (RoSt w1 W B l t G (s.want i0) hv u8 ws) := Lib.hid (by rw [hW]; exact H5.out)
          clear hW cy
          have FB := (Fr.refl All W).alloc (.cells #[.int .i64 (i0 : Int)] 3)
          have H6 := Lib.hid (H5.out.all FB)
          have HY6 : Src kInt Nowhere (W.alloc (.cells #[.int .i64 (i0 : Int)] 3)) (.slice (some ⟨W.heap.size, 0, none⟩) 1 1) [(i0 : Int)] := Src.box (d := kInt) (x := (i0 : Int)) (cs := [.int .i64 (i0 : Int)]) rfl _ 1
          have HO6 := H6.out.wo
          have hl6 : (ws.length + [(i0 : Int)].length) * 8 ≤ 140737488355328 := by simp only [List.length_cons, List.length_nil]; omega
          have hb6 : G + 1 ≤ (W.alloc (.cells #[.int .i64 (i0 : Int)] 3)).heap.size := H6.out.gw
          go_wp2_with (at_builtin; refine wpList_app rfl rfl Tryd.underlying50 info_i64 rfl (by decide) HO6 HY6 rfl rfl (fun b hb _ => hb.elim) hl6 hb6 ?_; intro v7 w7 o7 f7 h7)
          have H7 := Lib.hid (H6.out.turn R8.out.bare f7 o7)
          refine (rising_call' o7.sl (by simp only [List.length_append, List.length_cons, List.length_nil]; omega)).mono ?_
          rintro e w8 ⟨v8, rfl, o8, f8⟩
          rw [rising_snoc HR.out.rise] at o8
          have H8 := Lib.hid ((H7.out.all f8).turn R8.out.bare (Fr.refl _ _) (o8.lower (Nat.le_trans H7.out.gw (Nat.le_refl _))))
          obtain ⟨ws8, hws8⟩ : ∃ ws8, insI (i0 : Int) ws = ws8 := ⟨_, rfl⟩
          rw [hws8] at H8 R8
          clear o7 f7 h7 o8 f8 H7 H6 HO6 HY6 hl6 hb6 FB hws8
          go_wp2_with fail
          have hnw := R8.out.nw H8.out.pk.pk.tv
          have hwn8 : ws8.length ≤ 8 := by omega
          refine (pool_wants H8.out.pk.pk (by omega)).mono ?_
          rintro e w9 ⟨A9, c9, ks, rfl, hkl, hrise, hmem, ho, f9⟩
          have hks : ks = ws8 := sorted_ext _ _ hrise R8.out.rise fun k => by
            rw [hmem, R8.out.mem]
            constructor
            · exact fun hh => hh.2
            · intro hh
              have := R8.out.small k ((R8.out.mem k).2 hh)
              exact ⟨in64_of (by omega) (by omega), hh⟩
          obtain rfl := hks.symm
          have H9 := Lib.hid (H8.out.all f9)
          have HO9 := Lib.hid ho
          have HW9 := Lib.hid H9.out.wo.sl
          have hdd : decide (ws8 = ws8) = true := decide_eq_true rfl
          clear hkl hrise hmem ho f9 hks hnw
          go_wp2_with fail
          refine (same_ints HO9.out HW9.out (by omega)).mono ?_
          rintro e w10 ⟨rfl, f10⟩
          have H10 := Lib.hid (H9.out.all f10)
          clear f10
          go_wp2_with fail
          go_roundw
          case rel => exact ⟨j + 1, _, _, _, by omega, by go_num, R8, H10⟩
          case measure => simp [intOf]; omega
      | false =>
        obtain ⟨A8, c8, rfl⟩ := HT.out.wo.length
        obtain ⟨m, hmm⟩ : ∃ m, ws.length = m := ⟨_, rfl⟩
        have HM := Lib.hid hmm
        rw [hmm] at HT ⊢
        have hnh := (HR.out.nh HT.out.pk.pk.hv).2
        have hnw0 := (HR.out.nw HT.out.pk.pk.tv).2
        have hwl := (HR.out.nw HT.out.pk.pk.tv).1
        rw [hmm] at hwl
        clear hmm
        obtain ⟨u, hu⟩ : ∃ u : Int, (y0 : Int) + 1 = u := ⟨_, rfl⟩
        rw [hu] at hw
        have hw2 : IntKind.i64.wrap ((y0 : Int) + 1) = u := by rw [hu]; exact hw
        clear hw
        have hu1 : 1 ≤ u := by omega
        have hu2 : u ≤ 30 := by omega
        have HU := Lib.hid hu
        clear hu
        go_wp2_with fail
        refine (pool_put (p := ⟨(i0 : Int), u, 0, -1, []⟩) (S := Nowhere) HT.out.pk.pk ⟨by dsimp only; omega, by dsimp only; omega, by dsimp only; omega, by dsimp only; omega, by dsimp only; omega, by dsimp only; omega, by dsimp only; omega, by dsimp only; omega, by simp, by simp⟩ (Sl.nil_ _ _ _) (fun x hx _ => hx.elim) (by omega)).mono ?_
        rintro e w4 ⟨rfl, h4, f4⟩
        have H4 := Lib.hid (HT.out.off f4 h4)
        have R8 := Lib.hid (HR.out.put HY.out hu1 hu2)
        obtain ⟨z, hz⟩ : ∃ z, max y u = z := ⟨_, rfl⟩
        rw [hz] at R8
        obtain ⟨hc, hfz, h5⟩ := H4.out.hput R8.out.bare HY.out z
        have H5 := Lib.hid h5
        have e0 : (0 : Int) ≤ (i0 : Int) := by omega
        have e1 : (i0 : Int) < 8 := by omega
        clear h4 f4 h5 cx
        go_upto_region 26 with (fail)
        refine wp_name ?_
        intro W hW
        have H5 : Hid (RoSt w1 W B l t G (s.puts ⟨(i0 : Int), u, 0, -1, []⟩) (hv.set i0 z) (.slice A8 m c8) ws) := Lib.hid (by rw [hW]; exact H5.out)
        clear hW hc hfz
        have O0 : Own kInt 3 W.heap.size All W (.slice none 0 0) ((ws.take 0).filter fun y => y != (i0 : Int)) := Own.nil_ _ _ _ _ _
        have HO0 := Lib.hid O0
        clear O0
        go_wp2_with fail
        go_loopw [14, 15] (fun v k wr2 => ∃ q : Nat, q ≤ m ∧ k = .int .i64 q ∧ Hid (Own kInt 3 W.heap.size All wr2 v ((ws.take q).filter fun y => y != (i0 : Int))) ∧ Hid (Fr All W wr2)) (fun _ k _ => m - (intOf k).toNat)
        case atStart => exact ⟨0, Nat.zero_le _, rfl, HO0, Lib.hid (Fr.refl _ _)⟩
        case round =>
          obtain ⟨q, hq, rfl, HOQ, HFQ⟩ := hrel
          have d0 : (0 : Int) ≤ (q : Int) := by omega
          by_cases hqm : q < m
          · obtain ⟨x2, hx2, _⟩ := get_of (l := ws) (k := q) (by rw [HM.out]; exact hqm)
            have d1 : (q : Int) < (m : Int) := by omega
            obtain ⟨b2, o2, hA2, cy⟩ := (H5.out.wo.all HFQ.out).sl.at1 hx2
            subst hA2
            have hfs := filt_step (i := (i0 : Int)) hx2
            clear hx2
            cases hyx : (x2 != (i0 : Int)) with
            | true =>
              rw [if_pos hyx] at hfs
              have hfl : ((ws.take q).filter fun y => y != (i0 : Int)).length ≤ 8 := by
                have := List.length_filter_le (fun y => y != (i0 : Int)) (ws.take q)
                rw [List.length_take] at this
                omega
              obtain ⟨os, hos⟩ : ∃ os, (ws.take q).filter (fun y => y != (i0 : Int)) = os := ⟨_, rfl⟩
              rw [hos] at hfs hfl HOQ
              have HFS := Lib.hid hfs
              have FB := HFQ.out.alloc (.cells #[.int .i64 x2] 3)
              have HO6 := HOQ.out.all ((Fr.refl All _).alloc (.cells #[.int .i64 x2] 3))
              have HY6 : Src kInt Nowhere (wr.alloc (.cells #[.int .i64 x2] 3)) (.slice (some ⟨wr.heap.size, 0, none⟩) 1 1) [x2] := Src.box (d := kInt) (x := x2) (cs := [.int .i64 x2]) rfl _ 1
              have hl6 : (os.length + [x2].length) * 8 ≤ 140737488355328 := by simp only [List.length_cons, List.length_nil]; omega
              have hb6 : W.heap.size ≤ (wr.alloc (.cells #[.int .i64 x2] 3)).heap.size := FB.size
              clear hfs hos
              go_wp2_with (at_builtin; refine wpList_app rfl rfl Tryd.underlying50 info_i64 rfl (by decide) HO6 HY6 rfl rfl (fun b hb _ => hb.elim) hl6 hb6 ?_; intro v7 w7 o7 f7 h7)
              have H7 := Lib.hid (FB.row f7.grown fun q hq => (own_lt HO6 q hq).1)
              rw [← HFS.out] at o7
              have O7 := Lib.hid o7
              clear o7 f7 h7 FB HO6 HY6 hl6 hb6 cy
              go_wp2_with fail
              go_roundw
              case rel => exact ⟨q + 1, by omega, by go_num, O7, H7⟩
              case measure => simp [intOf]; omega
            | false =>
              rw [if_neg (by rw [hyx]; simp), List.append_nil] at hfs
              rw [← hfs] at HOQ
              clear hfs
              go_wp2_with fail
              go_roundw
              case rel => exact ⟨q + 1, by omega, by go_num, HOQ, HFQ⟩
              case measure => simp [intOf]; omega
          · obtain rfl : q = m := by omega
            rw [List.take_of_length_le (by rw [HM.out]; exact Nat.le_refl _)] at HOQ
            have H8 := Lib.hid ((H5.out.all HFQ.out).turn R8.out.bare (Fr.refl _ _) (HOQ.out.lower H5.out.gw))
            obtain ⟨ws8, hws8⟩ : ∃ ws8, ws.filter (fun y => y != (i0 : Int)) = ws8 := ⟨_, rfl⟩
            rw [hws8] at H8 R8
            clear hws8 HOQ
            go_wp2_with fail
            have hnw := R8.out.nw H8.out.pk.pk.tv
            have hwn8 : ws8.length ≤ 8 := by omega
            refine (pool_wants H8.out.pk.pk (by omega)).mono ?_
            rintro e w9 ⟨A9, c9, ks, rfl, hkl, hrise, hmem, ho, f9⟩
            have hks : ks = ws8 := sorted_ext _ _ hrise R8.out.rise fun k => by
              rw [hmem, R8.out.mem]
              constructor
              · exact fun hh => hh.2
              · intro hh
                have := R8.out.small k ((R8.out.mem k).2 hh)
                exact ⟨in64_of (by omega) (by omega), hh⟩
            obtain rfl := hks.symm
            have H9 := Lib.hid (H8.out.all f9)
            have HO9 := Lib.hid ho
            have HW9 := Lib.hid H9.out.wo.sl
            have hdd : decide (ws8 = ws8) = true := decide_eq_true rfl
            clear hkl hrise hmem ho f9 hks hnw
            go_wp2_with fail
            refine (same_ints HO9.out HW9.out (by omega)).mono ?_
            rintro e w10 ⟨rfl, f10⟩
            have H10 := Lib.hid (H9.out.all f10)
            clear f10
            go_wp2_with fail
            go_roundw
            case rel => exact ⟨j + 1, _, _, _, by omega, by go_num, R8, H10⟩
            case measure => simp [intOf]; omega
    · obtain rfl : j = n0 := by omega
      go_wp2_with fail
      go_loopw [16, 17, 18] (fun g lf i wr2 => ∃ q : Nat, q ≤ 8 ∧ g = .int .i64 (cntG hv L q : Int) ∧ lf = .int .i64 (cntL hv L q : Int) ∧ i = .int .i64 (q : Int) ∧ Hid (RoSt w1 wr2 B l t G s hv u8 ws)) (fun _ _ i _ => 8 - (intOf i).toNat)
      case atStart => exact ⟨0, by omega, rfl, rfl, rfl, HT⟩
      case round =>
        obtain ⟨q, hq, rfl, rfl, rfl, HQ⟩ := hrel
        by_cases hq8 : q < 8
        · obtain ⟨y, hy, _⟩ := get_of (l := hv) (k := q) (by rw [HR.out.len]; omega)
          have hyb := HR.out.bnd q y hy
          have d0 : (q : Int) < 8 := by omega
          have d00 : (0 : Int) ≤ (q : Int) := by omega
          have HY := Lib.hid hy
          have cy := HQ.out.at hy
          clear hy
          have hcg := cntG_le hv L q
          have hcl := cntL_le hv L q
          cases d1 : decide (y > 0) with
          | true =>
            have hmy := HR.out.get HY.out
            rw [if_pos (of_decide_eq_true d1)] at hmy
            have HM := Lib.hid hmy
            clear hmy
            go_wp2_with fail
            refine (page_of_some HQ.out.pk.pk (in64_of (by omega) (by omega)) HM.out rfl).mono ?_
            rintro e w4 ⟨A4, c4, rfl, h4, f4⟩
            dsimp only
            have F5 := f4.alloc (.cells #[.int .i64 (q : Int), .int .i64 y, .int .i64 0, .int .i64 (-1), .slice A4 0 c4] 24)
            have B5 := heap_alloc_new w4 (.cells #[.int .i64 (q : Int), .int .i64 y, .int .i64 0, .int .i64 (-1), .slice A4 0 c4] 24)
            have H5 := HQ.out.all F5
            clear h4 f4 F5 cy
            go_upto_region 41 with (fail)
            refine wp_name ?_
            intro W hW
            rw [← hW] at B5 H5
            clear hW
            obtain ⟨x0, x1, x2, x3, x4, xz⟩ := blk5 B5
            have cy := H5.at HY.out
            have HH5 := Lib.hid H5
            clear H5 x0 x2 x3 x4 xz B5
            go_quiet (fail)
            generalize hW1 : W.drewN _ = W1
            have H6 : Hid (RoSt w1 W1 B l t G s hv u8 ws) := Lib.hid (HH5.out.all (by
              rw [← hW1]
              exact (Fr.refl _ _).drewN _))
            have cy1 := H6.out.at HY.out
            clear hW1 cy x1
            cases d2 : decide (y ≤ L) with
            | true =>
              have hc := cnt_gone HY.out (L := L) (show decide (0 < y) = true from d1) d2
              have hwg : IntKind.i64.wrap ((cntG hv L q : Int) + 1) = ((cntG hv L (q + 1) : Nat) : Int) := by
                rw [IntWalk.i64_in _ (by omega), hc.1]
                omega
              have HC := Lib.hid hc.2
              clear hc
              go_wp2_with fail
              go_roundw
              case rel => exact ⟨q + 1, by omega, rfl, by rw [HC.out], by go_num, H6⟩
              case measure => simp [intOf]; omega
            | false =>
              have hc := cnt_left HY.out (L := L) (show decide (0 < y) = true from d1) d2
              have hwg : IntKind.i64.wrap ((cntL hv L q : Int) + 1) = ((cntL hv L (q + 1) : Nat) : Int) := by
                rw [IntWalk.i64_in _ (by omega), hc.2]
                omega
              have HC := Lib.hid hc.1
              clear hc
              go_wp2_with fail
              go_roundw
              case rel => exact ⟨q + 1, by omega, by rw [HC.out], rfl, by go_num, H6⟩
              case measure => simp [intOf]; omega
          | false =>
            go_wp2_with fail
            refine (page_of_no (i := (q : Int)) rfl).mono ?_
            rintro e w4 ⟨rfl, f4⟩
            have F5 := f4.alloc (.cells #[.int .i64 0, .int .i64 0, .int .i64 0, .int .i64 0, .slice none 0 0] 24)
            have B5 := heap_alloc_new w4 (.cells #[.int .i64 0, .int .i64 0, .int .i64 0, .int .i64 0, .slice none 0 0] 24)
            have H5 := HQ.out.all F5
            clear f4 F5 cy
            go_upto_region 41 with (fail)
            refine wp_name ?_
            intro W hW
            rw [← hW] at B5 H5
            clear hW
            obtain ⟨x0, x1, x2, x3, x4, xz⟩ := blk5 B5
            have cy := H5.at HY.out
            have HH5 := Lib.hid H5
            clear H5 x0 x2 x3 x4 xz B5
            go_quiet (fail)
            generalize hW1 : W.drewN _ = W1
            have H6 : Hid (RoSt w1 W1 B l t G s hv u8 ws) := Lib.hid (HH5.out.all (by
              rw [← hW1]
              exact (Fr.refl _ _).drewN _))
            have cy1 := H6.out.at HY.out
            clear hW1 cy x1
            have hc := cnt_none HY.out (L := L) (show decide (0 < y) = false from d1)
            have HC := Lib.hid hc
            clear hc
            go_wp2_with fail
            go_roundw
            case rel => exact ⟨q + 1, by omega, by rw [HC.out.1], by rw [HC.out.2], by go_num, H6⟩
            case measure => simp [intOf]; omega
        · obtain rfl : q = 8 := by omega
          have hnh := (HR.out.nh HQ.out.pk.pk.hv).2
          go_wp2_with fail
          refine (pool_drop HQ.out.pk.pk L (by omega)).mono ?_
          rintro e w4 ⟨n', rfl, h4, f4⟩
          obtain ⟨k1, k2⟩ := HR.out.drop HQ.out.pk.pk.hv h4.hv
          have H4 := Lib.hid (HQ.out.off f4 h4)
          have hd : ((s.nh : Int) - (n' : Int) == (cntG hv L 8 : Int)) = true := by
            rw [beq_iff_eq]
            omega
          have hln := pool_len h4
          rw [show (s.dropped L n').nh = cntL hv L 8 from k1] at hln
          have HLN := Lib.hid hln
          clear h4 f4 k1 k2 hln
          go_wp2_with fail
          refine HLN.out.mono ?_
          rintro e wn ⟨rfl, hwn⟩
          obtain rfl := hwn.symm
          go_wp2_with fail
          go_ret
          exact ⟨rfl, f1.trans H4.out.pk.fr⟩
end Go.Proofs.YteikddopeplomaaDoor
