/- HotOrders walked. -/
import Derived.Test.YtalidmlomfobdaaDoorTwo
import Derived.Test.YtalidmlomfobdaaDoorHSame
import Derived.Test.YtalidmlomfobdaaDoorPRow
import Derived.Test.YtalidmlomfobdaaDoorNum
namespace Go.Proofs.YtalidmlomfobdaaDoor
open Go.RowKit

theorem Own.inside3 {α : Type} {d : Kd α} {e : TypeId} {base : Nat} {w : World} {v : Value} {xs : List α} (o : Own d e base Nowhere w v xs) : Sl d (fun b => base ≤ b ∧ b < w.heap.size) w v xs :=
  o.sl.mono fun b hb _ => by
    rcases hb with hb | hb
    · exact hb.elim
    · exact own_lt o b hb.symm
theorem tsame {X : Nat → Prop} {w0 w : World} {Ba Bb : Nat} {a b : HSt} {n : Nat} {P Q : Nat → Bool} (h : Two X w0 w Ba Bb a b) (sa : St9 n P a) (sb : St9 n Q b) (he : a.l = b.l) :
    Calls Tryd.prog 27 #[.pointer (some ⟨Ba, 0, none⟩), .pointer (some ⟨Bb, 0, none⟩)] w fun e w' => e = .returned (.bool true) ∧ Fr All w w' := by
  obtain ⟨S, lv, sv, h1⟩ := h.hgA
  obtain ⟨T, lu, su, h2⟩ := h.swap.hgA
  refine (hot_same h1 h2 (sa.group.trans sb.group.symm) sa.spans sb.spans).mono ?_
  rintro e w' ⟨rfl, f⟩
  exact ⟨ret_bool (decide_eq_true he), f⟩
theorem lead_all {n : Nat} {P : Nat → Bool} (h : ∀ i, i < n → P i = true) : lead P n = n := by
  rcases (lead_is P n).2.2 with h1 | h1
  · exact h1
  · have h2 := (lead_is P n).1
    rcases Nat.lt_or_eq_of_le h2 with h3 | h3
    · rw [h _ h3] at h1; cases h1
    · exact h3
theorem lead_at {n p : Nat} {P : Nat → Bool} (hp : p ≤ n) (h : ∀ i, i < p → P i = true) (hs : p = n ∨ P p = false) : lead P n = p := by
  obtain ⟨h1, h2, h3⟩ := lead_is P n
  rcases Nat.lt_trichotomy (lead P n) p with hlt | heq | hgt
  · rcases h3 with h3 | h3
    · omega
    · rw [h _ hlt] at h3; cases h3
  · exact heq
  · rcases hs with hs | hs
    · omega
    · rw [h2 _ hgt] at hs; cases hs

theorem gap_all {n : Nat} {P : Nat → Bool} (h : ∀ i, i < n → P i = true) : gapP P n = [] := by
  unfold gapP
  rw [List.map_eq_nil_iff, List.filter_eq_nil_iff]
  intro i hi
  have hi := List.mem_range.1 hi
  simp only [Bool.and_eq_true, decide_eq_true_eq, Bool.not_eq_true', not_and, Bool.not_eq_false]
  intro _ _
  exact h _ (by omega)
theorem tgaps {X : Nat → Prop} {w0 w : World} {Ba Bb : Nat} {a b : HSt} {n : Nat} {P : Nat → Bool} (h : Two X w0 w Ba Bb a b) (st : St9 n P a) (hall : ∀ i, i < n → P i = true) : Calls Tryd.prog 18 #[.pointer (some ⟨Ba, 0, none⟩)] w
    fun e w' => ∃ A c, e = .returned (.slice A 0 c) ∧ Fr All w w' := by
  obtain ⟨S, lv, sv, hg⟩ := h.hgA
  refine (gaps_call hg).mono ?_
  rintro e w' ⟨A, m, c, g, rfl, hgs, ho, f⟩
  obtain rfl := hgs.inj st.has.gaps
  have hm := ho.sl.len
  rw [gap_all hall] at hm
  obtain rfl : m = 0 := hm.symm
  exact ⟨A, c, rfl, f⟩

set_option maxRecDepth 100000 in
set_option maxHeartbeats 4000000 in
theorem orders_walk {w : World} {S1 : Nat → Prop} {PA : Option Addr} {pn pc : Nat} {ps : List Int} (a0 : Int) (s1 : Sl kInt S1 w (.slice PA pn pc) ps) :
    Calls Tryd.prog 7 #[.int .i64 a0, .slice PA pn pc] w fun e w' => e = .returned (.bool true) ∧ Fr All w w' := by
  have En := Lib.hid s1.len
  go_enter Tryd.func7, Tryd.ntmps7
  go_wp2_with fail
  refine (first9_call w).mono ?_
  rintro e w1 ⟨rfl, f1⟩
  go_wp2_with fail
  refine (number1 w1 (by omega) (by omega)).mono ?_
  rintro e wn ⟨n, hn1, hm, rfl, hwn⟩
  obtain rfl := hwn.symm
  cases g0 : decide ((pn : Int) > 100) with
  | true =>
    go_wp2_with fail
    go_ret
    exact ⟨rfl, f1⟩
  | false =>
  have hpn : pn ≤ 100 := by have := of_decide_eq_false g0; omega
  have HPS := Lib.hid (s1.all f1)
  clear s1
  have hn2 : n ≤ 30 := by omega
  go_wp2_with fail
  refine (hnew 0 w1).mono ?_
  rintro e w2 ⟨rfl, h2⟩
  have H2 := Lib.hid (HHo.start h2)
  clear h2
  go_wp2_with fail
  refine (hnew 0 w2).mono ?_
  rintro e w3 ⟨rfl, h3⟩
  have H3 := Lib.hid (HHo.start h3)
  clear h3
  go_wp2_with fail
  refine (row9_call (n := n) (by omega) w3).mono ?_
  rintro e w4 ⟨A, c, rfl, o4, f4⟩
  obtain ⟨w5, hmk, o5, f5⟩ := run_mkb w4 (n := n) (by omega)
  obtain ⟨Ba, hBa⟩ : ∃ B, w1.heap.size = B := ⟨_, rfl⟩
  obtain ⟨Bb, hBb⟩ : ∃ B, w2.heap.size = B := ⟨_, rfl⟩
  obtain ⟨G, hG⟩ : ∃ G, w4.heap.size = G := ⟨_, rfl⟩
  obtain ⟨X, hX⟩ : ∃ X : Nat → Prop, X = fun b => w3.heap.size ≤ b ∧ b < w5.heap.size := ⟨_, rfl⟩
  have hz3 := H3.out.fr.size
  have hz4 := f4.size
  have hz5 := f5.size
  have hzG : w4.heap.size < w5.heap.size := (own_lt o5 w4.heap.size rfl).2
  have HT : Hid (Two X w1 w5 Ba Bb (.new 0) (.new 0)) := Lib.hid ⟨⟨_, _, by rw [← hBa]; exact ((H2.out.all H3.out.fr).all f4).all f5, by rw [← hBb]; exact ((H3.out.base H2.out.fr).all f4).all f5, fun x hx hy => by omega, fun x hx => by rw [hX] at hx; exact ⟨fun hy => by omega, fun hy => by omega⟩⟩, ⟨fun r hr => by simp [HSt.new] at hr, rfl⟩, ⟨fun r hr => by simp [HSt.new] at hr, rfl⟩, fun x hx => by rw [hX] at hx; exact hx.2⟩
  obtain ⟨L, hL⟩ : ∃ L : Nat → Prop, L = fun b => w3.heap.size ≤ b ∧ b < w4.heap.size := ⟨_, rfl⟩
  have HLX : Hid (∀ b, L b → X b) := Lib.hid (fun b hb => by rw [hL] at hb; rw [hX]; exact ⟨hb.1, by omega⟩)
  have HGX : Hid (X G ∧ w1.heap.size ≤ G ∧ ¬ L G) := Lib.hid (by rw [hX, hL, ← hG]; have := H2.out.fr.size; exact ⟨⟨by omega, hzG⟩, by omega, fun h => by omega⟩)
  have HR : Hid (Sl kRedo L w5 (.slice A n c) (rows9 n)) := Lib.hid (by rw [hL]; exact o4.inside3.all f5)
  have HH : Hid (Own kBool 4 G All w5 (.slice (some ⟨G, 0, none⟩) n n) (List.replicate n false)) := Lib.hid (by rw [← hG]; exact o5)
  rw [hG] at hmk
  simp only [hBa, hBb]
  clear hX hL hBa hBb H2 H3 o4 o5 f4 f5 hz3 hz4 hz5 hzG hG
  have S5 : Hid (St9 n (fun i => (List.replicate n false).getD i false) (.new 0)) := Lib.hid (St9.new n _ fun i hi => by
    rw [List.getD_eq_getElem?_getD, List.getElem?_replicate]
    split <;> rfl)
  have S6 : Hid (St9 n (fun i => decide (n - 0 ≤ i)) (.new 0)) := Lib.hid (St9.new n _ fun i hi => decide_eq_false (by omega))
  go_wp2_with fail
  clear hmk
  go_loopw [10] (fun i wr => ∃ (j : Nat) (a : HSt) (hv : List Bool), j ≤ pn ∧ i = .int .i64 j ∧ Hid (Two X w1 wr Ba Bb a (.new 0)) ∧ Hid (St9 n (fun i => hv.getD i false) a) ∧ Hid (Own kBool 4 G All wr (.slice (some ⟨G, 0, none⟩) n n) hv) ∧ Hid (Fr L w5 wr)) (fun i _ => pn - (intOf i).toNat)
  case atStart => exact ⟨0, _, _, Nat.zero_le _, rfl, HT, S5, HH, Lib.hid (Fr.refl _ _)⟩
  case round =>
    obtain ⟨j, a, hv, hj, rfl, HT, HS, HV, HF⟩ := hrel
    by_cases hlt : j < pn
    · obtain ⟨x, hx, _⟩ := get_of (l := ps) (k := j) (by rw [En.out]; exact hlt)
      have hps := HPS.out.all HT.out.fr
      obtain ⟨b, o, rfl, cx⟩ := hps.at1 hx
      have b0 : (0 : Int) ≤ (j : Int) := by omega
      have b1 : (j : Int) < (pn : Int) := by omega
      clear hps hx
      go_wp2_with fail
      refine (number wr (by omega) (by omega)).mono ?_
      rintro e wn ⟨k, hk, rfl, hwn⟩
      obtain rfl := hwn.symm
      have hkn : k < n := by omega
      obtain ⟨br, or_, X0, n0, c0, X1, n1, c1, rfl, g0, g1, g2, g3, g4, g5, g6, g7, g8, g9, t0, t1⟩ := redo_at (HR.out.move HF.out) (rows9_get hkn)
      have T0 := Lib.hid t0
      have T1 := Lib.hid t1
      have k0 : (0 : Int) ≤ (k : Int) := by omega
      have k1 : (k : Int) < (n : Int) := by omega
      have hvl := HV.out.sl.len
      have HVL := Lib.hid hvl
      clear t0 t1 hvl hwn hk
      go_wp2_with fail
      refine (tadd9 (Q := fun i => (hv.set k true).getD i false) HT.out HS.out (by omega) hkn (fun i hi => by
        have hl := HVL.out
        simp only [List.getD_eq_getElem?_getD, List.getElem?_set]
        by_cases hik : i = k
        · subst hik; rw [if_pos rfl, if_pos (by omega)]; simp
        · rw [if_neg (Ne.symm hik), beq_false_of_ne hik, Bool.or_false]) T0.out T1.out).mono ?_
      rintro e w6 ⟨a6, rfl, t6, s6, f6⟩
      have hvk : hv[k]? = some (hv.getD k false) := by
        have hl := HVL.out
        rw [List.getD_eq_getElem?_getD, List.getElem?_eq_getElem (by omega)]
        rfl
      have HV6 : Own kBool 4 G All w6 (.slice (some ⟨G, 0, none⟩) n n) hv := ((HV.out.any (T := Nowhere)).move f6 (fun _ hx _ => hx.elim) (fun q hq => by
        have : G = q := Option.some.inj hq
        rw [← this]
        exact HGX.out.1)).any
      obtain ⟨g, cc, hgv, _, _, hc1, hz1, ho1⟩ := own_plain_put (enc := Value.bool) HV6 hvk true
      have hgG : G = g := by
        have h1 := (Value.slice.inj hgv).1
        injection h1 with h1
        injection h1
      clear hgv
      subst hgG
      have F6 := HF.out.trans (f6.mono HLX.out)
      have T6 := Lib.hid (t6.put HGX.out.1 HGX.out.2.1 k (.bool true))
      have S6' := Lib.hid s6
      have HV7 := Lib.hid ho1
      have HF7 : Hid (Fr L w5 (w6.setCell ⟨G, k, none⟩ (.bool true))) := Lib.hid (Fr.setCell (p := ⟨G, k, none⟩) F6 (fun b hb e => HGX.out.2.2 (by have : b = G := e; rwa [this] at hb)) _)
      obtain ⟨hb, hhb⟩ : ∃ hb, hv.getD k false = hb := ⟨_, rfl⟩
      rw [hhb] at hc1
      simp only [hhb]
      clear t6 s6 f6 HV6 hvk ho1 hhb g0 g1 g2 g3 g4 g5 g6 g7 g8 g9 HT HS HV HF cx F6 S6
      have hne : ((!hb) == hb) = false := by cases hb <;> rfl
      go_wp2_with fail
      obtain ⟨W7, hW7⟩ : ∃ W7, w6.setCell ⟨G, k, none⟩ (.bool true) = W7 := ⟨_, rfl⟩
      rw [hW7] at T6 HV7 HF7 ⊢
      obtain ⟨hv7, hhv7⟩ : ∃ hv7, hv.set k true = hv7 := ⟨_, rfl⟩
      rw [hhv7] at HV7 S6'
      have HVL7 := Lib.hid HV7.out.sl.len
      clear hW7 hhv7 hc1 hz1 hne
      go_loopw [14] (fun fa wr2 => ∃ p : Nat, p ≤ n ∧ fa = .int .i64 p ∧ wr2 = W7 ∧ Hid (∀ i, i < p → hv7.getD i false = true)) (fun fa _ => n - (intOf fa).toNat)
      case atStart => exact ⟨0, Nat.zero_le _, rfl, rfl, (fun i hi => absurd hi (Nat.not_lt_zero _) : ∀ i, i < 0 → hv7.getD i false = true)⟩
      case round =>
        obtain ⟨p, hp, rfl, rfl, HA⟩ := hrel
        by_cases hpn : p < n
        · have hvp : hv7[p]? = some (hv7.getD p false) := by
            have hl := HVL7.out
            rw [List.getD_eq_getElem?_getD, List.getElem?_eq_getElem (by omega)]
            rfl
          obtain ⟨g, oo, hgv, hcp⟩ := HV7.out.sl.at1 hvp
          have hgG : G = g ∧ 0 = oo := by
            injection hgv with h1
            injection h1 with h1 h2
            exact ⟨h1, h2⟩
          clear hgv
          obtain ⟨rfl, rfl⟩ := hgG
          rw [Nat.zero_add] at hcp
          have p0 : (0 : Int) ≤ (p : Int) := by omega
          have p1 : (p : Int) < (n : Int) := by omega
          clear hvp
          cases hb7 : hv7.getD p false with
          | true =>
            rw [hb7] at hcp
            have HB7 := Lib.hid hb7
            clear hb7
            go_wp2_with fail
            go_roundw
            case rel => exact ⟨p + 1, by omega, by go_num, trivial, (fun i hi => by
              rcases Nat.lt_or_eq_of_le (Nat.le_of_lt_succ hi) with h1 | rfl
              · exact HA.out i h1
              · exact HB7.out : ∀ i, i < p + 1 → hv7.getD i false = true)⟩
            case measure => simp [intOf]; omega
          | false =>
            rw [hb7] at hcp
            have hld : lead (fun i => hv7.getD i false) n = p := lead_at hp HA.out (.inr hb7)
            have HLD := Lib.hid hld
            clear hld
            go_wp2_with fail
            refine (tscl T6.out S6'.out).mono ?_
            rintro e w8 ⟨a8, rfl, t8, s8, _, f8⟩
            rw [HLD.out]
            have T8 := Lib.hid t8
            have S8 := Lib.hid s8
            have HF8 := Lib.hid (HF7.out.trans (f8.mono HLX.out))
            have HV8 : Hid (Own kBool 4 G All w8 (.slice (some ⟨G, 0, none⟩) n n) hv7) := Lib.hid (((HV7.out.any (T := Nowhere)).move f8 (fun _ hx _ => hx.elim) (fun q hq => by
              have : G = q := Option.some.inj hq
              rw [← this]
              exact HGX.out.1)).any)
            clear t8 s8 f8
            go_wp2_with fail
            go_roundw
            case rel => exact ⟨j + 1, a8, hv7, by omega, by go_num, T8, S8, HV8, HF8⟩
            case measure => simp [intOf]; omega
        · obtain rfl : n = p := by omega
          have hld : lead (fun i => hv7.getD i false) n = n := lead_at hp HA.out (.inl rfl)
          have HLD := Lib.hid hld
          clear hld
          go_wp2_with fail
          refine (tscl T6.out S6'.out).mono ?_
          rintro e w8 ⟨a8, rfl, t8, s8, _, f8⟩
          rw [HLD.out]
          have T8 := Lib.hid t8
          have S8 := Lib.hid s8
          have HF8 := Lib.hid (HF7.out.trans (f8.mono HLX.out))
          have HV8 : Hid (Own kBool 4 G All w8 (.slice (some ⟨G, 0, none⟩) n n) hv7) := Lib.hid (((HV7.out.any (T := Nowhere)).move f8 (fun _ hx _ => hx.elim) (fun q hq => by
            have : G = q := Option.some.inj hq
            rw [← this]
            exact HGX.out.1)).any)
          clear t8 s8 f8
          go_wp2_with fail
          go_roundw
          case rel => exact ⟨j + 1, a8, hv7, by omega, by go_num, T8, S8, HV8, HF8⟩
          case measure => simp [intOf]; omega
    · obtain rfl : j = pn := by omega
      have HS0 : Hid (St9 n (fun i => hv.getD i false || decide (i < 0)) a) := Lib.hid (HS.out.same fun i hi => by simp)
      have S6' : Hid (St9 n (fun i => decide (n - 0 ≤ i)) (.new 0)) := S6
      clear HS HV
      obtain ⟨bb, hbb⟩ : ∃ bb, HSt.new 0 = bb := ⟨_, rfl⟩
      rw [hbb] at HT S6'
      clear hbb
      go_wp2_with fail
      go_loopw [15] (fun i wr => ∃ (j : Nat) (a b : HSt), j ≤ n ∧ i = .int .i64 j ∧ Hid (Two X w1 wr Ba Bb a b) ∧ Hid (St9 n (fun i => hv.getD i false || decide (i < j)) a) ∧ Hid (St9 n (fun i => decide (n - j ≤ i)) b) ∧ Hid (Fr L w5 wr)) (fun i _ => n - (intOf i).toNat)
      case atStart => exact ⟨0, a, bb, Nat.zero_le _, rfl, HT, HS0, S6', HF⟩
      case round =>
        obtain ⟨i, a, b, hi, rfl, HT, HSa, HSb, HF⟩ := hrel
        by_cases hin : i < n
        · obtain ⟨br, or_, X0, n0, c0, X1, n1, c1, rfl, g0, g1, g2, g3, g4, g5, g6, g7, g8, g9, t0, t1⟩ := redo_at (HR.out.move HF.out) (rows9_get hin)
          have T0 := Lib.hid t0
          have T1 := Lib.hid t1
          have i0 : (0 : Int) ≤ (i : Int) := by omega
          have i1 : (i : Int) < (n : Int) := by omega
          clear t0 t1
          go_wp2_with fail
          refine (tadd9 (Q := fun q => hv.getD q false || decide (q < i + 1)) HT.out HSa.out (by omega) hin (fun q hq => by
            by_cases hqi : q = i
            · subst hqi; simp
            · have h1 : decide (q < i + 1) = decide (q < i) := by rw [decide_eq_decide]; omega
              rw [h1, beq_false_of_ne hqi, Bool.or_false]) T0.out T1.out).mono ?_
          rintro e w6 ⟨a6, rfl, t6, s6, f6⟩
          have T6 := Lib.hid t6
          have S7 := Lib.hid s6
          have F6 := Lib.hid (HF.out.trans (f6.mono HLX.out))
          clear t6 s6 f6 g0 g1 g2 g3 g4 g5 g6 g7 g8 g9
          obtain ⟨q, hq⟩ : ∃ q : Nat, (n : Int) - 1 - (i : Int) = (q : Int) := ⟨n - 1 - i, by omega⟩
          have hqn : q < n := by omega
          have HQ := Lib.hid hq
          obtain ⟨br2, or2, Y0, m0, d0, Y1, m1, d1, hA2, e0, e1, e2, e3, e4, e5, e6, e7, e8, e9, u0, u1⟩ := redo_at (HR.out.move F6.out) (rows9_get hqn)
          have hbo : br = br2 ∧ or_ = or2 := by
            injection hA2 with h1
            injection h1 with h1 h2
            exact ⟨h1, h2⟩
          clear hA2
          obtain ⟨rfl, rfl⟩ := hbo
          have U0 := Lib.hid u0
          have U1 := Lib.hid u1
          have q0 : (0 : Int) ≤ (q : Int) := by omega
          have q1 : (q : Int) < (n : Int) := by omega
          clear u0 u1
          go_wp2_with fail
          refine (tadd9 (Q := fun r => decide (n - (i + 1) ≤ r)) T6.out.swap HSb.out (by omega) hqn (fun r hr => by
            have hqq := HQ.out
            by_cases hrq : r = q
            · subst hrq; rw [decide_eq_true (by omega : n - (i + 1) ≤ r)]; simp
            · have h1 : decide (n - (i + 1) ≤ r) = decide (n - i ≤ r) := by rw [decide_eq_decide]; omega
              rw [h1, beq_false_of_ne hrq, Bool.or_false]) U0.out U1.out).mono ?_
          rintro e w7 ⟨b7, rfl, t7, s7, f7⟩
          have T7 := Lib.hid t7.swap
          have S8 := Lib.hid s7
          have F7 := Lib.hid (F6.out.trans (f7.mono HLX.out))
          clear t7 s7 f7 e0 e1 e2 e3 e4 e5 e6 e7 e8 e9 hq
          go_wp2_with fail
          go_roundw
          case rel => exact ⟨i + 1, a6, b7, by omega, by go_num, T7, S7, S8, F7⟩
          case measure => simp [intOf]; omega
        · obtain rfl : n = i := by omega
          have hall : ∀ q, q < n → (hv.getD q false || decide (q < n)) = true := fun q hq => by rw [decide_eq_true hq, Bool.or_true]
          have HAL := Lib.hid hall
          have HE : Hid (a.l = b.l) := Lib.hid ((HSa.out.has.all hall).trans (HSb.out.has.all fun q hq => decide_eq_true (by omega)).symm)
          clear hall
          go_wp2_with fail
          refine (tscl HT.out HSa.out).mono ?_
          rintro e w8 ⟨a8, rfl, t8, s8, hl8, f8⟩
          have hld : lead (fun i => hv.getD i false || decide (i < n)) n = n := lead_all HAL.out
          rw [hld]
          have T8 := Lib.hid t8
          have S8 := Lib.hid s8
          have HE8 := Lib.hid (hl8.trans HE.out)
          clear t8 s8 hl8 f8 hld
          go_wp2_with fail
          refine (tsame T8.out S8.out HSb.out HE8.out).mono ?_
          rintro e w9 ⟨rfl, f9⟩
          have T9 := Lib.hid (T8.out.all f9)
          clear f9
          go_wp2_with fail
          refine (tsame T9.out.swap HSb.out S8.out HE8.out.symm).mono ?_
          rintro e w10 ⟨rfl, f10⟩
          have T10 := Lib.hid (T9.out.all f10)
          clear f10
          go_wp2_with fail
          refine (tgaps T10.out S8.out HAL.out).mono ?_
          rintro e w11 ⟨A11, c11, rfl, f11⟩
          have F11 := Lib.hid (T10.out.fr.trans f11)
          clear f11
          go_wp2_with fail
          go_ret
          exact ⟨rfl, f1.trans F11.out⟩
end Go.Proofs.YtalidmlomfobdaaDoor
