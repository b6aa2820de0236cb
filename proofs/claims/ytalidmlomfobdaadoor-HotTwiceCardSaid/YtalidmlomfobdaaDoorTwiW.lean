/- HotTwice walked. -/
import Derived.Test.YtalidmlomfobdaaDoorHGp
import Derived.Test.YtalidmlomfobdaaDoorHAdd2
import Derived.Test.YtalidmlomfobdaaDoorHAdd4
import Derived.Test.YtalidmlomfobdaaDoorHClone
import Derived.Test.YtalidmlomfobdaaDoorHSame
import Derived.Test.YtalidmlomfobdaaDoorRefY
import Derived.Test.YtalidmlomfobdaaDoorSee
import Derived.Test.YtalidmlomfobdaaDoorNum
namespace Go.Proofs.YtalidmlomfobdaaDoor
open Go.RowKit

theorem Own.inside5 {α : Type} {d : Kd α} {e : TypeId} {base : Nat} {w : World} {v : Value} {xs : List α} (o : Own d e base Nowhere w v xs) : Sl d (fun b => base ≤ b ∧ b < w.heap.size) w v xs :=
  o.sl.mono fun b hb _ => by
    rcases hb with hb | hb
    · exact hb.elim
    · exact own_lt o b hb.symm
theorem Sl.cap {α : Type} {d : Kd α} {S : Nat → Prop} {w : World} {A : Option Addr} {n c : Nat} {xs : List α} (h : Sl d S w (.slice A n c) xs) : n ≤ c := by
  obtain ⟨A', n', c', he, _, h2, _⟩ := h.open_
  injection he with _ h3 h4
  omega
/-- The statement's records: another key; another group. -/
def keyed9 (k : Nat) (ks : List UInt8) : Redo := { rec9 k with key := ks }
def other9 (k : Nat) : Redo := { rec9 k with lsn := 1001, group := 1 }
theorem keyed9_valid {k : Nat} {ks : List UInt8} (hk : k ≤ 1000) (hl : ks.length ≤ 32) : validIx (keyed9 k ks) = none := by
  have a1 : decide (2 * (k : Int) + 2 < 1) = false := decide_eq_false (by omega)
  have a2 : decide (2 * (k : Int) + 2 > 1099511627776) = false := decide_eq_false (by omega)
  have a4 : decide (2 * (k : Int) < 0) = false := decide_eq_false (by omega)
  have a5 : decide (2 * (k : Int) ≥ 2 * (k : Int) + 2) = false := decide_eq_false (by omega)
  have a6 : decide ((ks.length : Int) > 32) = false := decide_eq_false (by omega)
  unfold validIx keyed9 rec9
  dsimp only
  rw [a1, a2, a4, a5, a6]
  rfl
theorem other9_valid {k : Nat} (hk : k ≤ 100) : validIx (other9 k) = none := by
  have a4 : decide (2 * (k : Int) < 0) = false := decide_eq_false (by omega)
  have a5 : decide (2 * (k : Int) ≥ 1001) = false := decide_eq_false (by omega)
  unfold validIx other9 rec9
  dsimp only
  rw [a4, a5]
  rfl

set_option maxRecDepth 100000 in
set_option maxHeartbeats 20000000 in
theorem twice9_walk {qs : List Addr} {w : World} (hq : Errs w qs) {S2 : Nat → Prop} {KA : Option Addr} {kn kc : Nat} {ks : List UInt8} (a0 a1 : Int) (s2 : Sl kByte S2 w (.slice KA kn kc) ks) :
    Calls Tryd.prog 8 #[.int .i64 a0, .int .i64 a1, .slice KA kn kc] w fun e w' => e = .returned (.bool true) ∧ Fr All w w' := by
  have En := Lib.hid s2.len
  go_enter Tryd.func8, Tryd.ntmps8
  go_wp2_with fail
  refine (first9_call w).mono ?_
  rintro e w1 ⟨rfl, f1⟩
  go_wp2_with fail
  refine (number1 w1 (by omega) (by omega)).mono ?_
  rintro e wn ⟨n, hn1, hn2, rfl, hwn⟩
  obtain rfl := hwn.symm
  cases g0 : decide ((kn : Int) > 32) with
  | true =>
    go_wp2_with fail
    go_ret
    exact ⟨rfl, f1⟩
  | false =>
  have hkn : kn ≤ 32 := by have := of_decide_eq_false g0; omega
  have hn20 : n ≤ 20 := by omega
  go_wp2_with fail
  refine (hnew 0 w1).mono ?_
  rintro e w2 ⟨rfl, h2⟩
  have H2 := Lib.hid h2
  clear h2
  go_wp2_with fail
  refine (row9_call (n := n) (by omega) w2).mono ?_
  rintro e w3 ⟨A, c, rfl, o3, f3⟩
  have H3 := Lib.hid (H2.out.guard f3)
  obtain ⟨B, hB⟩ : ∃ B, w1.heap.size = B := ⟨_, rfl⟩
  rw [hB] at H3
  simp only [hB]
  obtain ⟨X, hX⟩ : ∃ X : Nat → Prop, X = fun b => False ∨ (w2.heap.size ≤ b ∧ b < w3.heap.size) := ⟨_, rfl⟩
  rw [← hX] at H3
  have HR : Hid (Sl kRedo X w3 (.slice A n c) (rows9 n)) := Lib.hid (by
    rw [hX]
    exact o3.inside5.mono fun b hb _ => .inr hb)
  clear hX hB H2 o3 f3
  have S3 : Hid (St9 n (fun i => decide (i < 0)) (.new 0)) := Lib.hid (St9.new n _ fun i hi => decide_eq_false (by omega))
  have HQ := Lib.hid hq
  have HK := Lib.hid s2
  clear hq s2
  go_wp2_with fail
  go_loopw [10] (fun i wr => ∃ (j : Nat) (s : HSt), j ≤ n ∧ i = .int .i64 j ∧ Hid (HHd X w1 wr B s) ∧ Hid (St9 n (fun i => decide (i < j)) s) ∧ Fr X w3 wr) (fun i _ => n - (intOf i).toNat)
  case atStart => exact ⟨0, _, Nat.zero_le _, rfl, H3, S3, Fr.refl _ _⟩
  case round =>
    obtain ⟨j, s, hj, rfl, HS, HT, HF⟩ := hrel
    by_cases hlt : j < n
    · have b0 : (0 : Int) ≤ (j : Int) := by omega
      have b1 : (j : Int) < (n : Int) := by omega
      obtain ⟨b, o, X0, n0, c0, X1, n1, c1, rfl, g0, g1, g2, g3, g4, g5, g6, g7, g8, g9, t0, t1⟩ := redo_at (HR.out.move HF) (rows9_get hlt)
      have T0 := Lib.hid t0
      have T1 := Lib.hid t1
      clear t0 t1
      go_wp2_with fail
      refine (hadd9 (Q := fun i => decide (i < j + 1)) HS.out HT.out (by omega) hlt (decide_eq_false (by omega)) (fun i hi => by
        by_cases hik : i = j
        · subst hik; simp
        · have h1 : decide (i < j + 1) = decide (i < j) := by rw [decide_eq_decide]; omega
          rw [h1, beq_false_of_ne hik, Bool.or_false]) T0.out T1.out).mono ?_
      rintro e w5 ⟨rfl, h5, t5, f5⟩
      have H5 := Lib.hid h5
      have T5 := Lib.hid t5
      have F5 := HF.trans f5
      clear h5 t5 f5 g0 g1 g2 g3 g4 g5 g6 g7 g8 g9
      go_wp2_with fail
      go_roundw
      case rel => exact ⟨j + 1, _, by omega, by go_num, H5, T5, F5⟩
      case measure => simp [intOf]; omega
    · obtain rfl : n = j := by omega
      obtain ⟨lv, sv, hg, _⟩ := HS.out.ex
      have HG := Lib.hid hg
      have HFR := Lib.hid HS.out.fr
      have HF' := Lib.hid HF
      clear hg HS HF
      go_wp2_with fail
      refine (hot_clone HG.out).mono ?_
      rintro e w4 ⟨lv', sv', rfl, hg', _, f4⟩
      have HG4 := Lib.hid (HG.out.all f4)
      have HW4 := Lib.hid hg'
      have HR4 := Lib.hid ((HR.out.move HF'.out).all f4)
      have HQ4 := Lib.hid (HQ.out.move (f1.trans (HFR.out.trans f4)))
      have HK4 := Lib.hid (HK.out.all (f1.trans (HFR.out.trans f4)))
      have HF4 := Lib.hid (f1.trans (HFR.out.trans f4))
      obtain ⟨BW, hBW⟩ : ∃ BW, wr.heap.size = BW := ⟨_, rfl⟩
      rw [hBW] at HW4
      simp only [hBW]
      clear hg' f4 hBW
      go_wp2_with fail
      refine (number w4 (by omega) (by omega)).mono ?_
      rintro e wn ⟨k, hk, rfl, hwn⟩
      obtain rfl := hwn.symm
      have hkn' : k < n := by omega
      have k0 : (0 : Int) ≤ (k : Int) := by omega
      obtain ⟨b, o, X0, n0, c0, X1, n1, c1, rfl, g0, g1, g2, g3, g4, g5, g6, g7, g8, g9, t0, t1⟩ := redo_at HR4.out (rows9_get hkn')
      have T0 := Lib.hid t0
      have T1 := Lib.hid t1
      have hmem : rec9 k ∈ s.l := (HT.out.has.mem _).2 ⟨k, hkn', decide_eq_true hkn', rfl⟩
      have HMEM := Lib.hid hmem
      clear t0 t1 hmem hwn
      go_wp2_with fail
      refine (add_same HG4.out T0.out T1.out (rec9_valid (by omega)) HT.out.group.symm (by rw [HT.out.spans]; rfl) HMEM.out).mono ?_
      rintro e w5 ⟨rfl, f5⟩
      have F5 := Lib.hid f5
      obtain ⟨b', o', X0', n0', c0', X1', n1', c1', hA, e0, e1, e2, e3, e4, e5, e6, e7, e8, e9, u0, u1⟩ := redo_at (HR4.out.all f5) (rows9_get hkn')
      have hbo : b = b' ∧ o = o' := by
        injection hA with h1
        injection h1 with h1 h2
        exact ⟨h1, h2⟩
      clear hA g0 g1 g2 g3 g4 g5 g6 g7 g8 g9
      obtain ⟨rfl, rfl⟩ := hbo
      have U0 := Lib.hid u0
      have U1 := Lib.hid u1
      have B6 := heap_alloc_new w5 (.cells #[.int .i64 (rec9 k).lsn, .int .i64 (rec9 k).back, .int .i64 (rec9 k).epoch, .int .i64 (rec9 k).group, .int .i64 (rec9 k).page, .int .i64 (rec9 k).kind, .int .i64 (rec9 k).slot, .slice X0' n0' c0', .slice X1' n1' c1', .bool (rec9 k).last] 34)
      have F6 := Lib.hid (f5.alloc (.cells #[.int .i64 (rec9 k).lsn, .int .i64 (rec9 k).back, .int .i64 (rec9 k).epoch, .int .i64 (rec9 k).group, .int .i64 (rec9 k).page, .int .i64 (rec9 k).kind, .int .i64 (rec9 k).slot, .slice X0' n0' c0', .slice X1' n1' c1', .bool (rec9 k).last] 34))
      clear u0 u1 f5
      obtain ⟨p0, p1, p2, p3, p4, p5, p6, p7, p8, p9, pz⟩ := blk10 B6
      go_wp2_with fail
      refine (ref_bytes (HK4.out.all F6.out) (by have := En.out; omega)).mono ?_
      rintro e w7 ⟨v7, rfl, o7, f7⟩
      have B7 := (f7.block w5.heap.size (blk_lt B6) trivial).trans B6
      have F7 := F6.out.trans f7
      have FB := (Fr.refl All w7).alloc (.cells #[.int .u8 1] 5)
      have HO7 := o7.all FB
      have HY7 : Src kByte Nowhere (w7.alloc (.cells #[.int .u8 1] 5)) (.slice (some ⟨w7.heap.size, 0, none⟩) 1 1) [(1 : UInt8)] := Src.box (d := kByte) (x := (1 : UInt8)) (cs := [.int .u8 1]) rfl _ 1
      have hlk : (ks ++ [(1 : UInt8)]).length = kn + 1 := by rw [List.length_append, En.out]; rfl
      have hl6 : (ks.length + [(1 : UInt8)].length) * 1 ≤ 140737488355328 := by
        have := En.out
        simp only [List.length_cons, List.length_nil]
        omega
      have hb6 : w5.heap.size + 1 ≤ (w7.alloc (.cells #[.int .u8 1] 5)).heap.size := by
        have h1 := f7.size
        have h2 := FB.size
        rw [World.size_alloc] at h1
        omega
      have HO7' : Own kByte 5 (w5.heap.size + 1) All (w7.alloc (.cells #[.int .u8 1] 5)) v7 ks := HO7.lower (by rw [World.size_alloc]; exact Nat.le_refl _)
      obtain ⟨mn, hmn⟩ : ∃ mn : Nat, min ((kn : Int) + 1) 32 = (mn : Int) := ⟨min (kn + 1) 32, by omega⟩
      have hm1 : 1 ≤ mn := by omega
      have hm2 : mn ≤ 32 := by omega
      have hm3 : mn ≤ kn + 1 := by omega
      have HLK := Lib.hid hlk
      clear p0 p1 p2 p3 p4 p5 p6 p7 p8 p9 pz HO7 B6 hlk o7
      obtain ⟨p0, p1, p2, p3, p4, p5, p6, p7, p8, p9, pz⟩ := blk10 ((FB.block w5.heap.size (blk_lt B7) trivial).trans B7)
      go_wp2_with (at_builtin; refine wpList_app rfl rfl Tryd.underlying32 info_u8 rfl (by decide) HO7' HY7 rfl rfl (fun b hb _ => hb.elim) hl6 hb6 ?_; intro v8 w8 o8 f8 h8; obtain ⟨A8, c8, hv8⟩ := o8.length; rw [HLK.out] at hv8; subst hv8; have hc8 := o8.sl.cap; have B8 := (f8.block w5.heap.size (by rw [World.size_alloc]; exact Nat.lt_succ_of_lt (blk_lt B7)) (fun e => by have := (own_lt HO7' w5.heap.size e.symm).1; omega)).trans ((FB.block w5.heap.size (blk_lt B7) trivial).trans B7); have HO8 := Lib.hid o8; have HF8 := Lib.hid f8; have HB8 := Lib.hid B8; clear p0 p1 p2 p3 p4 p5 p6 p7 p8 p9 pz; obtain ⟨p0, p1, p2, p3, p4, p5, p6, p7, p8, p9, pz⟩ := blk10 B8)
      have z5 : w4.heap.size ≤ w5.heap.size := F5.out.size
      have F8 : Fr All w4 w8 := (F7.trans FB).row HF8.out.grown fun m hm => by have := (own_lt HO7' m hm).1; omega
      have F9 : Fr All w4 (w8.setCell ⟨w5.heap.size, 7, none⟩ (.slice A8 mn c8)) := F8.setNew z5 _
      obtain ⟨kk, hkk⟩ : ∃ kk, (ks ++ [(1 : UInt8)]).take mn = kk := ⟨_, rfl⟩
      have hkl : kk.length = mn := by rw [← hkk, List.length_take, HLK.out]; omega
      have HKK : Hid (Sl kByte All (w8.setCell ⟨w5.heap.size, 7, none⟩ (.slice A8 mn c8)) (.slice A8 mn c8) kk) := Lib.hid (by
        have h1 := HO8.out.take (i := mn) hm3
        rw [hkk] at h1
        exact (((h1.any (T := Nowhere)).move (T := fun b => b ≠ w5.heap.size) (Fr.setCell (p := ⟨w5.heap.size, 7, none⟩) (Fr.refl _ w8) (fun b hb => hb) _) (fun _ h _ => h.elim) (fun m hm e => by have := (own_lt h1 m hm).1; omega)).sl).mono fun _ _ _ => trivial)
      have hB9 : (w8.setCell ⟨w5.heap.size, 7, none⟩ (.slice A8 mn c8)).heap[w5.heap.size]? = some (.cells #[.int .i64 (rec9 k).lsn, .int .i64 (rec9 k).back, .int .i64 (rec9 k).epoch, .int .i64 (rec9 k).group, .int .i64 (rec9 k).page, .int .i64 (rec9 k).kind, .int .i64 (rec9 k).slot, .slice A8 mn c8, .slice X1' n1' c1', .bool (rec9 k).last] 34 (0, 0)) := heap_setCell_same _ w5.heap.size 7 _ _ _ HB8.out
      generalize hW9 : w8.setCell ⟨w5.heap.size, 7, none⟩ (.slice A8 mn c8) = W9 at *
      have HF9 := Lib.hid F9
      have HB9 := Lib.hid hB9
      have HV1 := Lib.hid (U1.out.all ((Fr.refl All w5)))
      have HU9 : Hid (Sl kByte All W9 (.slice X1' n1' c1') (rec9 k).val) := Lib.hid (by
        have : (rec9 k).val = [] := rfl
        have hu := U1.out
        rw [this] at hu ⊢
        obtain ⟨A, c, he, _, m, _⟩ := hu
        rw [he]
        exact Sl.empty_ _ _ _ _ _ m)
      have HKL := Lib.hid hkl
      clear F8 F9 hkk hkl hB9 hW9 F7 FB HO7' HY7 hl6 hb6 B7 f7 p0 p1 p2 p3 p4 p5 p6 p7 p8 p9 pz h8 o8 f8 B8 hc8 HO8 HF8 HB8 e0 e1 e2 e3 e4 e5 e6 e7 e8 e9
      refine (add_there (r := keyed9 k kk) (HQ4.out.move HF9.out) (HG4.out.all HF9.out) HKK.out HU9.out (keyed9_valid (by omega) (by have := HKL.out; omega)) HT.out.group.symm (by rw [HT.out.spans]; rfl) ⟨rec9 k, HMEM.out, rfl, fun e => by
        have h1 : ([] : List UInt8) = kk := congrArg Redo.key e
        have := HKL.out
        rw [← h1] at this
        simp at this
        omega⟩).mono ?_
      rintro e w10 ⟨aT, hqT, rfl, f10⟩
      have HQT := Lib.hid hqT
      have F10 := Lib.hid (HF9.out.trans f10)
      obtain ⟨b', o', Y0, m0, d0, Y1, m1, d1, hA, e0, e1, e2, e3, e4, e5, e6, e7, e8, e9, u0, u1⟩ := redo_at (HR4.out.all F10.out) (rows9_get hkn')
      have hbo : b = b' ∧ o = o' := by
        injection hA with h1
        injection h1 with h1 h2
        exact ⟨h1, h2⟩
      clear hA
      obtain ⟨rfl, rfl⟩ := hbo
      have B11 := heap_alloc_new w10 (.cells #[.int .i64 (rec9 k).lsn, .int .i64 (rec9 k).back, .int .i64 (rec9 k).epoch, .int .i64 (rec9 k).group, .int .i64 (rec9 k).page, .int .i64 (rec9 k).kind, .int .i64 (rec9 k).slot, .slice Y0 m0 d0, .slice Y1 m1 d1, .bool (rec9 k).last] 34)
      have F11 := F10.out.alloc (.cells #[.int .i64 (rec9 k).lsn, .int .i64 (rec9 k).back, .int .i64 (rec9 k).epoch, .int .i64 (rec9 k).group, .int .i64 (rec9 k).page, .int .i64 (rec9 k).kind, .int .i64 (rec9 k).slot, .slice Y0 m0 d0, .slice Y1 m1 d1, .bool (rec9 k).last] 34)
      have V0 : Hid (∀ W, Sl kByte All W (.slice Y0 m0 d0) (other9 k).key) := Lib.hid (fun W => by
        have : (other9 k).key = [] := rfl
        have hu := u0
        rw [show (rec9 k).key = [] from rfl] at hu
        rw [this]
        obtain ⟨A, c, he, _, m, _⟩ := hu
        rw [he]
        exact Sl.empty_ _ _ _ _ _ m)
      have V1 : Hid (∀ W, Sl kByte All W (.slice Y1 m1 d1) (other9 k).val) := Lib.hid (fun W => by
        have : (other9 k).val = [] := rfl
        have hu := u1
        rw [show (rec9 k).val = [] from rfl] at hu
        rw [this]
        obtain ⟨A, c, he, _, m, _⟩ := hu
        rw [he]
        exact Sl.empty_ _ _ _ _ _ m)
      clear u0 u1 hqT
      obtain ⟨p0, p1, p2, p3, p4, p5, p6, p7, p8, p9, pz⟩ := blk10 B11
      unfold errV
      go_wp2_with fail
      have F12 := F10.out.alloc (.cells #[.int .i64 1001, .int .i64 (rec9 k).back, .int .i64 (rec9 k).epoch, .int .i64 1, .int .i64 (rec9 k).page, .int .i64 (rec9 k).kind, .int .i64 (rec9 k).slot, .slice Y0 m0 d0, .slice Y1 m1 d1, .bool (rec9 k).last] 34)
      generalize hW12 : w10.alloc (.cells #[.int .i64 1001, .int .i64 (rec9 k).back, .int .i64 (rec9 k).epoch, .int .i64 1, .int .i64 (rec9 k).page, .int .i64 (rec9 k).kind, .int .i64 (rec9 k).slot, .slice Y0 m0 d0, .slice Y1 m1 d1, .bool (rec9 k).last] 34) = W12 at *
      have HF12 := Lib.hid F12
      clear hW12 F11 F12 B11 p0 p1 p2 p3 p4 p5 p6 p7 p8 p9 pz e0 e1 e2 e3 e4 e5 e6 e7 e8 e9
      refine (add_shape (r := other9 k) (HQ4.out.move HF12.out) (HG4.out.all HF12.out) (V0.out _) (V1.out _) (other9_valid (by omega)) (by rw [HT.out.group]; exact (by decide : (1 : Int) ≠ 0))).mono ?_
      rintro e w13 ⟨aS, hqS, rfl, f13⟩
      have HQS := Lib.hid hqS
      have F13 := HF12.out.trans f13
      have HF13 := Lib.hid F13
      have hdT : decide ((101 : Int) + (7 : Nat) = 108 ∧ false = false ∧ (0 : Int) = 0) = true := by decide
      have hdS : decide ((101 : Int) + (2 : Nat) = 103 ∧ false = false ∧ (0 : Int) = 0) = true := by decide
      have hdL : decide (s.l = s.l) = true := decide_eq_true rfl
      have SI : ∀ W, Fr All w13 W → Calls Tryd.prog 26 #[.iface 179 (.pointer (some aT)), .int .i64 108] W fun r w' => r = .returned (.bool true) ∧ Fr All W w' := fun W hW => by
        have h1 := see_is (Sees.bare (HQ4.out.move (HF13.out.trans hW)) HQT.out) 108
        refine h1.mono ?_
        rintro r w' ⟨rfl, f⟩
        exact ⟨ret_bool hdT, f⟩
      have SJ : ∀ W, Fr All w13 W → Calls Tryd.prog 26 #[.iface 179 (.pointer (some aS)), .int .i64 103] W fun r w' => r = .returned (.bool true) ∧ Fr All W w' := fun W hW => by
        have h1 := see_is (Sees.bare (HQ4.out.move (HF13.out.trans hW)) HQS.out) 103
        refine h1.mono ?_
        rintro r w' ⟨rfl, f⟩
        exact ⟨ret_bool hdS, f⟩
      have HSI := Lib.hid SI
      have HSJ := Lib.hid SJ
      have HSame := Lib.hid (show ∀ W, Fr All w13 W → Calls Tryd.prog 27 #[.pointer (some ⟨B, 0, none⟩), .pointer (some ⟨BW, 0, none⟩)] W fun r w' => r = .returned (.bool true) ∧ Fr All W w' from fun W hW => by
        have h1 := hot_same (HG4.out.all (HF13.out.trans hW)) (HW4.out.all (HF13.out.trans hW)) rfl HT.out.spans HT.out.spans
        refine h1.mono ?_
        rintro r w' ⟨rfl, f⟩
        exact ⟨ret_bool hdL, f⟩)
      clear f13 F13 hqS hdT hdS hdL SI SJ
      unfold errV
      go_upto_region 25 with (fail)
      refine wp_region_all (S := fun _ => True) (by kernel_rfl) trivial (fun hHeld => ?_)
      refine wpAnyH_take (i := 0) (v := ?_) rfl (by kernel_rfl) (by kernel_rfl) (by kernel_rfl) (fun _ _ _ h => h) (Or.inl ⟨by rfl, ?_⟩) (by assumption) ?_
      rotate_left
      · (intro w hSw; (try dsimp only at hSw); go_simp; try with_reducible rfl)
      try simp only [List.getElem_toArray, List.getElem_cons_succ, List.getElem_cons_zero, Act.put, List.setIfInBounds_toArray, List.set_cons_succ, List.set_cons_zero]
      refine wpAnyH_take (i := 1) (v := ?_) rfl (by kernel_rfl) (by kernel_rfl) (by kernel_rfl) (fun _ _ _ h => h) (Or.inl ⟨by rfl, ?_⟩) (by assumption) ?_
      rotate_left
      · (intro w hSw; (try dsimp only at hSw); go_simp; try with_reducible rfl)
      try simp only [List.getElem_toArray, List.getElem_cons_succ, List.getElem_cons_zero, Act.put, List.setIfInBounds_toArray, List.set_cons_succ, List.set_cons_zero]
      refine wpAnyH_take (i := 2) (v := ?_) rfl (by kernel_rfl) (by kernel_rfl) (by kernel_rfl) (fun _ _ _ h => h) (Or.inl ⟨by rfl, ?_⟩) (by assumption) ?_
      rotate_left
      · (intro w hSw; (try dsimp only at hSw); go_simp; try with_reducible rfl)
      try simp only [List.getElem_toArray, List.getElem_cons_succ, List.getElem_cons_zero, Act.put, List.setIfInBounds_toArray, List.set_cons_succ, List.set_cons_zero]
      refine wpAnyH_take (i := 3) (v := ?_) rfl (by kernel_rfl) (by kernel_rfl) (by kernel_rfl) (fun _ _ _ h => h) (Or.inl ⟨by rfl, ?_⟩) (by assumption) ?_
      rotate_left
      · (intro w hSw; (try dsimp only at hSw); go_simp; try with_reducible rfl)
      try simp only [List.getElem_toArray, List.getElem_cons_succ, List.getElem_cons_zero, Act.put, List.setIfInBounds_toArray, List.set_cons_succ, List.set_cons_zero]
      refine wpAnyH_take (i := 4) (v := ?_) rfl (by kernel_rfl) (by kernel_rfl) (by kernel_rfl) (fun _ _ _ h => h) (Or.inl ⟨by rfl, ?_⟩) (by assumption) ?_
      rotate_left
      · (intro w hSw; (try dsimp only at hSw); go_simp; try with_reducible rfl)
      try simp only [List.getElem_toArray, List.getElem_cons_succ, List.getElem_cons_zero, Act.put, List.setIfInBounds_toArray, List.set_cons_succ, List.set_cons_zero]
      refine wpAnyH_take (i := 5) (v := ?_) rfl (by kernel_rfl) (by kernel_rfl) (by kernel_rfl) (fun _ _ _ h => h) (Or.inl ⟨by rfl, ?_⟩) (by assumption) ?_
      rotate_left
      · (intro w hSw; (try dsimp only at hSw); go_simp; try with_reducible rfl)
      try simp only [List.getElem_toArray, List.getElem_cons_succ, List.getElem_cons_zero, Act.put, List.setIfInBounds_toArray, List.set_cons_succ, List.set_cons_zero]
      refine wpAnyH_take (i := 6) (v := ?_) rfl (by kernel_rfl) (by kernel_rfl) (by kernel_rfl) (fun _ _ _ h => h) (Or.inl ⟨by rfl, ?_⟩) (by assumption) ?_
      rotate_left
      · (intro w hSw; (try dsimp only at hSw); go_simp; try with_reducible rfl)
      try simp only [List.getElem_toArray, List.getElem_cons_succ, List.getElem_cons_zero, Act.put, List.setIfInBounds_toArray, List.set_cons_succ, List.set_cons_zero]
      refine wpAnyH_take (i := 7) (v := ?_) rfl (by kernel_rfl) (by kernel_rfl) (by kernel_rfl) (fun _ _ _ h => h) (Or.inl ⟨by rfl, ?_⟩) (by assumption) ?_
      rotate_left
      · (intro w hSw; (try dsimp only at hSw); go_simp; try with_reducible rfl)
      try simp only [List.getElem_toArray, List.getElem_cons_succ, List.getElem_cons_zero, Act.put, List.setIfInBounds_toArray, List.set_cons_succ, List.set_cons_zero]
      refine wpAnyH_take (i := 8) (v := ?_) rfl (by kernel_rfl) (by kernel_rfl) (by kernel_rfl) (fun _ _ _ h => h) (Or.inl ⟨by rfl, ?_⟩) (by assumption) ?_
      rotate_left
      · (intro w hSw; (try dsimp only at hSw); go_simp; try with_reducible rfl)
      try simp only [List.getElem_toArray, List.getElem_cons_succ, List.getElem_cons_zero, Act.put, List.setIfInBounds_toArray, List.set_cons_succ, List.set_cons_zero]
      refine wpAnyH_take (i := 9) (v := ?_) rfl (by kernel_rfl) (by kernel_rfl) (by kernel_rfl) (fun _ _ _ h => h) (Or.inl ⟨by rfl, ?_⟩) (by assumption) ?_
      rotate_left
      · (intro w hSw; (try dsimp only at hSw); go_simp; try with_reducible rfl)
      try simp only [List.getElem_toArray, List.getElem_cons_succ, List.getElem_cons_zero, Act.put, List.setIfInBounds_toArray, List.set_cons_succ, List.set_cons_zero]
      refine wpAnyH_take (i := 10) (v := ?_) rfl (by kernel_rfl) (by kernel_rfl) (by kernel_rfl) (fun _ _ _ h => h) (Or.inl ⟨by rfl, ?_⟩) (by assumption) ?_
      rotate_left
      · (intro w hSw; (try dsimp only at hSw); go_simp; try with_reducible rfl)
      try simp only [List.getElem_toArray, List.getElem_cons_succ, List.getElem_cons_zero, Act.put, List.setIfInBounds_toArray, List.set_cons_succ, List.set_cons_zero]
      refine wpAnyH_take (i := 11) (v := ?_) rfl (by kernel_rfl) (by kernel_rfl) (by kernel_rfl) (fun _ _ _ h => h) (Or.inl ⟨by rfl, ?_⟩) (by assumption) ?_
      rotate_left
      · (intro w hSw; (try dsimp only at hSw); go_simp; try with_reducible rfl)
      try simp only [List.getElem_toArray, List.getElem_cons_succ, List.getElem_cons_zero, Act.put, List.setIfInBounds_toArray, List.set_cons_succ, List.set_cons_zero]
      refine wpAnyH_take (i := 12) (v := ?_) rfl (by kernel_rfl) (by kernel_rfl) (by kernel_rfl) (fun _ _ _ h => h) (Or.inl ⟨by rfl, ?_⟩) (by assumption) ?_
      rotate_left
      · (intro w hSw; (try dsimp only at hSw); go_simp; try with_reducible rfl)
      try simp only [List.getElem_toArray, List.getElem_cons_succ, List.getElem_cons_zero, Act.put, List.setIfInBounds_toArray, List.set_cons_succ, List.set_cons_zero]
      refine wpAnyH_take (i := 13) (v := ?_) rfl (by kernel_rfl) (by kernel_rfl) (by kernel_rfl) (fun _ _ _ h => h) (Or.inl ⟨by rfl, ?_⟩) (by assumption) ?_
      rotate_left
      · (intro w hSw; (try dsimp only at hSw); go_simp; try with_reducible rfl)
      try simp only [List.getElem_toArray, List.getElem_cons_succ, List.getElem_cons_zero, Act.put, List.setIfInBounds_toArray, List.set_cons_succ, List.set_cons_zero]
      refine wpAnyH_take (i := 14) (v := ?_) rfl (by kernel_rfl) (by kernel_rfl) (by kernel_rfl) (fun _ _ _ h => h) (Or.inl ⟨by rfl, ?_⟩) (by assumption) ?_
      rotate_left
      · (intro w hSw; (try dsimp only at hSw); go_simp; try with_reducible rfl)
      try simp only [List.getElem_toArray, List.getElem_cons_succ, List.getElem_cons_zero, Act.put, List.setIfInBounds_toArray, List.set_cons_succ, List.set_cons_zero]
      refine wpAnyH_ready (rs := [15]) (by kernel_rfl) (by simp) (AllReadyH.cons rfl (fun K hK => ?_) AllReadyH.nil)
      go_simp
      refine (HSI.out _ ((Fr.refl All w13).drew)).mono ?_
      rintro e w14 ⟨rfl, f14⟩
      go_simp
      refine hK.out _ _ trivial (fun hHeld => ?_)
      clear hK K
      try simp only [List.getElem_toArray, List.getElem_cons_succ, List.getElem_cons_zero, Act.put, List.setIfInBounds_toArray, List.set_cons_succ, List.set_cons_zero]
      refine wpAnyH_take (i := 16) (v := ?_) rfl (by kernel_rfl) (by kernel_rfl) (by kernel_rfl) (fun _ _ _ h => h) (Or.inl ⟨by rfl, ?_⟩) (by assumption) ?_
      rotate_left
      · (intro w hSw; (try dsimp only at hSw); go_simp; try with_reducible rfl)
      try simp only [List.getElem_toArray, List.getElem_cons_succ, List.getElem_cons_zero, Act.put, List.setIfInBounds_toArray, List.set_cons_succ, List.set_cons_zero]
      refine wpAnyH_take (i := 17) (v := undef) rfl (by kernel_rfl) (by kernel_rfl) (by kernel_rfl) (fun _ _ _ h => h) (Or.inr ⟨by rfl, rfl⟩) (by assumption) ?_
      try simp only [List.getElem_toArray, List.getElem_cons_succ, List.getElem_cons_zero, Act.put, List.setIfInBounds_toArray, List.set_cons_succ, List.set_cons_zero]
      refine wpAnyH_take (i := 18) (v := undef) rfl (by kernel_rfl) (by kernel_rfl) (by kernel_rfl) (fun _ _ _ h => h) (Or.inr ⟨by rfl, rfl⟩) (by assumption) ?_
      try simp only [List.getElem_toArray, List.getElem_cons_succ, List.getElem_cons_zero, Act.put, List.setIfInBounds_toArray, List.set_cons_succ, List.set_cons_zero]
      refine wpAnyH_take (i := 19) (v := undef) rfl (by kernel_rfl) (by kernel_rfl) (by kernel_rfl) (fun _ _ _ h => h) (Or.inr ⟨by rfl, rfl⟩) (by assumption) ?_
      try simp only [List.getElem_toArray, List.getElem_cons_succ, List.getElem_cons_zero, Act.put, List.setIfInBounds_toArray, List.set_cons_succ, List.set_cons_zero]
      refine wpAnyH_take (i := 20) (v := undef) rfl (by kernel_rfl) (by kernel_rfl) (by kernel_rfl) (fun _ _ _ h => h) (Or.inr ⟨by rfl, rfl⟩) (by assumption) ?_
      try simp only [List.getElem_toArray, List.getElem_cons_succ, List.getElem_cons_zero, Act.put, List.setIfInBounds_toArray, List.set_cons_succ, List.set_cons_zero]
      refine wpAnyH_take (i := 21) (v := undef) rfl (by kernel_rfl) (by kernel_rfl) (by kernel_rfl) (fun _ _ _ h => h) (Or.inr ⟨by rfl, rfl⟩) (by assumption) ?_
      try simp only [List.getElem_toArray, List.getElem_cons_succ, List.getElem_cons_zero, Act.put, List.setIfInBounds_toArray, List.set_cons_succ, List.set_cons_zero]
      refine wpAnyH_take (i := 22) (v := undef) rfl (by kernel_rfl) (by kernel_rfl) (by kernel_rfl) (fun _ _ _ h => h) (Or.inr ⟨by rfl, rfl⟩) (by assumption) ?_
      try simp only [List.getElem_toArray, List.getElem_cons_succ, List.getElem_cons_zero, Act.put, List.setIfInBounds_toArray, List.set_cons_succ, List.set_cons_zero]
      refine wpAnyH_take (i := 23) (v := ?_) rfl (by kernel_rfl) (by kernel_rfl) (by kernel_rfl) (fun _ _ _ h => h) (Or.inl ⟨by rfl, ?_⟩) (by assumption) ?_
      rotate_left
      · (intro w hSw; (try dsimp only at hSw); go_simp; try with_reducible rfl)
      try simp only [List.getElem_toArray, List.getElem_cons_succ, List.getElem_cons_zero, Act.put, List.setIfInBounds_toArray, List.set_cons_succ, List.set_cons_zero]
      refine wpAnyH_take (i := 24) (v := ?_) rfl (by kernel_rfl) (by kernel_rfl) (by kernel_rfl) (fun _ _ _ h => h) (Or.inl ⟨by rfl, ?_⟩) (by assumption) ?_
      rotate_left
      · (intro w hSw; (try dsimp only at hSw); go_simp; try with_reducible rfl)
      try simp only [List.getElem_toArray, List.getElem_cons_succ, List.getElem_cons_zero, Act.put, List.setIfInBounds_toArray, List.set_cons_succ, List.set_cons_zero]
      refine wpAnyH_take (i := 25) (v := ?_) rfl (by kernel_rfl) (by kernel_rfl) (by kernel_rfl) (fun _ _ _ h => h) (Or.inl ⟨by rfl, ?_⟩) (by assumption) ?_
      rotate_left
      · (intro w hSw; (try dsimp only at hSw); go_simp; try with_reducible rfl)
      try simp only [List.getElem_toArray, List.getElem_cons_succ, List.getElem_cons_zero, Act.put, List.setIfInBounds_toArray, List.set_cons_succ, List.set_cons_zero]
      refine wpAnyH_take (i := 26) (v := ?_) rfl (by kernel_rfl) (by kernel_rfl) (by kernel_rfl) (fun _ _ _ h => h) (Or.inl ⟨by rfl, ?_⟩) (by assumption) ?_
      rotate_left
      · (intro w hSw; (try dsimp only at hSw); go_simp; try with_reducible rfl)
      try simp only [List.getElem_toArray, List.getElem_cons_succ, List.getElem_cons_zero, Act.put, List.setIfInBounds_toArray, List.set_cons_succ, List.set_cons_zero]
      refine wpAnyH_take (i := 27) (v := ?_) rfl (by kernel_rfl) (by kernel_rfl) (by kernel_rfl) (fun _ _ _ h => h) (Or.inl ⟨by rfl, ?_⟩) (by assumption) ?_
      rotate_left
      · (intro w hSw; (try dsimp only at hSw); go_simp; try with_reducible rfl)
      try simp only [List.getElem_toArray, List.getElem_cons_succ, List.getElem_cons_zero, Act.put, List.setIfInBounds_toArray, List.set_cons_succ, List.set_cons_zero]
      refine wpAnyH_take (i := 28) (v := ?_) rfl (by kernel_rfl) (by kernel_rfl) (by kernel_rfl) (fun _ _ _ h => h) (Or.inl ⟨by rfl, ?_⟩) (by assumption) ?_
      rotate_left
      · (intro w hSw; (try dsimp only at hSw); go_simp; try with_reducible rfl)
      try simp only [List.getElem_toArray, List.getElem_cons_succ, List.getElem_cons_zero, Act.put, List.setIfInBounds_toArray, List.set_cons_succ, List.set_cons_zero]
      refine wpAnyH_take (i := 29) (v := ?_) rfl (by kernel_rfl) (by kernel_rfl) (by kernel_rfl) (fun _ _ _ h => h) (Or.inl ⟨by rfl, ?_⟩) (by assumption) ?_
      rotate_left
      · (intro w hSw; (try dsimp only at hSw); go_simp; try with_reducible rfl)
      try simp only [List.getElem_toArray, List.getElem_cons_succ, List.getElem_cons_zero, Act.put, List.setIfInBounds_toArray, List.set_cons_succ, List.set_cons_zero]
      refine wpAnyH_take (i := 30) (v := ?_) rfl (by kernel_rfl) (by kernel_rfl) (by kernel_rfl) (fun _ _ _ h => h) (Or.inl ⟨by rfl, ?_⟩) (by assumption) ?_
      rotate_left
      · (intro w hSw; (try dsimp only at hSw); go_simp; try with_reducible rfl)
      try simp only [List.getElem_toArray, List.getElem_cons_succ, List.getElem_cons_zero, Act.put, List.setIfInBounds_toArray, List.set_cons_succ, List.set_cons_zero]
      refine wpAnyH_ready (rs := [31]) (by kernel_rfl) (by simp) (AllReadyH.cons rfl (fun K hK => ?_) AllReadyH.nil)
      go_simp
      refine (HSJ.out _ ((Fr.refl All w13).drew.trans f14)).mono ?_
      rintro e w15 ⟨rfl, f15⟩
      go_simp
      refine hK.out _ _ trivial (fun hHeld => ?_)
      clear hK K
      try simp only [List.getElem_toArray, List.getElem_cons_succ, List.getElem_cons_zero, Act.put, List.setIfInBounds_toArray, List.set_cons_succ, List.set_cons_zero]
      refine wpAnyH_take (i := 32) (v := ?_) rfl (by kernel_rfl) (by kernel_rfl) (by kernel_rfl) (fun _ _ _ h => h) (Or.inl ⟨by rfl, ?_⟩) (by assumption) ?_
      rotate_left
      · (intro w hSw; (try dsimp only at hSw); go_simp; try with_reducible rfl)
      try simp only [List.getElem_toArray, List.getElem_cons_succ, List.getElem_cons_zero, Act.put, List.setIfInBounds_toArray, List.set_cons_succ, List.set_cons_zero]
      refine wpAnyH_take (i := 33) (v := ?_) rfl (by kernel_rfl) (by kernel_rfl) (by kernel_rfl) (fun _ _ _ h => h) (Or.inl ⟨by rfl, ?_⟩) (by assumption) ?_
      rotate_left
      · (intro w hSw; (try dsimp only at hSw); go_simp; try with_reducible rfl)
      try simp only [List.getElem_toArray, List.getElem_cons_succ, List.getElem_cons_zero, Act.put, List.setIfInBounds_toArray, List.set_cons_succ, List.set_cons_zero]
      refine wpAnyH_take (i := 34) (v := ?_) rfl (by kernel_rfl) (by kernel_rfl) (by kernel_rfl) (fun _ _ _ h => h) (Or.inl ⟨by rfl, ?_⟩) (by assumption) ?_
      rotate_left
      · (intro w hSw; (try dsimp only at hSw); go_simp; try with_reducible rfl)
      try simp only [List.getElem_toArray, List.getElem_cons_succ, List.getElem_cons_zero, Act.put, List.setIfInBounds_toArray, List.set_cons_succ, List.set_cons_zero]
      refine wpAnyH_take (i := 35) (v := ?_) rfl (by kernel_rfl) (by kernel_rfl) (by kernel_rfl) (fun _ _ _ h => h) (Or.inl ⟨by rfl, ?_⟩) (by assumption) ?_
      rotate_left
      · (intro w hSw; (try dsimp only at hSw); go_simp; try with_reducible rfl)
      try simp only [List.getElem_toArray, List.getElem_cons_succ, List.getElem_cons_zero, Act.put, List.setIfInBounds_toArray, List.set_cons_succ, List.set_cons_zero]
      refine wpAnyH_ready (rs := [36]) (by kernel_rfl) (by simp) (AllReadyH.cons rfl (fun K hK => ?_) AllReadyH.nil)
      go_simp
      refine (HSame.out _ (((Fr.refl All w13).drew.trans f14).trans f15)).mono ?_
      rintro e w16 ⟨rfl, f16⟩
      go_simp
      refine hK.out _ _ trivial (fun hHeld => ?_)
      clear hK K
      try simp only [List.getElem_toArray, List.getElem_cons_succ, List.getElem_cons_zero, Act.put, List.setIfInBounds_toArray, List.set_cons_succ, List.set_cons_zero]
      refine wpAnyH_take (i := 37) (v := ?_) rfl (by kernel_rfl) (by kernel_rfl) (by kernel_rfl) (fun _ _ _ h => h) (Or.inl ⟨by rfl, ?_⟩) (by assumption) ?_
      rotate_left
      · (intro w hSw; (try dsimp only at hSw); go_simp; try with_reducible rfl)
      try simp only [List.getElem_toArray, List.getElem_cons_succ, List.getElem_cons_zero, Act.put, List.setIfInBounds_toArray, List.set_cons_succ, List.set_cons_zero]
      refine wpAnyH_take (i := 38) (v := ?_) rfl (by kernel_rfl) (by kernel_rfl) (by kernel_rfl) (fun _ _ _ h => h) (Or.inl ⟨by rfl, ?_⟩) (by assumption) ?_
      rotate_left
      · (intro w hSw; (try dsimp only at hSw); go_simp; try with_reducible rfl)
      try simp only [List.getElem_toArray, List.getElem_cons_succ, List.getElem_cons_zero, Act.put, List.setIfInBounds_toArray, List.set_cons_succ, List.set_cons_zero]
      refine wpAnyH_done (by kernel_rfl) ?_ _
      go_wp2_with fail
      go_ret
      exact ⟨rfl, HF4.out.trans ((HF13.out.trans (Fr.refl All w13).drew).trans ((f14.trans f15).trans f16))⟩
end Go.Proofs.YtalidmlomfobdaaDoor
