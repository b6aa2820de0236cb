/- The document's sort of records that rise, with one more behind them. -/
import Derived.Test.YtoaamcpiljoojaaGreatDoorRefR
import Derived.Test.YtoaamcpiljoojaaGreatDoorCutting
import Derived.Test.YtoaamcpiljoojaaGreatDoorHClone
import Derived.BigQuiet
import Derived.Deep.QuietTactic
namespace Go.Proofs.YtoaamcpiljoojaaGreatDoor
open Go.RowKit

theorem place_end {L : List Redo} {r : Redo} (h : ∀ y ∈ L, y.lsn < r.lsn) (hR : Rise L) : placeL L r.lsn = L.length :=
  (place_is hR r.lsn).inj ⟨Nat.le_refl _, fun p x hx _ => h x (List.mem_of_getElem? hx), fun p x hx hp => by have := (List.getElem?_eq_some_iff.1 hx).1; omega⟩
/-- The first j of L, all of them and r behind the last step. -/
def outS (L : List Redo) (r : Redo) (j : Nat) : List Redo := if j ≤ L.length then L.take j else lins L r
theorem outS_le {L : List Redo} {r : Redo} {j : Nat} (h : j ≤ L.length) : outS L r j = L.take j := if_pos h
theorem outS_step {L : List Redo} {r x : Redo} {j : Nat} (hR : Rise L) (hj : j ≤ L.length) (hx : (L ++ [r])[j]? = some x) : outS L r (j + 1) = lins (L.take j) x := by
  by_cases h : j < L.length
  · rw [List.getElem?_append_left h] at hx
    rw [outS_le (by omega), take_snoc hx]
    have hp : placeL (L.take j) x.lsn = (L.take j).length := place_end (fun y hy => by
      obtain ⟨i, hi⟩ := List.mem_iff_getElem?.1 hy
      have hil := (List.getElem?_eq_some_iff.1 hi).1
      rw [List.length_take] at hil
      rw [List.getElem?_take, if_pos (by omega)] at hi
      exact hR.get hi hx (by omega)) (hR.sublist (List.take_sublist _ _))
    unfold lins
    rw [hp, List.take_length, List.drop_length]
  · obtain rfl : j = L.length := by omega
    rw [List.getElem?_append_right (Nat.le_refl _), Nat.sub_self] at hx
    obtain rfl : r = x := by simpa using hx
    unfold outS
    rw [if_neg (by omega), List.take_length]
theorem outS_ne {L : List Redo} {r x y : Redo} {j q : Nat} (hR : Rise L) (hn : isL L r.lsn = false) (hj : j ≤ L.length) (hx : (L ++ [r])[j]? = some x) (hy : (L.take j)[q]? = some y) : x.lsn ≠ y.lsn := by
  have hq := (List.getElem?_eq_some_iff.1 hy).1
  rw [List.length_take] at hq
  rw [List.getElem?_take, if_pos (by omega)] at hy
  by_cases h : j < L.length
  · rw [List.getElem?_append_left h] at hx
    have := hR.get hy hx (by omega)
    omega
  · obtain rfl : j = L.length := by omega
    rw [List.getElem?_append_right (Nat.le_refl _), Nat.sub_self] at hx
    obtain rfl : r = x := by simpa using hx
    exact fun e => isL_false.1 hn y (List.mem_of_getElem? hy) e.symm
set_option maxRecDepth 100000 in
set_option maxHeartbeats 4000000 in
theorem ref_sort {L : List Redo} {r : Redo} {v : Value} {Q : Nat → Prop} {w : World} (h : Sl kRedo Q w v (L ++ [r])) (hR : Rise L) (hn : isL L r.lsn = false) (hl : L.length ≤ 100000) :
    Calls Tryz.prog 48 #[v] w fun e w' => ∃ A m c, e = .returned (.slice A m c) ∧ Sl kRedo (fun b => Q b ∨ w.heap.size ≤ b) w' (.slice A m c) (lins L r) ∧ Fr All w w' := by
  obtain ⟨A, n, c, rfl, en, _⟩ := h.open_
  have HI := Lib.hid (h.mono (T := fun b => Q b ∧ b < w.heap.size) fun b hb hl => ⟨hb, hl⟩)
  have En : Hid (L.length + 1 = n) := Lib.hid (by rw [← en]; simp)
  have HR := Lib.hid hR
  have HN := Lib.hid hn
  have hn1 : n ≤ 100001 := by have := En.out; omega
  clear h en hR hn
  go_enter Tryz.func48, Tryz.ntmps48
  go_wp2_with fail
  go_loopw [3, 4] (fun u i wr => ∃ (j : Nat) (A' : Option Addr) (c' : Nat), j ≤ n ∧ i = .int .i64 j ∧ u = .slice A' j c' ∧ Hid (Sl kRedo (fun b => Q b ∨ w.heap.size ≤ b) wr (.slice A' j c') (outS L r j)) ∧ Fr All w wr) (fun _ i _ => n - (intOf i).toNat)
  case atStart => exact ⟨0, none, 0, Nat.zero_le _, rfl, rfl, Lib.hid (Sl.nil_ _ _ _), Fr.refl _ _⟩
  case round =>
    obtain ⟨j, A', c', hj, rfl, rfl, HO, HF⟩ := hrel
    by_cases hlt : j < n
    · have hjl : j ≤ L.length := by have := En.out; omega
      obtain ⟨x, hx, _⟩ := get_of (l := L ++ [r]) (k := j) (by rw [List.length_append]; simp; omega)
      have HO2 : Hid (Sl kRedo (fun b => Q b ∨ w.heap.size ≤ b) wr (.slice A' j c') (L.take j)) := Lib.hid (by rw [← outS_le hjl]; exact HO.out)
      have HST := Lib.hid (outS_step HR.out hjl hx)
      obtain ⟨bi, oi, A0, n0, c0, A1, n1, c1, hA, g0, g1, g2, g3, g4, g5, g6, g7, g8, g9, k0, k1⟩ := redo_at (HI.out.all HF) hx
      have HX := Lib.hid hx
      have HA := Lib.hid hA
      have b0 : (0 : Int) ≤ (j : Int) := by omega
      have b1 : (j : Int) < (n : Int) := by omega
      rcases (⟨wr, rfl⟩ : ∃ W5, W5 = wr) with ⟨W, hW⟩
      subst hW
      clear g0 g1 g2 g3 g4 g5 g6 g7 g8 g9 k0 k1 hx HO
      subst hA
      go_wp2_with fail
      go_loopw [5] (fun kv wr => ∃ kk : Nat, kk ≤ j ∧ kv = .int .i64 kk ∧ Hid (∀ i y, kk ≤ i → (L.take j)[i]? = some y → x.lsn < y.lsn) ∧ Fr All W wr) (fun kv _ => (intOf kv).toNat)
      case atStart => exact ⟨j, Nat.le_refl _, rfl, (fun i y hi hy => by have := (List.getElem?_eq_some_iff.1 hy).1; rw [List.length_take] at this; omega : ∀ i y, j ≤ i → (L.take j)[i]? = some y → x.lsn < y.lsn), Fr.refl _ _⟩
      case round =>
        obtain ⟨kk, hkk, rfl, HAb, HF6⟩ := hrel
        by_cases hk0 : 0 < kk
        · obtain ⟨kq, hkq⟩ : ∃ kq, kk = kq + 1 := ⟨kk - 1, by omega⟩
          obtain ⟨y, hy, _⟩ := get_of (l := L.take j) (k := kq) (by rw [List.length_take]; omega)
          obtain ⟨bo, oo, B0, m0, d0, B1, m1, d1, rfl, e0, e1, e2, e3, e4, e5, e6, e7, e8, e9, t0, t1⟩ := redo_at (HO2.out.all HF6) hy
          obtain ⟨bj, oj, C0, r0, s0, C1, r1, s1, hA2, g0, g1, g2, g3, g4, g5, g6, g7, g8, g9, _, _⟩ := redo_at (HI.out.all (HF.trans HF6)) HX.out
          have hw1 : IntKind.i64.wrap ((kk : Int) - 1) = (kq : Int) := by rw [IntKind.wrap_i64]; omega
          have hw2 : (kk : Int) - 1 = (kq : Int) := by omega
          have i0 : (0 : Int) < (kk : Int) := by omega
          have i1 : (0 : Int) ≤ (kq : Int) := by omega
          have i2 : (kq : Int) < (j : Int) := by omega
          have HKQ := Lib.hid hkq
          have HY := Lib.hid hy
          have HNE : Hid ((x.lsn == y.lsn) = false) := Lib.hid (beq_false_of_ne (outS_ne HR.out HN.out hjl HX.out hy))
          clear hkq hy t0 t1 e1 e3 e4 e5 e6 e7 e8 e9 g1 g3 g4 g5 g6 g7 g8 g9
          injection hA2 with hA2
          injection hA2 with hA3 hA4
          subst hA3
          subst hA4
          cases hd : decide (x.lsn < y.lsn) with
          | true =>
            go_upto_region 6 with (fail)
            go_quiet (fail)
            go_wp2_with fail
            have HD := Lib.hid (of_decide_eq_true hd)
            clear hd e0 e2 g0 g2
            go_roundw
            case rel => exact ⟨kq, by omega, rfl, Lib.hid (fun i z hi hz => by
              by_cases hiq : i = kq
              · subst hiq
                obtain rfl := Option.some.inj (HY.out.symm.trans hz)
                exact HD.out
              · exact HAb.out i z (by have := HKQ.out; omega) hz), by first | exact HF6.drewN _ | exact HF6.drew | exact HF6⟩
            case measure => have := HKQ.out; simp [intOf]; omega
          | false =>
            have hne := HNE.out
            go_upto_region 6 with (fail)
            go_quiet (fail)
            have HP : Hid (placeL (L.take j) x.lsn = kk) := Lib.hid ((place_is (HR.out.sublist (List.take_sublist _ _)) x.lsn).inj ⟨by rw [List.length_take]; omega, fun p z hz hp => by
              have h1 := Rise.le (show Rise (L.take j) from HR.out.sublist (List.take_sublist _ _)) hz HY.out (by have := HKQ.out; omega)
              have h2 := of_decide_eq_false hd
              have h3 : x.lsn ≠ y.lsn := fun e => by rw [e] at hne; simp at hne
              omega, fun p z hz hp => Int.le_of_lt (HAb.out p z hp hz)⟩)
            clear hd hne e0 e2 g0 g2 hw1 hw2 i1 i2
            generalize (some (⟨bo, oo, none⟩ : Addr)) = A2 at *
            go_upto_region 8 with (fail)
            refine wp_name ?_
            intro W0 hW0
            have F0 : Fr All wr W0 := by
              rw [hW0]
              repeat (first | (with_reducible exact Fr.refl _ _) | with_reducible refine Fr.drewN ?_ _ | with_reducible refine Fr.drew ?_)
            clear hW0
            have H0 : Sl kRedo (fun b => (Q b ∨ w.heap.size ≤ b) ∧ b < W0.heap.size) W0 (.slice A2 j c') (L.take j) := ((HO2.out.all HF6).all F0).mono fun b hb hl => ⟨hb, hl⟩
            have hcap : j ≤ c' ∧ c' ≤ maxLen := by have h4 := H0.len; obtain ⟨_, _, he, h1, h2, _⟩ := id H0; have h3 := (Value.slice.inj he).2; omega
            obtain ⟨j1, hj1⟩ : ∃ j1, j1 = j + 1 := ⟨_, rfl⟩
            have hj2 : j1 ≤ j + 1 := by omega
            have hj3 : j + 1 ≤ j1 := by omega
            have hwj : IntKind.i64.wrap ((j : Int) + 1) = (j1 : Int) := by rw [IntKind.wrap_i64]; omega
            clear hj1
            obtain ⟨w1, hmk, o1, f1⟩ := run_mk (P := Tryz.prog) kRedo (fun b => (Q b ∨ w.heap.size ≤ b) ∧ b < W0.heap.size) W0.drew W0.heap.size 27 33 (.agg #[.int .i64 0, .int .i64 0, .int .i64 0, .int .i64 0, .int .i64 0, .int .i64 0, .int .i64 0, .slice none 0 0, .slice none 0 0, .bool false]) 112 Tryz.underlying27 info_redo j1 (by omega) (by simp only [maxLen]; omega) (Nat.le_refl _)
            have hz1 : W0.heap.size < w1.heap.size := (own_lt o1 _ rfl).2
            have i5 : (kk : Int) ≤ (c' : Int) := by omega
            have i6 : (0 : Int) ≤ (kk : Int) := by omega
            have HY1 := ((H0.all ((Fr.refl All W0).drew.trans f1)).take hkk).src
            refine wp_region_all (S := fun _ => True) (by kernel_rfl) trivial (fun hHeld => ?_)
            refine wpAnyH_take (i := 0) (v := ?_) rfl (by kernel_rfl) (by kernel_rfl) (by kernel_rfl) (fun _ _ _ h => h) (Or.inl ⟨by rfl, ?_⟩) (by assumption) ?_
            rotate_left
            · (intro w hSw; (try dsimp only at hSw); go_simp; try with_reducible rfl)
            try simp only [List.getElem_toArray, List.getElem_cons_succ, List.getElem_cons_zero, Act.put, List.setIfInBounds_toArray, List.set_cons_succ, List.set_cons_zero]
            refine wpAnyH_take (i := 1) (v := ?_) rfl (by kernel_rfl) (by kernel_rfl) (by kernel_rfl) (fun _ _ _ h => h) (Or.inl ⟨by rfl, ?_⟩) (by assumption) ?_
            rotate_left
            · (intro w hSw; (try dsimp only at hSw); go_simp; try with_reducible rfl)
            try simp only [List.getElem_toArray, List.getElem_cons_succ, List.getElem_cons_zero, Act.put, List.setIfInBounds_toArray, List.set_cons_succ, List.set_cons_zero]
            refine wpAnyH_take (i := 2) (v := ?_) rfl (by kernel_rfl) (by kernel_rfl) (by kernel_rfl) (fun _ _ _ h => h) (Or.inl ⟨by rfl, ?_⟩) (by assumption) ?_
            rotate_left
            · (intro w hSw; (try dsimp only at hSw); go_simp; try with_reducible rfl)
            try simp only [List.getElem_toArray, List.getElem_cons_succ, List.getElem_cons_zero, Act.put, List.setIfInBounds_toArray, List.set_cons_succ, List.set_cons_zero]
            refine wpAnyH_take (i := 4) (v := ?_) rfl (by kernel_rfl) (by kernel_rfl) (by kernel_rfl) (fun _ _ _ h => h) (Or.inl ⟨by rfl, ?_⟩) (by assumption) ?_
            rotate_left
            · (intro w hSw; (try dsimp only at hSw); go_simp; try with_reducible rfl)
            try simp only [List.getElem_toArray, List.getElem_cons_succ, List.getElem_cons_zero, Act.put, List.setIfInBounds_toArray, List.set_cons_succ, List.set_cons_zero]
            refine wpAnyH_take (i := 5) (v := ?_) rfl (by kernel_rfl) (by kernel_rfl) (by kernel_rfl) (fun _ _ _ h => h) (Or.inl ⟨by rfl, ?_⟩) (by assumption) ?_
            rotate_left
            · (intro w hSw; (try dsimp only at hSw); go_simp; try with_reducible rfl)
            try simp only [List.getElem_toArray, List.getElem_cons_succ, List.getElem_cons_zero, Act.put, List.setIfInBounds_toArray, List.set_cons_succ, List.set_cons_zero]
            refine wpAnyH_take (i := 6) (v := ?_) rfl (by kernel_rfl) (by kernel_rfl) (by kernel_rfl) (fun _ _ _ h => h) (Or.inl ⟨by rfl, ?_⟩) (by assumption) ?_
            rotate_left
            · (intro w hSw; (try dsimp only at hSw); go_simp; try with_reducible rfl)
            try simp only [List.getElem_toArray, List.getElem_cons_succ, List.getElem_cons_zero, Act.put, List.setIfInBounds_toArray, List.set_cons_succ, List.set_cons_zero]
            refine wpAnyH_ready (rs := [3]) (by kernel_rfl) (by simp) (AllReadyH.cons rfl (fun K hK => ?_) AllReadyH.nil)
            go_simp
            refine hK.out _ _ trivial (fun hHeld => ?_)
            clear hK K
            try simp only [List.getElem_toArray, List.getElem_cons_succ, List.getElem_cons_zero, Act.put, List.setIfInBounds_toArray, List.set_cons_succ, List.set_cons_zero]
            refine wpAnyH_ready (rs := [7]) (by kernel_rfl) (by simp) (AllReadyH.cons rfl (fun K hK => ?_) AllReadyH.nil)
            refine wp_app rfl Tryz.underlying27 info_redo rfl (by decide) o1 HY1 rfl rfl (fun b hb _ => ⟨hb, fun e => by have h1 : b = W0.heap.size := Option.some.inj e; have := hb.2; omega⟩) (by rw [List.length_take, List.length_take]; simp only [List.length_nil]; omega) (by have := f1.size; exact this) ?_
            intro v2 w2 o2 f2 h2
            refine hK.out _ _ trivial (fun hHeld => ?_)
            clear hK K
            try simp only [List.getElem_toArray, List.getElem_cons_succ, List.getElem_cons_zero, Act.put, List.setIfInBounds_toArray, List.set_cons_succ, List.set_cons_zero]
            refine wpAnyH_take (i := 8) (v := ?_) rfl (by kernel_rfl) (by kernel_rfl) (by kernel_rfl) (fun _ _ _ h => h) (Or.inl ⟨by rfl, ?_⟩) (by assumption) ?_
            rotate_left
            · (intro w hSw; (try dsimp only at hSw); go_simp; try with_reducible rfl)
            try simp only [List.getElem_toArray, List.getElem_cons_succ, List.getElem_cons_zero, Act.put, List.setIfInBounds_toArray, List.set_cons_succ, List.set_cons_zero]
            try simp only [List.getElem_toArray, List.getElem_cons_succ, List.getElem_cons_zero, List.set_cons_succ, List.set_cons_zero]
            refine wpAnyH_done (by kernel_rfl) ?_ _
            have F02 : Fr All W0 w2 := ((Fr.refl All W0).drew.trans f1).row f2.grown (fun m hm => (own_lt o1 m hm).1)
            have FW2 : Fr All w w2 := ((HF.trans HF6).trans F0).trans F02
            obtain ⟨bz, oz, X0, r0', s0', X1, r1', s1', hA5, g0, g1, g2, g3, g4, g5, g6, g7, g8, g9, k0, k1⟩ := redo_at (HI.out.all FW2) HX.out
            injection hA5 with hA5
            injection hA5 with hA6 hA7
            subst hA6
            subst hA7
            obtain ⟨M1, hM1⟩ : ∃ M, [] ++ (L.take j).take kk = M := ⟨_, rfl⟩
            rw [hM1] at o2
            obtain ⟨A3, c3, rfl⟩ := o2.length
            have FB := (Fr.refl All w2).alloc (.cells #[.int .i64 x.lsn, .int .i64 x.back, .int .i64 x.epoch, .int .i64 x.group, .int .i64 x.page, .int .i64 x.kind, .int .i64 x.slot, .slice X0 r0' s0', .slice X1 r1' s1', .bool x.last] 33)
            have O2 := o2.all FB
            have hzw := FW2.size
            have hz0 : W0.drew.heap.size = W0.heap.size := rfl
            have hz2 : W0.heap.size < w2.heap.size := by have := f2.size; omega
            have hml : M1.length ≤ j := by rw [← hM1, List.nil_append, List.length_take, List.length_take]; omega
            have hsz2 : w.heap.size ≤ W0.heap.size := ((HF.trans HF6).trans F0).size
            have HY2 : Src kRedo (fun b => (Q b ∨ w.heap.size ≤ b) ∧ b < W0.heap.size) (w2.alloc (.cells #[.int .i64 x.lsn, .int .i64 x.back, .int .i64 x.epoch, .int .i64 x.group, .int .i64 x.page, .int .i64 x.kind, .int .i64 x.slot, .slice X0 r0' s0', .slice X1 r1' s1', .bool x.last] 33)) (.slice (some ⟨w2.heap.size, 0, none⟩) 1 1) [x] := Src.box (d := kRedo) (x := x) (kRedo_mk (k0.mono fun b hb _ => ⟨.inl hb.1, Nat.lt_of_lt_of_le hb.2 hsz2⟩) (k1.mono fun b hb _ => ⟨.inl hb.1, Nat.lt_of_lt_of_le hb.2 hsz2⟩)) _ 1
            have hw2o := own_lt o2
            have HO2b := Lib.hid hw2o
            have hb2 : W0.heap.size ≤ (w2.alloc (.cells #[.int .i64 x.lsn, .int .i64 x.back, .int .i64 x.epoch, .int .i64 x.group, .int .i64 x.page, .int .i64 x.kind, .int .i64 x.slot, .slice X0 r0' s0', .slice X1 r1' s1', .bool x.last] 33)).heap.size := by rw [World.size_alloc]; omega
            clear k0 k1 o1 hmk HY1
            go_upto_region 10 with (at_builtin; refine wpList_app rfl rfl Tryz.underlying27 info_redo rfl (by decide) O2 HY2 rfl rfl (fun b hb _ => ⟨hb, fun e => by have := (HO2b.out b e.symm).1; have := hb.2; omega⟩) (by simp only [List.length_cons, List.length_nil]; omega) hb2 ?_; intro v3 w3 o3 f3 h3)
            have F03 : Fr All W0 w3 := (F02.trans FB).row f3.grown fun m hm => (HO2b.out m hm).1
            obtain ⟨M2, hM2⟩ : ∃ M, M1 ++ [x] = M := ⟨_, rfl⟩
            rw [hM2] at o3
            have hml2 : M2.length ≤ j + 1 := by rw [← hM2, List.length_append]; simp only [List.length_cons, List.length_nil]; omega
            have i7 : (kk : Int) ≤ (j : Int) := by omega
            have HY3 := ((H0.all F03).drop hkk).src
            have hw3o := Lib.hid (own_lt o3)
            have hb3 : W0.heap.size ≤ w3.heap.size := F03.size
            clear O2 HY2 o2 f2 h2 f3 h3 FB F02 g0 g1 g2 g3 g4 g5 g6 g7 g8 g9
            go_wp2_with (at_builtin; refine wpList_app rfl rfl Tryz.underlying27 info_redo rfl (by decide) o3 HY3 rfl rfl (fun b hb _ => ⟨hb, fun e => by have := (hw3o.out b e.symm).1; have := hb.2; omega⟩) (by rw [List.length_drop, List.length_take]; omega) hb3 ?_; intro v4 w4 o4 f4 h4)
            have hfin : M2 ++ (L.take j).drop kk = lins (L.take j) x := by
              unfold lins
              rw [HP.out, ← hM2, ← hM1]
              simp
            have hll : (lins (L.take j) x).length = j + 1 := by rw [lins_len, List.length_take]; omega
            rw [hfin] at o4
            obtain ⟨A5, c5, rfl⟩ := o4.length
            rw [hll] at o4 ⊢
            have F4 : Fr All w w4 := ((((HF.trans HF6).trans F0).trans F03).row f4.grown fun m hm => Nat.le_trans hsz2 (hw3o.out m hm).1)
            have HS4 : Hid (Sl kRedo (fun b => Q b ∨ w.heap.size ≤ b) w4 (.slice A5 (j + 1) c5) (outS L r (j + 1))) := Lib.hid (by rw [HST.out]; exact o4.sl_in (fun b hb _ => hb.1) (fun b hb _ => .inr (Nat.le_trans hsz2 hb)))
            clear o4 f4 h4 o3 HY3 hfin hll hM1 hM2
            go_wp2_with fail
            go_roundw
            case rel => exact ⟨j + 1, A5, c5, by omega, by go_num, by first | rfl | go_num, HS4, F4⟩
            case measure => simp [intOf]; omega
        · have hgk : decide ((kk : Int) > 0) = false := decide_eq_false (by omega)
          have HP : Hid (placeL (L.take j) x.lsn = kk) := Lib.hid ((place_is (show Rise (L.take j) from HR.out.sublist (List.take_sublist _ _)) x.lsn).inj ⟨by omega, fun p z hz hp => by omega, fun p z hz hp => Int.le_of_lt (HAb.out p z (by omega) hz)⟩)
          go_upto_region 6 with (fail)
          go_quiet (fail)
          clear hgk
          go_upto_region 8 with (fail)
          refine wp_name ?_
          intro W0 hW0
          have F0 : Fr All wr W0 := by
            rw [hW0]
            repeat (first | (with_reducible exact Fr.refl _ _) | with_reducible refine Fr.drewN ?_ _ | with_reducible refine Fr.drew ?_)
          clear hW0
          have H0 : Sl kRedo (fun b => (Q b ∨ w.heap.size ≤ b) ∧ b < W0.heap.size) W0 (.slice A' j c') (L.take j) := ((HO2.out.all HF6).all F0).mono fun b hb hl => ⟨hb, hl⟩
          have hcap : j ≤ c' ∧ c' ≤ maxLen := by have h4 := H0.len; obtain ⟨_, _, he, h1, h2, _⟩ := id H0; have h3 := (Value.slice.inj he).2; omega
          obtain ⟨j1, hj1⟩ : ∃ j1, j1 = j + 1 := ⟨_, rfl⟩
          have hj2 : j1 ≤ j + 1 := by omega
          have hj3 : j + 1 ≤ j1 := by omega
          have hwj : IntKind.i64.wrap ((j : Int) + 1) = (j1 : Int) := by rw [IntKind.wrap_i64]; omega
          clear hj1
          obtain ⟨w1, hmk, o1, f1⟩ := run_mk (P := Tryz.prog) kRedo (fun b => (Q b ∨ w.heap.size ≤ b) ∧ b < W0.heap.size) W0.drew W0.heap.size 27 33 (.agg #[.int .i64 0, .int .i64 0, .int .i64 0, .int .i64 0, .int .i64 0, .int .i64 0, .int .i64 0, .slice none 0 0, .slice none 0 0, .bool false]) 112 Tryz.underlying27 info_redo j1 (by omega) (by simp only [maxLen]; omega) (Nat.le_refl _)
          have hz1 : W0.heap.size < w1.heap.size := (own_lt o1 _ rfl).2
          have i5 : (kk : Int) ≤ (c' : Int) := by omega
          have i6 : (0 : Int) ≤ (kk : Int) := by omega
          have HY1 := ((H0.all ((Fr.refl All W0).drew.trans f1)).take hkk).src
          refine wp_region_all (S := fun _ => True) (by kernel_rfl) trivial (fun hHeld => ?_)
          refine wpAnyH_take (i := 0) (v := ?_) rfl (by kernel_rfl) (by kernel_rfl) (by kernel_rfl) (fun _ _ _ h => h) (Or.inl ⟨by rfl, ?_⟩) (by assumption) ?_
          rotate_left
          · (intro w hSw; (try dsimp only at hSw); go_simp; try with_reducible rfl)
          try simp only [List.getElem_toArray, List.getElem_cons_succ, List.getElem_cons_zero, Act.put, List.setIfInBounds_toArray, List.set_cons_succ, List.set_cons_zero]
          refine wpAnyH_take (i := 1) (v := ?_) rfl (by kernel_rfl) (by kernel_rfl) (by kernel_rfl) (fun _ _ _ h => h) (Or.inl ⟨by rfl, ?_⟩) (by assumption) ?_
          rotate_left
          · (intro w hSw; (try dsimp only at hSw); go_simp; try with_reducible rfl)
          try simp only [List.getElem_toArray, List.getElem_cons_succ, List.getElem_cons_zero, Act.put, List.setIfInBounds_toArray, List.set_cons_succ, List.set_cons_zero]
          refine wpAnyH_take (i := 2) (v := ?_) rfl (by kernel_rfl) (by kernel_rfl) (by kernel_rfl) (fun _ _ _ h => h) (Or.inl ⟨by rfl, ?_⟩) (by assumption) ?_
          rotate_left
          · (intro w hSw; (try dsimp only at hSw); go_simp; try with_reducible rfl)
          try simp only [List.getElem_toArray, List.getElem_cons_succ, List.getElem_cons_zero, Act.put, List.setIfInBounds_toArray, List.set_cons_succ, List.set_cons_zero]
          refine wpAnyH_take (i := 4) (v := ?_) rfl (by kernel_rfl) (by kernel_rfl) (by kernel_rfl) (fun _ _ _ h => h) (Or.inl ⟨by rfl, ?_⟩) (by assumption) ?_
          rotate_left
          · (intro w hSw; (try dsimp only at hSw); go_simp; try with_reducible rfl)
          try simp only [List.getElem_toArray, List.getElem_cons_succ, List.getElem_cons_zero, Act.put, List.setIfInBounds_toArray, List.set_cons_succ, List.set_cons_zero]
          refine wpAnyH_take (i := 5) (v := ?_) rfl (by kernel_rfl) (by kernel_rfl) (by kernel_rfl) (fun _ _ _ h => h) (Or.inl ⟨by rfl, ?_⟩) (by assumption) ?_
          rotate_left
          · (intro w hSw; (try dsimp only at hSw); go_simp; try with_reducible rfl)
          try simp only [List.getElem_toArray, List.getElem_cons_succ, List.getElem_cons_zero, Act.put, List.setIfInBounds_toArray, List.set_cons_succ, List.set_cons_zero]
          refine wpAnyH_take (i := 6) (v := ?_) rfl (by kernel_rfl) (by kernel_rfl) (by kernel_rfl) (fun _ _ _ h => h) (Or.inl ⟨by rfl, ?_⟩) (by assumption) ?_
          rotate_left
          · (intro w hSw; (try dsimp only at hSw); go_simp; try with_reducible rfl)
          try simp only [List.getElem_toArray, List.getElem_cons_succ, List.getElem_cons_zero, Act.put, List.setIfInBounds_toArray, List.set_cons_succ, List.set_cons_zero]
          refine wpAnyH_ready (rs := [3]) (by kernel_rfl) (by simp) (AllReadyH.cons rfl (fun K hK => ?_) AllReadyH.nil)
          go_simp
          refine hK.out _ _ trivial (fun hHeld => ?_)
          clear hK K
          try simp only [List.getElem_toArray, List.getElem_cons_succ, List.getElem_cons_zero, Act.put, List.setIfInBounds_toArray, List.set_cons_succ, List.set_cons_zero]
          refine wpAnyH_ready (rs := [7]) (by kernel_rfl) (by simp) (AllReadyH.cons rfl (fun K hK => ?_) AllReadyH.nil)
          refine wp_app rfl Tryz.underlying27 info_redo rfl (by decide) o1 HY1 rfl rfl (fun b hb _ => ⟨hb, fun e => by have h1 : b = W0.heap.size := Option.some.inj e; have := hb.2; omega⟩) (by rw [List.length_take, List.length_take]; simp only [List.length_nil]; omega) (by have := f1.size; exact this) ?_
          intro v2 w2 o2 f2 h2
          refine hK.out _ _ trivial (fun hHeld => ?_)
          clear hK K
          try simp only [List.getElem_toArray, List.getElem_cons_succ, List.getElem_cons_zero, Act.put, List.setIfInBounds_toArray, List.set_cons_succ, List.set_cons_zero]
          refine wpAnyH_take (i := 8) (v := ?_) rfl (by kernel_rfl) (by kernel_rfl) (by kernel_rfl) (fun _ _ _ h => h) (Or.inl ⟨by rfl, ?_⟩) (by assumption) ?_
          rotate_left
          · (intro w hSw; (try dsimp only at hSw); go_simp; try with_reducible rfl)
          try simp only [List.getElem_toArray, List.getElem_cons_succ, List.getElem_cons_zero, Act.put, List.setIfInBounds_toArray, List.set_cons_succ, List.set_cons_zero]
          try simp only [List.getElem_toArray, List.getElem_cons_succ, List.getElem_cons_zero, List.set_cons_succ, List.set_cons_zero]
          refine wpAnyH_done (by kernel_rfl) ?_ _
          have F02 : Fr All W0 w2 := ((Fr.refl All W0).drew.trans f1).row f2.grown (fun m hm => (own_lt o1 m hm).1)
          have FW2 : Fr All w w2 := ((HF.trans HF6).trans F0).trans F02
          obtain ⟨bz, oz, X0, r0', s0', X1, r1', s1', hA5, g0, g1, g2, g3, g4, g5, g6, g7, g8, g9, k0, k1⟩ := redo_at (HI.out.all FW2) HX.out
          injection hA5 with hA5
          injection hA5 with hA6 hA7
          subst hA6
          subst hA7
          obtain ⟨M1, hM1⟩ : ∃ M, [] ++ (L.take j).take kk = M := ⟨_, rfl⟩
          rw [hM1] at o2
          obtain ⟨A3, c3, rfl⟩ := o2.length
          have FB := (Fr.refl All w2).alloc (.cells #[.int .i64 x.lsn, .int .i64 x.back, .int .i64 x.epoch, .int .i64 x.group, .int .i64 x.page, .int .i64 x.kind, .int .i64 x.slot, .slice X0 r0' s0', .slice X1 r1' s1', .bool x.last] 33)
          have O2 := o2.all FB
          have hzw := FW2.size
          have hz0 : W0.drew.heap.size = W0.heap.size := rfl
          have hz2 : W0.heap.size < w2.heap.size := by have := f2.size; omega
          have hml : M1.length ≤ j := by rw [← hM1, List.nil_append, List.length_take, List.length_take]; omega
          have hsz2 : w.heap.size ≤ W0.heap.size := ((HF.trans HF6).trans F0).size
          have HY2 : Src kRedo (fun b => (Q b ∨ w.heap.size ≤ b) ∧ b < W0.heap.size) (w2.alloc (.cells #[.int .i64 x.lsn, .int .i64 x.back, .int .i64 x.epoch, .int .i64 x.group, .int .i64 x.page, .int .i64 x.kind, .int .i64 x.slot, .slice X0 r0' s0', .slice X1 r1' s1', .bool x.last] 33)) (.slice (some ⟨w2.heap.size, 0, none⟩) 1 1) [x] := Src.box (d := kRedo) (x := x) (kRedo_mk (k0.mono fun b hb _ => ⟨.inl hb.1, Nat.lt_of_lt_of_le hb.2 hsz2⟩) (k1.mono fun b hb _ => ⟨.inl hb.1, Nat.lt_of_lt_of_le hb.2 hsz2⟩)) _ 1
          have hw2o := own_lt o2
          have HO2b := Lib.hid hw2o
          have hb2 : W0.heap.size ≤ (w2.alloc (.cells #[.int .i64 x.lsn, .int .i64 x.back, .int .i64 x.epoch, .int .i64 x.group, .int .i64 x.page, .int .i64 x.kind, .int .i64 x.slot, .slice X0 r0' s0', .slice X1 r1' s1', .bool x.last] 33)).heap.size := by rw [World.size_alloc]; omega
          clear k0 k1 o1 hmk HY1
          go_upto_region 10 with (at_builtin; refine wpList_app rfl rfl Tryz.underlying27 info_redo rfl (by decide) O2 HY2 rfl rfl (fun b hb _ => ⟨hb, fun e => by have := (HO2b.out b e.symm).1; have := hb.2; omega⟩) (by simp only [List.length_cons, List.length_nil]; omega) hb2 ?_; intro v3 w3 o3 f3 h3)
          have F03 : Fr All W0 w3 := (F02.trans FB).row f3.grown fun m hm => (HO2b.out m hm).1
          obtain ⟨M2, hM2⟩ : ∃ M, M1 ++ [x] = M := ⟨_, rfl⟩
          rw [hM2] at o3
          have hml2 : M2.length ≤ j + 1 := by rw [← hM2, List.length_append]; simp only [List.length_cons, List.length_nil]; omega
          have i7 : (kk : Int) ≤ (j : Int) := by omega
          have HY3 := ((H0.all F03).drop hkk).src
          have hw3o := Lib.hid (own_lt o3)
          have hb3 : W0.heap.size ≤ w3.heap.size := F03.size
          clear O2 HY2 o2 f2 h2 f3 h3 FB F02 g0 g1 g2 g3 g4 g5 g6 g7 g8 g9
          go_wp2_with (at_builtin; refine wpList_app rfl rfl Tryz.underlying27 info_redo rfl (by decide) o3 HY3 rfl rfl (fun b hb _ => ⟨hb, fun e => by have := (hw3o.out b e.symm).1; have := hb.2; omega⟩) (by rw [List.length_drop, List.length_take]; omega) hb3 ?_; intro v4 w4 o4 f4 h4)
          have hfin : M2 ++ (L.take j).drop kk = lins (L.take j) x := by
            unfold lins
            rw [HP.out, ← hM2, ← hM1]
            simp
          have hll : (lins (L.take j) x).length = j + 1 := by rw [lins_len, List.length_take]; omega
          rw [hfin] at o4
          obtain ⟨A5, c5, rfl⟩ := o4.length
          rw [hll] at o4 ⊢
          have F4 : Fr All w w4 := ((((HF.trans HF6).trans F0).trans F03).row f4.grown fun m hm => Nat.le_trans hsz2 (hw3o.out m hm).1)
          have HS4 : Hid (Sl kRedo (fun b => Q b ∨ w.heap.size ≤ b) w4 (.slice A5 (j + 1) c5) (outS L r (j + 1))) := Lib.hid (by rw [HST.out]; exact o4.sl_in (fun b hb _ => hb.1) (fun b hb _ => .inr (Nat.le_trans hsz2 hb)))
          clear o4 f4 h4 o3 HY3 hfin hll hM1 hM2
          go_wp2_with fail
          go_roundw
          case rel => exact ⟨j + 1, A5, c5, by omega, by go_num, by first | rfl | go_num, HS4, F4⟩
          case measure => simp [intOf]; omega
    · obtain rfl : j = n := by omega
      have ho : outS L r j = lins L r := by unfold outS; rw [if_neg (by have := En.out; omega)]
      rw [ho] at HO
      go_wp2_with fail
      go_ret
      exact ⟨A', j, c', rfl, HO.out, HF⟩
end Go.Proofs.YtoaamcpiljoojaaGreatDoor
