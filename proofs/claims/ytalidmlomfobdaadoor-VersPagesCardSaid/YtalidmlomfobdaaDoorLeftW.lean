/- HotLeft walked. -/
import Derived.Test.YtalidmlomfobdaaDoorHAll2
import Derived.Test.YtalidmlomfobdaaDoorHGp
import Derived.Test.YtalidmlomfobdaaDoorNum
import Derived.Test.YtalidmlomfobdaaDoorSee
namespace Go.Proofs.YtalidmlomfobdaaDoor
open Go.RowKit Go.Shelf

theorem Own.inside6 {α : Type} {d : Kd α} {e : TypeId} {base : Nat} {w : World} {v : Value} {xs : List α} (o : Own d e base Nowhere w v xs) : Sl d (fun b => base ≤ b ∧ b < w.heap.size) w v xs :=
  o.sl.mono fun b hb _ => by
    rcases hb with hb | hb
    · exact hb.elim
    · exact own_lt o b hb.symm
/-- The last record's number. -/
def lastV (p : List RV) : Int := match p.getLast? with | none => 0 | some x => x.r.lsn
theorem lastV_snoc (p : List RV) (x : RV) : lastV (p ++ [x]) = x.r.lsn := by simp [lastV]

theorem lastV_rows {p : List RV} (h : ∀ i, i < p.length → (p.map RV.r)[i]? = some (rec9 i)) : lastV p = 2 * (p.length : Int) := by
  unfold lastV
  rw [List.getLast?_eq_getElem?]
  rcases Nat.eq_zero_or_pos p.length with h0 | h0
  · have : p = [] := List.eq_nil_of_length_eq_zero h0
    subst this
    rfl
  · have h1 := h (p.length - 1) (by omega)
    rw [List.getElem?_map] at h1
    obtain ⟨y, hy, h2⟩ := Option.map_eq_some_iff.1 h1
    rw [hy]
    dsimp only
    rw [h2, rec9_lsn]
    omega
theorem rows9_pre {p : List RV} {n kk : Nat} (h : p.map RV.r = (rows9 n).take kk) {i : Nat} (hi : i < p.length) : (p.map RV.r)[i]? = some (rec9 i) := by
  have h1 := congrArg List.length h
  rw [List.length_map, List.length_take, rows9_len] at h1
  rw [h, List.getElem?_take, if_pos (by omega), rows9_get (by omega)]
theorem rows9_no {p q : List RV} {x : RV} {n kk : Nat} (h : p.map RV.r = (rows9 n).take kk) (hq : p = q ++ [x]) (hx : x.r.lsn ≤ lastV q) : False := by
  subst hq
  have e1 := lastV_rows (p := q) fun i hi => by
    have h2 := rows9_pre h (i := i) (by rw [List.length_append]; omega)
    rwa [List.map_append, List.getElem?_append_left (by rw [List.length_map]; exact hi)] at h2
  have e2 := lastV_rows (p := q ++ [x]) fun i hi => rows9_pre h hi
  rw [lastV_snoc, List.length_append, List.length_singleton] at e2
  omega
/-- Between two rounds. -/
structure InvL (w6 : World) (b10 b11 k : Nat) (p : List RV) (W : World) : Prop where
  fr : Fr (fun b => b ≠ b10 ∧ b ≠ b11) w6 W
  len : p.length ≤ k
  c10 : Boxed W b10 3 (.int .i64 (p.length : Int))
  c11 : Boxed W b11 2 (.int .i64 (lastV p))
/-- Behind a round that left. -/
structure LeftL (w6 : World) (b10 b11 k : Nat) (c : Code) (p : List RV) (W : World) : Prop where
  how : (c = .ret ∧ ∃ q x, p = q ++ [x] ∧ x.r.lsn ≤ lastV q) ∨ (c = .exit 2 ∧ Fr (fun b => b ≠ b10 ∧ b ≠ b11) w6 W ∧ p.length = k + 1 ∧ Boxed W b10 3 (.int .i64 (k : Int)) ∧ Boxed W b11 2 (.int .i64 (lastV p)))
theorem boxed_turn {W W' : World} {row : Option Nat} {B : Nat} {t : TypeId} {v : Value} (h : Boxed W B t v) (hg : W.grownBy W' row) (hr : ∀ r, row = some r → ∃ o : Obj, W.heap[r]? = some o ∧ o.isCells = false) : Boxed W' B t v :=
  h.kept hg fun e => by
    obtain ⟨o, ho, hc⟩ := hr B e.symm
    rw [show W.heap[B]? = _ from h] at ho
    cases ho
    cases hc
theorem invL_own (w6 : World) (b10 b11 k : Nat) : OwnFrom w6.heap.size (InvL w6 b10 b11 k) := fun p W W' row h hg hr =>
  ⟨h.fr.row hg fun r e => (hr r e).1, h.len, boxed_turn h.c10 hg fun r e => (hr r e).2, boxed_turn h.c11 hg fun r e => (hr r e).2⟩
theorem leftL_own (w6 : World) (b10 b11 k : Nat) (c : Code) : OwnFrom w6.heap.size (LeftL w6 b10 b11 k c) := fun p W W' row h hg hr =>
  ⟨h.how.imp id fun ⟨h1, h0, h2, h3, h4⟩ => ⟨h1, h0.row hg fun r e => (hr r e).1, h2, boxed_turn h3 hg fun r e => (hr r e).2, boxed_turn h4 hg fun r e => (hr r e).2⟩⟩
theorem get_none {S : Nat → Prop} {w : World} {B : Nat} {lv sv : Value} {s : HSt} (h : Hg S w B lv sv s) {x : Int} (hx : isL s.l x = false) : Calls Tryd.prog 25 #[.pointer (some ⟨B, 0, none⟩), .int .i64 x] w fun e w' =>
    e = .returned (.tuple #[.agg #[.int .i64 0, .int .i64 0, .int .i64 0, .int .i64 0, .int .i64 0, .int .i64 0, .int .i64 0, .slice none 0 0, .slice none 0 0, .bool false], .bool false]) ∧ Fr All w w' := by
  have F0 := (Fr.refl All w).alloc (.cells #[.int .i64 0, .int .i64 0, .int .i64 0, .int .i64 0, .int .i64 0, .int .i64 0, .int .i64 0, .slice none 0 0, .slice none 0 0, .bool false] 34)
  have P0 := heap_alloc_new w (.cells #[.int .i64 0, .int .i64 0, .int .i64 0, .int .i64 0, .int .i64 0, .int .i64 0, .int .i64 0, .slice none 0 0, .slice none 0 0, .bool false] 34)
  have H := Lib.hid (place_call (h.all F0) x)
  rw [hx] at H
  clear h hx
  go_enter Tryd.func25, Tryd.ntmps25
  go_wp2_with fail
  refine H.out.mono ?_
  rintro e w1 ⟨rfl, f1⟩
  have F1 := F0.trans f1
  obtain ⟨p0, p1, p2, p3, p4, p5, p6, p7, p8, p9, pz⟩ := blk10 ((f1.block _ (blk_lt P0) trivial).trans P0)
  clear P0 F0 f1 H
  go_wp2_with fail
  refine bodyPost_ret (v := .tuple #[.agg #[.int .i64 0, .int .i64 0, .int .i64 0, .int .i64 0, .int .i64 0, .int .i64 0, .int .i64 0, .slice none 0 0, .slice none 0 0, .bool false], .bool false]) ?_ rfl ⟨rfl, ?_⟩
  · simp [results, Tryd.results25, go_sem, p0, p1, p2, p3, p4, p5, p6, p7, p8, p9]
  · repeat (first | (with_reducible exact F1) | with_reducible refine Fr.drew ?_ | with_reducible refine Fr.setNew ?_ (by dsimp only; omega) _)
def RV.cells (x : RV) : Obj := .cells #[.int .i64 x.r.lsn, .int .i64 x.r.back, .int .i64 x.r.epoch, .int .i64 x.r.group, .int .i64 x.r.page, .int .i64 x.r.kind, .int .i64 x.r.slot, .slice x.A0 x.n0 x.c0, .slice x.A1 x.n1 x.c1, .bool x.r.last] 34 (0, 0)

attribute [local go_sem] Oper.semAt_some
set_option maxRecDepth 100000 in
set_option maxHeartbeats 4000000 in
theorem left_walk (a0 a1 : Int) (w : World) : Calls Tryd.prog 6 #[.int .i64 a0, .int .i64 a1] w fun e w' => e = .returned (.bool true) ∧ Fr All w w' := by
  refine (callsIn_wide (n := 8)).1 ?_
  refine callsIn_of_wp_marks Tryd.func6 rfl trivial ?_ rfl
  simp only [Tryd.ntmps6, List.size_toArray, List.length_cons, List.length_nil, Nat.reduceAdd, Nat.reduceSub, Array.replicate_succ, Array.replicate_zero, List.push_toArray, List.append_toArray, List.nil_append, List.cons_append]
  refine wpIn_wide.2 ?_
  have F0 := (Fr.refl All w).alloc (.cells #[.bool false] 4)
  have P0 := heap_alloc_new w (.cells #[.bool false] 4)
  go_wp2_with fail
  refine (first9_call _).mono ?_
  rintro e w1 ⟨rfl, f1⟩
  have F1 := Lib.hid (F0.trans f1)
  have P1 := Lib.hid ((f1.block _ (blk_lt P0) trivial).trans P0)
  clear F0 P0 f1
  go_wp2_with fail
  refine (number1 w1 (by omega) (by omega)).mono ?_
  rintro e wn ⟨n, hn1, hn2, rfl, hwn⟩
  obtain rfl := hwn.symm
  have hn30 : n ≤ 30 := by omega
  clear hwn
  go_wp2_with fail
  refine (hnew 0 w1).mono ?_
  rintro e w2 ⟨rfl, h2⟩
  have H2 := Lib.hid h2
  clear h2
  go_wp2_with fail
  refine (row9_call (n := n) (by omega) w2).mono ?_
  rintro e w3 ⟨A, c, rfl, o3, f3⟩
  have H3 := Lib.hid (H2.out.guard f3)
  obtain ⟨B, hB⟩ : ∃ B, w1.heap.size = B := ⟨_, rfl⟩
  rw [hB] at H3
  simp only [hB]
  obtain ⟨X, hX⟩ : ∃ X : Nat → Prop, X = fun b => False ∨ (w2.heap.size ≤ b ∧ b < w3.heap.size) := ⟨_, rfl⟩
  rw [← hX] at H3
  have HR : Hid (Sl kRedo X w3 (.slice A n c) (rows9 n)) := Lib.hid (by
    rw [hX]
    exact o3.inside6.mono fun b hb _ => .inr hb)
  clear hX hB H2 o3 f3
  have S3 : Hid (St9 n (fun i => decide (n ≤ i)) (.new 0)) := Lib.hid (St9.new n _ fun i hi => decide_eq_false (by omega))
  go_wp2_with fail
  go_loopw [8] (fun i wr => ∃ (j : Nat) (s : HSt), j ≤ n ∧ i = .int .i64 ((j : Int) - 1) ∧ Hid (HHd X w1 wr B s) ∧ Hid (St9 n (fun i => decide (j ≤ i)) s) ∧ Fr X w3 wr) (fun i _ => (intOf i + 1).toNat)
  case atStart => exact ⟨n, _, Nat.le_refl _, rfl, H3, S3, Fr.refl _ _⟩
  case round =>
    obtain ⟨j, s, hj, rfl, HS, HT, HF⟩ := hrel
    by_cases hlt : 0 < j
    · obtain ⟨k, rfl⟩ : ∃ k, j = k + 1 := ⟨j - 1, by omega⟩
      rw [show ((k + 1 : Nat) : Int) - 1 = (k : Int) by omega]
      have b0 : (0 : Int) ≤ (k : Int) := by omega
      have b1 : (k : Int) < (n : Int) := by omega
      have d0 : decide ((k : Int) ≥ 0) = true := decide_eq_true (by omega)
      obtain ⟨b, o, X0, n0, c0, X1, n1, c1, rfl, g0, g1, g2, g3, g4, g5, g6, g7, g8, g9, t0, t1⟩ := redo_at (HR.out.move HF) (rows9_get (n := n) (i := k) (by omega))
      have T0 := Lib.hid t0
      have T1 := Lib.hid t1
      clear t0 t1
      go_wp2_with fail
      refine (hadd9 (Q := fun i => decide (k ≤ i)) HS.out HT.out (by omega) (by omega) (decide_eq_false (by omega)) (fun i hi => by
        by_cases hik : i = k
        · subst hik; simp
        · have h1 : decide (k ≤ i) = decide (k + 1 ≤ i) := by rw [decide_eq_decide]; omega
          rw [h1, beq_false_of_ne hik, Bool.or_false]) T0.out T1.out).mono ?_
      rintro e w5 ⟨rfl, h5, t5, f5⟩
      have H5 := Lib.hid h5
      have T5 := Lib.hid t5
      have F5 := HF.trans f5
      clear h5 t5 f5 g0 g1 g2 g3 g4 g5 g6 g7 g8 g9
      go_wp2_with fail
      go_roundw
      case rel => exact ⟨k, _, by omega, by go_num, H5, T5, F5⟩
      case measure => simp [intOf]
    · obtain rfl : j = 0 := by omega
      have HL : Hid (s.l = rows9 n) := Lib.hid (HT.out.has.all fun i hi => decide_eq_true (Nat.zero_le _))
      have HFR := Lib.hid HS.out.fr
      obtain ⟨lv, sv, hg, _⟩ := HS.out.ex
      have HLV : Hid (∀ j, lv.ownBlock = some j → j < wr.heap.size) := Lib.hid fun j hj => (own_lt hg.row j hj).2
      have hbB : B < wr.heap.size := hg.lt
      have HG := Lib.hid (hg.mono (T := fun b => b ≠ B ∧ b < wr.heap.size) (fun b hb hl => ⟨hb, hl⟩) (fun b hb => hb.1))
      clear hg HS HF HT
      go_wp2_with fail
      refine (number wr (by omega) (by omega)).mono ?_
      rintro e wn ⟨k, hk, rfl, hwn⟩
      obtain rfl := hwn.symm
      have hkn : k < n := by omega
      clear hwn
      have FB := (((Fr.refl All wr).alloc (.cells #[.int .i64 (k : Int)] 3)).alloc (.cells #[.int .i64 0] 3)).alloc (.cells #[.int .i64 0] 2)
      have HFB := Lib.hid FB
      have HG1 := Lib.hid (HG.out.all FB)
      clear FB
      go_wp2_with fail
      refine (all_call HG1.out).mono ?_
      rintro e w6 ⟨Bs, A6, c6, rfl, hBs, hcell, hsl, f6⟩
      have x9 := Lib.hid (((Boxed.new wr 3 (.int .i64 (k : Int))).alloc (.cells #[.int .i64 0] 3)).alloc (.cells #[.int .i64 0] 2))
      have x10 := Lib.hid ((Boxed.new (wr.alloc (.cells #[.int .i64 (k : Int)] 3)) 3 (.int .i64 0)).alloc (.cells #[.int .i64 0] 2))
      have x11 := Lib.hid (Boxed.new ((wr.alloc (.cells #[.int .i64 (k : Int)] 3)).alloc (.cells #[.int .i64 0] 3)) 2 (.int .i64 0))
      have hz : (((wr.alloc (.cells #[.int .i64 (k : Int)] 3)).alloc (.cells #[.int .i64 0] 3)).alloc (.cells #[.int .i64 0] 2)).heap.size = wr.heap.size + 3 := by simp
      have y9 : Hid (Boxed w6 wr.heap.size 3 (.int .i64 (k : Int))) := Lib.hid ((f6.block _ (by rw [hz]; omega) trivial).trans x9.out)
      have y10 : Hid (Boxed w6 (wr.heap.size + 1) 3 (.int .i64 0)) := Lib.hid ((f6.block _ (by rw [hz]; omega) trivial).trans (by have := x10.out; rwa [World.size_alloc] at this))
      have y11 : Hid (Boxed w6 (wr.heap.size + 1 + 1) 2 (.int .i64 0)) := Lib.hid ((f6.block _ (by rw [hz]; omega) trivial).trans (by have := x11.out; rwa [World.size_alloc, World.size_alloc] at this))
      have HG6 := Lib.hid (HG1.out.all f6)
      have HF6 := Lib.hid (HFB.out.trans f6)
      rw [hz] at hBs hsl
      clear x9 x10 x11 f6 HG1 HFB hz
      go_wp2_with fail
      refine (wpIn_wide (n := 8)).1 ?_
      have hstops := all1_stops 7 (by omega) (fun b => wr.heap.size + 3 ≤ b ∧ b < w6.heap.size) Bs A6 s.l.length c6 s.l w6 rfl (by rw [HL.out, rows9_len]; omega) hBs hcell hsl (redosOk HG6.out.ok).2
      refine wpIn_rangeFunc_ownH (F := Fence.wide) (n := 8) rfl (by omega) (gf := 51) (lb := #[.pointer (some ⟨Bs, 0, none⟩)]) (by rfl) trivial (enters_of Tryd.func51 (by kernel_rfl) rfl)
        hstops (fun h1 h2 => h1.trans h2)
        (fun W l o o' hl _ _ _ => ⟨rfl, rfl, rfl, by simp, fun b _ hb => (grownBy_putObj' W l o').block b (by assumption) (fun e => by cases e; omega)⟩)
        (Below.refl _ _) (fun _ => rfl)
        (InvL w6 (wr.heap.size + 1) (wr.heap.size + 1 + 1) k) (LeftL w6 (wr.heap.size + 1) (wr.heap.size + 1 + 1) k) (invL_own _ _ _ _) (leftL_own _ _ _ _)
        ⟨Fr.refl _ _, Nat.zero_le _, y10.out, y11.out⟩
        (fun x a' W => ∃ Bx, w6.heap.size ≤ Bx ∧ W.heap[Bx]? = some x.cells ∧ a' = { tmps := #[.int .i64 n, .int .i64 a1, undef, undef, .pointer (some ⟨w.heap.size, 0, none⟩), .bool true, .pointer (some ⟨B, 0, none⟩), .slice A n c, .int .i64 (-1), .pointer (some ⟨wr.heap.size, 0, none⟩), .pointer (some ⟨wr.heap.size + 1, 0, none⟩), .pointer (some ⟨wr.heap.size + 1 + 1, 0, none⟩), .pointer (some ⟨Bx, 0, none⟩), undef, undef, .bool true, .bool true, .bool false, .int .i64 a0, .int .i64 (n - 1), .int .i64 n, .pointer (some ⟨B, 0, none⟩), .pointer (some ⟨B, 0, none⟩), .bool false, .int .i64 n, .slice A n c, .int .i64 n, .int .i64 (n - 1), .int .i64 (-1), .bool false, u30, u31, u32, u33, u34, u35, u36, u37, .int .i64 a1, .int .i64 n, .int .i64 k, .pointer (some ⟨B, 0, none⟩), .func (.func 51) #[] #[.pointer (some ⟨Bs, 0, none⟩)], x.val, undef, undef, undef, undef, undef, undef, undef, undef, undef, undef, undef, undef, undef, undef, undef, undef, undef, undef, undef, undef, undef, undef, undef, undef, undef, undef, undef, undef, undef, undef, undef, undef, undef, undef, undef, undef], defers := [] })
        (fun x a' _ X Y row hs hg hr => by
          obtain ⟨Bx, h1, h2, h3⟩ := hs
          refine ⟨Bx, h1, ?_, h3⟩
          refine (hg.block Bx (blk_lt h2) fun e => ?_).trans h2
          obtain ⟨_, o, ho, hc⟩ := hr Bx e.symm
          rw [h2] at ho
          cases ho
          cases hc)
        ?assign ?body ?done ?stop
      case assign =>
        rintro l pre ⟨xr, X0, m0, d0, X1, m1, d1⟩ W K hi hK
        simp only [RV.val, RV.cells] at hK ⊢
        gi_wp2
        have hfa := (Fr.refl All W).alloc (.cells #[.int .i64 xr.lsn, .int .i64 xr.back, .int .i64 xr.epoch, .int .i64 xr.group, .int .i64 xr.page, .int .i64 xr.kind, .int .i64 xr.slot, .slice X0 m0 d0, .slice X1 m1 d1, .bool xr.last] 34)
        exact hK _ _ ((KeepsOthers.alloc _ _).from _) (hfa.mono fun _ _ => trivial) ⟨hi.fr.then_all hfa, hi.len, hi.c10.alloc _, hi.c11.alloc _⟩ ⟨W.heap.size, hi.fr.size, heap_alloc_new _ _, rfl⟩
      case body =>
        rintro l pre ⟨xr, X0, m0, d0, X1, m1, d1⟩ a' W hl ⟨rr, hr⟩ hI ⟨Bx, hBx, hcx, rfl⟩ hlt
        simp only [RV.val, RV.cells] at hcx ⊢
        obtain ⟨p0, p1, p2, p3, p4, p5, p6, p7, p8, p9, pz⟩ := blk10 hcx
        have z9 : Boxed W wr.heap.size 3 (.int .i64 (k : Int)) := (hI.fr.block _ y9.out.lt (by omega)).trans y9.out
        have q9 := z9.cell
        have q10 := hI.c10.cell
        have q11 := hI.c11.cell
        have s10 := hI.c10.frozen
        have s11 := hI.c11.frozen
        have e4 := blk_lt P1.out
        have e5 := HFR.out.size
        have e6 := HF6.out.size
        have z4 : Boxed W w.heap.size 4 (.bool false) := (hI.fr.block _ (by omega) (by omega)).trans (((HFR.out.trans HF6.out).block _ e4 trivial).trans P1.out)
        have q4 := z4.cell
        have s4 := z4.frozen
        have HI := Lib.hid hI
        have Z4 := Lib.hid z4
        clear hcx hI z4 z9 e4 e5 e6
        by_cases hle : xr.lsn ≤ lastV pre
        · gi_wp2
          exact ⟨(KeepsOthers.setCell _ _ _).from _, ⟨.inl ⟨rfl, pre, _, rfl, hle⟩⟩⟩
        · have hd : decide (xr.lsn ≤ lastV pre) = false := decide_eq_false hle
          have HE := Lib.hid hle
          clear hle
          by_cases hjk : pre.length = k
          · have hjk' : ((pre.length : Int) == (k : Int)) = true := by rw [beq_iff_eq]; omega
            have HJ := Lib.hid hjk
            clear hjk
            gi_wp2
            exact ⟨(KeepsOthers.setCell _ _ _).from _, ⟨.inr ⟨rfl, Fr.setCell (p := ⟨wr.heap.size + 1 + 1, 0, none⟩) HI.out.fr (fun b hb => hb.2) _, by rw [List.length_append, HJ.out]; rfl, by have h1 := HI.out.c10.other (B' := wr.heap.size + 1 + 1) (by omega) (.int .i64 xr.lsn); rwa [HJ.out] at h1, by rw [lastV_snoc]; exact HI.out.c11.set _⟩⟩⟩
          · have hjk' : ((pre.length : Int) == (k : Int)) = false := by rw [beq_eq_false_iff_ne]; omega
            have HJ := Lib.hid hjk
            have l0 : (0 : Int) ≤ (pre.length : Int) := by omega
            have l1 : (pre.length : Int) < (n : Int) := by have := HI.out.len; omega
            clear hjk
            gi_wp2
            have hlk := HI.out.len
            refine ⟨((KeepsOthers.setCell _ _ _).trans (KeepsOthers.setCell _ _ _)).from _, ?_, ?_, ?_, ?_, ?_⟩
            · exact Fr.setCell (p := ⟨wr.heap.size + 1, 0, none⟩) (Fr.setCell (p := ⟨wr.heap.size + 1 + 1, 0, none⟩) (Fr.refl _ W) (fun b hb => by dsimp only; omega) _) (fun b hb => by dsimp only; omega) _
            · exact Fr.setCell (p := ⟨wr.heap.size + 1, 0, none⟩) (Fr.setCell (p := ⟨wr.heap.size + 1 + 1, 0, none⟩) HI.out.fr (fun b hb => hb.2) _) (fun b hb => hb.1) _
            · have := HJ.out
              rw [List.length_append, List.length_singleton]
              omega
            · rw [List.length_append, List.length_singleton, Int.natCast_add]
              exact (HI.out.c10.other (B' := wr.heap.size + 1 + 1) (by omega) _).set _
            · rw [lastV_snoc]
              exact (HI.out.c11.set _).other (by omega) _
      case done =>
        rintro D ys W hD hys hI hK
        have h1 := congrArg List.length hys
        rw [List.length_map, HL.out, rows9_len] at h1
        have := hI.len
        omega
      case stop =>
        rintro D c' pre W hD ⟨kk, hkk, hpre⟩ hLe hK
        rcases hLe.how with ⟨rfl, q, x, hq, hx⟩ | ⟨rfl, fr, hpl, c10, c11⟩
        · exact (rows9_no (by rw [hpre, HL.out]) hq hx).elim
        · have hlast : lastV pre = 2 * (k : Int) + 2 := by
            rw [lastV_rows fun i hi => rows9_pre (by rw [hpre, HL.out]) hi, hpl]
            omega
          rw [hlast] at c11
          refine wpIn_wide.2 ?_
          have w9 : Boxed W wr.heap.size 3 (.int .i64 (k : Int)) := (fr.block _ y9.out.lt (by omega)).trans y9.out
          have e4 := blk_lt P1.out
          have e5 := HFR.out.size
          have e6 := HF6.out.size
          have w4 : Boxed W w.heap.size 4 (.bool false) := (fr.block _ (by omega) (by omega)).trans (((HFR.out.trans HF6.out).block _ e4 trivial).trans P1.out)
          have HGW := Lib.hid (HG6.out.move fr (by have := hbB; omega) (fun j hj => by have := HLV.out j hj; omega) (fun b hb _ => by have := hb.2; omega))
          have HNL : Hid (isL s.l 1 = false) := Lib.hid (by
            rw [HL.out, isL_false]
            intro r hr he
            obtain ⟨i, _, rfl⟩ := List.mem_map.1 hr
            rw [rec9_lsn] at he
            omega)
          have HC9 := Lib.hid w9
          have HC4 := Lib.hid w4
          have HC10 := Lib.hid c10
          have HC11 := Lib.hid c11
          have HFr := Lib.hid fr
          have HK := Lib.hid hK
          clear hlast hpre hpl c10 c11 hLe w9 w4 e4 e5 e6 hK fr
          go_wp2_with fail
          refine (get_none HGW.out HNL.out).mono ?_
          rintro e w7 ⟨rfl, f7⟩
          have F8 := f7.alloc (.cells #[.int .i64 0, .int .i64 0, .int .i64 0, .int .i64 0, .int .i64 0, .int .i64 0, .int .i64 0, .slice none 0 0, .slice none 0 0, .bool false] 34)
          have q9 := F8.cell trivial HC9.out.cell
          have q10 := F8.cell trivial HC10.out.cell
          have q11 := F8.cell trivial HC11.out.cell
          have k0 : (0 : Int) ≤ (k : Int) := by omega
          have k1 : (k : Int) < (n : Int) := by omega
          have HF8 := Lib.hid F8
          clear F8 f7
          go_wp2_with fail
          refine (see_is (Sees.nil_ _) 0).mono ?_
          rintro e w9 ⟨rfl, f9⟩
          rw [show decide ((0 : Int) = 0 ∧ false = false ∧ (0 : Int) = 0) = true by decide]
          have F9 := HF8.out.trans f9
          have z4 : Boxed w9 w.heap.size 4 (.bool false) := (F9.block _ HC4.out.lt trivial).trans HC4.out
          have q4 := z4.cell
          have s4 := z4.frozen
          have hDW : D < W.heap.size := (Array.getElem?_eq_some_iff.1 HK.out).1
          have hw6 : w.heap.size < w6.heap.size := by have := blk_lt P1.out; have := HFR.out.size; have := HF6.out.size; omega
          have hK9 : (w9.setCell ⟨w.heap.size, 0, none⟩ (.bool true)).heap[D]? = some (.deferred (some [])) := ((grownBy_setCell' w9 w.heap.size (.bool true)).block D (Nat.lt_of_lt_of_le hDW F9.size) (fun e => by cases e; omega)).trans ((F9.block D hDW trivial).trans HK.out)
          have HK9 := Lib.hid hK9
          have HF9 := Lib.hid F9
          have Z4 := Lib.hid z4
          clear hK9 F9 f9 z4 q9 q10 q11
          go_wp2_with fail
          refine ⟨by simp, .inl ⟨_, _, rfl, run_takeDeferred HK9.out, ?_⟩⟩
          have hc5 := cell_kept (Z4.out.set (.bool true)).cell (grownBy_putObj' _ D (.deferred none)) (fun r e => by cases e; exact ⟨_, HK9.out, rfl⟩)
          have h06 := F1.out.trans (HFR.out.trans HF6.out)
          have hwr : w.heap.size < wr.heap.size := by have := blk_lt P1.out; have := HFR.out.size; omega
          have h0W : Fr All w W := ⟨HFr.out.os.trans h06.os, HFr.out.tape.trans h06.tape, HFr.out.output.trans h06.output, Nat.le_trans h06.size HFr.out.size, fun b hb _ => (HFr.out.block b (Nat.lt_of_lt_of_le hb h06.size) ⟨by omega, by omega⟩).trans (h06.block b hb trivial)⟩
          have h09 := (h0W.trans HF9.out).setNew (p := ⟨w.heap.size, 0, none⟩) (Nat.le_refl _) (.bool true)
          refine ⟨.bool true, ?_, rfl, h09.row (grownBy_putObj' _ D (.deferred none)) (fun r e => by cases e; omega)⟩
          simp [results, Tryd.results6, go_sem, hc5]
end Go.Proofs.YtalidmlomfobdaaDoor
