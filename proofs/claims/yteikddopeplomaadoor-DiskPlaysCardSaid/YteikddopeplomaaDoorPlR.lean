/- The chapter's disk as a walk reads it: rows of blocks, find, with. -/
import Derived.Test.YteikddopeplomaaDoorPlP
import Derived.Test.YteikddopeplomaaDoorRefY
namespace Go.Proofs.YteikddopeplomaaDoor
open Go.RowKit

def kBlk : Kd Blk := kInt.pair kBytes
theorem kBlk_open {S : Nat → Prop} {w : World} {x : Blk} {cs : List Value} (h : kBlk.K S w x cs) : ∃ v, cs = [.int .i64 x.1, v] ∧ Sl kByte S w v x.2 := by
  obtain ⟨c1, c2, rfl, h1, ⟨v, h2, h3⟩⟩ := h
  have h1' : c1 = [Value.int .i64 x.1] := h1
  subst h1'
  subst h2
  exact ⟨v, rfl, h3⟩
theorem kBlk_mk {S : Nat → Prop} {w : World} {x : Blk} {v : Value} (h : Sl kByte S w v x.2) : kBlk.K S w x [.int .i64 x.1, v] := ⟨[.int .i64 x.1], [v], rfl, rfl, ⟨v, rfl, h⟩⟩
theorem info_blk : (Tryd.prog.info? 122).map (fun i => (i.zero, i.size, i.bytes)) = some (some (.agg #[.int .i64 0, .slice none 0 0]), kBlk.sz, 32) := by kernel_rfl

theorem blk_at {S : Nat → Prop} {w : World} {A : Option Addr} {n c : Nat} {xs : List Blk} (h : Sl kBlk S w (.slice A n c) xs) {k : Nat} {x : Blk} (hi : xs[k]? = some x) :
    ∃ b o A1 n1 c1, A = some ⟨b, o, none⟩ ∧ w.cell? ⟨b, o + k * 2, none⟩ = some (.int .i64 x.1) ∧ w.cell? ⟨b, o + k * 2 + 1, none⟩ = some (.slice A1 n1 c1) ∧ Sl kByte S w (.slice A1 n1 c1) x.2 ∧ S b := by
  obtain ⟨A', c', he, _, _, hx⟩ := h
  injection he with ha _ _
  subst ha
  have hk : k < xs.length := (List.getElem?_eq_some_iff.1 hi).1
  obtain ⟨b, o, rfl, hSb, hr⟩ := hx (by omega)
  obtain ⟨cs, hc, hcell⟩ := hr k x hi
  obtain ⟨v, rfl, h1⟩ := kBlk_open hc
  obtain ⟨A1, n1, c1, rfl, _⟩ := h1.open_
  exact ⟨b, o, A1, n1, c1, rfl, hcell 0 _ rfl, hcell 1 _ rfl, h1, hSb⟩

/-- Where a block stands. -/
def rat : List Blk → Int → Nat → Int
  | [], _, _ => -1
  | y :: ys, k, j => if y.1 = k then (j : Int) else rat ys k (j + 1)
theorem rat_none {k : Int} : ∀ {l : List Blk} {j : Nat}, rfind l k = none → rat l k j = -1
  | [], _, _ => rfl
  | y :: ys, j, h => by
    rw [rfind] at h
    split at h
    · cases h
    · rename_i hy
      rw [rat, if_neg hy]
      exact rat_none h
theorem rat_some {k : Int} {b : List UInt8} : ∀ {l : List Blk} {j : Nat}, rfind l k = some b → ∃ i : Nat, rat l k j = ((j + i : Nat) : Int) ∧ l[i]? = some (k, b)
  | [], _, h => by cases h
  | y :: ys, j, h => by
    rw [rfind] at h
    split at h
    · rename_i hy
      obtain rfl := Option.some.inj h
      exact ⟨0, by rw [rat, if_pos hy]; rfl, by rw [← hy]; rfl⟩
    · rename_i hy
      obtain ⟨i, h1, h2⟩ := rat_some (j := j + 1) h
      refine ⟨i + 1, ?_, by simpa using h2⟩
      rw [rat, if_neg hy, h1]
      congr 1
      omega

set_option maxRecDepth 100000 in
set_option maxHeartbeats 1000000 in
theorem rfind_call {w : World} {A : Option Addr} {n c : Nat} {l : List Blk} {S : Nat → Prop} (h : Sl kBlk S w (.slice A n c) l) (hn : n ≤ 1000000) (i : Int) :
    Calls Tryd.prog 76 #[.slice A n c, .int .i64 i] w fun e w' => e = .returned (.int .i64 (rat l i 0)) ∧ w' = w := by
  have en := h.len_eq
  have En := Lib.hid en
  clear en
  go_enter Tryd.func76, Tryd.ntmps76
  go_wp2_with fail
  go_loopw [5] (fun v wr => ∃ j : Nat, j ≤ n ∧ v = .int .i64 j ∧ Hid (rat l i 0 = rat (l.drop j) i j) ∧ wr = w) (fun v _ => n - (intOf v).toNat)
  case atStart => exact ⟨0, Nat.zero_le _, rfl, rfl, rfl⟩
  case round =>
    obtain ⟨j, hj, rfl, HR, rfl⟩ := hrel
    by_cases hlt : j < n
    · obtain ⟨x, hx, _⟩ := get_of (l := l) (k := j) (by rw [← En.out]; exact hlt)
      obtain ⟨b, o, A1, n1, c1, rfl, g0, g1, _, _⟩ := blk_at h hx
      have b0 : (0 : Int) ≤ (j : Int) := by omega
      have b1 : (j : Int) < (n : Int) := by omega
      have hd : l.drop j = x :: l.drop (j + 1) := by
        have hj2 := (List.getElem?_eq_some_iff.1 hx)
        rw [List.drop_eq_getElem_cons hj2.1, hj2.2]
      by_cases hk : x.1 = i
      · have hb : (x.1 == i) = true := beq_iff_eq.2 hk
        have hr : rat l i 0 = (j : Int) := by rw [HR.out, hd, rat, if_pos hk]
        have HRR := Lib.hid hr
        clear hk hr hd hx
        go_wp2_with fail
        go_ret
        exact ⟨ret_int HRR.out.symm, rfl⟩
      · have hb : (x.1 == i) = false := beq_false_of_ne hk
        have hr : Hid (rat l i 0 = rat (l.drop (j + 1)) i (j + 1)) := Lib.hid (by rw [HR.out, hd, rat, if_neg hk])
        clear hk hd hx
        go_wp2_with fail
        go_roundw
        case rel => exact ⟨j + 1, by omega, by go_num, hr, trivial⟩
        case measure => simp [intOf]; omega
    · obtain rfl : j = n := by omega
      have hr : rat l i 0 = -1 := by
        rw [HR.out, List.drop_of_length_le (by rw [← En.out]; exact Nat.le_refl _)]
        rfl
      have HRR := Lib.hid hr
      clear hr
      go_wp2_with fail
      go_ret
      exact ⟨ret_int HRR.out.symm, rfl⟩

set_option hygiene false in
set_option maxRecDepth 100000 in
set_option maxHeartbeats 4000000 in
theorem with_call {w : World} {A : Option Addr} {n c : Nat} {l : List Blk} {S : Nat → Prop} {x : Blk} {u : Value} (h : Sl kBlk S w (.slice A n c) l) (hx : Sl kByte S w u x.2) (hn : n ≤ 1000000) :
    Calls Tryd.prog 75 #[.slice A n c, .agg #[.int .i64 x.1, u]] w fun e w' => ∃ A' c', e = .returned (.slice A' (rins x l).length c') ∧ Own kBlk 122 w.heap.size S w' (.slice A' (rins x l).length c') (rins x l) ∧ Fr All w w' := by
  obtain ⟨xA, xn, xc, rfl, _⟩ := hx.open_
  have en := h.len_eq
  have En := Lib.hid en
  have F0 := (Fr.refl All w).alloc (.cells #[.int .i64 x.1, .slice xA xn xc] 122)
  have B0 := heap_alloc_new w (.cells #[.int .i64 x.1, .slice xA xn xc] 122)
  obtain ⟨W, hW⟩ : ∃ W, w.alloc (.cells #[.int .i64 x.1, .slice xA xn xc] 122) = W := ⟨_, rfl⟩
  have hs : Sl kBlk (fun b => S b ∧ b < w.heap.size) W (.slice A n c) l := by
    rw [← hW]
    exact (h.mono fun b hb hl => ⟨hb, hl⟩).all F0
  have hxs : Sl kByte (fun b => S b ∧ b < w.heap.size) W (.slice xA xn xc) x.2 := by
    rw [← hW]
    exact (hx.mono fun b hb hl => ⟨hb, hl⟩).all F0
  rw [hW] at F0 B0
  have HS := Lib.hid hs
  have HX := Lib.hid hxs
  have HB := Lib.hid B0
  clear en hs hxs h hx B0
  go_enter Tryd.func75, Tryd.ntmps75
  go_wp2_with fail
  have H0 : Own kBlk 122 W.heap.size (fun b => S b ∧ b < w.heap.size) W (.slice none 0 0) [] := Own.nil_ _ _ _ _ _
  have HF0 : Hid ((l.take 0).foldl (rstep x) ([], false) = ([], false)) := Lib.hid rfl
  go_loopw [5, 6, 7] (fun v d i wr => ∃ j : Nat, ∃ out done, j ≤ n ∧ i = .int .i64 j ∧ d = .bool done ∧ Hid ((l.take j).foldl (rstep x) ([], false) = (out, done)) ∧ Hid (out.length ≤ 2 * j) ∧ Own kBlk 122 W.heap.size (fun b => S b ∧ b < w.heap.size) wr v out ∧ Fr All W wr) (fun _ _ i _ => n - (intOf i).toNat)
  case atStart => exact ⟨0, [], false, Nat.zero_le _, rfl, rfl, HF0, Lib.hid (Nat.zero_le _), H0, Fr.refl _ _⟩
  case round =>
    obtain ⟨j, out, done, hj, rfl, rfl, HF, HL, HO, HR⟩ := hrel
    obtain ⟨A', c', rfl⟩ := HO.length
    by_cases hlt : j < n
    · have hbse : W.heap.size ≤ wr.heap.size := HR.size
      have hF0 := F0.size
      have hlen : out.length ≤ 2000000 := by have := HL.out; omega
      obtain ⟨y, hy, _⟩ := get_of (l := l) (k := j) (by rw [← En.out]; exact hlt)
      obtain ⟨b, o, A1, n1, c1, rfl, g0, g1, t1, hSb⟩ := blk_at (HS.out.all HR) hy
      have hbw := hSb.2
      clear hSb
      obtain ⟨q0, q1, qz⟩ := blk2 ((HR.block _ (blk_lt HB.out) trivial).trans HB.out)
      have b0 : (0 : Int) ≤ (j : Int) := by omega
      have b1 : (j : Int) < (n : Int) := by omega
      have HY := Lib.hid hy
      have HT := Lib.hid t1
      clear hy t1
      cases done with
      | true =>
        by_cases he : y.1 = x.1
        · have hb : (y.1 != x.1) = false := by simp [he]
          have HF2 : Hid ((l.take (j + 1)).foldl (rstep x) ([], false) = (out, true)) := Lib.hid (by rw [take_snoc HY.out, List.foldl_append, HF.out]; simp [rstep, he])
          have HL2 : Hid (out.length ≤ 2 * (j + 1)) := Lib.hid (by have := HL.out; omega)
          clear he
          go_upto_region 6 with (fail)
          go_quiet (fail)
          generalize hW1 : wr.drewN _ = W1
          have FQ1 : Fr All wr W1 := by
            rw [← hW1]
            exact (Fr.refl _ _).drewN _
          have g0a := FQ1.cell (p := ⟨b, o + j * 2, none⟩) trivial g0
          have g1a := FQ1.cell (p := ⟨b, o + j * 2 + 1, none⟩) trivial g1
          have q0a := FQ1.cell (p := ⟨w.heap.size, 0, none⟩) trivial q0
          have q1a := FQ1.cell (p := ⟨w.heap.size, 1, none⟩) trivial q1
          clear hW1
          go_upto_region 9 with (fail)
          go_quiet (fail)
          generalize hW2 : W1.drewN _ = W2
          have FQ2 : Fr All wr W2 := by
            rw [← hW2]
            exact FQ1.drewN _
          have g0b := FQ2.cell (p := ⟨b, o + j * 2, none⟩) trivial g0
          have g1b := FQ2.cell (p := ⟨b, o + j * 2 + 1, none⟩) trivial g1
          clear hW2
          go_wp2_with fail
          go_roundw
          case rel => exact ⟨j + 1, out, true, by omega, by go_num, rfl, HF2, HL2, HO.all FQ2, HR.trans FQ2⟩
          case measure => simp [intOf]; omega
        · have hb : (y.1 != x.1) = true := by simpa using he
          have HF2 : Hid ((l.take (j + 1)).foldl (rstep x) ([], false) = (out ++ [y], true)) := Lib.hid (by rw [take_snoc HY.out, List.foldl_append, HF.out]; simp [rstep, he])
          have HL2 : Hid ((out ++ [y]).length ≤ 2 * (j + 1)) := Lib.hid (by have := HL.out; simp; omega)
          clear he
          go_upto_region 6 with (fail)
          go_quiet (fail)
          generalize hW1 : wr.drewN _ = W1
          have FQ1 : Fr All wr W1 := by
            rw [← hW1]
            exact (Fr.refl _ _).drewN _
          have g0a := FQ1.cell (p := ⟨b, o + j * 2, none⟩) trivial g0
          have g1a := FQ1.cell (p := ⟨b, o + j * 2 + 1, none⟩) trivial g1
          have q0a := FQ1.cell (p := ⟨w.heap.size, 0, none⟩) trivial q0
          have q1a := FQ1.cell (p := ⟨w.heap.size, 1, none⟩) trivial q1
          clear hW1
          go_upto_region 9 with (fail)
          go_quiet (fail)
          generalize hW2 : W1.drewN _ = W2
          have FQ2 : Fr All wr W2 := by
            rw [← hW2]
            exact FQ1.drewN _
          have g0b := FQ2.cell (p := ⟨b, o + j * 2, none⟩) trivial g0
          have g1b := FQ2.cell (p := ⟨b, o + j * 2 + 1, none⟩) trivial g1
          clear hW2
          have FY := FQ2.alloc (.cells #[.int .i64 y.1, .slice A1 n1 c1] 122)
          have HO2 := HO.all FY
          have HS2 := Src.box (kBlk_mk (HT.out.all FQ2)) 122 1
          have hln : (out.length + [y].length) * 32 ≤ 140737488355328 := by simp only [List.length_cons, List.length_nil]; omega
          have hbs : W.heap.size ≤ (W2.alloc (.cells #[.int .i64 y.1, .slice A1 n1 c1] 122)).heap.size := Nat.le_trans hbse FY.size
          go_wp2_with (at_builtin; refine wpList_app rfl rfl Tryd.underlying76 info_blk rfl (by decide) HO2 HS2 rfl rfl (fun b hb _ => ⟨hb, fun e => by have := own_lt HO2 b e.symm; have := hb.2; omega⟩) hln hbs ?_; intro v' w' h3 h4 h5)
          have F3 : Fr All W w' := (HR.trans FY).row h4.grown fun m hm => (own_lt HO m hm).1
          go_roundw
          case rel => exact ⟨j + 1, out ++ [y], true, by omega, by go_num, rfl, HF2, HL2, h3, F3⟩
          case measure => simp [intOf]; omega
      | false =>
        by_cases hge : x.1 ≤ y.1
        · have hd : decide (y.1 ≥ x.1) = true := decide_eq_true hge
          by_cases he : y.1 = x.1
          · have hb : (y.1 != x.1) = false := by simp [he]
            have HF2 : Hid ((l.take (j + 1)).foldl (rstep x) ([], false) = (out ++ [x], true)) := Lib.hid (by rw [take_snoc HY.out, List.foldl_append, HF.out]; simp [rstep, he])
            have HL2 : Hid ((out ++ [x]).length ≤ 2 * (j + 1)) := Lib.hid (by have := HL.out; simp; omega)
            clear he hge
            go_upto_region 6 with (fail)
            go_quiet (fail)
            generalize hW1 : wr.drewN _ = W1
            have FQ1 : Fr All wr W1 := by
              rw [← hW1]
              exact (Fr.refl _ _).drewN _
            have g0a := FQ1.cell (p := ⟨b, o + j * 2, none⟩) trivial g0
            have g1a := FQ1.cell (p := ⟨b, o + j * 2 + 1, none⟩) trivial g1
            have q0a := FQ1.cell (p := ⟨w.heap.size, 0, none⟩) trivial q0
            have q1a := FQ1.cell (p := ⟨w.heap.size, 1, none⟩) trivial q1
            clear hW1
            have FX := FQ1.alloc (.cells #[.int .i64 x.1, .slice xA xn xc] 122)
            have HO2 := HO.all FX
            have HS2 := Src.box (kBlk_mk (HX.out.all (HR.trans FQ1))) 122 1
            have hln : (out.length + [x].length) * 32 ≤ 140737488355328 := by simp only [List.length_cons, List.length_nil]; omega
            have hbs : W.heap.size ≤ (W1.alloc (.cells #[.int .i64 x.1, .slice xA xn xc] 122)).heap.size := Nat.le_trans hbse FX.size
            go_upto_region 9 with (at_builtin; refine wpList_app rfl rfl Tryd.underlying76 info_blk rfl (by decide) HO2 HS2 rfl rfl (fun b hb _ => ⟨hb, fun e => by have := own_lt HO2 b e.symm; have := hb.2; omega⟩) hln hbs ?_; intro v' w' h3 h4 h5)
            have F3 : Fr All W w' := (HR.trans FX).row h4.grown fun m hm => (own_lt HO m hm).1
            have F3a : Fr (fun x => x < W.heap.size) wr w' := (FX.mono fun _ _ => trivial).trans (h4.mono fun x hx e => by have := (own_lt HO x e.symm).1; omega)
            have hWw : w.heap.size < W.heap.size := blk_lt HB.out
            have g0c := F3a.cell (p := ⟨b, o + j * 2, none⟩) (show b < W.heap.size by omega) g0
            have g1c := F3a.cell (p := ⟨b, o + j * 2 + 1, none⟩) (show b < W.heap.size by omega) g1
            have q0c := F3a.cell (p := ⟨w.heap.size, 0, none⟩) hWw q0
            have F3b := Lib.hid F3a
            clear h5 HO2 HS2 hln hbs g0 g1 q0 q1 qz g0a g1a q0a q1a hWw F3a FX
            go_quiet (fail)
            generalize hW3 : w'.drewN _ = W3
            have FQ3 : Fr All w' W3 := by
              rw [← hW3]
              exact (Fr.refl _ _).drewN _
            clear hW3
            go_wp2_with fail
            go_roundw
            case rel => exact ⟨j + 1, out ++ [x], true, by omega, by go_num, rfl, HF2, HL2, h3.all FQ3, F3.trans FQ3⟩
            case measure => simp [intOf]; omega
          · have hb : (y.1 != x.1) = true := by simpa using he
            have HF2 : Hid ((l.take (j + 1)).foldl (rstep x) ([], false) = (out ++ [x] ++ [y], true)) := Lib.hid (by rw [take_snoc HY.out, List.foldl_append, HF.out]; simp [rstep, he, hge])
            have HL2 : Hid ((out ++ [x] ++ [y]).length ≤ 2 * (j + 1)) := Lib.hid (by have := HL.out; simp; omega)
            clear he hge
            go_upto_region 6 with (fail)
            go_quiet (fail)
            generalize hW1 : wr.drewN _ = W1
            have FQ1 : Fr All wr W1 := by
              rw [← hW1]
              exact (Fr.refl _ _).drewN _
            have g0a := FQ1.cell (p := ⟨b, o + j * 2, none⟩) trivial g0
            have g1a := FQ1.cell (p := ⟨b, o + j * 2 + 1, none⟩) trivial g1
            have q0a := FQ1.cell (p := ⟨w.heap.size, 0, none⟩) trivial q0
            have q1a := FQ1.cell (p := ⟨w.heap.size, 1, none⟩) trivial q1
            clear hW1
            have FX := FQ1.alloc (.cells #[.int .i64 x.1, .slice xA xn xc] 122)
            have HO2 := HO.all FX
            have HS2 := Src.box (kBlk_mk (HX.out.all (HR.trans FQ1))) 122 1
            have hln : (out.length + [x].length) * 32 ≤ 140737488355328 := by simp only [List.length_cons, List.length_nil]; omega
            have hbs : W.heap.size ≤ (W1.alloc (.cells #[.int .i64 x.1, .slice xA xn xc] 122)).heap.size := Nat.le_trans hbse FX.size
            go_upto_region 9 with (at_builtin; refine wpList_app rfl rfl Tryd.underlying76 info_blk rfl (by decide) HO2 HS2 rfl rfl (fun b hb _ => ⟨hb, fun e => by have := own_lt HO2 b e.symm; have := hb.2; omega⟩) hln hbs ?_; intro v' w' h3 h4 h5)
            have F3 : Fr All W w' := (HR.trans FX).row h4.grown fun m hm => (own_lt HO m hm).1
            have F3a : Fr (fun x => x < W.heap.size) wr w' := (FX.mono fun _ _ => trivial).trans (h4.mono fun x hx e => by have := (own_lt HO x e.symm).1; omega)
            have hWw : w.heap.size < W.heap.size := blk_lt HB.out
            have g0c := F3a.cell (p := ⟨b, o + j * 2, none⟩) (show b < W.heap.size by omega) g0
            have g1c := F3a.cell (p := ⟨b, o + j * 2 + 1, none⟩) (show b < W.heap.size by omega) g1
            have q0c := F3a.cell (p := ⟨w.heap.size, 0, none⟩) hWw q0
            have F3b := Lib.hid F3a
            clear h5 HO2 HS2 hln hbs g0 g1 q0 q1 qz g0a g1a q0a q1a hWw F3a FX
            go_quiet (fail)
            generalize hW3 : w'.drewN _ = W3
            have FQ3 : Fr All w' W3 := by
              rw [← hW3]
              exact (Fr.refl _ _).drewN _
            clear hW3
            have g0d := FQ3.cell (p := ⟨b, o + j * 2, none⟩) trivial g0c
            have g1d := FQ3.cell (p := ⟨b, o + j * 2 + 1, none⟩) trivial g1c
            have HT3 := (HT.out.move' F3b.out fun b hb _ => show b < W.heap.size by have := hb.2; omega).all FQ3
            have FY := FQ3.alloc (.cells #[.int .i64 y.1, .slice A1 n1 c1] 122)
            have HO3 := h3.all FY
            have HS3 := Src.box (kBlk_mk HT3) 122 1
            have hln3 : ((out ++ [x]).length + [y].length) * 32 ≤ 140737488355328 := by simp only [List.length_append, List.length_cons, List.length_nil]; omega
            have hbs3 : W.heap.size ≤ (W3.alloc (.cells #[.int .i64 y.1, .slice A1 n1 c1] 122)).heap.size := (F3.trans FY).size
            clear g0c g1c q0c
            go_wp2_with (at_builtin; refine wpList_app rfl rfl Tryd.underlying76 info_blk rfl (by decide) HO3 HS3 rfl rfl (fun b hb _ => ⟨hb, fun e => by have := own_lt HO3 b e.symm; have := hb.2; omega⟩) hln3 hbs3 ?_; intro v6 w6 h6 h7 h8)
            have F6 : Fr All W w6 := (F3.trans FY).row h7.grown fun m hm => (own_lt h3 m hm).1
            go_roundw
            case rel => exact ⟨j + 1, out ++ [x] ++ [y], true, by omega, by go_num, rfl, HF2, HL2, h6, F6⟩
            case measure => simp [intOf]; omega
        · have hd : decide (y.1 ≥ x.1) = false := decide_eq_false hge
          have hb : (y.1 != x.1) = true := by simp; omega
          have HF2 : Hid ((l.take (j + 1)).foldl (rstep x) ([], false) = (out ++ [y], false)) := Lib.hid (by
            have he : ¬ y.1 = x.1 := by omega
            rw [take_snoc HY.out, List.foldl_append, HF.out]
            simp [rstep, he, hge])
          have HL2 : Hid ((out ++ [y]).length ≤ 2 * (j + 1)) := Lib.hid (by have := HL.out; simp; omega)
          clear hge
          go_upto_region 6 with (fail)
          go_quiet (fail)
          generalize hW1 : wr.drewN _ = W1
          have FQ1 : Fr All wr W1 := by
            rw [← hW1]
            exact (Fr.refl _ _).drewN _
          have g0a := FQ1.cell (p := ⟨b, o + j * 2, none⟩) trivial g0
          have g1a := FQ1.cell (p := ⟨b, o + j * 2 + 1, none⟩) trivial g1
          have q0a := FQ1.cell (p := ⟨w.heap.size, 0, none⟩) trivial q0
          have q1a := FQ1.cell (p := ⟨w.heap.size, 1, none⟩) trivial q1
          clear hW1
          go_upto_region 9 with (fail)
          go_quiet (fail)
          generalize hW2 : W1.drewN _ = W2
          have FQ2 : Fr All wr W2 := by
            rw [← hW2]
            exact FQ1.drewN _
          have g0b := FQ2.cell (p := ⟨b, o + j * 2, none⟩) trivial g0
          have g1b := FQ2.cell (p := ⟨b, o + j * 2 + 1, none⟩) trivial g1
          clear hW2
          have FY := FQ2.alloc (.cells #[.int .i64 y.1, .slice A1 n1 c1] 122)
          have HO2 := HO.all FY
          have HS2 := Src.box (kBlk_mk (HT.out.all FQ2)) 122 1
          have hln : (out.length + [y].length) * 32 ≤ 140737488355328 := by simp only [List.length_cons, List.length_nil]; omega
          have hbs : W.heap.size ≤ (W2.alloc (.cells #[.int .i64 y.1, .slice A1 n1 c1] 122)).heap.size := Nat.le_trans hbse FY.size
          go_wp2_with (at_builtin; refine wpList_app rfl rfl Tryd.underlying76 info_blk rfl (by decide) HO2 HS2 rfl rfl (fun b hb _ => ⟨hb, fun e => by have := own_lt HO2 b e.symm; have := hb.2; omega⟩) hln hbs ?_; intro v' w' h3 h4 h5)
          have F3 : Fr All W w' := (HR.trans FY).row h4.grown fun m hm => (own_lt HO m hm).1
          go_roundw
          case rel => exact ⟨j + 1, out ++ [y], false, by omega, by go_num, rfl, HF2, HL2, h3, F3⟩
          case measure => simp [intOf]; omega
    · obtain rfl : j = n := by omega
      have hfold := HF.out
      rw [List.take_of_length_le (by rw [← En.out]; exact Nat.le_refl _)] at hfold
      have hfr := fold_rins x l []
      rw [hfold, List.nil_append] at hfr
      have HFR := Lib.hid hfr
      clear hfold hfr
      have hF0 := F0.size
      cases done with
      | true =>
        obtain rfl : out = rins x l := HFR.out
        go_wp2_with fail
        go_ret
        exact ⟨A', c', rfl, (HO.lower hF0).mono fun b hb _ => hb.1, F0.trans HR⟩
      | false =>
        have hout : out ++ [x] = rins x l := HFR.out
        have HOX := Lib.hid hout
        obtain ⟨q0, q1, qz⟩ := blk2 ((HR.block _ (blk_lt HB.out) trivial).trans HB.out)
        have FX := (Fr.refl All wr).alloc (.cells #[.int .i64 x.1, .slice xA xn xc] 122)
        have HO2 := HO.all FX
        have HS2 := Src.box (kBlk_mk (HX.out.all HR)) 122 1
        have hln : (out.length + [x].length) * 32 ≤ 140737488355328 := by have := HL.out; simp only [List.length_cons, List.length_nil]; omega
        have hbs : W.heap.size ≤ (wr.alloc (.cells #[.int .i64 x.1, .slice xA xn xc] 122)).heap.size := (HR.trans FX).size
        clear hout
        go_wp2_with (at_builtin; refine wpList_app rfl rfl Tryd.underlying76 info_blk rfl (by decide) HO2 HS2 rfl rfl (fun b hb _ => ⟨hb, fun e => by have := own_lt HO2 b e.symm; have := hb.2; omega⟩) hln hbs ?_; intro v' w' h3 h4 h5)
        have F3 : Fr All W w' := (HR.trans FX).row h4.grown fun m hm => (own_lt HO m hm).1
        rw [HOX.out] at h3
        obtain ⟨A5, c5, rfl⟩ := h3.length
        go_ret
        exact ⟨A5, c5, rfl, (h3.lower hF0).mono fun b hb _ => hb.1, F0.trans F3⟩
end Go.Proofs.YteikddopeplomaaDoor
