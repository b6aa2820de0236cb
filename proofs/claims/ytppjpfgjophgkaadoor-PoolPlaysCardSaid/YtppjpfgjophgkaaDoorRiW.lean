/- sextetref.Rising. -/
import Derived.Test.YtppjpfgjophgkaaDoorRefY
import Derived.Test.YtppjpfgjophgkaaDoorCutting
import Derived.Deep.RegionHeld3
import Derived.Deep.Cut
namespace Go.Proofs.YtppjpfgjophgkaaDoor
open Go.RowKit

theorem info_i64 : (Tryd.prog.info? 3).map (fun i => (i.zero, i.size, i.bytes)) = some (some (.int .i64 0), kInt.sz, 8) := by kernel_rfl

def insI (x : Int) : List Int → List Int
  | [] => [x]
  | y :: ys => if y < x then y :: insI x ys else if y = x then y :: ys else x :: y :: ys
def risingI (l : List Int) : List Int := l.foldl (fun out x => insI x out) []
theorem insI_mem {x k : Int} : ∀ {l : List Int}, k ∈ insI x l ↔ k = x ∨ k ∈ l
  | [] => by simp [insI]
  | y :: ys => by
    rw [insI]
    split
    · rw [List.mem_cons, insI_mem, List.mem_cons]
      constructor
      · rintro (h | h | h)
        · exact .inr (.inl h)
        · exact .inl h
        · exact .inr (.inr h)
      · rintro (h | h | h)
        · exact .inr (.inl h)
        · exact .inl h
        · exact .inr (.inr h)
    · split
      · rename_i h2
        rw [List.mem_cons]
        constructor
        · intro h
          exact .inr h
        · rintro (h | h)
          · exact .inl (h.trans h2.symm)
          · exact h
      · simp only [List.mem_cons]
theorem insI_rise {x : Int} : ∀ {l : List Int}, l.Pairwise (· < ·) → (insI x l).Pairwise (· < ·)
  | [], _ => by simp [insI]
  | y :: ys, h => by
    obtain ⟨h1, h2⟩ := List.pairwise_cons.1 h
    rw [insI]
    split
    · rename_i hy
      refine List.pairwise_cons.2 ⟨fun z hz => ?_, insI_rise h2⟩
      rcases insI_mem.1 hz with rfl | hz
      · exact hy
      · exact h1 z hz
    · split
      · exact h
      · rename_i hy hn
        refine List.pairwise_cons.2 ⟨fun z hz => ?_, h⟩
        rcases List.mem_cons.1 hz with rfl | hz
        · omega
        · have := h1 z hz
          omega
theorem insI_take {x : Int} : ∀ {l : List Int} {k : Nat}, (∀ i y, i < k → l[i]? = some y → y < x) → k ≤ l.length → insI x l = l.take k ++ insI x (l.drop k)
  | l, 0, _, _ => by simp
  | [], k + 1, _, h => by simp at h
  | y :: ys, k + 1, h, hk => by
    have hy := h 0 y (by omega) (by simp)
    rw [insI, if_pos hy, List.take_succ_cons, List.drop_succ_cons, List.cons_append]
    congr 1
    exact insI_take (fun i z hi hz => h (i + 1) z (by omega) (by simpa using hz)) (by simpa using hk)
theorem insI_len (x : Int) : ∀ l : List Int, (insI x l).length ≤ l.length + 1
  | [] => by simp [insI]
  | y :: ys => by
    rw [insI]
    split
    · have := insI_len x ys
      simp only [List.length_cons]
      omega
    · split <;> simp
theorem rising_mem {k : Int} : ∀ {l o : List Int}, k ∈ l.foldl (fun out x => insI x out) o ↔ k ∈ o ∨ k ∈ l
  | [], o => by simp
  | x :: xs, o => by
    rw [List.foldl_cons, rising_mem, insI_mem, List.mem_cons]
    constructor
    · rintro ((h | h) | h)
      · exact .inr (.inl h)
      · exact .inl h
      · exact .inr (.inr h)
    · rintro (h | h | h)
      · exact .inl (.inr h)
      · exact .inl (.inl h)
      · exact .inr h
theorem rising_rise : ∀ {l o : List Int}, o.Pairwise (· < ·) → (l.foldl (fun out x => insI x out) o).Pairwise (· < ·)
  | [], _, h => h
  | x :: xs, _, h => rising_rise (l := xs) (insI_rise h)
theorem rising_len : ∀ (l o : List Int), (l.foldl (fun out x => insI x out) o).length ≤ o.length + l.length
  | [], _ => Nat.le_refl _
  | x :: xs, o => by
    have h1 := rising_len xs (insI x o)
    have h2 := insI_len x o
    rw [List.foldl_cons, List.length_cons]
    omega

set_option hygiene false in
set_option maxRecDepth 100000 in
set_option maxHeartbeats 4000000 in
theorem rising_call {w : World} {A : Option Addr} {n c : Nat} {l : List Int} {S : Nat → Prop} (h : Sl kInt S w (.slice A n c) l) (hn : n ≤ 10000) :
    Calls Tryd.prog 19 #[.slice A n c] w fun e w' => ∃ v, e = .returned v ∧ Own kInt 3 w.heap.size All w' v (risingI l) ∧ Fr All w w' := by
  have en := h.len_eq
  have En := Lib.hid en
  have HL := Lib.hid h
  obtain ⟨W, hW⟩ : ∃ W, W = w := ⟨_, rfl⟩
  clear en
  go_enter Tryd.func19, Tryd.ntmps19
  go_wp2_with fail
  have O0 : Own kInt 3 w.heap.size All w (.slice none 0 0) [] := Own.nil_ _ _ _ _ _
  subst hW
  go_loopw [3, 4] (fun u i wr => ∃ j : Nat, j ≤ n ∧ i = .int .i64 j ∧ Own kInt 3 W.heap.size All wr u ((l.take j).foldl (fun out x => insI x out) []) ∧ Fr All W wr) (fun _ i _ => n - (intOf i).toNat)
  case atStart => exact ⟨0, Nat.zero_le _, rfl, O0, Fr.refl _ _⟩
  case round =>
    obtain ⟨j, hj, rfl, HO, HF⟩ := hrel
    have hol := rising_len (l.take j) []
    rw [List.length_take] at hol
    obtain ⟨o, ho⟩ : ∃ o, (l.take j).foldl (fun out x => insI x out) [] = o := ⟨_, rfl⟩
    rw [ho] at HO hol
    obtain ⟨A', c', rfl⟩ := HO.length
    obtain ⟨m, hm⟩ : ∃ m, o.length = m := ⟨_, rfl⟩
    rw [hm] at HO hol ⊢
    have hm2 : m ≤ 10000 := by simp at hol; omega
    have HM := Lib.hid hm
    have HOO := Lib.hid ho
    have HOW := Lib.hid HO
    have HFW := Lib.hid HF
    clear hol ho hm HO HF
    by_cases hlt : j < n
    · obtain ⟨x, hx, _⟩ := get_of (l := l) (k := j) (by rw [← En.out]; exact hlt)
      obtain ⟨b, o1, rfl, cx⟩ := (HL.out.all HFW.out).at1 hx
      have b0 : (0 : Int) ≤ (j : Int) := by omega
      have b1 : (j : Int) < (n : Int) := by omega
      have HX := Lib.hid hx
      clear hx
      go_wp2_with fail
      have F0 : Hid (Fr All wr wr) := Lib.hid (Fr.refl _ _)
      have P0 : Hid (∀ (i : Nat) y, i < 0 → o[i]? = some y → y < x) := Lib.hid (fun i y hi => by omega)
      go_loopw [5] (fun kx wr2 => ∃ k : Nat, k ≤ m ∧ kx = .int .i64 k ∧ Hid (∀ (i : Nat) y, i < k → o[i]? = some y → y < x) ∧ Hid (Fr All wr wr2)) (fun kx _ => m - (intOf kx).toNat)
      case atStart => exact ⟨0, Nat.zero_le _, rfl, P0, F0⟩
      case round =>
        obtain ⟨k, hk, rfl, HP, HF2⟩ := hrel
        have cx2 := HF2.out.cell (p := ⟨b, o1 + j, none⟩) trivial cx
        have d0 : (0 : Int) ≤ (k : Int) := by omega
        by_cases hkm : k < m
        · obtain ⟨y, hy, _⟩ := get_of (l := o) (k := k) (by rw [HM.out]; exact hkm)
          have d1 : (k : Int) < (m : Int) := by omega
          obtain ⟨b2, o2, hA2, cy⟩ := (HOW.out.all HF2.out).sl.at1 hy
          subst hA2
          have HY := Lib.hid hy
          clear hy
          cases hyx : decide (y < x) with
          | true =>
            go_upto_region 6 with (fail)
            go_quiet (fail)
            generalize hW1 : wr.drewN _ = W1
            have F1 : Fr All wr W1 := by
              rw [← hW1]
              exact (Fr.refl _ _).drewN _
            have HF1 := Lib.hid (HF2.out.trans F1)
            have HP1 : Hid (∀ (i : Nat) z, i < k + 1 → o[i]? = some z → z < x) := Lib.hid (fun i z hi hz => by
              by_cases hik : i = k
              · subst hik
                have := HY.out.symm.trans hz
                obtain rfl := Option.some.inj this
                exact of_decide_eq_true hyx
              · exact HP.out i z (by omega) hz)
            clear hW1 cx2 cy F1
            go_wp2_with fail
            go_roundw
            case rel => exact ⟨k + 1, by omega, by go_num, HP1, HF1⟩
            case measure => simp [intOf]; omega
          | false =>
            go_upto_region 6 with (fail)
            go_quiet (fail)
            generalize hW1 : wr.drewN _ = W1
            have F1 : Fr All wr W1 := by
              rw [← hW1]
              exact (Fr.refl _ _).drewN _
            have cx3 := F1.cell (p := ⟨b, o1 + j, none⟩) trivial cx2
            have cy3 := F1.cell (p := ⟨b2, o2 + k, none⟩) trivial cy
            have HF1 := Lib.hid (HF2.out.trans F1)
            clear hW1 cx2 cy F1
            go_upto_region 8 with (fail)
            cases hye : (y == x) with
            | true =>
              go_quiet (fail)
              generalize hW2 : W1.drewN _ = W2
              have F2 : Fr All W1 W2 := by
                rw [← hW2]
                exact (Fr.refl _ _).drewN _
              have hsame : insI x o = o := by
                have hd : o.drop k = y :: o.drop (k + 1) := by
                  have h1 := List.getElem?_eq_some_iff.1 HY.out
                  rw [List.drop_eq_getElem_cons h1.1, h1.2]
                rw [insI_take HP.out (by rw [HM.out]; exact hk), hd, insI, if_neg (by have := of_decide_eq_false hyx; omega), if_pos (eq_of_beq hye), ← hd, List.take_append_drop]
              have HO2 : Hid (Own kInt 3 W.heap.size All W2 (.slice (some ⟨b2, o2, none⟩) m c') ((l.take (j + 1)).foldl (fun out x => insI x out) [])) := Lib.hid (by
                rw [take_snoc HX.out, List.foldl_append, HOO.out]
                show Own _ _ _ _ _ _ (insI x o)
                rw [hsame]
                exact (HOW.out.all HF1.out).all F2)
              have HF3 := Lib.hid ((HFW.out.trans HF1.out).trans F2)
              clear hW2 cx3 cy3 F2 hsame
              go_wp2_with fail
              go_roundw
              case rel => exact ⟨j + 1, by omega, by go_num, HO2.out, HF3.out⟩
              case measure => simp [intOf]; omega
            | false =>
              go_quiet (fail)
              generalize hW2 : W1.drewN _ = W2
              have F2 : Fr All W1 W2 := by
                rw [← hW2]
                exact (Fr.refl _ _).drewN _
              have HF3 := Lib.hid (HF1.out.trans F2)
              have hins : insI x o = o.take k ++ x :: o.drop k := by
                have hd : o.drop k = y :: o.drop (k + 1) := by
                  have h1 := List.getElem?_eq_some_iff.1 HY.out
                  rw [List.drop_eq_getElem_cons h1.1, h1.2]
                rw [insI_take HP.out (by rw [HM.out]; exact hk), hd, insI, if_neg (by have := of_decide_eq_false hyx; omega), if_neg (ne_of_beq_false hye)]
              have HI := Lib.hid hins
              clear hW2 cx3 cy3 F2 hins
              go_upto_region 9 with (fail)
              have HO2 := Lib.hid (HOW.out.all HF3.out)
              obtain ⟨w4, hmk, o4, f4⟩ := run_mk (P := Tryd.prog) kInt All W2.drew W.heap.size 27 3 (.int .i64 0) 8 Tryd.underlying27 info_i64 (m + 1) (by omega) (by simp only [maxLen]; omega) (show W.heap.size ≤ W2.heap.size from (HFW.out.trans HF3.out).size)
              rw [show (((m + 1 : Nat)) : Int) = (m : Int) + 1 by omega] at hmk
              have hwm : IntKind.i64.wrap ((m : Int) + 1) = (m : Int) + 1 := IntWalk.i64_in _ (by omega)
              have F4 : Fr All W2 w4 := (Fr.refl All W2).drew.then_all f4
              have hsr : Src kInt Nowhere w4 (.slice (some ⟨b2, o2, none⟩) k c') (o.take k) := (((HO2.out.all F4).sl.take hk).src).any
              have hmc : m ≤ c' := by
                obtain ⟨_, _, _, he5, hl5, h5, _⟩ := HO2.out.sl.open_
                injection he5 with _ h6 h7
                omega
              have hkc : (k : Int) ≤ (c' : Int) := by omega
              have hkc2 : k ≤ c' := by omega
              have hlk : (([] : List Int).length + (o.take k).length) * 8 ≤ 140737488355328 := by rw [List.length_nil, List.length_take]; omega
              have hb4 : W.heap.size ≤ w4.heap.size := Nat.le_trans (HFW.out.trans HF3.out).size F4.size
              go_region_held3 (fun _ => True) (trivial)
                (first
                  | (
                      with_reducible refine step_of ?_ ?_
                      · rfl
                      refine wp_app rfl Tryd.underlying27 info_i64 rfl (by decide) o4 hsr rfl rfl (fun b hb _ => hb.elim) hlk hb4 ?_
                      intro v5 w5 o5 f5 h5))
              have F5 : Fr All W2 w5 := F4.row f5.grown fun q hq => by
                have : W2.heap.size = q := Option.some.inj hq
                omega
              rw [List.nil_append] at o5
              have hv5 : ∀ q, v5.ownBlock = some q → W2.heap.size ≤ q := fun q hq => by
                rcases h5 with h5 | h5
                · have : W2.heap.size = q := Option.some.inj (h5.symm.trans hq)
                  omega
                · have : w4.heap.size = q := Option.some.inj (h5.symm.trans hq)
                  have := F4.size
                  omega
              have cx5 := (HF3.out.trans F5).cell (p := ⟨b, o1 + j, none⟩) trivial cx
              have O5 := Lib.hid o5
              have FF5 := Lib.hid F5
              have FB := (Fr.refl All w5).alloc (.cells #[.int .i64 x] 3)
              have HO10 := O5.out.all FB
              have HY10 : Src kInt Nowhere (w5.alloc (.cells #[.int .i64 x] 3)) (.slice (some ⟨w5.heap.size, 0, none⟩) 1 1) [x] := Src.box (d := kInt) (x := x) (cs := [.int .i64 x]) rfl _ 1
              have hl10 : ((o.take k).length + [x].length) * 8 ≤ 140737488355328 := by simp only [List.length_take, List.length_cons, List.length_nil]; omega
              have hb10 : W.heap.size ≤ (w5.alloc (.cells #[.int .i64 x] 3)).heap.size := Nat.le_trans hb4 (Nat.le_trans f5.size FB.size)
              clear hmk o4 f4 F4 hsr f5 o5 F5 h5 hwm hlk hb4
              go_upto_region 11 with (at_builtin; refine wpList_app rfl rfl Tryd.underlying27 info_i64 rfl (by decide) HO10 HY10 rfl rfl (fun b hb _ => hb.elim) hl10 hb10 ?_; intro v6 w6 o6 f6 h6)
              have F6 : Fr All W w6 := (((HFW.out.trans HF3.out).trans FF5.out).trans FB).row f6.grown fun q hq => (own_lt O5.out q hq).1
              have FR6 : Fr All W2 w6 := (FF5.out.trans FB).row f6.grown hv5
              have O6 := Lib.hid o6
              have FF6 := Lib.hid F6
              have hSd := (HO2.out.all FR6).sl.drop hk
              have hl11 : ((o.take k ++ [x]).length + (o.drop k).length) * 8 ≤ 140737488355328 := by
                have := HM.out
                simp only [List.length_append, List.length_take, List.length_drop, List.length_cons, List.length_nil]
                omega
              have hb11 : W.heap.size ≤ w6.heap.size := F6.size
              clear HO10 HY10 hl10 hb10 o6 f6 h6 F6 FB cx5 FR6 hv5
              have HY11 : Src kInt Nowhere w6 (.slice (some ⟨b2, o2 + k, none⟩) (m - k) (c' - k)) (o.drop k) := by
                rw [if_neg (by omega), Option.map_some, add_plain, show k * kInt.sz = k from Nat.mul_one k] at hSd
                exact hSd.src.any
              clear hSd
              go_wp2_with (at_builtin; refine wpList_app rfl rfl Tryd.underlying27 info_i64 rfl (by decide) O6.out HY11 rfl rfl (fun b hb _ => hb.elim) hl11 hb11 ?_; intro v7 w7 o7 f7 h7)
              have F7 : Fr All W w7 := FF6.out.row f7.grown fun q hq => (own_lt O6.out q hq).1
              have hfin : Own kInt 3 W.heap.size All w7 v7 ((l.take (j + 1)).foldl (fun out x => insI x out) []) := by
                rw [take_snoc HX.out, List.foldl_append, HOO.out]
                show Own _ _ _ _ _ _ (insI x o)
                rw [HI.out]
                simpa using o7
              go_roundw
              case rel => exact ⟨j + 1, by omega, by go_num, hfin, F7⟩
              case measure => simp [intOf]; omega
        · obtain rfl : m = k := by omega
          have d1 : decide ((m : Int) < (m : Int)) = false := decide_eq_false (by omega)
          have hins : insI x o = o.take m ++ x :: o.drop m := by
            rw [insI_take HP.out (by rw [HM.out]; exact hk), List.drop_of_length_le (by rw [HM.out]; exact Nat.le_refl _)]
            rfl
          have HI := Lib.hid hins
          have hA : (A' = none ∧ m = 0 ∧ c' = 0) ∨ ∃ g, A' = some ⟨g, 0, none⟩ := by
            obtain ⟨cs, ho, _⟩ := HOW.out
            rcases ho.2 with ⟨hv, h0⟩ | ⟨g, cap, cur, hv, _⟩
            · injection hv with h1 h2 h3
              exact .inl ⟨h1, h2, h3⟩
            · injection hv with h1 h2 h3
              exact .inr ⟨g, h1⟩
          clear hins
          rcases hA with ⟨rfl, hm0, rfl⟩ | ⟨g, rfl⟩
          · subst hm0
            go_upto_region 6 with (fail)
            go_quiet (fail)
            generalize hW1 : wr.drewN _ = W1
            have F1 : Fr All wr W1 := by
              rw [← hW1]
              exact (Fr.refl _ _).drewN _
            have HF1 := Lib.hid (HF2.out.trans F1)
            clear hW1 cx2 F1
            go_upto_region 8 with (fail)
            go_quiet (fail)
            generalize hW2 : W1.drewN _ = W2
            have F2 : Fr All W1 W2 := by
              rw [← hW2]
              exact (Fr.refl _ _).drewN _
            have HF3 := Lib.hid (HF1.out.trans F2)
            clear hW2 F2
            go_upto_region 9 with (fail)
            have hkm9 : 0 ≤ 0 := Nat.le_refl _
            have HO2 := Lib.hid (HOW.out.all HF3.out)
            obtain ⟨w4, hmk, o4, f4⟩ := run_mk (P := Tryd.prog) kInt All W2.drew W.heap.size 27 3 (.int .i64 0) 8 Tryd.underlying27 info_i64 (0 + 1) (by omega) (by simp only [maxLen]; omega) (show W.heap.size ≤ W2.heap.size from (HFW.out.trans HF3.out).size)
            rw [show (((0 + 1 : Nat)) : Int) = 1 from rfl] at hmk
            have hwm : IntKind.i64.wrap (1 : Int) = 1 := IntWalk.i64_in _ (by omega)
            have F4 : Fr All W2 w4 := (Fr.refl All W2).drew.then_all f4
            have hsr : Src kInt Nowhere w4 (.slice none 0 0) (o.take 0) := (((HO2.out.all F4).sl.take hkm9).src).any
            have hmc : 0 ≤ 0 := Nat.le_refl _
            have hkc : (0 : Int) ≤ (0 : Int) := by omega
            have hkc2 : 0 ≤ 0 := by omega
            have hlk : (([] : List Int).length + (o.take 0).length) * 8 ≤ 140737488355328 := by rw [List.length_nil, List.length_take]; omega
            have hb4 : W.heap.size ≤ w4.heap.size := Nat.le_trans (HFW.out.trans HF3.out).size F4.size
            go_region_held3 (fun _ => True) (trivial)
              (first
                | (
                    with_reducible refine step_of ?_ ?_
                    · rfl
                    refine wp_app rfl Tryd.underlying27 info_i64 rfl (by decide) o4 hsr rfl rfl (fun b hb _ => hb.elim) hlk hb4 ?_
                    intro v5 w5 o5 f5 h5))
            have F5 : Fr All W2 w5 := F4.row f5.grown fun q hq => by
              have : W2.heap.size = q := Option.some.inj hq
              omega
            rw [List.nil_append] at o5
            have hv5 : ∀ q, v5.ownBlock = some q → W2.heap.size ≤ q := fun q hq => by
              rcases h5 with h5 | h5
              · have : W2.heap.size = q := Option.some.inj (h5.symm.trans hq)
                omega
              · have : w4.heap.size = q := Option.some.inj (h5.symm.trans hq)
                have := F4.size
                omega
            have cx5 := (HF3.out.trans F5).cell (p := ⟨b, o1 + j, none⟩) trivial cx
            have O5 := Lib.hid o5
            have FF5 := Lib.hid F5
            have FB := (Fr.refl All w5).alloc (.cells #[.int .i64 x] 3)
            have HO10 := O5.out.all FB
            have HY10 : Src kInt Nowhere (w5.alloc (.cells #[.int .i64 x] 3)) (.slice (some ⟨w5.heap.size, 0, none⟩) 1 1) [x] := Src.box (d := kInt) (x := x) (cs := [.int .i64 x]) rfl _ 1
            have hl10 : ((o.take 0).length + [x].length) * 8 ≤ 140737488355328 := by simp only [List.length_take, List.length_cons, List.length_nil]; omega
            have hb10 : W.heap.size ≤ (w5.alloc (.cells #[.int .i64 x] 3)).heap.size := Nat.le_trans hb4 (Nat.le_trans f5.size FB.size)
            clear hmk o4 f4 F4 hsr f5 o5 F5 h5 hwm hlk hb4
            go_upto_region 11 with (at_builtin; refine wpList_app rfl rfl Tryd.underlying27 info_i64 rfl (by decide) HO10 HY10 rfl rfl (fun b hb _ => hb.elim) hl10 hb10 ?_; intro v6 w6 o6 f6 h6)
            have F6 : Fr All W w6 := (((HFW.out.trans HF3.out).trans FF5.out).trans FB).row f6.grown fun q hq => (own_lt O5.out q hq).1
            have FR6 : Fr All W2 w6 := (FF5.out.trans FB).row f6.grown hv5
            have O6 := Lib.hid o6
            have FF6 := Lib.hid F6
            have hSd := (HO2.out.all FR6).sl.drop hkm9
            have hl11 : ((o.take 0 ++ [x]).length + (o.drop 0).length) * 8 ≤ 140737488355328 := by
              have := HM.out
              simp only [List.length_append, List.length_take, List.length_drop, List.length_cons, List.length_nil]
              omega
            have hb11 : W.heap.size ≤ w6.heap.size := F6.size
            clear HO10 HY10 hl10 hb10 o6 f6 h6 F6 FB cx5 FR6 hv5
            have HY11 : Src kInt Nowhere w6 (.slice none 0 0) (o.drop 0) := by
              rw [if_pos rfl] at hSd
              exact hSd.src.any
            clear hSd
            go_wp2_with (at_builtin; refine wpList_app rfl rfl Tryd.underlying27 info_i64 rfl (by decide) O6.out HY11 rfl rfl (fun b hb _ => hb.elim) hl11 hb11 ?_; intro v7 w7 o7 f7 h7)
            have F7 : Fr All W w7 := FF6.out.row f7.grown fun q hq => (own_lt O6.out q hq).1
            have hfin : Own kInt 3 W.heap.size All w7 v7 ((l.take (j + 1)).foldl (fun out x => insI x out) []) := by
              rw [take_snoc HX.out, List.foldl_append, HOO.out]
              show Own _ _ _ _ _ _ (insI x o)
              rw [HI.out]
              simpa using o7
            go_roundw
            case rel => exact ⟨j + 1, by omega, by go_num, hfin, F7⟩
            case measure => simp [intOf]; omega
          · by_cases hck : m = c'
            · subst hck
              go_upto_region 6 with (fail)
              go_quiet (fail)
              generalize hW1 : wr.drewN _ = W1
              have F1 : Fr All wr W1 := by
                rw [← hW1]
                exact (Fr.refl _ _).drewN _
              have HF1 := Lib.hid (HF2.out.trans F1)
              clear hW1 cx2 F1
              go_upto_region 8 with (fail)
              go_quiet (fail)
              generalize hW2 : W1.drewN _ = W2
              have F2 : Fr All W1 W2 := by
                rw [← hW2]
                exact (Fr.refl _ _).drewN _
              have HF3 := Lib.hid (HF1.out.trans F2)
              clear hW2 F2
              go_upto_region 9 with (fail)
              have hkm9 : m ≤ m := Nat.le_refl _
              have HO2 := Lib.hid (HOW.out.all HF3.out)
              obtain ⟨w4, hmk, o4, f4⟩ := run_mk (P := Tryd.prog) kInt All W2.drew W.heap.size 27 3 (.int .i64 0) 8 Tryd.underlying27 info_i64 (m + 1) (by omega) (by simp only [maxLen]; omega) (show W.heap.size ≤ W2.heap.size from (HFW.out.trans HF3.out).size)
              rw [show (((m + 1 : Nat)) : Int) = (m : Int) + 1 by omega] at hmk
              have hwm : IntKind.i64.wrap ((m : Int) + 1) = (m : Int) + 1 := IntWalk.i64_in _ (by omega)
              have F4 : Fr All W2 w4 := (Fr.refl All W2).drew.then_all f4
              have hsr : Src kInt Nowhere w4 (.slice (some ⟨g, 0, none⟩) m m) (o.take m) := (((HO2.out.all F4).sl.take hkm9).src).any
              have hmc : m ≤ m := Nat.le_refl _
              have hkc : (m : Int) ≤ (m : Int) := by omega
              have hkc2 : m ≤ m := by omega
              have hlk : (([] : List Int).length + (o.take m).length) * 8 ≤ 140737488355328 := by rw [List.length_nil, List.length_take]; omega
              have hb4 : W.heap.size ≤ w4.heap.size := Nat.le_trans (HFW.out.trans HF3.out).size F4.size
              go_region_held3 (fun _ => True) (trivial)
                (first
                  | (
                      with_reducible refine step_of ?_ ?_
                      · rfl
                      refine wp_app rfl Tryd.underlying27 info_i64 rfl (by decide) o4 hsr rfl rfl (fun b hb _ => hb.elim) hlk hb4 ?_
                      intro v5 w5 o5 f5 h5))
              have F5 : Fr All W2 w5 := F4.row f5.grown fun q hq => by
                have : W2.heap.size = q := Option.some.inj hq
                omega
              rw [List.nil_append] at o5
              have hv5 : ∀ q, v5.ownBlock = some q → W2.heap.size ≤ q := fun q hq => by
                rcases h5 with h5 | h5
                · have : W2.heap.size = q := Option.some.inj (h5.symm.trans hq)
                  omega
                · have : w4.heap.size = q := Option.some.inj (h5.symm.trans hq)
                  have := F4.size
                  omega
              have cx5 := (HF3.out.trans F5).cell (p := ⟨b, o1 + j, none⟩) trivial cx
              have O5 := Lib.hid o5
              have FF5 := Lib.hid F5
              have FB := (Fr.refl All w5).alloc (.cells #[.int .i64 x] 3)
              have HO10 := O5.out.all FB
              have HY10 : Src kInt Nowhere (w5.alloc (.cells #[.int .i64 x] 3)) (.slice (some ⟨w5.heap.size, 0, none⟩) 1 1) [x] := Src.box (d := kInt) (x := x) (cs := [.int .i64 x]) rfl _ 1
              have hl10 : ((o.take m).length + [x].length) * 8 ≤ 140737488355328 := by simp only [List.length_take, List.length_cons, List.length_nil]; omega
              have hb10 : W.heap.size ≤ (w5.alloc (.cells #[.int .i64 x] 3)).heap.size := Nat.le_trans hb4 (Nat.le_trans f5.size FB.size)
              clear hmk o4 f4 F4 hsr f5 o5 F5 h5 hwm hlk hb4
              go_upto_region 11 with (at_builtin; refine wpList_app rfl rfl Tryd.underlying27 info_i64 rfl (by decide) HO10 HY10 rfl rfl (fun b hb _ => hb.elim) hl10 hb10 ?_; intro v6 w6 o6 f6 h6)
              have F6 : Fr All W w6 := (((HFW.out.trans HF3.out).trans FF5.out).trans FB).row f6.grown fun q hq => (own_lt O5.out q hq).1
              have FR6 : Fr All W2 w6 := (FF5.out.trans FB).row f6.grown hv5
              have O6 := Lib.hid o6
              have FF6 := Lib.hid F6
              have hSd := (HO2.out.all FR6).sl.drop hkm9
              have hl11 : ((o.take m ++ [x]).length + (o.drop m).length) * 8 ≤ 140737488355328 := by
                have := HM.out
                simp only [List.length_append, List.length_take, List.length_drop, List.length_cons, List.length_nil]
                omega
              have hb11 : W.heap.size ≤ w6.heap.size := F6.size
              clear HO10 HY10 hl10 hb10 o6 f6 h6 F6 FB cx5 FR6 hv5
              have HY11 : Src kInt Nowhere w6 (.slice (some ⟨g, 0, none⟩) 0 0) (o.drop m) := by
                rw [if_pos rfl, Nat.sub_self] at hSd
                exact hSd.src.any
              clear hSd
              go_wp2_with (at_builtin; refine wpList_app rfl rfl Tryd.underlying27 info_i64 rfl (by decide) O6.out HY11 rfl rfl (fun b hb _ => hb.elim) hl11 hb11 ?_; intro v7 w7 o7 f7 h7)
              have F7 : Fr All W w7 := FF6.out.row f7.grown fun q hq => (own_lt O6.out q hq).1
              have hfin : Own kInt 3 W.heap.size All w7 v7 ((l.take (j + 1)).foldl (fun out x => insI x out) []) := by
                rw [take_snoc HX.out, List.foldl_append, HOO.out]
                show Own _ _ _ _ _ _ (insI x o)
                rw [HI.out]
                simpa using o7
              go_roundw
              case rel => exact ⟨j + 1, by omega, by go_num, hfin, F7⟩
              case measure => simp [intOf]; omega
            · go_upto_region 6 with (fail)
              go_quiet (fail)
              generalize hW1 : wr.drewN _ = W1
              have F1 : Fr All wr W1 := by
                rw [← hW1]
                exact (Fr.refl _ _).drewN _
              have HF1 := Lib.hid (HF2.out.trans F1)
              clear hW1 cx2 F1
              go_upto_region 8 with (fail)
              go_quiet (fail)
              generalize hW2 : W1.drewN _ = W2
              have F2 : Fr All W1 W2 := by
                rw [← hW2]
                exact (Fr.refl _ _).drewN _
              have HF3 := Lib.hid (HF1.out.trans F2)
              clear hW2 F2
              go_upto_region 9 with (fail)
              have hkm9 : m ≤ m := Nat.le_refl _
              have HO2 := Lib.hid (HOW.out.all HF3.out)
              obtain ⟨w4, hmk, o4, f4⟩ := run_mk (P := Tryd.prog) kInt All W2.drew W.heap.size 27 3 (.int .i64 0) 8 Tryd.underlying27 info_i64 (m + 1) (by omega) (by simp only [maxLen]; omega) (show W.heap.size ≤ W2.heap.size from (HFW.out.trans HF3.out).size)
              rw [show (((m + 1 : Nat)) : Int) = (m : Int) + 1 by omega] at hmk
              have hwm : IntKind.i64.wrap ((m : Int) + 1) = (m : Int) + 1 := IntWalk.i64_in _ (by omega)
              have F4 : Fr All W2 w4 := (Fr.refl All W2).drew.then_all f4
              have hsr : Src kInt Nowhere w4 (.slice (some ⟨g, 0, none⟩) m c') (o.take m) := (((HO2.out.all F4).sl.take hkm9).src).any
              have hmc : m ≤ c' := by
                obtain ⟨_, _, _, he5, hl5, h5, _⟩ := HO2.out.sl.open_
                injection he5 with _ h6 h7
                omega
              have hkc : (m : Int) ≤ (c' : Int) := by omega
              have hkc2 : m ≤ c' := by omega
              have hlk : (([] : List Int).length + (o.take m).length) * 8 ≤ 140737488355328 := by rw [List.length_nil, List.length_take]; omega
              have hb4 : W.heap.size ≤ w4.heap.size := Nat.le_trans (HFW.out.trans HF3.out).size F4.size
              go_region_held3 (fun _ => True) (trivial)
                (first
                  | (
                      with_reducible refine step_of ?_ ?_
                      · rfl
                      refine wp_app rfl Tryd.underlying27 info_i64 rfl (by decide) o4 hsr rfl rfl (fun b hb _ => hb.elim) hlk hb4 ?_
                      intro v5 w5 o5 f5 h5))
              have F5 : Fr All W2 w5 := F4.row f5.grown fun q hq => by
                have : W2.heap.size = q := Option.some.inj hq
                omega
              rw [List.nil_append] at o5
              have hv5 : ∀ q, v5.ownBlock = some q → W2.heap.size ≤ q := fun q hq => by
                rcases h5 with h5 | h5
                · have : W2.heap.size = q := Option.some.inj (h5.symm.trans hq)
                  omega
                · have : w4.heap.size = q := Option.some.inj (h5.symm.trans hq)
                  have := F4.size
                  omega
              have cx5 := (HF3.out.trans F5).cell (p := ⟨b, o1 + j, none⟩) trivial cx
              have O5 := Lib.hid o5
              have FF5 := Lib.hid F5
              have FB := (Fr.refl All w5).alloc (.cells #[.int .i64 x] 3)
              have HO10 := O5.out.all FB
              have HY10 : Src kInt Nowhere (w5.alloc (.cells #[.int .i64 x] 3)) (.slice (some ⟨w5.heap.size, 0, none⟩) 1 1) [x] := Src.box (d := kInt) (x := x) (cs := [.int .i64 x]) rfl _ 1
              have hl10 : ((o.take m).length + [x].length) * 8 ≤ 140737488355328 := by simp only [List.length_take, List.length_cons, List.length_nil]; omega
              have hb10 : W.heap.size ≤ (w5.alloc (.cells #[.int .i64 x] 3)).heap.size := Nat.le_trans hb4 (Nat.le_trans f5.size FB.size)
              clear hmk o4 f4 F4 hsr f5 o5 F5 h5 hwm hlk hb4
              go_upto_region 11 with (at_builtin; refine wpList_app rfl rfl Tryd.underlying27 info_i64 rfl (by decide) HO10 HY10 rfl rfl (fun b hb _ => hb.elim) hl10 hb10 ?_; intro v6 w6 o6 f6 h6)
              have F6 : Fr All W w6 := (((HFW.out.trans HF3.out).trans FF5.out).trans FB).row f6.grown fun q hq => (own_lt O5.out q hq).1
              have FR6 : Fr All W2 w6 := (FF5.out.trans FB).row f6.grown hv5
              have O6 := Lib.hid o6
              have FF6 := Lib.hid F6
              have hSd := (HO2.out.all FR6).sl.drop hkm9
              have hl11 : ((o.take m ++ [x]).length + (o.drop m).length) * 8 ≤ 140737488355328 := by
                have := HM.out
                simp only [List.length_append, List.length_take, List.length_drop, List.length_cons, List.length_nil]
                omega
              have hb11 : W.heap.size ≤ w6.heap.size := F6.size
              clear HO10 HY10 hl10 hb10 o6 f6 h6 F6 FB cx5 FR6 hv5
              have HY11 : Src kInt Nowhere w6 (.slice (some ⟨g, m, none⟩) 0 (c' - m)) (o.drop m) := by
                rw [if_neg (Ne.symm hck), Option.map_some, add_plain, show m * kInt.sz = m from Nat.mul_one m, Nat.zero_add, Nat.sub_self] at hSd
                exact hSd.src.any
              clear hSd
              go_wp2_with (at_builtin; refine wpList_app rfl rfl Tryd.underlying27 info_i64 rfl (by decide) O6.out HY11 rfl rfl (fun b hb _ => hb.elim) hl11 hb11 ?_; intro v7 w7 o7 f7 h7)
              have F7 : Fr All W w7 := FF6.out.row f7.grown fun q hq => (own_lt O6.out q hq).1
              have hfin : Own kInt 3 W.heap.size All w7 v7 ((l.take (j + 1)).foldl (fun out x => insI x out) []) := by
                rw [take_snoc HX.out, List.foldl_append, HOO.out]
                show Own _ _ _ _ _ _ (insI x o)
                rw [HI.out]
                simpa using o7
              go_roundw
              case rel => exact ⟨j + 1, by omega, by go_num, hfin, F7⟩
              case measure => simp [intOf]; omega
    · obtain rfl : j = n := by omega
      have hr : o = risingI l := by rw [← HOO.out, List.take_of_length_le (by rw [← En.out]; exact Nat.le_refl _)]; rfl
      have HR := Lib.hid hr
      clear hr
      go_wp2_with fail
      go_ret
      exact ⟨_, rfl, by rw [← HR.out]; exact HOW.out, HFW.out⟩
end Go.Proofs.YtppjpfgjophgkaaDoor
