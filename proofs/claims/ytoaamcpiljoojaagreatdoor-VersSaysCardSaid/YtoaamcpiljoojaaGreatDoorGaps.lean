/- The log's Gaps. -/
import Derived.Test.YtoaamcpiljoojaaGreatDoorBs
import Derived.Test.YtoaamcpiljoojaaGreatDoorIRow
import Derived.WalkMore
import Derived.Deep.LoopGhost
namespace Go.Proofs.YtoaamcpiljoojaaGreatDoor
open Go.RowKit

theorem info_long : (Tryz.prog.info? 2).map (fun i => (i.zero, i.size, i.bytes)) = some (some (.int .i64 0), kInt.sz, 8) := by kernel_rfl
def GapsIs (l : List Redo) (g : List Int) : Prop := g.Pairwise (· < ·) ∧ ∀ b, b ∈ g ↔ ∃ r ∈ l, r.back = b ∧ b ≠ 0 ∧ isL l b = false
theorem GapsIs.inj {l : List Redo} {g g' : List Int} (h : GapsIs l g) (k : GapsIs l g') : g = g' := asc_ext _ _ h.1 k.1 fun b => (h.2 b).trans (k.2 b).symm
def gapRow (l L : List Redo) : List Int := (L.filter fun r => !(r.back == 0) && !isL l r.back).map (·.back)
theorem gapRow_snoc (l L : List Redo) (x : Redo) : gapRow l (L ++ [x]) = gapRow l L ++ (if !(x.back == 0) && !isL l x.back then [x.back] else []) := by
  unfold gapRow
  rw [List.filter_append, List.map_append]
  congr 1
  by_cases h : (!(x.back == 0) && !isL l x.back) = true
  · rw [if_pos h, List.filter_cons, if_pos h]; rfl
  · rw [if_neg h, List.filter_cons, if_neg h]; rfl
theorem gapRow_is (l : List Redo) : GapsIs l (onces (ascend (gapRow l l))) := by
  obtain ⟨h1, h2⟩ := onces_is (ascend_le (gapRow l l))
  refine ⟨h1, fun b => ?_⟩
  rw [h2, ascend_mem, gapRow, List.mem_map]
  constructor
  · rintro ⟨r, hr, rfl⟩
    obtain ⟨hm, hh⟩ := List.mem_filter.1 hr
    simp only [Bool.and_eq_true, Bool.not_eq_true', beq_eq_false_iff_ne] at hh
    exact ⟨r, hm, rfl, hh.1, hh.2⟩
  · rintro ⟨r, hm, rfl, h0, hi⟩
    exact ⟨r, List.mem_filter.2 ⟨hm, by simp [h0, hi]⟩, rfl⟩
theorem gapRow_len (l L : List Redo) : (gapRow l L).length ≤ L.length := by
  unfold gapRow
  rw [List.length_map]
  exact List.length_filter_le _ _

set_option maxRecDepth 100000 in
set_option maxHeartbeats 2000000 in
theorem gaps_call {S : Nat → Prop} {w : World} {B : Nat} {lv sv : Value} {s : HSt} (h : Hg S w B lv sv s) : Calls Tryz.prog 23 #[.pointer (some ⟨B, 0, none⟩)] w fun e w' => ∃ A m c g, e = .returned (.slice A m c) ∧ GapsIs s.l g ∧ Own kInt 2 w.heap.size All w' (.slice A m c) g ∧ Fr All w w' := by
  obtain ⟨A, c, rfl⟩ := h.row.length
  have hfew := h.few
  have H := Lib.hid h
  obtain ⟨n, hn⟩ : ∃ n, s.l.length = n := ⟨_, rfl⟩
  have HS : Hid (Sl kRedo (fun b => S b ∨ some b = (Value.slice A s.l.length c).ownBlock) w (.slice A n c) s.l) := Lib.hid (by rw [← hn]; exact h.row.sl)
  obtain ⟨q0, q1, q2, q3, q4, q5, qz⟩ := blk6 h.blk
  rw [hn] at q1 hfew
  have Hn := Lib.hid hn
  clear h hn
  go_enter Tryz.func23, Tryz.ntmps23
  go_wp2_with fail
  go_step3
  go_wp2_with fail
  go_step3
  go_wp2_with fail
  clear q0 q1 q2 q3 q4 q5 qz
  go_loopw [3, 13] (fun v i wr => ∃ k : Nat, k ≤ n ∧ i = .int .i64 k ∧ Hid (Own kInt 2 w.heap.size All wr v (gapRow s.l (s.l.take k))) ∧ Fr All w wr) (fun _ i _ => n - (intOf i).toNat)
  case atStart => exact ⟨0, Nat.zero_le _, rfl, Lib.hid (Own.nil_ _ _ _ _ _), Fr.refl _ _⟩
  case round =>
    obtain ⟨k, hk, rfl, HO, HF⟩ := hrel
    by_cases hlt : k < n
    · obtain ⟨x, hx, _⟩ := get_of (l := s.l) (k := k) (by rw [Hn.out]; omega)
      obtain ⟨b, o, X0, n0, c0, X1, n1, c1, rfl, g0, g1, g2, g3, g4, g5, g6, g7, g8, g9, t0, t1⟩ := redo_at (HS.out.all HF) hx
      have HX := Lib.hid hx
      have b0 : (0 : Int) ≤ (k : Int) := by omega
      have b1 : (k : Int) < (n : Int) := by omega
      have F1 := (Fr.refl All wr).alloc (.cells #[.int .i64 x.lsn, .int .i64 x.back, .int .i64 x.epoch, .int .i64 x.group, .int .i64 x.page, .int .i64 x.kind, .int .i64 x.slot, .slice X0 n0 c0, .slice X1 n1 c1, .bool x.last] 33)
      have B1 := heap_alloc_new wr (.cells #[.int .i64 x.lsn, .int .i64 x.back, .int .i64 x.epoch, .int .i64 x.group, .int .i64 x.page, .int .i64 x.kind, .int .i64 x.slot, .slice X0 n0 c0, .slice X1 n1 c1, .bool x.last] 33)
      have HSN := Lib.hid (gapRow_snoc s.l (s.l.take k) x)
      clear hx t0 t1
      cases hz : (x.back == 0) with
      | true =>
        have HZ := Lib.hid hz
        go_wp2_with fail
        have HO2 : Hid (Own kInt 2 w.heap.size All (wr.alloc (.cells #[.int .i64 x.lsn, .int .i64 x.back, .int .i64 x.epoch, .int .i64 x.group, .int .i64 x.page, .int .i64 x.kind, .int .i64 x.slot, .slice X0 n0 c0, .slice X1 n1 c1, .bool x.last] 33)) u3 (gapRow s.l (s.l.take (k + 1)))) := Lib.hid (by
          rw [take_snoc HX.out, HSN.out, HZ.out]
          simp only [Bool.not_true, Bool.false_and, Bool.false_eq_true, if_false, List.append_nil]
          exact HO.out.all F1)
        go_roundw
        case rel => exact ⟨k + 1, by omega, by go_num, HO2, HF.trans F1⟩
        case measure => simp [intOf]; omega
      | false =>
        have HZ := Lib.hid hz
        go_wp2_with fail
        refine (place_call (H.out.all (HF.trans F1)) x.back).mono ?_
        rintro e w2 ⟨rfl, f2⟩
        have F2 := F1.trans f2
        have B2 := (f2.block _ (blk_lt B1) trivial).trans B1
        clear g0 g1 g2 g3 g4 g5 g6 g7 g8 g9 F1 f2 B1
        cases hi : isL s.l x.back with
        | true =>
          have HI := Lib.hid hi
          clear hi
          go_wp2_with fail
          have HO2 : Hid (Own kInt 2 w.heap.size All w2 u3 (gapRow s.l (s.l.take (k + 1)))) := Lib.hid (by
            rw [take_snoc HX.out, HSN.out, HI.out]
            simp only [Bool.not_true, Bool.and_false, Bool.false_eq_true, if_false, List.append_nil]
            exact HO.out.all F2)
          go_roundw
          case rel => exact ⟨k + 1, by omega, by go_num, HO2, HF.trans F2⟩
          case measure => simp [intOf]; omega
        | false =>
          have HI := Lib.hid hi
          clear hi
          obtain ⟨p0, p1, p2, p3, p4, p5, p6, p7, p8, p9, pz⟩ := blk10 B2
          have FB := F2.alloc (.cells #[.int .i64 x.back] 2)
          have HO3 := HO.out.all FB
          have HY : Src kInt Nowhere (w2.alloc (.cells #[.int .i64 x.back] 2)) (.slice (some ⟨w2.heap.size, 0, none⟩) 1 1) [x.back] := Src.box (d := kInt) (x := x.back) (cs := [.int .i64 x.back]) rfl _ 1
          have hgl := gapRow_len s.l (s.l.take k)
          have hl6 : ((gapRow s.l (s.l.take k)).length + [x.back].length) * 8 ≤ 140737488355328 := by
            rw [List.length_take] at hgl
            simp only [List.length_cons, List.length_nil]
            omega
          have hb6 : w.heap.size ≤ (w2.alloc (.cells #[.int .i64 x.back] 2)).heap.size := (HF.trans FB).size
          clear hgl
          go_wp2_with (at_builtin; refine wpList_app rfl rfl Tryz.underlying58 info_long rfl (by decide) HO3 HY rfl rfl (fun b hb _ => hb.elim) hl6 hb6 ?_; intro v7 w7 o7 f7 h7)
          have F7 : Fr All w w7 := (HF.trans FB).row f7.grown fun m hm => (own_lt HO3 m hm).1
          have HO2 : Hid (Own kInt 2 w.heap.size All w7 v7 (gapRow s.l (s.l.take (k + 1)))) := Lib.hid (by
            rw [take_snoc HX.out, HSN.out, HI.out, HZ.out]
            exact o7)
          clear o7 f7 h7 HO3 HY hl6 hb6 p0 p1 p2 p3 p4 p5 p6 p7 p8 p9 pz B2
          go_roundw
          case rel => exact ⟨k + 1, by omega, by go_num, HO2, F7⟩
          case measure => simp [intOf]; omega
    · obtain rfl : k = n := by omega
      have ho : Own kInt 2 w.heap.size All wr u3 (gapRow s.l s.l) := by
        have := HO.out
        rwa [List.take_of_length_le (by rw [Hn.out]; exact Nat.le_refl _)] at this
      have hgl := gapRow_len s.l s.l
      obtain ⟨GA, gc, hgv⟩ := ho.length
      subst hgv
      have hgk : (gapRow s.l s.l).length ≤ 1000000 := by have := Hn.out; omega
      obtain ⟨gn, hgn⟩ : ∃ gn, (gapRow s.l s.l).length = gn := ⟨_, rfl⟩
      rw [hgn] at ho hgk
      simp only [hgn]
      have HOO := Lib.hid ho
      clear ho hgn hgl
      go_wp2_with fail
      refine (sort_longs HOO.out hgk).mono ?_
      rintro e w2 ⟨rfl, o2, f2⟩
      have HO2 := Lib.hid o2
      have HF2 := Lib.hid (HF.row f2.grown fun m hm => (own_lt HOO.out m hm).1)
      clear o2 f2
      go_wp2_with fail
      refine (compact_longs HO2.out (ascend_le _) hgk).mono ?_
      rintro e w3 ⟨m, rfl, o3, f3⟩
      have HO3 := Lib.hid o3
      have HF3 := Lib.hid (HF2.out.row f3.grown fun m hm => (own_lt HO2.out m hm).1)
      clear o3 f3
      go_wp2_with fail
      (try rw [Exit.noGoto_ret])
      go_ret
      exact ⟨GA, m, gc, _, rfl, gapRow_is s.l, HO3.out, HF3.out⟩
end Go.Proofs.YtoaamcpiljoojaaGreatDoor
