/- The log's Above and Of. -/
import Derived.Test.YtoaamcpiljoojaaGreatDoorHHd
namespace Go.Proofs.YtoaamcpiljoojaaGreatDoor
open Go.RowKit

def aboveL (l : List Redo) (x : Int) (most : Int) : List Redo := (l.filter fun r => decide (r.lsn > x)).take most.toNat
theorem aboveL_no {l : List Redo} {r : Redo} {x most : Int} (h : ¬ r.lsn > x ∨ ¬ ((aboveL l x most).length : Int) < most) : aboveL (l ++ [r]) x most = aboveL l x most := by
  unfold aboveL at *
  rw [List.filter_append]
  rcases h with h | h
  · rw [List.filter_cons, if_neg (by simpa using h)]
    simp
  · rw [List.length_take] at h
    rw [List.take_append_of_le_length (by omega)]
theorem aboveL_yes {l : List Redo} {r : Redo} {x most : Int} (h : r.lsn > x) (h2 : ((aboveL l x most).length : Int) < most) : aboveL (l ++ [r]) x most = aboveL l x most ++ [r] := by
  unfold aboveL at *
  rw [List.filter_append, List.filter_cons, if_pos (by simpa using h)]
  rw [List.length_take] at h2
  simp only [List.filter_nil]
  rw [List.take_of_length_le (by rw [List.length_append]; simp only [List.length_cons, List.length_nil]; omega), List.take_of_length_le (by omega)]
theorem aboveL_len (l : List Redo) (x most : Int) : (aboveL l x most).length ≤ l.length := by
  unfold aboveL
  rw [List.length_take]
  have := List.length_filter_le (fun r : Redo => decide (r.lsn > x)) l
  omega
def ofL (l : List Redo) (id x : Int) : List Redo := l.filter fun r => r.page == id && decide (r.lsn ≤ x)
theorem ofL_snoc (l : List Redo) (r : Redo) (id x : Int) : ofL (l ++ [r]) id x = ofL l id x ++ (if r.page == id && decide (r.lsn ≤ x) then [r] else []) := by
  unfold ofL
  rw [List.filter_append]
  congr 1
  by_cases h : (r.page == id && decide (r.lsn ≤ x)) = true
  · rw [if_pos h, List.filter_cons, if_pos h]; rfl
  · rw [if_neg h, List.filter_cons, if_neg h]; rfl
theorem ofL_len (l : List Redo) (id x : Int) : (ofL l id x).length ≤ l.length := List.length_filter_le _ _

set_option hygiene false in
set_option maxRecDepth 100000 in
set_option maxHeartbeats 2000000 in
theorem above_call {S : Nat → Prop} {w : World} {B : Nat} {lv sv : Value} {s : HSt} (h : Hg S w B lv sv s) (y most : Int) : Calls Tryz.prog 26 #[.pointer (some ⟨B, 0, none⟩), .int .i64 y, .int .i64 most] w fun e w' =>
    ∃ A c, e = .returned (.slice A (aboveL s.l y most).length c) ∧ Own kRedo 33 w.heap.size (From w.heap.size) w' (.slice A (aboveL s.l y most).length c) (aboveL s.l y most) ∧ Fr All w w' := by
  obtain ⟨A, c, rfl⟩ := h.row.length
  have hfew := h.few
  have HV := Lib.hid h.ok.valid
  obtain ⟨n, hn⟩ : ∃ n, s.l.length = n := ⟨_, rfl⟩
  have HS : Hid (Sl kRedo (fun b => S b ∨ some b = (Value.slice A s.l.length c).ownBlock) w (.slice A n c) s.l) := Lib.hid (by rw [← hn]; exact h.row.sl)
  obtain ⟨q0, q1, q2, q3, q4, q5, qz⟩ := blk6 h.blk
  rw [hn] at q1 hfew
  have Hn := Lib.hid hn
  clear h hn
  go_enter Tryz.func26, Tryz.ntmps26
  go_wp2_with fail
  clear q0 q1 q2 q3 q4 q5 qz
  go_loopw [7, 15] (fun v i wr => ∃ k : Nat, k ≤ n ∧ i = .int .i64 k ∧ Hid (Own kRedo 33 w.heap.size (From w.heap.size) wr v (aboveL (s.l.take k) y most)) ∧ Fr All w wr) (fun _ i _ => n - (intOf i).toNat)
  case atStart => exact ⟨0, Nat.zero_le _, rfl, Lib.hid (by rw [show aboveL (s.l.take 0) y most = [] by simp [aboveL]]; exact Own.nil_ _ _ _ _ _), Fr.refl _ _⟩
  case round =>
    obtain ⟨k, hk, rfl, HO, HF⟩ := hrel
    by_cases hlt : k < n
    · obtain ⟨x, hx, hxm⟩ := get_of (l := s.l) (k := k) (by rw [Hn.out]; omega)
      obtain ⟨b, o, X0, n0, c0, X1, n1, c1, rfl, g0, g1, g2, g3, g4, g5, g6, g7, g8, g9, t0, t1⟩ := redo_at (HS.out.all HF) hx
      have HX := Lib.hid hx
      have hvx := validIx_none (HV.out x hxm)
      have hx0 : x.key.length ≤ 1000000 := by omega
      have hx1 : x.val.length ≤ 1000000 := by omega
      have b0 : (0 : Int) ≤ (k : Int) := by omega
      have b1 : (k : Int) < (n : Int) := by omega
      have F1 := (Fr.refl All wr).alloc (.cells #[.int .i64 x.lsn, .int .i64 x.back, .int .i64 x.epoch, .int .i64 x.group, .int .i64 x.page, .int .i64 x.kind, .int .i64 x.slot, .slice X0 n0 c0, .slice X1 n1 c1, .bool x.last] 33)
      obtain ⟨A', c', hv⟩ := HO.out.length
      clear hx hxm hvx
      cases hd : decide (x.lsn > y) with
      | false =>
        have HD := Lib.hid (of_decide_eq_false hd)
        clear hv t0 t1 hx0 hx1
        go_wp2_with fail
        have HO2 : Hid (Own kRedo 33 w.heap.size (From w.heap.size) (wr.alloc (.cells #[.int .i64 x.lsn, .int .i64 x.back, .int .i64 x.epoch, .int .i64 x.group, .int .i64 x.page, .int .i64 x.kind, .int .i64 x.slot, .slice X0 n0 c0, .slice X1 n1 c1, .bool x.last] 33)) u7 (aboveL (s.l.take (k + 1)) y most)) := Lib.hid (by
          rw [take_snoc HX.out, aboveL_no (.inl HD.out)]
          exact HO.out.all F1)
        go_roundw
        case rel => exact ⟨k + 1, by omega, by go_num, HO2, HF.trans F1⟩
        case measure => simp [intOf]; omega
      | true =>
        have HD := Lib.hid (of_decide_eq_true hd)
        obtain ⟨an, han⟩ : ∃ an, (aboveL (s.l.take k) y most).length = an := ⟨_, rfl⟩
        have hal := aboveL_len (s.l.take k) y most
        rw [List.length_take, han] at hal
        rw [han] at hv
        subst hv
        have HA := Lib.hid han
        clear han
        cases hm : decide ((an : Int) < most) with
        | false =>
          have HM := Lib.hid (of_decide_eq_false hm)
          clear hal t0 t1 hx0 hx1
          go_wp2_with fail
          have HO2 : Hid (Own kRedo 33 w.heap.size (From w.heap.size) (wr.alloc (.cells #[.int .i64 x.lsn, .int .i64 x.back, .int .i64 x.epoch, .int .i64 x.group, .int .i64 x.page, .int .i64 x.kind, .int .i64 x.slot, .slice X0 n0 c0, .slice X1 n1 c1, .bool x.last] 33)) (.slice A' an c') (aboveL (s.l.take (k + 1)) y most)) := Lib.hid (by
            rw [take_snoc HX.out, aboveL_no (.inr (by rw [HA.out]; exact HM.out))]
            exact HO.out.all F1)
          go_roundw
          case rel => exact ⟨k + 1, by omega, by go_num, HO2, HF.trans F1⟩
          case measure => simp [intOf]; omega
        | true =>
          have HM := Lib.hid (of_decide_eq_true hm)
          obtain ⟨u7, hu7⟩ : ∃ u7, u7 = Value.slice A' an c' := ⟨_, rfl⟩
          go_wp2_with fail
          rw [← hu7] at HO
          refine (redo_clone (t0.all F1) (t1.all F1) hx0 hx1).mono ?_
          rintro e w2 ⟨Y0, m0, d0, Y1, m1, d1, rfl, o2, o3, f2⟩
          have F2 := F1.trans f2
          have hsz1 : (wr.alloc (.cells #[.int .i64 x.lsn, .int .i64 x.back, .int .i64 x.epoch, .int .i64 x.group, .int .i64 x.page, .int .i64 x.kind, .int .i64 x.slot, .slice X0 n0 c0, .slice X1 n1 c1, .bool x.last] 33)).heap.size = wr.heap.size + 1 := World.size_alloc _ _
          rw [hsz1] at o2 o3
          have hwr := HF.size
          have hbl := own_lt HO.out
          have hU : ∀ b, wr.heap.size + 1 + 2 ≤ b → From w.heap.size b ∧ some b ≠ u7.ownBlock := fun b hb => ⟨by unfold From; omega, fun e => by have := hbl b e.symm; omega⟩
          have s2 : Sl kByte (fun b => From w.heap.size b ∧ some b ≠ u7.ownBlock) w2 (.slice Y0 m0 d0) x.key := o2.plain_in (fun b hb _ => hU b hb)
          have s3 : Sl kByte (fun b => From w.heap.size b ∧ some b ≠ u7.ownBlock) w2 (.slice Y1 m1 d1) x.val := o3.plain_in (fun b hb _ => hU b hb)
          have HO2 := HO.out.all (F2.alloc (.cells #[.int .i64 x.lsn, .int .i64 x.back, .int .i64 x.epoch, .int .i64 x.group, .int .i64 x.page, .int .i64 x.kind, .int .i64 x.slot, .slice Y0 m0 d0, .slice Y1 m1 d1, .bool x.last] 33))
          have HY := Src.box (kRedo_mk s2 s3) 33 1
          have FF := HF.trans (F2.alloc (.cells #[.int .i64 x.lsn, .int .i64 x.back, .int .i64 x.epoch, .int .i64 x.group, .int .i64 x.page, .int .i64 x.kind, .int .i64 x.slot, .slice Y0 m0 d0, .slice Y1 m1 d1, .bool x.last] 33))
          have hb1 : w.heap.size ≤ (w2.alloc (.cells #[.int .i64 x.lsn, .int .i64 x.back, .int .i64 x.epoch, .int .i64 x.group, .int .i64 x.page, .int .i64 x.kind, .int .i64 x.slot, .slice Y0 m0 d0, .slice Y1 m1 d1, .bool x.last] 33)).heap.size := FF.size
          have hln : ((aboveL (s.l.take k) y most).length + [x].length) * 112 ≤ 140737488355328 := by simp only [HA.out, List.length_cons, List.length_nil]; omega
          rw [hu7] at HO2 hU
          have HY' := HY.mono (T := fun b => From w.heap.size b ∧ some b ≠ (Value.slice A' an c').ownBlock) (fun b hb _ => by rw [← hu7]; exact hb)
          clear g0 g1 g2 g3 g4 g5 g6 g7 g8 g9 o2 o3 f2 F2 F1 s2 s3 HY hd hm hal t0 t1 hx0 hx1
          go_wp2_with (at_builtin; refine wpList_app rfl rfl Tryz.underlying27 infoRedo rfl (by decide) HO2 HY' rfl rfl (fun b hb _ => hb) hln hb1 ?_; intro v' w' h3 h4 h5)
          have H3 : Hid (Own kRedo 33 w.heap.size (From w.heap.size) w' v' (aboveL (s.l.take (k + 1)) y most)) := Lib.hid (by
            rw [take_snoc HX.out, aboveL_yes HD.out (by rw [HA.out]; exact HM.out)]
            exact h3)
          have F3 : Fr All w w' := FF.row h4.grown fun m hm => (own_lt HO2 m hm).1
          clear h3 h4 h5 HO2 HY' hln hb1 FF
          go_roundw
          case rel => exact ⟨k + 1, by omega, by go_num, H3, F3⟩
          case measure => simp [intOf]; omega
    · obtain rfl : k = n := by omega
      have ho : Own kRedo 33 w.heap.size (From w.heap.size) wr u7 (aboveL s.l y most) := by
        have := HO.out
        rwa [List.take_of_length_le (by rw [Hn.out]; exact Nat.le_refl _)] at this
      obtain ⟨A', c', hv⟩ := ho.length
      subst hv
      have HOO := Lib.hid ho
      clear ho
      go_wp2_with fail
      go_ret
      exact ⟨A', c', rfl, HOO.out, HF⟩
set_option hygiene false in
set_option maxRecDepth 100000 in
set_option maxHeartbeats 2000000 in
theorem of_call {S : Nat → Prop} {w : World} {B : Nat} {lv sv : Value} {s : HSt} (h : Hg S w B lv sv s) (id y : Int) : Calls Tryz.prog 66 #[.pointer (some ⟨B, 0, none⟩), .int .i64 id, .int .i64 y] w fun e w' =>
    ∃ A c, e = .returned (.slice A (ofL s.l id y).length c) ∧ Own kRedo 33 w.heap.size (From w.heap.size) w' (.slice A (ofL s.l id y).length c) (ofL s.l id y) ∧ Fr All w w' := by
  obtain ⟨A, c, rfl⟩ := h.row.length
  have hfew := h.few
  have HV := Lib.hid h.ok.valid
  obtain ⟨n, hn⟩ : ∃ n, s.l.length = n := ⟨_, rfl⟩
  have HS : Hid (Sl kRedo (fun b => S b ∨ some b = (Value.slice A s.l.length c).ownBlock) w (.slice A n c) s.l) := Lib.hid (by rw [← hn]; exact h.row.sl)
  obtain ⟨q0, q1, q2, q3, q4, q5, qz⟩ := blk6 h.blk
  rw [hn] at q1 hfew
  have Hn := Lib.hid hn
  clear h hn
  go_enter Tryz.func66, Tryz.ntmps66
  go_wp2_with fail
  clear q0 q1 q2 q3 q4 q5 qz
  go_loopw [7, 15] (fun v i wr => ∃ k : Nat, k ≤ n ∧ i = .int .i64 k ∧ Hid (Own kRedo 33 w.heap.size (From w.heap.size) wr v (ofL (s.l.take k) id y)) ∧ Fr All w wr) (fun _ i _ => n - (intOf i).toNat)
  case atStart => exact ⟨0, Nat.zero_le _, rfl, Lib.hid (Own.nil_ _ _ _ _ _), Fr.refl _ _⟩
  case round =>
    obtain ⟨k, hk, rfl, HO, HF⟩ := hrel
    by_cases hlt : k < n
    · obtain ⟨x, hx, hxm⟩ := get_of (l := s.l) (k := k) (by rw [Hn.out]; omega)
      obtain ⟨b, o, X0, n0, c0, X1, n1, c1, rfl, g0, g1, g2, g3, g4, g5, g6, g7, g8, g9, t0, t1⟩ := redo_at (HS.out.all HF) hx
      have HX := Lib.hid hx
      have hvx := validIx_none (HV.out x hxm)
      have hx0 : x.key.length ≤ 1000000 := by omega
      have hx1 : x.val.length ≤ 1000000 := by omega
      have b0 : (0 : Int) ≤ (k : Int) := by omega
      have b1 : (k : Int) < (n : Int) := by omega
      have F1 := (Fr.refl All wr).alloc (.cells #[.int .i64 x.lsn, .int .i64 x.back, .int .i64 x.epoch, .int .i64 x.group, .int .i64 x.page, .int .i64 x.kind, .int .i64 x.slot, .slice X0 n0 c0, .slice X1 n1 c1, .bool x.last] 33)
      have HSN := Lib.hid (ofL_snoc (s.l.take k) x id y)
      clear hx hxm hvx
      cases hp : (x.page == id) with
      | false =>
        have HP := Lib.hid hp
        clear t0 t1 hx0 hx1
        go_wp2_with fail
        have HO2 : Hid (Own kRedo 33 w.heap.size (From w.heap.size) (wr.alloc (.cells #[.int .i64 x.lsn, .int .i64 x.back, .int .i64 x.epoch, .int .i64 x.group, .int .i64 x.page, .int .i64 x.kind, .int .i64 x.slot, .slice X0 n0 c0, .slice X1 n1 c1, .bool x.last] 33)) u7 (ofL (s.l.take (k + 1)) id y)) := Lib.hid (by
          rw [take_snoc HX.out, HSN.out, HP.out]
          simp only [Bool.false_and, Bool.false_eq_true, if_false, List.append_nil]
          exact HO.out.all F1)
        go_roundw
        case rel => exact ⟨k + 1, by omega, by go_num, HO2, HF.trans F1⟩
        case measure => simp [intOf]; omega
      | true =>
        have HP := Lib.hid hp
        cases hm : decide (x.lsn ≤ y) with
        | false =>
          have HM := Lib.hid hm
          clear t0 t1 hx0 hx1
          go_wp2_with fail
          have HO2 : Hid (Own kRedo 33 w.heap.size (From w.heap.size) (wr.alloc (.cells #[.int .i64 x.lsn, .int .i64 x.back, .int .i64 x.epoch, .int .i64 x.group, .int .i64 x.page, .int .i64 x.kind, .int .i64 x.slot, .slice X0 n0 c0, .slice X1 n1 c1, .bool x.last] 33)) u7 (ofL (s.l.take (k + 1)) id y)) := Lib.hid (by
            rw [take_snoc HX.out, HSN.out, HM.out]
            simp only [Bool.and_false, Bool.false_eq_true, if_false, List.append_nil]
            exact HO.out.all F1)
          go_roundw
          case rel => exact ⟨k + 1, by omega, by go_num, HO2, HF.trans F1⟩
          case measure => simp [intOf]; omega
        | true =>
          have HM := Lib.hid hm
          have hal := ofL_len (s.l.take k) id y
          rw [List.length_take] at hal
          go_wp2_with fail
          refine (redo_clone (t0.all F1) (t1.all F1) hx0 hx1).mono ?_
          rintro e w2 ⟨Y0, m0, d0, Y1, m1, d1, rfl, o2, o3, f2⟩
          have F2 := F1.trans f2
          have hsz1 : (wr.alloc (.cells #[.int .i64 x.lsn, .int .i64 x.back, .int .i64 x.epoch, .int .i64 x.group, .int .i64 x.page, .int .i64 x.kind, .int .i64 x.slot, .slice X0 n0 c0, .slice X1 n1 c1, .bool x.last] 33)).heap.size = wr.heap.size + 1 := World.size_alloc _ _
          rw [hsz1] at o2 o3
          have hwr := HF.size
          have hbl := own_lt HO.out
          have hU : ∀ b, wr.heap.size + 1 + 2 ≤ b → From w.heap.size b ∧ some b ≠ u7.ownBlock := fun b hb => ⟨by unfold From; omega, fun e => by have := hbl b e.symm; omega⟩
          have s2 : Sl kByte (fun b => From w.heap.size b ∧ some b ≠ u7.ownBlock) w2 (.slice Y0 m0 d0) x.key := o2.plain_in (fun b hb _ => hU b hb)
          have s3 : Sl kByte (fun b => From w.heap.size b ∧ some b ≠ u7.ownBlock) w2 (.slice Y1 m1 d1) x.val := o3.plain_in (fun b hb _ => hU b hb)
          have HO2 := HO.out.all (F2.alloc (.cells #[.int .i64 x.lsn, .int .i64 x.back, .int .i64 x.epoch, .int .i64 x.group, .int .i64 x.page, .int .i64 x.kind, .int .i64 x.slot, .slice Y0 m0 d0, .slice Y1 m1 d1, .bool x.last] 33))
          have HY := Src.box (kRedo_mk s2 s3) 33 1
          have FF := HF.trans (F2.alloc (.cells #[.int .i64 x.lsn, .int .i64 x.back, .int .i64 x.epoch, .int .i64 x.group, .int .i64 x.page, .int .i64 x.kind, .int .i64 x.slot, .slice Y0 m0 d0, .slice Y1 m1 d1, .bool x.last] 33))
          have hb1 : w.heap.size ≤ (w2.alloc (.cells #[.int .i64 x.lsn, .int .i64 x.back, .int .i64 x.epoch, .int .i64 x.group, .int .i64 x.page, .int .i64 x.kind, .int .i64 x.slot, .slice Y0 m0 d0, .slice Y1 m1 d1, .bool x.last] 33)).heap.size := FF.size
          have hln : ((ofL (s.l.take k) id y).length + [x].length) * 112 ≤ 140737488355328 := by simp only [List.length_cons, List.length_nil]; omega
          clear g0 g1 g2 g3 g4 g5 g6 g7 g8 g9 o2 o3 f2 F2 F1 s2 s3 hp hm hal t0 t1 hx0 hx1
          go_wp2_with (at_builtin; refine wpList_app rfl rfl Tryz.underlying27 infoRedo rfl (by decide) HO2 HY rfl rfl (fun b hb _ => hb) hln hb1 ?_; intro v' w' h3 h4 h5)
          have H3 : Hid (Own kRedo 33 w.heap.size (From w.heap.size) w' v' (ofL (s.l.take (k + 1)) id y)) := Lib.hid (by
            rw [take_snoc HX.out, HSN.out, HP.out, HM.out]
            exact h3)
          have F3 : Fr All w w' := FF.row h4.grown fun m hm => (own_lt HO2 m hm).1
          clear h3 h4 h5 HO2 HY hln hb1 FF
          go_roundw
          case rel => exact ⟨k + 1, by omega, by go_num, H3, F3⟩
          case measure => simp [intOf]; omega
    · obtain rfl : k = n := by omega
      have ho : Own kRedo 33 w.heap.size (From w.heap.size) wr u7 (ofL s.l id y) := by
        have := HO.out
        rwa [List.take_of_length_le (by rw [Hn.out]; exact Nat.le_refl _)] at this
      obtain ⟨A', c', hv⟩ := ho.length
      subst hv
      have HOO := Lib.hid ho
      clear ho
      go_wp2_with fail
      go_ret
      exact ⟨A', c', rfl, HOO.out, HF⟩
end Go.Proofs.YtoaamcpiljoojaaGreatDoor
