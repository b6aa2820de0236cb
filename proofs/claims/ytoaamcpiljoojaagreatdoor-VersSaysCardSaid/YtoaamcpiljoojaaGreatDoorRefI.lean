/- The document's pages as they were: Apply in all kinds, New, At. The document's Rising; its log's Ids; what is out of range. -/
import Derived.Test.YtoaamcpiljoojaaGreatDoorRefA3
import Derived.Test.YtoaamcpiljoojaaGreatDoorRefD
import Derived.Test.YtoaamcpiljoojaaGreatDoorVAt
import Derived.Test.YtoaamcpiljoojaaGreatDoorVIds
namespace Go.Proofs.YtoaamcpiljoojaaGreatDoor
open Go.RowKit

theorem ref_apply {p : Page} {r : Redo} {v v0 v1 : Value} {S S0 S1 : Nat → Prop} {w : World} (h : Sl kEnt S w v p.ents) (hsm : SmallP p) (k0 : Sl kByte S0 w v0 r.key) (k1 : Sl kByte S1 w v1 r.val) (hv : validIx r = none) :
    Calls Tryz.prog 71 #[.agg #[.int .i64 p.id, .int .i64 p.lsn, .int .i64 p.level, .int .i64 p.next, v], .agg #[.int .i64 r.lsn, .int .i64 r.back, .int .i64 r.epoch, .int .i64 r.group, .int .i64 r.page, .int .i64 r.kind, .int .i64 r.slot, v0, v1, .bool r.last]] w (RAppl w (papply p r)) := by
  by_cases hno : r.page ≠ p.id ∨ r.lsn ≤ p.lsn
  · have hq : papply p r = p := by unfold papply; rw [if_pos hno]
    rw [hq]
    exact ref_apply_no h hsm k0 k1 hno
  · have hyes : r.page = p.id ∧ p.lsn < r.lsn := ⟨Decidable.not_not.1 fun e => hno (.inl e), by omega⟩
    have hvx := validIx_none hv
    by_cases h1 : r.kind = 1
    · exact ref_apply_format h hsm k0 k1 hv hyes h1
    by_cases h2 : r.kind = 2
    · by_cases hs : p.ents.length < 8
      · exact ref_apply_insert1 h hsm k0 k1 hv hyes h2 hs
      · exact ref_apply_insert0 h hsm k0 k1 hv hyes h2 (by omega)
    by_cases h3 : r.kind = 3
    · by_cases hs : r.slot.toNat < p.ents.length
      · exact ref_apply_remove1 h hsm k0 k1 hv hyes h3 hs
      · exact ref_apply_remove0 h hsm k0 k1 hv hyes h3 (by omega)
    by_cases h4 : r.kind = 4
    · by_cases hs : r.slot.toNat < p.ents.length
      · exact ref_apply_change1 h hsm k0 k1 hv hyes h4 (List.getElem?_eq_getElem hs)
      · exact ref_apply_change0 h hsm k0 k1 hv hyes h4 (by omega)
    by_cases h5 : r.kind = 5
    · exact ref_apply_link h hsm k0 k1 hv hyes h5
    · exact ref_apply_cut h hsm k0 k1 hv hyes (by omega)
theorem ref_new (id : Int) (w : World) : Calls Tryz.prog 70 #[.int .i64 id] w fun e w' => e = .returned (.agg #[.int .i64 id, .int .i64 0, .int .i64 0, .int .i64 (-1), .slice none 0 0]) ∧ Fr All w w' := by
  have F0 := (Fr.refl All w).alloc (.cells #[.int .i64 0, .int .i64 0, .int .i64 0, .int .i64 0, .slice none 0 0] 67)
  obtain ⟨z0, z1, z2, z3, z4, zz⟩ := blk5 (heap_alloc_new w (.cells #[.int .i64 0, .int .i64 0, .int .i64 0, .int .i64 0, .slice none 0 0] 67))
  go_enter Tryz.func70, Tryz.ntmps70
  go_wp2_with fail
  refine bodyPost_ret (v := .agg #[.int .i64 id, .int .i64 0, .int .i64 0, .int .i64 (-1), .slice none 0 0]) ?_ rfl ⟨rfl, ?_⟩
  · simp [results, Tryz.results70, go_sem, z0, z1, z2, z3, z4]
  · first
    | exact (Fr.refl All w).alloc _
    | repeat (first | (with_reducible exact F0) | with_reducible refine Fr.setNew ?_ (by dsimp only; omega) _)
theorem ofL_take_snoc {l : List Redo} {j : Nat} {y : Redo} (h : l[j]? = some y) (id x : Int) : ofL (l.take (j + 1)) id x = if y.page = id ∧ y.lsn ≤ x then ofL (l.take j) id x ++ [y] else ofL (l.take j) id x := by
  unfold ofL
  rw [take_snoc h, List.filter_append]
  split
  · rename_i h
    rw [List.filter_cons_of_pos (by rw [Bool.and_eq_true, beq_iff_eq, decide_eq_true_eq]; exact h)]
    rfl
  · rename_i h
    rw [List.filter_cons_of_neg (by rw [Bool.and_eq_true, beq_iff_eq, decide_eq_true_eq]; exact h), List.filter_nil, List.append_nil]
theorem pall_smallL {id : Int} {l : List Redo} (h : RightL l) : SmallP (pall (page0 id) l) := pall_small ⟨Nat.zero_le _, fun e he => by cases he⟩ h
/-- What At tells. -/
def RAt (w : World) (l : List Redo) (id x : Int) (e : Ending) (w' : World) : Prop :=
  ∃ A c, (ofL l id x = [] ∧ e = .returned (.tuple #[.agg #[.int .i64 0, .int .i64 0, .int .i64 0, .int .i64 0, .slice none 0 0], .int .i64 107]) ∨ ofL l id x ≠ [] ∧ e = .returned (.tuple #[.agg #[.int .i64 (pall (page0 id) (ofL l id x)).id, .int .i64 (pall (page0 id) (ofL l id x)).lsn, .int .i64 (pall (page0 id) (ofL l id x)).level, .int .i64 (pall (page0 id) (ofL l id x)).next, .slice A (pall (page0 id) (ofL l id x)).ents.length c], .int .i64 0])) ∧ Sl kEnt All w' (.slice A (pall (page0 id) (ofL l id x)).ents.length c) (pall (page0 id) (ofL l id x)).ents ∧ Fr All w w'
/-- The document's log of right records, as its At goes through it: behind j records. -/
structure RAtS (W1 wr : World) (Bq : Nat) (l : List Redo) (id x : Int) (j k : Nat) (q : Page) (QA : Option Addr) (qn qc : Nat) : Prop where
  eq : pall (page0 id) (ofL (l.take j) id x) = q
  ek : (ofL (l.take j) id x).length = k
  eqn : q.ents.length = qn
  blk : wr.heap[Bq]? = some (.cells #[.int .i64 q.id, .int .i64 q.lsn, .int .i64 q.level, .int .i64 q.next, .slice QA qn qc] 67 (0, 0))
  row : Sl kEnt (fun b => Bq < b) wr (.slice QA qn qc) q.ents
  fr : Fr (fun b => b ≠ Bq) W1 wr
theorem RAtS.skip {W1 wr w' : World} {Bq : Nat} {l : List Redo} {id x : Int} {j k : Nat} {q : Page} {QA : Option Addr} {qn qc : Nat} (h : RAtS W1 wr Bq l id x j k q QA qn qc) {y : Redo} (hy : l[j]? = some y) (hno : ¬ (y.page = id ∧ y.lsn ≤ x)) (f : Fr All wr w') : RAtS W1 w' Bq l id x (j + 1) k q QA qn qc := by
  have e : ofL (l.take (j + 1)) id x = ofL (l.take j) id x := by rw [ofL_take_snoc hy, if_neg hno]
  exact ⟨by rw [e]; exact h.eq, by rw [e]; exact h.ek, h.eqn, (f.block _ (blk_lt h.blk) trivial).trans h.blk, h.row.all f, h.fr.trans (f.mono fun _ _ => trivial)⟩
theorem RAtS.step {W1 wr w2 : World} {Bq : Nat} {l : List Redo} {id x : Int} {j k : Nat} {q : Page} {QA QA' : Option Addr} {qn qc qn' qc' : Nat} (h : RAtS W1 wr Bq l id x j k q QA qn qc) {y : Redo} (hy : l[j]? = some y) (hyes : y.page = id ∧ y.lsn ≤ x) {wd : World} (fd : Fr All wr wd) {q' : Page} (hq' : papply q y = q') (hn' : q'.ents.length = qn') (f : Fr All wd w2) (row : Sl kEnt (From wd.heap.size) w2 (.slice QA' qn' qc') q'.ents)
    {w3 : World} (f3 : Fr (fun b => b ≠ Bq) w2 w3) (b3 : w3.heap[Bq]? = some (.cells #[.int .i64 q'.id, .int .i64 q'.lsn, .int .i64 q'.level, .int .i64 q'.next, .slice QA' qn' qc'] 67 (0, 0))) : RAtS W1 w3 Bq l id x (j + 1) (k + 1) q' QA' qn' qc' := by
  have e : ofL (l.take (j + 1)) id x = ofL (l.take j) id x ++ [y] := by rw [ofL_take_snoc hy, if_pos hyes]
  have hs := fd.size
  have hb := blk_lt h.blk
  exact ⟨by rw [e, ← hq', ← h.eq]; unfold pall; rw [List.foldl_append]; rfl, by rw [e, List.length_append, h.ek]; rfl, hn', b3, (row.move' f3 (fun b hb' _ => by unfold From at hb'; omega)).mono fun b hb' _ => by unfold From at hb'; omega, h.fr.trans (((fd.trans f).mono fun _ _ => trivial).trans f3)⟩
set_option maxRecDepth 100000 in
set_option maxHeartbeats 8000000 in
theorem ref_pageat {S : Nat → Prop} {w : World} {B : Nat} {g : Int} {lv : Value} {l : List Redo} (h : Xg S w B g lv l) (hr : RightL l) (hl : l.length ≤ 1000000) {id x : Int} (i0 : 0 ≤ id) (i1 : id < 256) (x0 : 0 ≤ x) (x1 : x ≤ 1099511627776) :
    Calls Tryz.prog 32 #[.pointer (some ⟨B, 0, none⟩), .int .i64 id, .int .i64 x] w (RAt w l id x) := by
  have F0 := (Fr.refl All w).alloc (.cells #[.int .i64 0, .int .i64 0, .int .i64 0, .int .i64 0, .slice none 0 0] 67)
  have Z0 := heap_alloc_new w (.cells #[.int .i64 0, .int .i64 0, .int .i64 0, .int .i64 0, .slice none 0 0] 67)
  obtain ⟨A, n, c, rfl, en, _⟩ := h.row.open_
  have hXS : Xg (fun b => S b ∧ b < w.heap.size) w B g (.slice A n c) l := ⟨h.blk, h.row.mono fun b hb hl => ⟨hb, hl⟩, fun b hb => h.nB b hb.1⟩
  have HX := Lib.hid (hXS.all F0)
  have En := Lib.hid en
  have HR := Lib.hid hr
  have hn : n ≤ 1000000 := by omega
  have hin : inB id 256 = true := inB_iff.2 ⟨i0, i1⟩
  have hd1 : decide (x < 0) = false := decide_eq_false (by omega)
  have hd2 : decide (x > 1099511627776) = false := decide_eq_false (by omega)
  clear h en hr hl hXS
  go_enter Tryz.func32, Tryz.ntmps32
  go_wp2_with fail
  refine (refpage_call id _).mono ?_
  rintro e wn ⟨rfl, hwn⟩
  rw [hin]
  obtain ⟨W0, hW0⟩ : ∃ W0, w.alloc (.cells #[.int .i64 0, .int .i64 0, .int .i64 0, .int .i64 0, .slice none 0 0] 67) = W0 := ⟨_, rfl⟩
  rw [hW0] at hwn F0 Z0 HX
  obtain rfl := hwn.symm
  clear hW0 hwn
  go_wp2_with fail
  refine (ref_new id W0).mono ?_
  rintro e w1 ⟨rfl, f1⟩
  have FB := (Fr.refl All w1).alloc (.cells #[.int .i64 id, .int .i64 0, .int .i64 0, .int .i64 (-1), .slice none 0 0] 67)
  have BQ := heap_alloc_new w1 (.cells #[.int .i64 id, .int .i64 0, .int .i64 0, .int .i64 (-1), .slice none 0 0] 67)
  obtain ⟨Bq, hBq⟩ : ∃ Bq, w1.heap.size = Bq := ⟨_, rfl⟩
  have hz1 : w.heap.size < Bq := by have := f1.size; have := blk_lt Z0; omega
  obtain ⟨W1, hW1⟩ : ∃ W1, w1.alloc (.cells #[.int .i64 id, .int .i64 0, .int .i64 0, .int .i64 (-1), .slice none 0 0] 67) = W1 := ⟨_, rfl⟩
  rw [hW1] at FB BQ
  rw [hBq] at BQ
  have HX1 := Lib.hid ((HX.out.all f1).all FB)
  have FW1 := Lib.hid ((F0.trans f1).trans FB)
  have HZ1 := Lib.hid ((FB.block _ (Nat.lt_of_lt_of_le (blk_lt Z0) f1.size) trivial).trans ((f1.block _ (blk_lt Z0) trivial).trans Z0))
  have HBQ := Lib.hid BQ
  have hB1 : B < Bq := by have := blk_lt HX.out.blk; have := f1.size; omega
  have hQW : Bq < W1.heap.size := blk_lt BQ
  clear F0 Z0 HX f1 FB BQ hin
  obtain ⟨q0, q1, q2, q3, q4, qz⟩ := blk5 HBQ.out
  obtain ⟨z0, z1, z2, z3, z4, zz⟩ := blk5 HZ1.out
  go_wp2_with fail
  clear hW1 hd1 hd2 q0 q1 q2 q3 q4 qz z0 z1 z2 z3 z4 zz
  go_loopw [9, 10] (fun m i wr => ∃ (j k : Nat) (q : Page) (QA : Option Addr) (qn qc : Nat), j ≤ n ∧ i = .int .i64 j ∧ m = .int .i64 (k : Nat) ∧ Hid (RAtS W1 wr Bq l id x j k q QA qn qc)) (fun _ i _ => n - (intOf i).toNat)
  case atStart => exact ⟨0, 0, page0 id, none, 0, 0, Nat.zero_le _, rfl, rfl, Lib.hid ⟨rfl, rfl, rfl, by first | exact HBQ.out | exact heap_setCell_same _ Bq 4 _ _ _ HBQ.out, Sl.nil_ _ _ _, by first | exact Fr.refl _ _ | exact (Fr.refl _ _).setCell (p := ⟨Bq, 4, none⟩) (fun b hb => hb) _⟩⟩
  case round =>
    obtain ⟨j, k, q, QA, qn, qc, hj, rfl, rfl, HS⟩ := hrel
    have hqs : SmallP q := by
      rw [← HS.out.eq]
      exact pall_smallL fun r hr => HR.out r (List.mem_of_mem_take (ofL_mem.1 hr).1)
    have HSM := Lib.hid hqs
    obtain ⟨c0, c1, c2, c3, c4, cz⟩ := blk5 HS.out.blk
    have HXr := Lib.hid (HX1.out.move HS.out.fr (by omega) fun b hb _ => by have := hb.2; omega)
    obtain ⟨t0, t1, t2, tz⟩ := blk3 HXr.out.blk
    have hkn : k ≤ n := by
      rw [← HS.out.ek, ← En.out]
      exact Nat.le_trans (List.length_filter_le _ _) (by rw [List.length_take]; omega)
    clear hqs
    by_cases hlt : j < n
    · obtain ⟨y, hy, hym⟩ := get_of (l := l) (k := j) (by rw [En.out]; exact hlt)
      obtain ⟨bb, oo, B0, m0, d0, B1, m1, d1, rfl, g0, g1, g2, g3, g4, g5, g6, g7, g8, g9, s0, s1⟩ := redo_at HXr.out.row hy
      have b0 : (0 : Int) ≤ (j : Int) := by omega
      have b1 : (j : Int) < (n : Int) := by omega
      have HY := Lib.hid hy
      have HV := Lib.hid (HR.out y hym)
      have HS0 := Lib.hid s0
      have HS1 := Lib.hid s1
      clear hy hym s0 s1
      cases hp : (y.page == id) with
      | false =>
        have HP := Lib.hid hp
        go_wp2_with fail
        clear hp
        go_roundw
        case rel => exact ⟨j + 1, k, q, QA, qn, qc, by omega, by go_num, rfl, Lib.hid (HS.out.skip HY.out (fun e => by have := HP.out; rw [e.1] at this; simp at this) (by first | exact Fr.refl _ _ | exact (Fr.refl _ _).drew))⟩
        case measure => simp [intOf]; omega
      | true =>
        have HP := Lib.hid hp
        cases hd : decide (y.lsn ≤ x) with
        | false =>
          have HD := Lib.hid hd
          go_wp2_with fail
          clear hp hd
          go_roundw
          case rel => exact ⟨j + 1, k, q, QA, qn, qc, by omega, by go_num, rfl, Lib.hid (HS.out.skip HY.out (fun e => (of_decide_eq_false HD.out) e.2) (by first | exact Fr.refl _ _ | exact (Fr.refl _ _).drew))⟩
          case measure => simp [intOf]; omega
        | true =>
          have HD := Lib.hid (And.intro (beq_iff_eq.1 hp) (of_decide_eq_true hd))
          go_upto_region 9 with (fail)
          clear hp hd
          refine wp_name ?_
          intro W3 hW3
          have F3 : Fr All wr W3 := by
            rw [hW3]
            repeat (first | (with_reducible exact Fr.refl _ _) | with_reducible refine Fr.drewN ?_ _ | with_reducible refine Fr.drew ?_)
          clear hW3
          have HF3 := Lib.hid F3
          have HX3 := Lib.hid (HXr.out.all F3)
          have HS03 := Lib.hid (HS0.out.all F3)
          have HS13 := Lib.hid (HS1.out.all F3)
          have HRW := Lib.hid (HS.out.row.all F3)
          have e1 := F3.cell trivial t1
          have c0 := F3.cell trivial c0
          have c1 := F3.cell trivial c1
          have c2 := F3.cell trivial c2
          have c3 := F3.cell trivial c3
          have c4 := F3.cell trivial c4
          have g0 := F3.cell trivial g0
          have g1 := F3.cell trivial g1
          have g2 := F3.cell trivial g2
          have g3 := F3.cell trivial g3
          have g4 := F3.cell trivial g4
          have g5 := F3.cell trivial g5
          have g6 := F3.cell trivial g6
          have g7 := F3.cell trivial g7
          have g8 := F3.cell trivial g8
          have g9 := F3.cell trivial g9
          have HB3 := Lib.hid ((F3.block _ (blk_lt HS.out.blk) trivial).trans HS.out.blk)
          clear t0 t1 t2 tz cz F3 HS0 HS1
          refine wp_region_last (S := fun w' => w'.cell? ⟨B, 1, none⟩ = some (.slice (some ⟨bb, oo, none⟩) n c) ∧ w'.cell? ⟨Bq, 0, none⟩ = some (.int .i64 q.id) ∧ w'.cell? ⟨Bq, 1, none⟩ = some (.int .i64 q.lsn) ∧ w'.cell? ⟨Bq, 2, none⟩ = some (.int .i64 q.level) ∧ w'.cell? ⟨Bq, 3, none⟩ = some (.int .i64 q.next) ∧ w'.cell? ⟨Bq, 4, none⟩ = some (.slice QA qn qc) ∧ w'.cell? ⟨bb, oo + j * 10, none⟩ = some (.int .i64 y.lsn) ∧ w'.cell? ⟨bb, oo + j * 10 + 1, none⟩ = some (.int .i64 y.back) ∧ w'.cell? ⟨bb, oo + j * 10 + 2, none⟩ = some (.int .i64 y.epoch) ∧ w'.cell? ⟨bb, oo + j * 10 + 3, none⟩ = some (.int .i64 y.group) ∧ w'.cell? ⟨bb, oo + j * 10 + 4, none⟩ = some (.int .i64 y.page) ∧ w'.cell? ⟨bb, oo + j * 10 + 5, none⟩ = some (.int .i64 y.kind) ∧ w'.cell? ⟨bb, oo + j * 10 + 6, none⟩ = some (.int .i64 y.slot) ∧ w'.cell? ⟨bb, oo + j * 10 + 7, none⟩ = some (.slice B0 m0 d0) ∧ w'.cell? ⟨bb, oo + j * 10 + 8, none⟩ = some (.slice B1 m1 d1) ∧ w'.cell? ⟨bb, oo + j * 10 + 9, none⟩ = some (.bool y.last)) 9 (by kernel_rfl) rfl (by kernel_rfl) ⟨e1, c0, c1, c2, c3, c4, g0, g1, g2, g3, g4, g5, g6, g7, g8, g9⟩ (fun hHeld => ?_)
          simp only [List.take_succ_cons, List.take_zero]
          refine wpAnyH_take (i := 0) (v := ?_) rfl (by kernel_rfl) (by kernel_rfl) (by kernel_rfl) (fun _ _ _ h => h) (Or.inl ⟨by rfl, ?_⟩) (by assumption) ?_
          rotate_left
          · (intro w hSw; (try dsimp only at hSw); go_simp; try with_reducible rfl)
          try simp only [List.getElem_toArray, List.getElem_cons_succ, List.getElem_cons_zero, Act.put, List.setIfInBounds_toArray, List.set_cons_succ, List.set_cons_zero]
          refine wpAnyH_take (i := 1) (v := ?_) rfl (by kernel_rfl) (by kernel_rfl) (by kernel_rfl) (fun _ _ _ h => h) (Or.inl ⟨by rfl, ?_⟩) (by assumption) ?_
          rotate_left
          · (intro w hSw; (try dsimp only at hSw); go_simp; try with_reducible rfl)
          try simp only [List.getElem_toArray, List.getElem_cons_succ, List.getElem_cons_zero, Act.put, List.setIfInBounds_toArray, List.set_cons_succ, List.set_cons_zero]
          refine wpAnyH_take (i := 2) (v := ?_) rfl (by kernel_rfl) (by kernel_rfl) (by kernel_rfl) (fun _ _ _ h => h) (Or.inl ⟨by rfl, ?_⟩) (by assumption) ?_
          rotate_left
          · (intro w hSw; (try dsimp only at hSw); go_simp; try with_reducible rfl)
          try simp only [List.getElem_toArray, List.getElem_cons_succ, List.getElem_cons_zero, Act.put, List.setIfInBounds_toArray, List.set_cons_succ, List.set_cons_zero]
          refine wpAnyH_take (i := 3) (v := ?_) rfl (by kernel_rfl) (by kernel_rfl) (by kernel_rfl) (fun _ _ _ h => h) (Or.inl ⟨by rfl, ?_⟩) (by assumption) ?_
          rotate_left
          · (intro w hSw; (try dsimp only at hSw); go_simp; try with_reducible rfl)
          try simp only [List.getElem_toArray, List.getElem_cons_succ, List.getElem_cons_zero, Act.put, List.setIfInBounds_toArray, List.set_cons_succ, List.set_cons_zero]
          refine wpAnyH_take (i := 4) (v := ?_) rfl (by kernel_rfl) (by kernel_rfl) (by kernel_rfl) (fun _ _ _ h => h) (Or.inl ⟨by rfl, ?_⟩) (by assumption) ?_
          rotate_left
          · (intro w hSw; (try dsimp only at hSw); go_simp; try with_reducible rfl)
          try simp only [List.getElem_toArray, List.getElem_cons_succ, List.getElem_cons_zero, Act.put, List.setIfInBounds_toArray, List.set_cons_succ, List.set_cons_zero]
          refine wpAnyH_take (i := 5) (v := ?_) rfl (by kernel_rfl) (by kernel_rfl) (by kernel_rfl) (fun _ _ _ h => h) (Or.inl ⟨by rfl, ?_⟩) (by assumption) ?_
          rotate_left
          · (intro w hSw; (try dsimp only at hSw); go_simp; try with_reducible rfl)
          try simp only [List.getElem_toArray, List.getElem_cons_succ, List.getElem_cons_zero, Act.put, List.setIfInBounds_toArray, List.set_cons_succ, List.set_cons_zero]
          refine wpAnyH_take (i := 6) (v := ?_) rfl (by kernel_rfl) (by kernel_rfl) (by kernel_rfl) (fun _ _ _ h => h) (Or.inl ⟨by rfl, ?_⟩) (by assumption) ?_
          rotate_left
          · (intro w hSw; (try dsimp only at hSw); go_simp; try with_reducible rfl)
          try simp only [List.getElem_toArray, List.getElem_cons_succ, List.getElem_cons_zero, Act.put, List.setIfInBounds_toArray, List.set_cons_succ, List.set_cons_zero]
          refine wpAnyH_take (i := 7) (v := ?_) rfl (by kernel_rfl) (by kernel_rfl) (by kernel_rfl) (fun _ _ _ h => h) (Or.inl ⟨by rfl, ?_⟩) (by assumption) ?_
          rotate_left
          · (intro w hSw; (try dsimp only at hSw); go_simp; try with_reducible rfl)
          try simp only [List.getElem_toArray, List.getElem_cons_succ, List.getElem_cons_zero, Act.put, List.setIfInBounds_toArray, List.set_cons_succ, List.set_cons_zero]
          obtain ⟨q', hq'⟩ : ∃ q', papply q y = q' := ⟨_, rfl⟩
          obtain ⟨qn', hqn'⟩ : ∃ m, q'.ents.length = m := ⟨_, rfl⟩
          refine wpAnyH_ready (rs := [8]) (by kernel_rfl) (by simp) (AllReadyH.cons rfl (fun K hK => ?_) AllReadyH.nil)
          go_simp
          refine (ref_apply (HRW.out.all (Fr.refl All W3).drew) HSM.out (HS03.out.all (Fr.refl All W3).drew) (HS13.out.all (Fr.refl All W3).drew) HV.out).mono ?_
          rw [hq']
          rintro e w4 ⟨A4, cc4, rfl, o4, f4⟩
          rw [hqn'] at o4 ⊢
          go_simp
          have FD := (Fr.refl All W3).drew
          have F4 : Fr All W3 w4 := FD.trans f4
          refine hK.out _ _ ⟨F4.cell trivial e1, F4.cell trivial c0, F4.cell trivial c1, F4.cell trivial c2, F4.cell trivial c3, F4.cell trivial c4, F4.cell trivial g0, F4.cell trivial g1, F4.cell trivial g2, F4.cell trivial g3, F4.cell trivial g4, F4.cell trivial g5, F4.cell trivial g6, F4.cell trivial g7, F4.cell trivial g8, F4.cell trivial g9⟩ (fun hHeld => ?_)
          clear hK K
          try simp only [List.getElem_toArray, List.getElem_cons_succ, List.getElem_cons_zero, Act.put, List.setIfInBounds_toArray, List.set_cons_succ, List.set_cons_zero]
          refine wpAnyH_done (by kernel_rfl) ?_ _
          show wpList _ _ _ _ _ _
          have B4 := (F4.block _ (blk_lt HB3.out) trivial).trans HB3.out
          have HST := Lib.hid (fun w3 f3 b3 => HS.out.step HY.out HD.out (HF3.out.trans FD) hq' hqn' f4 o4 (w3 := w3) f3 b3)
          have HB4 := Lib.hid B4
          clear hHeld e1 c0 c1 c2 c3 c4 g0 g1 g2 g3 g4 g5 g6 g7 g8 g9 o4 f4 F4 FD hq' hqn'
          obtain ⟨x0, x1, x2, x3, x4, xz⟩ := blk5 B4
          clear B4
          go_wp2_with fail
          go_roundw
          case rel => exact ⟨j + 1, k + 1, q', A4, qn', cc4, by omega, by go_num, by go_num, Lib.hid (HST.out _ (by repeat (first | (with_reducible exact Fr.refl _ _) | with_reducible refine Fr.setCell ?_ (fun m hm => by exact hm) _)) (heap_setCell_same _ Bq 4 _ _ _ (heap_setCell_same _ Bq 3 _ _ _ (heap_setCell_same _ Bq 2 _ _ _ (heap_setCell_same _ Bq 1 _ _ _ (heap_setCell_same _ Bq 0 _ _ _ HB4.out))))))⟩
          case measure => simp [intOf]; omega
    · obtain rfl : j = n := by omega
      have hnz := HZ1.out
      have HZr := Lib.hid ((HS.out.fr.block _ (blk_lt hnz) (by omega)).trans hnz)
      have ho : ofL (l.take j) id x = ofL l id x := by rw [List.take_of_length_le (by rw [En.out]; exact Nat.le_refl _)]
      have HE := Lib.hid (ho ▸ HS.out.eq)
      have HK := Lib.hid (ho ▸ HS.out.ek)
      have HN := Lib.hid HS.out.eqn
      have HRW := Lib.hid HS.out.row
      have HFR := Lib.hid (fr_past FW1.out HS.out.fr fun x hx => by omega)
      clear hnz ho
      obtain ⟨z0, z1, z2, z3, z4, zz⟩ := blk5 HZr.out
      by_cases hk : k = 0
      · subst hk
        have hnil : ofL l id x = [] := List.eq_nil_of_length_eq_zero HK.out
        obtain rfl : page0 id = q := by rw [← HE.out, hnil]; rfl
        obtain rfl : 0 = qn := HN.out
        have HNIL := Lib.hid hnil
        clear hnil
        go_wp2_with fail
        refine bodyPost_ret (v := .tuple #[.agg #[.int .i64 0, .int .i64 0, .int .i64 0, .int .i64 0, .slice none 0 0], .int .i64 107]) ?_ rfl ⟨none, 0, .inl ⟨HNIL.out, rfl⟩, ?_, ?_⟩
        · simp [results, Tryz.results32, go_sem, z0, z1, z2, z3, z4]
        · rw [HNIL.out]
          exact Sl.nil_ _ _ _
        · repeat (first | (with_reducible exact HFR.out) | with_reducible refine Fr.drew ?_ | with_reducible refine Fr.setNew ?_ (by dsimp only; omega) _)
      · have hkb : ((k : Int) == 0) = false := beq_false_of_ne (by omega)
        have hne : ofL l id x ≠ [] := fun e => hk (by rw [← HK.out, e]; rfl)
        have HNE := Lib.hid hne
        clear hne
        go_wp2_with fail
        refine bodyPost_ret (v := .tuple #[.agg #[.int .i64 q.id, .int .i64 q.lsn, .int .i64 q.level, .int .i64 q.next, .slice QA qn qc], .int .i64 0]) ?_ rfl ⟨QA, qc, .inr ⟨HNE.out, by rw [HE.out, HN.out]⟩, ?_, ?_⟩
        · simp [results, Tryz.results32, go_sem, z0, z1, z2, z3, z4]
        · rw [HE.out, HN.out]
          refine ((HRW.out.move' (T := fun b => b ≠ w.heap.size) ?_ fun b hb _ => by omega).mono fun _ _ _ => trivial)
          repeat (first | (with_reducible exact Fr.refl _ _) | with_reducible refine Fr.setCell ?_ (fun m hm => by exact hm) _)
        · repeat (first | (with_reducible exact HFR.out) | with_reducible refine Fr.drew ?_ | with_reducible refine Fr.setNew ?_ (by dsimp only; omega) _)
end Go.Proofs.YtoaamcpiljoojaaGreatDoor
namespace Go.Proofs.YtoaamcpiljoojaaGreatDoor
open Go.RowKit

theorem ris_ins {l : List Int} (h : l.Pairwise (· < ·)) {kk : Nat} {x : Int} (h1 : ∀ y ∈ l.take kk, y < x) (h2 : ∀ y ∈ l.drop kk, x < y) : ((l.take kk ++ [x]) ++ l.drop kk).Pairwise (· < ·) ∧ ∀ z, z ∈ (l.take kk ++ [x]) ++ l.drop kk ↔ z = x ∨ z ∈ l := by
  constructor
  · rw [List.pairwise_append, List.pairwise_append]
    refine ⟨⟨h.sublist (List.take_sublist _ _), List.pairwise_singleton _ _, fun a ha b hb => ?_⟩, h.sublist (List.drop_sublist _ _), fun a ha b hb => ?_⟩
    · rw [List.mem_singleton] at hb
      exact hb ▸ h1 a ha
    · rw [List.mem_append, List.mem_singleton] at ha
      rcases ha with ha | rfl
      · exact Int.lt_trans (h1 a ha) (h2 b hb)
      · exact h2 b hb
  · intro z
    have hz : z ∈ l ↔ z ∈ l.take kk ∨ z ∈ l.drop kk := by rw [← List.mem_append, List.take_append_drop]
    rw [hz, List.mem_append, List.mem_append, List.mem_singleton]
    constructor
    · rintro ((h | h) | h)
      · exact .inr (.inl h)
      · exact .inl h
      · exact .inr (.inr h)
    · rintro (h | h | h)
      · exact .inl (.inr h)
      · exact .inl (.inl h)
      · exact .inr h
theorem ris_up {l : List Int} (h : l.Pairwise (· < ·)) {kk : Nat} {x y : Int} (hy : l[kk]? = some y) (hxy : x < y) : ∀ z ∈ l.drop kk, x < z := by
  intro z hz
  obtain ⟨i, hi⟩ := List.mem_iff_getElem?.1 hz
  rw [List.getElem?_drop] at hi
  by_cases h0 : i = 0
  · subst h0
    rw [Nat.add_zero, hy] at hi
    exact Option.some.inj hi ▸ hxy
  · obtain ⟨h3, h4⟩ := List.getElem?_eq_some_iff.1 hy
    obtain ⟨h5, h6⟩ := List.getElem?_eq_some_iff.1 hi
    have := List.pairwise_iff_getElem.1 h kk (kk + i) h3 h5 (by omega)
    omega
/-- Rising, without twins, with just the members of another list. -/
def RisOf (out xs : List Int) : Prop := out.Pairwise (· < ·) ∧ ∀ z, z ∈ out ↔ z ∈ xs
theorem RisOf.onces {out xs : List Int} (h : RisOf out xs) : out = onces (ascend xs) := by
  obtain ⟨h1, h2⟩ := onces_is (ascend_le xs)
  exact asc_ext _ _ h.1 h1 fun k => by rw [h.2, h2, ascend_mem]
set_option maxRecDepth 100000 in
set_option maxHeartbeats 4000000 in
theorem ref_rising {v : Value} {xs : List Int} {Q : Nat → Prop} {w : World} (h : Sl kInt Q w v xs) (hl : xs.length ≤ 100000) :
    Calls Tryz.prog 76 #[v] w fun e w' => ∃ A m c, e = .returned (.slice A m c) ∧ Sl kInt All w' (.slice A m c) (onces (ascend xs)) ∧ Fr All w w' := by
  obtain ⟨A, n, c, rfl, en, _⟩ := h.open_
  have HI := Lib.hid (h.mono (T := fun b => Q b ∧ b < w.heap.size) fun b hb hl => ⟨hb, hl⟩)
  have En : Hid (xs.length = n) := Lib.hid en
  have hn1 : n ≤ 100000 := by omega
  clear h en
  go_enter Tryz.func76, Tryz.ntmps76
  go_wp2_with fail
  go_loopw [3, 4] (fun u i wr => ∃ (j m : Nat) (A' : Option Addr) (c' : Nat) (out : List Int), j ≤ n ∧ m ≤ j ∧ i = .int .i64 j ∧ u = .slice A' m c' ∧ Hid (RisOf out (xs.take j)) ∧ Hid (Sl kInt All wr (.slice A' m c') out) ∧ Fr All w wr) (fun _ i _ => n - (intOf i).toNat)
  case atStart => exact ⟨0, 0, none, 0, [], Nat.zero_le _, Nat.le_refl _, rfl, rfl, Lib.hid ⟨List.Pairwise.nil, fun z => by simp⟩, Lib.hid (Sl.nil_ _ _ _), Fr.refl _ _⟩
  case round =>
    obtain ⟨j, m, A', c', out, hj, hmj, rfl, rfl, HR, HO, HF⟩ := hrel
    have hml : out.length = m := HO.out.len
    have HM := Lib.hid hml
    clear hml
    by_cases hlt : j < n
    · obtain ⟨x, hx, _⟩ := get_of (l := xs) (k := j) (by rw [En.out]; exact hlt)
      have HX := Lib.hid hx
      obtain ⟨bi, oi, hA, g0⟩ := (HI.out.all HF).at1 hx
      have HA := Lib.hid hA
      have b0 : (0 : Int) ≤ (j : Int) := by omega
      have b1 : (j : Int) < (n : Int) := by omega
      rcases (⟨wr, rfl⟩ : ∃ W5, W5 = wr) with ⟨W, hW⟩
      subst hW
      clear g0 hx
      subst hA
      go_wp2_with fail
      go_loopw [5] (fun kv wr => ∃ kk : Nat, kk ≤ m ∧ kv = .int .i64 kk ∧ Hid (∀ y ∈ out.take kk, y < x) ∧ Fr All W wr) (fun kv _ => m - (intOf kv).toNat)
      case atStart => exact ⟨0, Nat.zero_le _, rfl, (fun y hy => by simp at hy : ∀ y ∈ out.take 0, y < x), Fr.refl _ _⟩
      case round =>
        obtain ⟨kk, hkk, rfl, HB, HF6⟩ := hrel
        by_cases hk0 : kk < m
        · obtain ⟨y, hy, _⟩ := get_of (l := out) (k := kk) (by rw [HM.out]; exact hk0)
          obtain ⟨bo, oo, rfl, e0⟩ := (HO.out.all HF6).at1 hy
          obtain ⟨bj, oj, hA2, g0⟩ := (HI.out.all (HF.trans HF6)).at1 HX.out
          injection hA2 with hA2
          injection hA2 with hA3 hA4
          subst hA3
          subst hA4
          have i0 : (kk : Int) < (m : Int) := by omega
          have i1 : (0 : Int) ≤ (kk : Int) := by omega
          have HY := Lib.hid hy
          clear hy
          cases hd : decide (y < x) with
          | true =>
            go_upto_region 6 with (fail)
            go_quiet (fail)
            go_wp2_with fail
            have HD := Lib.hid (of_decide_eq_true hd)
            clear hd e0 g0
            go_roundw
            case rel => exact ⟨kk + 1, by omega, by go_num, Lib.hid (fun z hz => by
              rw [take_snoc HY.out, List.mem_append, List.mem_singleton] at hz
              rcases hz with hz | rfl
              · exact HB.out z hz
              · exact HD.out), by first | exact HF6.drewN _ | exact HF6.drew | exact HF6⟩
            case measure => simp [intOf]; omega
          | false =>
            cases he : (y == x) with
            | true =>
              go_upto_region 6 with (fail)
              go_quiet (fail)
              go_upto_region 8 with (fail)
              go_quiet (fail)
              go_wp2_with fail
              have HE := Lib.hid (beq_iff_eq.1 he)
              clear hd he e0 g0
              go_roundw
              case rel => exact ⟨j + 1, m, _, c', out, by omega, by omega, by go_num, rfl, Lib.hid ⟨HR.out.1, fun z => by
                rw [HR.out.2, take_snoc HX.out, List.mem_append, List.mem_singleton]
                constructor
                · exact .inl
                · rintro (h | rfl)
                  · exact h
                  · rw [← HR.out.2, ← HE.out]; exact List.mem_of_getElem? HY.out⟩, Lib.hid (HO.out.all (by first | exact HF6.drewN _ | exact HF6.drew | exact (HF6.drewN _).drewN _)), by first | exact (HF.trans HF6).drewN _ | exact ((HF.trans HF6).drewN _).drewN _⟩
              case measure => simp [intOf]; omega
            | false =>
              go_upto_region 6 with (fail)
              go_quiet (fail)
              go_upto_region 8 with (fail)
              go_quiet (fail)
              have HUP : Hid (∀ z ∈ out.drop kk, x < z) := Lib.hid (ris_up HR.out.1 HY.out (by have h1 := of_decide_eq_false hd; have h2 : y ≠ x := (fun e => by rw [e] at he; simp at he); omega))
              clear hd he e0 i0 i1
              generalize (some (⟨bo, oo, none⟩ : Addr)) = A2 at *
              go_upto_region 9 with (fail)
              refine wp_name ?_
              intro W0 hW0
              have F0 : Fr All wr W0 := by
                rw [hW0]
                repeat (first | (with_reducible exact Fr.refl _ _) | with_reducible refine Fr.drewN ?_ _ | with_reducible refine Fr.drew ?_)
              clear hW0
              have H0 : Sl kInt (fun b => b < W0.heap.size) W0 (.slice A2 m c') out := ((HO.out.all HF6).all F0).mono fun b _ hl => hl
              have hcap : m ≤ c' ∧ c' ≤ maxLen := by have h4 := H0.len; obtain ⟨_, _, he, h1, h2, _⟩ := id H0; have h3 := (Value.slice.inj he).2; omega
              obtain ⟨j1, hj1⟩ : ∃ j1, j1 = m + 1 := ⟨_, rfl⟩
              have hj2 : j1 ≤ m + 1 := by omega
              have hj3 : m + 1 ≤ j1 := by omega
              have hwj : IntKind.i64.wrap ((m : Int) + 1) = (j1 : Int) := by rw [IntKind.wrap_i64]; omega
              clear hj1
              obtain ⟨w1, hmk, o1, f1⟩ := run_mk (P := Tryz.prog) kInt (fun b => b < W0.heap.size) W0.drew W0.heap.size 74 3 (.int .i64 0) 8 Tryz.underlying74 infoInt j1 (by omega) (by simp only [maxLen]; omega) (Nat.le_refl _)
              have hz1 : W0.heap.size < w1.heap.size := (own_lt o1 _ rfl).2
              have i5 : (kk : Int) ≤ (c' : Int) := by omega
              have i6 : (0 : Int) ≤ (kk : Int) := by omega
              have HY1 := ((H0.all ((Fr.refl All W0).drew.trans f1)).take hkk).src
              refine wp_region_all (S := fun _ => True) (by kernel_rfl) trivial (fun hHeld => ?_)
              refine wpAnyH_take (i := 0) (v := ?_) rfl (by kernel_rfl) (by kernel_rfl) (by kernel_rfl) (fun _ _ _ h => h) (Or.inl ⟨by rfl, ?_⟩) (by assumption) ?_
              rotate_left
              · (intro w hSw; (try dsimp only at hSw); go_simp; try with_reducible rfl)
              try simp only [List.getElem_toArray, List.getElem_cons_succ, List.getElem_cons_zero, Act.put, List.setIfInBounds_toArray, List.set_cons_succ, List.set_cons_zero]
              refine wpAnyH_take (i := 1) (v := ?_) rfl (by kernel_rfl) (by kernel_rfl) (by kernel_rfl) (fun _ _ _ h => h) (Or.inl ⟨by rfl, ?_⟩) (by assumption) ?_
              rotate_left
              · (intro w hSw; (try dsimp only at hSw); go_simp; try with_reducible rfl)
              try simp only [List.getElem_toArray, List.getElem_cons_succ, List.getElem_cons_zero, Act.put, List.setIfInBounds_toArray, List.set_cons_succ, List.set_cons_zero]
              refine wpAnyH_take (i := 2) (v := ?_) rfl (by kernel_rfl) (by kernel_rfl) (by kernel_rfl) (fun _ _ _ h => h) (Or.inl ⟨by rfl, ?_⟩) (by assumption) ?_
              rotate_left
              · (intro w hSw; (try dsimp only at hSw); go_simp; try with_reducible rfl)
              try simp only [List.getElem_toArray, List.getElem_cons_succ, List.getElem_cons_zero, Act.put, List.setIfInBounds_toArray, List.set_cons_succ, List.set_cons_zero]
              refine wpAnyH_take (i := 4) (v := ?_) rfl (by kernel_rfl) (by kernel_rfl) (by kernel_rfl) (fun _ _ _ h => h) (Or.inl ⟨by rfl, ?_⟩) (by assumption) ?_
              rotate_left
              · (intro w hSw; (try dsimp only at hSw); go_simp; try with_reducible rfl)
              try simp only [List.getElem_toArray, List.getElem_cons_succ, List.getElem_cons_zero, Act.put, List.setIfInBounds_toArray, List.set_cons_succ, List.set_cons_zero]
              refine wpAnyH_take (i := 5) (v := ?_) rfl (by kernel_rfl) (by kernel_rfl) (by kernel_rfl) (fun _ _ _ h => h) (Or.inl ⟨by rfl, ?_⟩) (by assumption) ?_
              rotate_left
              · (intro w hSw; (try dsimp only at hSw); go_simp; try with_reducible rfl)
              try simp only [List.getElem_toArray, List.getElem_cons_succ, List.getElem_cons_zero, Act.put, List.setIfInBounds_toArray, List.set_cons_succ, List.set_cons_zero]
              refine wpAnyH_take (i := 6) (v := ?_) rfl (by kernel_rfl) (by kernel_rfl) (by kernel_rfl) (fun _ _ _ h => h) (Or.inl ⟨by rfl, ?_⟩) (by assumption) ?_
              rotate_left
              · (intro w hSw; (try dsimp only at hSw); go_simp; try with_reducible rfl)
              try simp only [List.getElem_toArray, List.getElem_cons_succ, List.getElem_cons_zero, Act.put, List.setIfInBounds_toArray, List.set_cons_succ, List.set_cons_zero]
              refine wpAnyH_ready (rs := [3]) (by kernel_rfl) (by simp) (AllReadyH.cons rfl (fun K hK => ?_) AllReadyH.nil)
              go_simp
              refine hK.out _ _ trivial (fun hHeld => ?_)
              clear hK K
              try simp only [List.getElem_toArray, List.getElem_cons_succ, List.getElem_cons_zero, Act.put, List.setIfInBounds_toArray, List.set_cons_succ, List.set_cons_zero]
              refine wpAnyH_ready (rs := [7]) (by kernel_rfl) (by simp) (AllReadyH.cons rfl (fun K hK => ?_) AllReadyH.nil)
              refine wp_app rfl Tryz.underlying74 infoInt rfl (by decide) o1 HY1 rfl rfl (fun b hb _ => ⟨hb, fun e => by have h1 : b = W0.heap.size := Option.some.inj e; omega⟩) (by rw [List.length_take, HM.out]; simp only [List.length_nil]; omega) (by have := f1.size; exact this) ?_
              intro v2 w2 o2 f2 h2
              refine hK.out _ _ trivial (fun hHeld => ?_)
              clear hK K
              try simp only [List.getElem_toArray, List.getElem_cons_succ, List.getElem_cons_zero, Act.put, List.setIfInBounds_toArray, List.set_cons_succ, List.set_cons_zero]
              refine wpAnyH_take (i := 8) (v := ?_) rfl (by kernel_rfl) (by kernel_rfl) (by kernel_rfl) (fun _ _ _ h => h) (Or.inl ⟨by rfl, ?_⟩) (by assumption) ?_
              rotate_left
              · (intro w hSw; (try dsimp only at hSw); go_simp; try with_reducible rfl)
              try simp only [List.getElem_toArray, List.getElem_cons_succ, List.getElem_cons_zero, Act.put, List.setIfInBounds_toArray, List.set_cons_succ, List.set_cons_zero]
              try simp only [List.getElem_toArray, List.getElem_cons_succ, List.getElem_cons_zero, List.set_cons_succ, List.set_cons_zero]
              refine wpAnyH_done (by kernel_rfl) ?_ _
              have F02 : Fr All W0 w2 := ((Fr.refl All W0).drew.trans f1).row f2.grown (fun m hm => (own_lt o1 m hm).1)
              have FW2 : Fr All w w2 := ((HF.trans HF6).trans F0).trans F02
              obtain ⟨bz, oz, hA5, g0⟩ := (HI.out.all FW2).at1 HX.out
              injection hA5 with hA5
              injection hA5 with hA6 hA7
              subst hA6
              subst hA7
              have HRI := Lib.hid (ris_ins HR.out.1 HB.out HUP.out)
              obtain ⟨M1, hM1⟩ : ∃ M, [] ++ out.take kk = M := ⟨_, rfl⟩
              rw [hM1] at o2
              obtain ⟨A3, c3, rfl⟩ := o2.length
              have FB := (Fr.refl All w2).alloc (.cells #[.int .i64 x] 3)
              have O2 := o2.all FB
              have hzw := FW2.size
              have hz0 : W0.drew.heap.size = W0.heap.size := rfl
              have hsz2 : w.heap.size ≤ W0.heap.size := ((HF.trans HF6).trans F0).size
              have HY2 : Src kInt (fun b => b < W0.heap.size) (w2.alloc (.cells #[.int .i64 x] 3)) (.slice (some ⟨w2.heap.size, 0, none⟩) 1 1) [x] := Src.box (d := kInt) (x := x) (cs := [.int .i64 x]) rfl _ 1
              have hw2o := own_lt o2
              have HO2b := Lib.hid hw2o
              have hb2 : W0.heap.size ≤ (w2.alloc (.cells #[.int .i64 x] 3)).heap.size := by rw [World.size_alloc]; have := F02.size; omega
              have hm1l : M1.length ≤ m := by rw [← hM1, List.nil_append, List.length_take, HM.out]; omega
              have HM1 := Lib.hid hM1
              obtain ⟨m1, hm1⟩ : ∃ m1, M1.length = m1 := ⟨_, rfl⟩
              rw [hm1] at hm1l
              simp only [hm1] at O2 HO2b ⊢
              clear o1 hmk HY1 hM1
              go_upto_region 11 with (at_builtin; refine wpList_app rfl rfl Tryz.underlying74 infoInt rfl (by decide) O2 HY2 rfl rfl (fun b hb _ => ⟨hb, fun e => by have := (HO2b.out b e.symm).1; omega⟩) (by rw [hm1]; simp only [List.length_cons, List.length_nil]; omega) hb2 ?_; intro v3 w3 o3 f3 h3)
              have F03 : Fr All W0 w3 := (F02.trans FB).row f3.grown fun m hm => (HO2b.out m hm).1
              obtain ⟨M2, hM2⟩ : ∃ M, M1 ++ [x] = M := ⟨_, rfl⟩
              rw [hM2] at o3
              have hml2 : M2.length ≤ j + 1 := by rw [← hM2, List.length_append, hm1]; simp only [List.length_cons, List.length_nil]; omega
              have i7 : (kk : Int) ≤ (m : Int) := by omega
              have HY3 := ((H0.all F03).drop hkk).src
              rw [show kInt.sz = 1 from rfl, Nat.mul_one] at HY3
              try rw [if_neg (show ¬ c' = kk by omega)] at HY3
              have hw3o := Lib.hid (own_lt o3)
              have hb3 : W0.heap.size ≤ w3.heap.size := F03.size
              have HLM : Hid (M2.length = kk + 1) := Lib.hid (by rw [← hM2, List.length_append, ← HM1.out]; simp only [List.nil_append, List.length_take, HM.out, List.length_cons, List.length_nil]; omega)
              clear O2 HY2 o2 f2 h2 f3 h3 FB F02 g0
              go_wp2_with (at_builtin; refine wpList_app rfl rfl Tryz.underlying74 infoInt rfl (by decide) o3 HY3 rfl rfl (fun b hb _ => ⟨hb, fun e => by have := (hw3o.out b e.symm).1; omega⟩) (by rw [List.length_drop, HM.out, HLM.out]; omega) hb3 ?_; intro v4 w4 o4 f4 h4)
              have hfin : M2 ++ out.drop kk = (out.take kk ++ [x]) ++ out.drop kk := by
                rw [← hM2, ← HM1.out]
                simp
              have hll : ((out.take kk ++ [x]) ++ out.drop kk).length = m + 1 := by simp only [List.length_append, List.length_take, List.length_drop, HM.out, List.length_cons, List.length_nil]; omega
              rw [hfin] at o4
              obtain ⟨A5, c5, rfl⟩ := o4.length
              rw [hll] at o4 ⊢
              have F4 : Fr All w w4 := ((((HF.trans HF6).trans F0).trans F03).row f4.grown fun m hm => Nat.le_trans hsz2 (hw3o.out m hm).1)
              have HS4 := Lib.hid (o4.sl_in (T := All) (fun _ _ _ => trivial) (fun _ _ _ => trivial))
              have HRS : Hid (RisOf ((out.take kk ++ [x]) ++ out.drop kk) (xs.take (j + 1))) := Lib.hid ⟨HRI.out.1, fun z => by
                rw [HRI.out.2, HR.out.2, take_snoc HX.out, List.mem_append, List.mem_singleton]
                exact or_comm⟩
              clear o4 f4 h4 o3 HY3 hfin hll hM2
              go_wp2_with fail
              go_roundw
              case rel => exact ⟨j + 1, m + 1, A5, c5, _, by omega, by omega, by go_num, by first | rfl | go_num, HRS, HS4, F4⟩
              case measure => simp [intOf]; omega
        · have HKM := Lib.hid (show kk = m by omega)
          have hgk : decide ((kk : Int) < (m : Int)) = false := decide_eq_false (by omega)
          obtain ⟨bj, oj, hA2, g0⟩ := (HI.out.all (HF.trans HF6)).at1 HX.out
          injection hA2 with hA2
          injection hA2 with hA3 hA4
          subst hA3
          subst hA4
          have HUP : Hid (∀ z ∈ out.drop kk, x < z) := Lib.hid (fun z hz => by rw [List.drop_of_length_le (by rw [HM.out, HKM.out]; exact Nat.le_refl _)] at hz; cases hz)
          go_upto_region 6 with (fail)
          go_quiet (fail)
          go_upto_region 8 with (fail)
          go_quiet (fail)
          clear hgk hk0
          go_upto_region 9 with (fail)
          refine wp_name ?_
          intro W0 hW0
          have F0 : Fr All wr W0 := by
            rw [hW0]
            repeat (first | (with_reducible exact Fr.refl _ _) | with_reducible refine Fr.drewN ?_ _ | with_reducible refine Fr.drew ?_)
          clear hW0
          have H0 : Sl kInt (fun b => b < W0.heap.size) W0 (.slice A' m c') out := ((HO.out.all HF6).all F0).mono fun b _ hl => hl
          have hcap : m ≤ c' ∧ c' ≤ maxLen := by have h4 := H0.len; obtain ⟨_, _, he, h1, h2, _⟩ := id H0; have h3 := (Value.slice.inj he).2; omega
          obtain ⟨j1, hj1⟩ : ∃ j1, j1 = m + 1 := ⟨_, rfl⟩
          have hj2 : j1 ≤ m + 1 := by omega
          have hj3 : m + 1 ≤ j1 := by omega
          have hwj : IntKind.i64.wrap ((m : Int) + 1) = (j1 : Int) := by rw [IntKind.wrap_i64]; omega
          clear hj1
          obtain ⟨w1, hmk, o1, f1⟩ := run_mk (P := Tryz.prog) kInt (fun b => b < W0.heap.size) W0.drew W0.heap.size 74 3 (.int .i64 0) 8 Tryz.underlying74 infoInt j1 (by omega) (by simp only [maxLen]; omega) (Nat.le_refl _)
          have hz1 : W0.heap.size < w1.heap.size := (own_lt o1 _ rfl).2
          have i5 : (kk : Int) ≤ (c' : Int) := by omega
          have i6 : (0 : Int) ≤ (kk : Int) := by omega
          have HY1 := ((H0.all ((Fr.refl All W0).drew.trans f1)).take hkk).src
          refine wp_region_all (S := fun _ => True) (by kernel_rfl) trivial (fun hHeld => ?_)
          refine wpAnyH_take (i := 0) (v := ?_) rfl (by kernel_rfl) (by kernel_rfl) (by kernel_rfl) (fun _ _ _ h => h) (Or.inl ⟨by rfl, ?_⟩) (by assumption) ?_
          rotate_left
          · (intro w hSw; (try dsimp only at hSw); go_simp; try with_reducible rfl)
          try simp only [List.getElem_toArray, List.getElem_cons_succ, List.getElem_cons_zero, Act.put, List.setIfInBounds_toArray, List.set_cons_succ, List.set_cons_zero]
          refine wpAnyH_take (i := 1) (v := ?_) rfl (by kernel_rfl) (by kernel_rfl) (by kernel_rfl) (fun _ _ _ h => h) (Or.inl ⟨by rfl, ?_⟩) (by assumption) ?_
          rotate_left
          · (intro w hSw; (try dsimp only at hSw); go_simp; try with_reducible rfl)
          try simp only [List.getElem_toArray, List.getElem_cons_succ, List.getElem_cons_zero, Act.put, List.setIfInBounds_toArray, List.set_cons_succ, List.set_cons_zero]
          refine wpAnyH_take (i := 2) (v := ?_) rfl (by kernel_rfl) (by kernel_rfl) (by kernel_rfl) (fun _ _ _ h => h) (Or.inl ⟨by rfl, ?_⟩) (by assumption) ?_
          rotate_left
          · (intro w hSw; (try dsimp only at hSw); go_simp; try with_reducible rfl)
          try simp only [List.getElem_toArray, List.getElem_cons_succ, List.getElem_cons_zero, Act.put, List.setIfInBounds_toArray, List.set_cons_succ, List.set_cons_zero]
          refine wpAnyH_take (i := 4) (v := ?_) rfl (by kernel_rfl) (by kernel_rfl) (by kernel_rfl) (fun _ _ _ h => h) (Or.inl ⟨by rfl, ?_⟩) (by assumption) ?_
          rotate_left
          · (intro w hSw; (try dsimp only at hSw); go_simp; try with_reducible rfl)
          try simp only [List.getElem_toArray, List.getElem_cons_succ, List.getElem_cons_zero, Act.put, List.setIfInBounds_toArray, List.set_cons_succ, List.set_cons_zero]
          refine wpAnyH_take (i := 5) (v := ?_) rfl (by kernel_rfl) (by kernel_rfl) (by kernel_rfl) (fun _ _ _ h => h) (Or.inl ⟨by rfl, ?_⟩) (by assumption) ?_
          rotate_left
          · (intro w hSw; (try dsimp only at hSw); go_simp; try with_reducible rfl)
          try simp only [List.getElem_toArray, List.getElem_cons_succ, List.getElem_cons_zero, Act.put, List.setIfInBounds_toArray, List.set_cons_succ, List.set_cons_zero]
          refine wpAnyH_take (i := 6) (v := ?_) rfl (by kernel_rfl) (by kernel_rfl) (by kernel_rfl) (fun _ _ _ h => h) (Or.inl ⟨by rfl, ?_⟩) (by assumption) ?_
          rotate_left
          · (intro w hSw; (try dsimp only at hSw); go_simp; try with_reducible rfl)
          try simp only [List.getElem_toArray, List.getElem_cons_succ, List.getElem_cons_zero, Act.put, List.setIfInBounds_toArray, List.set_cons_succ, List.set_cons_zero]
          refine wpAnyH_ready (rs := [3]) (by kernel_rfl) (by simp) (AllReadyH.cons rfl (fun K hK => ?_) AllReadyH.nil)
          go_simp
          refine hK.out _ _ trivial (fun hHeld => ?_)
          clear hK K
          try simp only [List.getElem_toArray, List.getElem_cons_succ, List.getElem_cons_zero, Act.put, List.setIfInBounds_toArray, List.set_cons_succ, List.set_cons_zero]
          refine wpAnyH_ready (rs := [7]) (by kernel_rfl) (by simp) (AllReadyH.cons rfl (fun K hK => ?_) AllReadyH.nil)
          refine wp_app rfl Tryz.underlying74 infoInt rfl (by decide) o1 HY1 rfl rfl (fun b hb _ => ⟨hb, fun e => by have h1 : b = W0.heap.size := Option.some.inj e; omega⟩) (by rw [List.length_take, HM.out]; simp only [List.length_nil]; omega) (by have := f1.size; exact this) ?_
          intro v2 w2 o2 f2 h2
          refine hK.out _ _ trivial (fun hHeld => ?_)
          clear hK K
          try simp only [List.getElem_toArray, List.getElem_cons_succ, List.getElem_cons_zero, Act.put, List.setIfInBounds_toArray, List.set_cons_succ, List.set_cons_zero]
          refine wpAnyH_take (i := 8) (v := ?_) rfl (by kernel_rfl) (by kernel_rfl) (by kernel_rfl) (fun _ _ _ h => h) (Or.inl ⟨by rfl, ?_⟩) (by assumption) ?_
          rotate_left
          · (intro w hSw; (try dsimp only at hSw); go_simp; try with_reducible rfl)
          try simp only [List.getElem_toArray, List.getElem_cons_succ, List.getElem_cons_zero, Act.put, List.setIfInBounds_toArray, List.set_cons_succ, List.set_cons_zero]
          try simp only [List.getElem_toArray, List.getElem_cons_succ, List.getElem_cons_zero, List.set_cons_succ, List.set_cons_zero]
          refine wpAnyH_done (by kernel_rfl) ?_ _
          have F02 : Fr All W0 w2 := ((Fr.refl All W0).drew.trans f1).row f2.grown (fun m hm => (own_lt o1 m hm).1)
          have FW2 : Fr All w w2 := ((HF.trans HF6).trans F0).trans F02
          obtain ⟨bz, oz, hA5, g0⟩ := (HI.out.all FW2).at1 HX.out
          injection hA5 with hA5
          injection hA5 with hA6 hA7
          subst hA6
          subst hA7
          have HRI := Lib.hid (ris_ins HR.out.1 HB.out HUP.out)
          obtain ⟨M1, hM1⟩ : ∃ M, [] ++ out.take kk = M := ⟨_, rfl⟩
          rw [hM1] at o2
          obtain ⟨A3, c3, rfl⟩ := o2.length
          have FB := (Fr.refl All w2).alloc (.cells #[.int .i64 x] 3)
          have O2 := o2.all FB
          have hzw := FW2.size
          have hz0 : W0.drew.heap.size = W0.heap.size := rfl
          have hsz2 : w.heap.size ≤ W0.heap.size := ((HF.trans HF6).trans F0).size
          have HY2 : Src kInt (fun b => b < W0.heap.size) (w2.alloc (.cells #[.int .i64 x] 3)) (.slice (some ⟨w2.heap.size, 0, none⟩) 1 1) [x] := Src.box (d := kInt) (x := x) (cs := [.int .i64 x]) rfl _ 1
          have hw2o := own_lt o2
          have HO2b := Lib.hid hw2o
          have hb2 : W0.heap.size ≤ (w2.alloc (.cells #[.int .i64 x] 3)).heap.size := by rw [World.size_alloc]; have := F02.size; omega
          have hm1l : M1.length ≤ m := by rw [← hM1, List.nil_append, List.length_take, HM.out]; omega
          have HM1 := Lib.hid hM1
          obtain ⟨m1, hm1⟩ : ∃ m1, M1.length = m1 := ⟨_, rfl⟩
          rw [hm1] at hm1l
          simp only [hm1] at O2 HO2b ⊢
          clear o1 hmk HY1 hM1
          go_upto_region 11 with (at_builtin; refine wpList_app rfl rfl Tryz.underlying74 infoInt rfl (by decide) O2 HY2 rfl rfl (fun b hb _ => ⟨hb, fun e => by have := (HO2b.out b e.symm).1; omega⟩) (by rw [hm1]; simp only [List.length_cons, List.length_nil]; omega) hb2 ?_; intro v3 w3 o3 f3 h3)
          have F03 : Fr All W0 w3 := (F02.trans FB).row f3.grown fun m hm => (HO2b.out m hm).1
          obtain ⟨M2, hM2⟩ : ∃ M, M1 ++ [x] = M := ⟨_, rfl⟩
          rw [hM2] at o3
          have hml2 : M2.length ≤ j + 1 := by rw [← hM2, List.length_append, hm1]; simp only [List.length_cons, List.length_nil]; omega
          have i7 : (kk : Int) ≤ (m : Int) := by omega
          have HY3 := ((H0.all F03).drop hkk).src
          rw [show kInt.sz = 1 from rfl, Nat.mul_one] at HY3
          try rw [if_neg (show ¬ c' = kk by omega)] at HY3
          have hw3o := Lib.hid (own_lt o3)
          have hb3 : W0.heap.size ≤ w3.heap.size := F03.size
          have HLM : Hid (M2.length = kk + 1) := Lib.hid (by rw [← hM2, List.length_append, ← HM1.out]; simp only [List.nil_append, List.length_take, HM.out, List.length_cons, List.length_nil]; omega)
          clear O2 HY2 o2 f2 h2 f3 h3 FB F02 g0
          go_wp2_with (at_builtin; refine wpList_app rfl rfl Tryz.underlying74 infoInt rfl (by decide) o3 HY3 rfl rfl (fun b hb _ => ⟨hb, fun e => by have := (hw3o.out b e.symm).1; omega⟩) (by rw [List.length_drop, HM.out, HLM.out]; omega) hb3 ?_; intro v4 w4 o4 f4 h4)
          have hfin : M2 ++ out.drop kk = (out.take kk ++ [x]) ++ out.drop kk := by
            rw [← hM2, ← HM1.out]
            simp
          have hll : ((out.take kk ++ [x]) ++ out.drop kk).length = m + 1 := by simp only [List.length_append, List.length_take, List.length_drop, HM.out, List.length_cons, List.length_nil]; omega
          rw [hfin] at o4
          obtain ⟨A5, c5, rfl⟩ := o4.length
          rw [hll] at o4 ⊢
          have F4 : Fr All w w4 := ((((HF.trans HF6).trans F0).trans F03).row f4.grown fun m hm => Nat.le_trans hsz2 (hw3o.out m hm).1)
          have HS4 := Lib.hid (o4.sl_in (T := All) (fun _ _ _ => trivial) (fun _ _ _ => trivial))
          have HRS : Hid (RisOf ((out.take kk ++ [x]) ++ out.drop kk) (xs.take (j + 1))) := Lib.hid ⟨HRI.out.1, fun z => by
            rw [HRI.out.2, HR.out.2, take_snoc HX.out, List.mem_append, List.mem_singleton]
            exact or_comm⟩
          clear o4 f4 h4 o3 HY3 hfin hll hM2
          go_wp2_with fail
          go_roundw
          case rel => exact ⟨j + 1, m + 1, A5, c5, _, by omega, by omega, by go_num, by first | rfl | go_num, HRS, HS4, F4⟩
          case measure => simp [intOf]; omega
    · obtain rfl : j = n := by omega
      have ho := HR.out.onces
      rw [List.take_of_length_le (by rw [En.out]; exact Nat.le_refl _)] at ho
      rw [ho] at HO
      go_wp2_with fail
      go_ret
      exact ⟨A', m, c', rfl, HO.out, HF⟩
theorem pages_snoc {l : List Redo} {j : Nat} {y : Redo} (h : l[j]? = some y) (x : Int) : pagesL (l.take (j + 1)) x = if y.lsn ≤ x then pagesL (l.take j) x ++ [y.page] else pagesL (l.take j) x := by
  unfold pagesL
  rw [take_snoc h, List.filter_append, List.map_append]
  split
  · rename_i h
    rw [List.filter_cons_of_pos (by rw [decide_eq_true_eq]; exact h)]
    rfl
  · rename_i h
    rw [List.filter_cons_of_neg (by rw [decide_eq_true_eq]; exact h), List.filter_nil, List.map_nil, List.append_nil]
set_option maxRecDepth 100000 in
set_option maxHeartbeats 4000000 in
theorem ref_ids {S : Nat → Prop} {w : World} {B : Nat} {g : Int} {lv : Value} {l : List Redo} (h : Xg S w B g lv l) (hl : l.length ≤ 100000) (x : Int) :
    Calls Tryz.prog 36 #[.pointer (some ⟨B, 0, none⟩), .int .i64 x] w fun e w' => ∃ A m c, e = .returned (.slice A m c) ∧ Sl kInt All w' (.slice A m c) (onces (ascend (pagesL l x))) ∧ Fr All w w' := by
  obtain ⟨A, n, c, rfl, en, _⟩ := h.row.open_
  have HX := Lib.hid h
  have En : Hid (l.length = n) := Lib.hid en
  have hn1 : n ≤ 100000 := by omega
  clear h en
  go_enter Tryz.func36, Tryz.ntmps36
  go_wp2_with fail
  go_loopw [5, 6] (fun u i wr => ∃ j : Nat, j ≤ n ∧ i = .int .i64 j ∧ Hid (Own kInt 3 w.heap.size All wr u (pagesL (l.take j) x)) ∧ Fr All w wr) (fun _ i _ => n - (intOf i).toNat)
  case atStart => exact ⟨0, Nat.zero_le _, rfl, Lib.hid (Own.nil_ _ _ _ _ _), Fr.refl _ _⟩
  case round =>
    obtain ⟨j, hj, rfl, HO, HF⟩ := hrel
    have HXr := Lib.hid (HX.out.all HF)
    obtain ⟨t0, t1, t2, tz⟩ := blk3 HXr.out.blk
    by_cases hlt : j < n
    · obtain ⟨y, hy, hym⟩ := get_of (l := l) (k := j) (by rw [En.out]; exact hlt)
      obtain ⟨bb, oo, B0, m0, d0, B1, m1, d1, rfl, g0, g1, g2, g3, g4, g5, g6, g7, g8, g9, s0, s1⟩ := redo_at HXr.out.row hy
      have b0 : (0 : Int) ≤ (j : Int) := by omega
      have b1 : (j : Int) < (n : Int) := by omega
      have HY := Lib.hid hy
      clear hy hym s0 s1 g1 g2 g3 g5 g6 g7 g8 g9
      cases hd : decide (y.lsn ≤ x) with
      | false =>
        have HD := Lib.hid (of_decide_eq_false hd)
        go_wp2_with fail
        clear hd
        go_roundw
        case rel => exact ⟨j + 1, by omega, by go_num, Lib.hid (by rw [pages_snoc HY.out, if_neg HD.out]; exact HO.out.all (by first | exact Fr.refl _ _ | exact (Fr.refl _ _).drew)), by first | exact HF | exact HF.drew⟩
        case measure => simp [intOf]; omega
      | true =>
        have HD := Lib.hid (of_decide_eq_true hd)
        have FB := (Fr.refl All wr).alloc (.cells #[.int .i64 y.page] 3)
        have O2 := HO.out.all FB
        have HY2 : Src kInt Nowhere (wr.alloc (.cells #[.int .i64 y.page] 3)) (.slice (some ⟨wr.heap.size, 0, none⟩) 1 1) [y.page] := Src.box (d := kInt) (x := y.page) (cs := [.int .i64 y.page]) rfl _ 1
        have hl6 : ((pagesL (l.take j) x).length + [y.page].length) * 8 ≤ 140737488355328 := by
          have h1 := pagesL_len (l.take j) x
          rw [List.length_take] at h1
          simp only [List.length_cons, List.length_nil]
          omega
        have hb6 : w.heap.size ≤ (wr.alloc (.cells #[.int .i64 y.page] 3)).heap.size := (HF.trans FB).size
        go_wp2_with (at_builtin; refine wpList_app rfl rfl Tryz.underlying74 infoInt rfl (by decide) O2 HY2 rfl rfl (fun b hb _ => hb.elim) hl6 hb6 ?_; intro v9 w9 o9 f9 h9)
        have F9 : Fr All w w9 := (HF.trans FB).row f9.grown fun m hm => (own_lt O2 m hm).1
        have HO9 : Hid (Own kInt 3 w.heap.size All w9 v9 (pagesL (l.take (j + 1)) x)) := Lib.hid (by rw [pages_snoc HY.out, if_pos HD.out]; exact o9)
        clear hd o9
        go_roundw
        case rel => exact ⟨j + 1, by omega, by go_num, HO9, F9⟩
        case measure => simp [intOf]; omega
    · obtain rfl : j = n := by omega
      rw [List.take_of_length_le (by rw [En.out]; exact Nat.le_refl _)] at HO
      obtain ⟨A9, c9, rfl⟩ := HO.out.length
      have HPL := Lib.hid (pagesL_len l x)
      obtain ⟨m9, hm9⟩ : ∃ m, (pagesL l x).length = m := ⟨_, rfl⟩
      have HM9 := Lib.hid hm9
      rw [hm9] at HO ⊢
      clear hm9
      go_wp2_with fail
      refine (ref_rising HO.out.sl (by rw [HM9.out]; have := HPL.out; have := En.out; have := HM9.out; omega)).mono ?_
      rintro e w7 ⟨A7, m7, c7, rfl, s7, f7⟩
      go_wp2_with fail
      go_ret
      exact ⟨A7, m7, c7, rfl, s7, HF.trans f7⟩
theorem ref_pageat_no {S : Nat → Prop} {w : World} {B : Nat} {g : Int} {lv : Value} {l : List Redo} (h : Xg S w B g lv l) {id x : Int} (hno : ¬ (0 ≤ id ∧ id < 256 ∧ 0 ≤ x ∧ x ≤ 1099511627776)) :
    Calls Tryz.prog 32 #[.pointer (some ⟨B, 0, none⟩), .int .i64 id, .int .i64 x] w fun e w' => e = .returned (.tuple #[.agg #[.int .i64 0, .int .i64 0, .int .i64 0, .int .i64 0, .slice none 0 0], .int .i64 105]) ∧ Fr All w w' := by
  have F0 := (Fr.refl All w).alloc (.cells #[.int .i64 0, .int .i64 0, .int .i64 0, .int .i64 0, .slice none 0 0] 67)
  have Z0 := heap_alloc_new w (.cells #[.int .i64 0, .int .i64 0, .int .i64 0, .int .i64 0, .slice none 0 0] 67)
  clear h
  obtain ⟨z0, z1, z2, z3, z4, zz⟩ := blk5 Z0
  have HN := Lib.hid hno
  have HF0 := Lib.hid F0
  clear Z0 hno F0
  go_enter Tryz.func32, Tryz.ntmps32
  go_wp2_with fail
  refine (refpage_call id _).mono ?_
  rintro e wn ⟨rfl, hwn⟩
  obtain ⟨W0, hW0⟩ : ∃ W0, w.alloc (.cells #[.int .i64 0, .int .i64 0, .int .i64 0, .int .i64 0, .slice none 0 0] 67) = W0 := ⟨_, rfl⟩
  rw [hW0] at hwn HF0 z0 z1 z2 z3 z4 zz
  obtain rfl := hwn.symm
  clear hW0 hwn
  cases hin : inB id 256 with
  | false =>
    go_wp2_with fail
    refine bodyPost_ret (v := .tuple #[.agg #[.int .i64 0, .int .i64 0, .int .i64 0, .int .i64 0, .slice none 0 0], .int .i64 105]) ?_ rfl ⟨rfl, ?_⟩
    · simp [results, Tryz.results32, go_sem, z0, z1, z2, z3, z4]
    · repeat (first | (with_reducible exact HF0.out) | with_reducible refine Fr.drew ?_ | with_reducible refine Fr.setNew ?_ (by dsimp only; omega) _)
  | true =>
    cases hd1 : decide (x < 0) with
    | true =>
      go_wp2_with fail
      refine bodyPost_ret (v := .tuple #[.agg #[.int .i64 0, .int .i64 0, .int .i64 0, .int .i64 0, .slice none 0 0], .int .i64 105]) ?_ rfl ⟨rfl, ?_⟩
      · simp [results, Tryz.results32, go_sem, z0, z1, z2, z3, z4]
      · repeat (first | (with_reducible exact HF0.out) | with_reducible refine Fr.drew ?_ | with_reducible refine Fr.setNew ?_ (by dsimp only; omega) _)
    | false =>
      have hd2 : decide (x > 1099511627776) = true := decide_eq_true (by
        have h1 := inB_iff.1 hin
        have h2 := of_decide_eq_false hd1
        have h3 := HN.out
        omega)
      go_wp2_with fail
      refine bodyPost_ret (v := .tuple #[.agg #[.int .i64 0, .int .i64 0, .int .i64 0, .int .i64 0, .slice none 0 0], .int .i64 105]) ?_ rfl ⟨rfl, ?_⟩
      · simp [results, Tryz.results32, go_sem, z0, z1, z2, z3, z4]
      · repeat (first | (with_reducible exact HF0.out) | with_reducible refine Fr.drew ?_ | with_reducible refine Fr.setNew ?_ (by dsimp only; omega) _)
end Go.Proofs.YtoaamcpiljoojaaGreatDoor
