/- The chapter's first examples; a row of records. -/
import Derived.Test.YtalidmlomfobdaaDoorHHd
import Derived.Test.YtalidmlomfobdaaDoorRef
namespace Go.Proofs.YtalidmlomfobdaaDoor
open Go.RowKit

theorem nilB (S : Nat → Prop) (w : World) : Sl kByte S w (.slice none 0 0) [] := Sl.nil_ _ _ _
/-- A record without bytes that turns nothing. -/
def rfmt (lsn back epoch : Int) : Redo := ⟨lsn, back, epoch, 0, 0, 1, 0, [], [], false⟩
theorem rfmt_valid {lsn back epoch : Int} (h0 : 0 ≤ back) (h1 : back < lsn) (h2 : lsn ≤ 1099511627776) (h3 : 0 ≤ epoch) (h4 : epoch ≤ 1000) : validIx (rfmt lsn back epoch) = none := by
  have a1 : decide (lsn < 1) = false := decide_eq_false (by omega)
  have a2 : decide (lsn > 1099511627776) = false := decide_eq_false (by omega)
  have a3 : inB epoch 1073741825 = true := inB_iff.2 ⟨h3, by omega⟩
  have a4 : decide (back < 0) = false := decide_eq_false (by omega)
  have a5 : decide (back ≥ lsn) = false := decide_eq_false (by omega)
  unfold validIx rfmt
  dsimp only
  rw [a1, a2, a3, a4, a5]
  rfl

theorem first_gaps : GapsIs [rfmt 1 0 0, rfmt 3 2 0] [2] := by
  refine ⟨List.pairwise_singleton _ _, fun b => ?_⟩
  constructor
  · intro h
    obtain rfl := List.mem_singleton.1 h
    exact ⟨rfmt 3 2 0, by simp, rfl, by decide, by decide⟩
  · rintro ⟨r, hr, rfl, h0, hi⟩
    rcases List.mem_cons.1 hr with rfl | hr
    · exact absurd rfl h0
    · obtain rfl := List.mem_singleton.1 hr
      simp [rfmt]
theorem first_climb : Climb [rfmt 1 0 0, rfmt 3 2 0] 0 1 := .step (x := rfmt 1 0 0) (by rfl) (.stop (by rfl))
set_option maxRecDepth 100000 in
set_option maxHeartbeats 1000000 in
theorem first9_call (w : World) : Calls Tryd.prog 13 #[] w fun e w' => e = .returned (.bool true) ∧ Fr All w w' := by
  go_enter Tryd.func13, Tryd.ntmps13
  go_wp2_with fail
  refine (hnew 0 w).mono ?_
  rintro e w1 ⟨rfl, h1⟩
  have H1 := Lib.hid h1
  clear h1
  go_wp2_with fail
  refine (hadd (r := rfmt 1 0 0) H1.out (nilB All _) (nilB All _) (rfmt_valid (by decide) (by decide) (by decide) (by decide) (by decide)) rfl rfl rfl (by decide)).mono ?_
  rintro e w2 ⟨rfl, h2, _⟩
  have H2 := Lib.hid h2
  clear h2
  go_wp2_with fail
  refine (hadd (r := rfmt 3 2 0) H2.out (nilB All _) (nilB All _) (rfmt_valid (by decide) (by decide) (by decide) (by decide) (by decide)) rfl rfl (by decide) (by decide)).mono ?_
  rintro e w3 ⟨rfl, h3, _⟩
  have H3 := Lib.hid h3
  clear h3
  go_wp2_with fail
  refine (hgaps H3.out).mono ?_
  rintro e w4 ⟨A, m, c, g, rfl, hg, ho, f4⟩
  obtain rfl := hg.inj first_gaps
  obtain rfl : m = 1 := ho.sl.len.symm
  have H4 := Lib.hid (H3.out.guard f4)
  have HO := Lib.hid ho
  clear hg ho f4
  go_wp2_with fail
  refine (hscl H4.out).mono ?_
  rintro e w5 ⟨v, rfl, hc, h5, f5⟩
  obtain rfl := hc.inj first_climb
  have o5 := (HO.out.any (T := Nowhere)).move f5 (fun _ h _ => h.elim) fun k hk => .inr (own_lt HO.out k hk)
  obtain ⟨b, o, rfl, c0⟩ := o5.sl.at1 (k := 0) (x := 2) rfl
  rw [Nat.add_zero] at c0
  have HF := Lib.hid h5.fr
  clear hc h5 f5 o5
  go_wp2_with fail
  go_ret
  exact ⟨rfl, HF.out⟩

/-- The statements' records, from 0 on. -/
def rec9 (i : Nat) : Redo := ⟨2 * (i : Int) + 2, 2 * (i : Int), 0, 0, 0, 2, 0, [], [], true⟩
def rows9 (n : Nat) : List Redo := (List.range n).map rec9
theorem rows9_len (n : Nat) : (rows9 n).length = n := by simp [rows9]
theorem rows9_succ (n : Nat) : rows9 (n + 1) = rows9 n ++ [rec9 n] := by simp [rows9, List.range_succ]
theorem rows9_get {n i : Nat} (h : i < n) : (rows9 n)[i]? = some (rec9 i) := by simp [rows9, h]
theorem rec9_valid {i : Nat} (h : i ≤ 1000000) : validIx (rec9 i) = none := by
  have a1 : decide (2 * (i : Int) + 2 < 1) = false := decide_eq_false (by omega)
  have a2 : decide (2 * (i : Int) + 2 > 1099511627776) = false := decide_eq_false (by omega)
  have a4 : decide (2 * (i : Int) < 0) = false := decide_eq_false (by omega)
  have a5 : decide (2 * (i : Int) ≥ 2 * (i : Int) + 2) = false := decide_eq_false (by omega)
  unfold validIx rec9
  dsimp only
  rw [a1, a2, a4, a5]
  rfl

set_option maxRecDepth 100000 in
set_option maxHeartbeats 1000000 in
theorem row9_call {n : Nat} (hn : n ≤ 1000) (w : World) : Calls Tryd.prog 15 #[.int .i64 n] w fun e w' => ∃ A c, e = .returned (.slice A n c) ∧ Own kRedo 34 w.heap.size Nowhere w' (.slice A n c) (rows9 n) ∧ Fr All w w' := by
  go_enter Tryd.func15, Tryd.ntmps15
  go_wp2_with fail
  go_loopw [3, 4] (fun v i wr => ∃ k : Nat, k ≤ n ∧ i = .int .i64 ((k : Int) + 1) ∧ Hid (Own kRedo 34 w.heap.size Nowhere wr v (rows9 k)) ∧ Fr All w wr) (fun _ i _ => n + 1 - (intOf i).toNat)
  case atStart => exact ⟨0, Nat.zero_le _, rfl, Lib.hid (Own.nil_ _ _ _ _ _), Fr.refl _ _⟩
  case round =>
    obtain ⟨k, hk, rfl, HO, HF⟩ := hrel
    by_cases hlt : k < n
    · have hd : decide ((k : Int) + 1 ≤ (n : Int)) = true := decide_eq_true (by omega)
      have FB := (Fr.refl All wr).alloc (.cells #[.int .i64 (2 * ((k : Int) + 1)), .int .i64 (2 * ((k : Int) + 1) - 2), .int .i64 0, .int .i64 0, .int .i64 0, .int .i64 2, .int .i64 0, .slice none 0 0, .slice none 0 0, .bool true] 34)
      have HO3 := HO.out.all FB
      have hK : kRedo.K Nowhere wr (rec9 k) [.int .i64 (2 * ((k : Int) + 1)), .int .i64 (2 * ((k : Int) + 1) - 2), .int .i64 0, .int .i64 0, .int .i64 0, .int .i64 2, .int .i64 0, .slice none 0 0, .slice none 0 0, .bool true] := by
        have h := kRedo_mk (x := rec9 k) (nilB Nowhere wr) (nilB Nowhere wr)
        have e1 : (rec9 k).lsn = 2 * ((k : Int) + 1) := by show 2 * (k : Int) + 2 = _; omega
        have e2 : (rec9 k).back = 2 * ((k : Int) + 1) - 2 := by show 2 * (k : Int) = _; omega
        rw [e1, e2] at h
        exact h
      have HY : Src kRedo Nowhere (wr.alloc (.cells #[.int .i64 (2 * ((k : Int) + 1)), .int .i64 (2 * ((k : Int) + 1) - 2), .int .i64 0, .int .i64 0, .int .i64 0, .int .i64 2, .int .i64 0, .slice none 0 0, .slice none 0 0, .bool true] 34)) (.slice (some ⟨wr.heap.size, 0, none⟩) 1 1) [rec9 k] := Src.box hK _ 1
      have hl6 : ((rows9 k).length + [rec9 k].length) * 112 ≤ 140737488355328 := by
        rw [rows9_len]
        simp only [List.length_cons, List.length_nil]
        omega
      have hb6 : w.heap.size ≤ (wr.alloc (.cells #[.int .i64 (2 * ((k : Int) + 1)), .int .i64 (2 * ((k : Int) + 1) - 2), .int .i64 0, .int .i64 0, .int .i64 0, .int .i64 2, .int .i64 0, .slice none 0 0, .slice none 0 0, .bool true] 34)).heap.size := (HF.trans FB).size
      clear hK
      go_wp2_with (at_builtin; refine wpList_app rfl rfl Tryd.underlying25 infoRedo rfl (by decide) HO3 HY rfl rfl (fun b hb _ => hb.elim) hl6 hb6 ?_; intro v7 w7 o7 f7 h7)
      have F7 : Fr All w w7 := (HF.trans FB).row f7.grown fun m hm => (own_lt HO3 m hm).1
      rw [← rows9_succ] at o7
      have HO7 := Lib.hid o7
      clear o7 f7 h7 HO3 HY hl6 hb6 FB
      go_roundw
      case rel => exact ⟨k + 1, by omega, by go_num, HO7, F7⟩
      case measure => simp [intOf]; omega
    · obtain rfl : k = n := by omega
      have hd : decide ((k : Int) + 1 ≤ (k : Int)) = false := decide_eq_false (by omega)
      obtain ⟨A, c, hv⟩ := HO.out.length
      have hl := rows9_len k
      rw [hl] at hv
      subst hv
      clear hl
      go_wp2_with fail
      go_ret
      exact ⟨A, c, rfl, HO.out, HF⟩
end Go.Proofs.YtalidmlomfobdaaDoor
