/- The walk of the law on a disk's bounds. -/
import Derived.Test.YteikddopeplomaaDoorErasesW
import Derived.Test.YteikddopeplomaaDoorNum
import Derived.Laws.MakeOwn
import Derived.Laws.OwnMore
namespace Go.Proofs.YteikddopeplomaaDoor
open Go.RowKit Go.Maps

theorem run_mkz (w : World) {n : Nat} (hn : n ≤ 1000000) : ∃ w', (Instr.makeSlice 37 (.int .i64 (n : Int)) (.int .i64 (n : Int))).run Tryd.prog w = .ok (.slice (some ⟨w.heap.size, 0, none⟩) n n) w' ∧ Sl kByte (fun x => w.heap.size ≤ x) w' (.slice (some ⟨w.heap.size, 0, none⟩) n n) (List.replicate n 0) ∧ Fr All w w' := by
  obtain ⟨i0, hi, hzz⟩ := Option.map_eq_some_iff.1 info_u8
  simp only [Prod.mk.injEq] at hzz
  obtain ⟨hz0, hz1, hz2⟩ := hzz
  have hr := run_make (P := Tryd.prog) w 37 5 i0 (.int .u8 0) Tryd.underlying37 hi hz0 .i64 .i64 n n (by omega) (by omega) (by rw [hz2]; omega) (by omega)
  simp only [Int.toNat_natCast] at hr
  rw [hz1, show kByte.sz = 1 from rfl, Nat.mul_one] at hr
  have he : madeCells (Value.int .u8 0).cells n = ((List.replicate n (0 : UInt8)).map fun b => Value.int .u8 (b.toNat : Int)).toArray := by
    apply Array.toList_inj.1
    rw [List.map_replicate]
    exact toList_madeCells_one _ n
  rw [he] at hr
  have ho := (Own.lay (d := kByte) (e := 5) (S := All) (w := w) (reps_plain (List.replicate n 0)) (Nat.le_refl _) (by simp only [maxLen, List.length_replicate]; omega)).plain_in (T := fun x => w.heap.size ≤ x) fun _ hb _ => hb
  rw [List.length_replicate] at ho
  exact ⟨_, hr, ho, (Fr.refl _ _).alloc _⟩

set_option hygiene false in
set_option maxRecDepth 100000 in
set_option maxHeartbeats 4000000 in
theorem dbounds_walk {w : World} {qs : List Addr} (he : Errs w qs) (blocks i c : Int) :
    Calls Tryd.prog 4 #[.int .i64 blocks, .int .i64 i, .int .i64 c] w fun e w' => e = .returned (.bool true) ∧ Fr All w w' := by
  have HE := Lib.hid he
  clear he
  go_enter Tryd.func4, Tryd.ntmps4
  go_wp2_with fail
  refine (first5_call w).mono ?_
  rintro e w1 ⟨rfl, f1⟩
  have hq := HE.out.move f1
  have HQ := Lib.hid hq
  clear hq
  go_wp2_with fail
  refine (number w1 (by omega) (by omega)).mono ?_
  rintro e wn ⟨n, hn, rfl, hwn⟩
  obtain rfl := hwn.symm
  by_cases hb : blocks < 1 ∨ 16384 < blocks
  · obtain ⟨qa, hqa⟩ := HQ.out.get 4 (by omega)
    have HQA := Lib.hid hqa
    clear hqa
    go_wp2_with fail
    refine (bad_new HQ.out HQA.out hb).mono ?_
    rintro e w2 ⟨rfl, f2⟩
    cases d1 : decide (blocks < 1) with
    | true =>
      go_wp2_with fail
      refine (see_is (Sees.bare (HQ.out.move f2) HQA.out) 105).mono ?_
      rintro e w3 ⟨rfl, f3⟩
      go_wp2_with fail
      go_ret
      exact ⟨ret_bool (by decide), (f1.trans f2).trans f3⟩
    | false =>
      have d2 : decide (blocks > 16384) = true := decide_eq_true (by have := of_decide_eq_false d1; omega)
      go_wp2_with fail
      refine (see_is (Sees.bare (HQ.out.move f2) HQA.out) 105).mono ?_
      rintro e w3 ⟨rfl, f3⟩
      go_wp2_with fail
      go_ret
      exact ⟨ret_bool (by decide), (f1.trans f2).trans f3⟩
  · have d1 : decide (blocks < 1) = false := decide_eq_false (by omega)
    have d2 : decide (blocks > 16384) = false := decide_eq_false (by omega)
    go_wp2_with fail
    refine (held_new w1 (by omega) (by omega)).mono ?_
    rintro e w2 ⟨B, bs, bp, rfl, h2⟩
    have hbn := blocks_call h2.dk
    have HB := Lib.hid hbn
    have H2 := Lib.hid h2
    clear h2 hbn
    go_wp2_with fail
    refine HB.out.mono ?_
    rintro e wn ⟨rfl, hwn⟩
    obtain rfl := hwn.symm
    have hbl : (DSt.new blocks).blocks = blocks := rfl
    rw [hbl]
    obtain ⟨w3, hmk, hz, f3⟩ := run_mkz w2 (n := n) (by omega)
    have hB := H2.out.dk.lt
    have HZ := Lib.hid hz
    have H3 := Lib.hid (H2.out.all f3)
    clear hz f3 hbl
    have hdn : (DSt.new blocks).up.down = false := rfl
    have hup : (DSt.new blocks).up = DSt.new blocks := rfl
    by_cases hi : i < 0 ∨ blocks ≤ i
    · obtain ⟨qa, hqa⟩ := HQ.out.get 8 (by omega)
      have HQA := Lib.hid hqa
      clear hqa
      go_wp2_with fail
      refine (full_write H3.out HQ.out HQA.out (by simp [DSt.new]) hdn hi _ _ _).mono ?_
      rintro e w4 ⟨rfl, h4, f4⟩
      rw [hup] at h4
      have H4 := Lib.hid h4
      clear h4 f4
      go_wp2_with fail
      refine (full_read H4.out HQ.out HQA.out rfl hi).mono ?_
      rintro e w5 ⟨rfl, h5, f5⟩
      have H5 := Lib.hid h5
      clear h5 f5
      cases d3 : decide (i < 0) with
      | true =>
        go_wp2_with fail
        refine (see_is (Sees.bare (HQ.out.move H5.out.fr) HQA.out) 109).mono ?_
        rintro e w6 ⟨rfl, f6⟩
        have H6 := Lib.hid (H5.out.all f6)
        go_wp2_with fail
        refine (see_is (Sees.bare (HQ.out.move H6.out.fr) HQA.out) 109).mono ?_
        rintro e w7 ⟨rfl, f7⟩
        have H7 := Lib.hid (H6.out.all f7)
        clear f6 f7
        go_wp2_with fail
        refine (pending_call H7.out.dk).mono ?_
        rintro e wn ⟨rfl, hwn⟩
        obtain rfl := hwn.symm
        rw [show (DSt.new blocks).np = 0 from rfl]
        go_wp2_with fail
        go_ret
        exact ⟨ret_bool (by decide), f1.trans H7.out.fr⟩
      | false =>
        have d4 : decide (i ≥ blocks) = true := decide_eq_true (by have := of_decide_eq_false d3; omega)
        go_wp2_with fail
        refine (see_is (Sees.bare (HQ.out.move H5.out.fr) HQA.out) 109).mono ?_
        rintro e w6 ⟨rfl, f6⟩
        have H6 := Lib.hid (H5.out.all f6)
        go_wp2_with fail
        refine (see_is (Sees.bare (HQ.out.move H6.out.fr) HQA.out) 109).mono ?_
        rintro e w7 ⟨rfl, f7⟩
        have H7 := Lib.hid (H6.out.all f7)
        clear f6 f7
        go_wp2_with fail
        refine (pending_call H7.out.dk).mono ?_
        rintro e wn ⟨rfl, hwn⟩
        obtain rfl := hwn.symm
        rw [show (DSt.new blocks).np = 0 from rfl]
        go_wp2_with fail
        go_ret
        exact ⟨ret_bool (by decide), f1.trans H7.out.fr⟩
    · have d3 : decide (i < 0) = false := decide_eq_false (by omega)
      have d4 : decide (i ≥ blocks) = false := decide_eq_false (by omega)
      by_cases hn2 : 256 < n
      · have d5 : decide ((n : Int) > 256) = true := decide_eq_true (by omega)
        obtain ⟨qa, hqa⟩ := HQ.out.get 3 (by omega)
        have HQA := Lib.hid hqa
        clear hqa
        go_wp2_with fail
        refine (many_write H3.out HQ.out HQA.out (by simp [DSt.new]) hdn (by omega) (by simp only [DSt.new]; omega) _ hn2 _).mono ?_
        rintro e w4 ⟨rfl, h4, f4⟩
        rw [hup] at h4
        have H4 := Lib.hid h4
        clear h4 f4
        go_wp2_with fail
        refine (held_read H4.out rfl (by omega) (by simp only [DSt.new]; omega) (by simp only [DSt.new]; omega) (fun xs hx => by cases hx)).mono ?_
        rintro e w5 ⟨A5, n5, c5, x5, rfl, hx5, o5, h5, f5⟩
        rw [show (DSt.new blocks).get i = none from rfl] at hx5 ⊢
        have hcn := calls_call (h5.all (Fr.refl All w5)).dk
        have H5 := Lib.hid h5
        clear h5 f5 o5 hx5 hcn
        go_wp2_with fail
        refine (see_is (Sees.bare (HQ.out.move H5.out.fr) HQA.out) 104).mono ?_
        rintro e w6 ⟨rfl, f6⟩
        have H6 := Lib.hid (H5.out.all f6)
        go_wp2_with fail
        refine (calls_call H6.out.dk).mono ?_
        rintro e wn ⟨rfl, hwn⟩
        obtain rfl := hwn.symm
        rw [show (DSt.new blocks).calls = 0 from rfl]
        go_wp2_with fail
        go_ret
        exact ⟨ret_bool (by decide), f1.trans H6.out.fr⟩
      · have d5 : decide ((n : Int) > 256) = false := decide_eq_false (by omega)
        go_wp2_with fail
        refine (held_write H3.out HZ.out (fun x hx _ => by omega) rfl rfl (by omega) (by simp only [DSt.new]; omega) (by simp only [DSt.new]; omega) (by rw [List.length_replicate]; omega) (by simp [DSt.new]) (by simp [DSt.new]) (by simp [DSt.new])).mono ?_
        rintro e w4 ⟨rfl, h4, f4⟩
        obtain ⟨zs, hzs⟩ : ∃ zs, List.replicate n (0 : UInt8) = zs := ⟨_, rfl⟩
        have hzl : zs.length ≤ 256 := by rw [← hzs, List.length_replicate]; omega
        rw [hzs] at h4
        have hg : ((DSt.new blocks).put i zs).get i = some zs := by simp [DSt.get, DSt.put, upd]
        have HG := Lib.hid hg
        have H4 := Lib.hid h4
        clear h4 f4 hzs hg
        go_wp2_with fail
        refine (held_read H4.out rfl (by omega) (by simp only [DSt.new, DSt.put]; omega) (by simp only [DSt.new, DSt.put]; omega) (fun xs hx => by rw [HG.out] at hx; obtain rfl := Option.some.inj hx; omega)).mono ?_
        rintro e w5 ⟨A5, n5, c5, x5, rfl, hx5, o5, h5, f5⟩
        rw [HG.out] at hx5 ⊢
        have H5 := Lib.hid h5
        clear h5 f5 o5 hx5
        go_wp2_with fail
        refine (pending_call H5.out.dk).mono ?_
        rintro e wn ⟨rfl, hwn⟩
        obtain rfl := hwn.symm
        rw [show ((DSt.new blocks).put i zs).np = 1 from rfl]
        go_wp2_with fail
        refine (calls_call H5.out.dk).mono ?_
        rintro e wn ⟨rfl, hwn⟩
        obtain rfl := hwn.symm
        rw [show ((DSt.new blocks).put i zs).calls = 1 from rfl]
        go_wp2_with fail
        go_ret
        exact ⟨ret_bool (by decide), f1.trans H5.out.fr⟩
end Go.Proofs.YteikddopeplomaaDoor
