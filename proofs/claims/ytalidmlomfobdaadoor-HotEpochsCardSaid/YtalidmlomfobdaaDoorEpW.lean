/- HotEpochs walked. -/
import Derived.Test.YtalidmlomfobdaaDoorHGp
import Derived.Test.YtalidmlomfobdaaDoorNum
namespace Go.Proofs.YtalidmlomfobdaaDoor
open Go.RowKit

theorem pick_first {l : List Redo} (hr : Rise l) {a : Int} {x : Redo} (h : pick l a = some x) : ∀ y ∈ l, y.back = a → y.lsn < x.lsn → y.epoch < x.epoch := by
  have hp := pick_is l a l.length (Nat.le_refl _)
  unfold pick at h
  cases hk : pickIx l a l.length with
  | none => rw [hk] at h; cases h
  | some k =>
    rw [hk] at h hp
    obtain ⟨_, q, hq, hqb, hall⟩ := hp
    have hx : l[k]? = some x := h
    obtain rfl := Option.some.inj (hq.symm.trans hx)
    intro y hy hyb hlt
    obtain ⟨i, hi⟩ := List.mem_iff_getElem?.1 hy
    refine (hall i y hi (List.getElem?_eq_some_iff.1 hi).1 hyb).2 ?_
    rcases Nat.lt_or_ge i k with h1 | h1
    · exact h1
    · have := hr.le hq hi h1
      omega

/-- The statement's log: two behind one, then a chain behind the greater epoch's. -/
structure Ep (a b : Nat) (W : Int) (k : Nat) (s : HSt) : Prop where
  rise : Rise s.l
  mem : ∀ r, r ∈ s.l ↔ r = rfmt 1 0 0 ∨ r = rfmt 2 1 a ∨ r = rfmt 100 1 b ∨ ∃ i : Nat, i < k ∧ r = rfmt (W + i + 1) (W + i) 9
  len : s.l.length = 3 + k
  group : s.group = 0
  spans : s.spans = []
section
variable {a b k : Nat} {W : Int} {s : HSt}
theorem Ep.two (h : Ep a b W k s) (hW : W = if b > a then 100 else 2) : pick s.l 1 = some (rfmt W 1 (if b > a then b else a)) := by
  have h2 : rfmt 2 1 a ∈ s.l := (h.mem _).2 (.inr (.inl rfl))
  have h100 : rfmt 100 1 b ∈ s.l := (h.mem _).2 (.inr (.inr (.inl rfl)))
  have hW2 : 2 ≤ W := by rw [hW]; split <;> omega
  cases hp : pick s.l 1 with
  | none => exact absurd rfl (pick_none_iff.1 hp _ h2)
  | some x =>
    obtain ⟨hx, hb, hall⟩ := pick_back hp
    have hf := pick_first h.rise hp
    rcases (h.mem x).1 hx with rfl | rfl | rfl | ⟨i, hi, rfl⟩
    · simp [rfmt] at hb
    · have h3 := hall _ h100 rfl
      have h3 : (b : Int) ≤ (a : Int) := h3
      rw [if_neg (by omega)] at hW
      rw [if_neg (by omega), hW]
    · have h3 := hf _ h2 rfl (show (2 : Int) < 100 by decide)
      have h3 : (a : Int) < (b : Int) := h3
      rw [if_pos (by omega)] at hW
      rw [if_pos (by omega), hW]
    · have : W + i = 1 := hb
      omega
theorem Ep.climb (h : Ep a b W k s) (hW : W = if b > a then 100 else 2) : Climb s.l 0 (W + k) := by
  have hW2 : 2 ≤ W := by rw [hW]; split <;> omega
  have key : ∀ d i, i + d = k → Climb s.l (W + i) (W + k) := by
    intro d
    induction d with
    | zero =>
      intro i hi
      obtain rfl : i = k := by omega
      refine .stop (pick_none_iff.2 fun x hx hb => ?_)
      rcases (h.mem x).1 hx with rfl | rfl | rfl | ⟨j, hj, rfl⟩
      · have : (0 : Int) = W + i := hb; omega
      · have : (1 : Int) = W + i := hb; omega
      · have : (1 : Int) = W + i := hb; omega
      · have : W + j = W + i := hb; omega
    | succ d ih =>
      intro i hi
      have h1 := ih (i + 1) (by omega)
      refine .step (x := rfmt (W + i + 1) (W + i) 9) (pick_one ((h.mem _).2 (.inr (.inr (.inr ⟨i, by omega, rfl⟩)))) rfl fun y hy hb => ?_) ?_
      · rcases (h.mem y).1 hy with rfl | rfl | rfl | ⟨j, hj, rfl⟩
        · have : (0 : Int) = W + i := hb; omega
        · have : (1 : Int) = W + i := hb; omega
        · have : (1 : Int) = W + i := hb; omega
        · have : W + j = W + i := hb
          obtain rfl : j = i := by omega
          rfl
      · rw [show W + ((i + 1 : Nat) : Int) = W + i + 1 by omega] at h1
        exact h1
  refine .step (x := rfmt 1 0 0) (pick_one ((h.mem _).2 (.inl rfl)) rfl fun y hy hb => ?_) (.step (x := rfmt W 1 (if b > a then b else a)) (h.two hW) ?_)
  · rcases (h.mem y).1 hy with rfl | rfl | rfl | ⟨j, hj, rfl⟩
    · rfl
    · have : (1 : Int) = 0 := hb; omega
    · have : (1 : Int) = 0 := hb; omega
    · have : W + j = 0 := hb; omega
  · have := key k 0 (by omega)
    rw [show W + ((0 : Nat) : Int) = W by omega] at this
    exact this
theorem Ep.fresh (h : Ep a b W k s) (hW : W = if b > a then 100 else 2) (hk : k < 50) : isL s.l (W + k + 1) = false := by
  rw [isL_false]
  intro x hx he
  have hW2 : W = 2 ∨ W = 100 := by rw [hW]; split <;> simp
  rcases (h.mem x).1 hx with rfl | rfl | rfl | ⟨j, hj, rfl⟩
  · have : (1 : Int) = W + k + 1 := he; omega
  · have : (2 : Int) = W + k + 1 := he; omega
  · have : (100 : Int) = W + k + 1 := he; omega
  · have : W + j + 1 = W + k + 1 := he; omega
theorem Ep.add (h : Ep a b W k s) (hW : W = if b > a then 100 else 2) (hk : k < 50) : Ep a b W (k + 1) (s.add (rfmt (W + k + 1) (W + k) 9)) := by
  refine ⟨lins_rise h.rise (h.fresh hW hk), fun r => ?_, ?_, h.group, h.spans⟩
  · show r ∈ lins s.l _ ↔ _
    rw [lins_mem, h.mem]
    constructor
    · rintro (rfl | hr | hr | hr | ⟨i, hi, rfl⟩)
      · exact .inr (.inr (.inr ⟨k, by omega, rfl⟩))
      · exact .inl hr
      · exact .inr (.inl hr)
      · exact .inr (.inr (.inl hr))
      · exact .inr (.inr (.inr ⟨i, by omega, rfl⟩))
    · rintro (hr | hr | hr | ⟨i, hi, rfl⟩)
      · exact .inr (.inl hr)
      · exact .inr (.inr (.inl hr))
      · exact .inr (.inr (.inr (.inl hr)))
      · rcases Nat.lt_or_eq_of_le (Nat.le_of_lt_succ hi) with h1 | rfl
        · exact .inr (.inr (.inr (.inr ⟨i, h1, rfl⟩)))
        · exact .inl rfl
  · show (lins s.l _).length = _
    rw [lins_len, h.len]
    omega
end
theorem Ep.start (a b : Nat) (W : Int) : Ep a b W 0 ((((HSt.new 0).add (rfmt 1 0 0)).add (rfmt 2 1 a)).add (rfmt 100 1 b)) := by
  have e : ((((HSt.new 0).add (rfmt 1 0 0)).add (rfmt 2 1 a)).add (rfmt 100 1 b)).l = [rfmt 1 0 0, rfmt 2 1 a, rfmt 100 1 b] := rfl
  refine ⟨?_, fun r => ?_, by rw [e]; rfl, rfl, rfl⟩
  · rw [e]
    unfold Rise
    simp [rfmt]
  · rw [e]
    simp

set_option maxRecDepth 100000 in
set_option maxHeartbeats 2000000 in
theorem epochs_walk (a0 a1 a2 : Int) (w : World) : Calls Tryd.prog 4 #[.int .i64 a0, .int .i64 a1, .int .i64 a2] w fun e w' => e = .returned (.bool true) ∧ Fr All w w' := by
  go_enter Tryd.func4, Tryd.ntmps4
  go_wp2_with fail
  refine (first9_call w).mono ?_
  rintro e w1 ⟨rfl, f1⟩
  go_wp2_with fail
  refine (number w1 (by omega) (by omega)).mono ?_
  rintro e wn ⟨a, ha, rfl, hwn⟩
  obtain rfl := hwn.symm
  go_wp2_with fail
  refine (number w1 (by omega) (by omega)).mono ?_
  rintro e wn ⟨b, hb, rfl, hwn⟩
  obtain rfl := hwn.symm
  go_wp2_with fail
  refine (number w1 (by omega) (by omega)).mono ?_
  rintro e wn ⟨n, hn, rfl, hwn⟩
  obtain rfl := hwn.symm
  go_wp2_with fail
  refine (hnew 0 w1).mono ?_
  rintro e w2 ⟨rfl, h2⟩
  have H2 := Lib.hid h2
  obtain ⟨B, hB⟩ : ∃ B, w1.heap.size = B := ⟨_, rfl⟩
  rw [hB] at H2
  simp only [hB]
  clear h2 hB
  go_wp2_with fail
  refine (hadd (r := rfmt 1 0 0) H2.out (nilB All _) (nilB All _) (rfmt_valid (by decide) (by decide) (by decide) (by decide) (by decide)) rfl rfl rfl (by decide)).mono ?_
  rintro e w3 ⟨rfl, h3, _⟩
  have H3 := Lib.hid h3
  clear h3
  go_wp2_with fail
  refine (hadd (r := rfmt 2 1 a) H3.out (nilB All _) (nilB All _) (rfmt_valid (by decide) (by decide) (by decide) (by omega) (by omega)) rfl rfl (show isL ((HSt.new 0).add (rfmt 1 0 0)).l 2 = false by decide) (show ((HSt.new 0).add (rfmt 1 0 0)).l.length < 16384 by decide)).mono ?_
  rintro e w4 ⟨rfl, h4, _⟩
  have H4 := Lib.hid h4
  clear h4
  go_wp2_with fail
  refine (hadd (r := rfmt 100 1 b) H4.out (nilB All _) (nilB All _) (rfmt_valid (by decide) (by decide) (by decide) (by omega) (by omega)) rfl rfl rfl (show 2 < 16384 by decide)).mono ?_
  rintro e w5 ⟨rfl, h5, _⟩
  have H5 := Lib.hid h5
  clear h5
  obtain ⟨W, hW⟩ : ∃ W : Int, W = if b > a then 100 else 2 := ⟨_, rfl⟩
  have HE := Lib.hid (Ep.start a b W)
  have HW := Lib.hid hW
  obtain ⟨s5, hs5⟩ : ∃ s5, (((HSt.new 0).add (rfmt 1 0 0)).add (rfmt 2 1 a)).add (rfmt 100 1 b) = s5 := ⟨_, rfl⟩
  rw [hs5] at H5 HE
  clear hs5
  cases hd : decide (b > a) with
  | true =>
    have hd2 : decide (a < b) = true := hd
    have HW1 := Lib.hid (hW.trans (if_pos (of_decide_eq_true hd)))
    clear hW
    go_wp2_with fail
    go_loopw [9, 10] (fun v i wr => ∃ (k : Nat) (s : HSt), k ≤ n ∧ i = .int .i64 k ∧ v = .int .i64 (W + k) ∧ Hid (Ep a b W k s) ∧ Hid (HHd (fun _ => False) w1 wr B s)) (fun _ i _ => n - (intOf i).toNat)
    case atStart => exact ⟨0, s5, Nat.zero_le _, rfl, by rw [HW1.out]; rfl, HE, H5⟩
    case round =>
      obtain ⟨k, s, hk, rfl, rfl, HE, HS⟩ := hrel
      have hWb : 2 ≤ W ∧ W ≤ 100 := by have := HW.out; split at this <;> omega
      by_cases hlt : k < n
      · have b0 : (0 : Int) ≤ W + k := by omega
        have b1 : W + k ≤ 1000 := by omega
        go_wp2_with fail
        refine (hadd (r := rfmt (W + k + 1) (W + k) 9) HS.out (nilB All _) (nilB All _) (rfmt_valid (by omega) (by omega) (by omega) (by decide) (by decide)) HE.out.group.symm (by rw [HE.out.spans]; rfl) (HE.out.fresh HW.out (by omega)) (by have := HE.out.len; omega)).mono ?_
        rintro e w6 ⟨rfl, h6, _⟩
        have H6 := Lib.hid h6
        have E6 := Lib.hid (HE.out.add HW.out (by omega))
        clear h6
        go_wp2_with fail
        go_roundw
        case rel => exact ⟨k + 1, _, by omega, by go_num, by go_num, E6, H6⟩
        case measure => simp [intOf]; omega
      · obtain rfl : k = n := by omega
        have HL := Lib.hid HE.out.len
        go_wp2_with fail
        refine (hscl HS.out).mono ?_
        rintro e w6 ⟨v, rfl, hc, h6, _⟩
        obtain rfl := hc.inj (HE.out.climb HW.out)
        have H6 := Lib.hid h6
        clear hc h6
        go_wp2_with fail
        refine (hlen H6.out).mono ?_
        rintro e w7 ⟨rfl, hw7⟩
        obtain rfl := hw7.symm
        have hl : ((s.knows (W + k)).l.length : Int) = 3 + (k : Int) := by
          show (s.l.length : Int) = _
          rw [HL.out]; omega
        rw [hl]
        have HF := Lib.hid H6.out.fr
        clear hw7 hl
        go_wp2_with fail
        go_ret
        exact ⟨rfl, f1.trans HF.out⟩
  | false =>
    have hd2 : decide (a < b) = false := hd
    have HW1 := Lib.hid (hW.trans (if_neg (of_decide_eq_false hd)))
    clear hW
    go_wp2_with fail
    go_loopw [9, 10] (fun v i wr => ∃ (k : Nat) (s : HSt), k ≤ n ∧ i = .int .i64 k ∧ v = .int .i64 (W + k) ∧ Hid (Ep a b W k s) ∧ Hid (HHd (fun _ => False) w1 wr B s)) (fun _ i _ => n - (intOf i).toNat)
    case atStart => exact ⟨0, s5, Nat.zero_le _, rfl, by rw [HW1.out]; rfl, HE, H5⟩
    case round =>
      obtain ⟨k, s, hk, rfl, rfl, HE, HS⟩ := hrel
      have hWb : 2 ≤ W ∧ W ≤ 100 := by have := HW.out; split at this <;> omega
      by_cases hlt : k < n
      · have b0 : (0 : Int) ≤ W + k := by omega
        have b1 : W + k ≤ 1000 := by omega
        go_wp2_with fail
        refine (hadd (r := rfmt (W + k + 1) (W + k) 9) HS.out (nilB All _) (nilB All _) (rfmt_valid (by omega) (by omega) (by omega) (by decide) (by decide)) HE.out.group.symm (by rw [HE.out.spans]; rfl) (HE.out.fresh HW.out (by omega)) (by have := HE.out.len; omega)).mono ?_
        rintro e w6 ⟨rfl, h6, _⟩
        have H6 := Lib.hid h6
        have E6 := Lib.hid (HE.out.add HW.out (by omega))
        clear h6
        go_wp2_with fail
        go_roundw
        case rel => exact ⟨k + 1, _, by omega, by go_num, by go_num, E6, H6⟩
        case measure => simp [intOf]; omega
      · obtain rfl : k = n := by omega
        have HL := Lib.hid HE.out.len
        go_wp2_with fail
        refine (hscl HS.out).mono ?_
        rintro e w6 ⟨v, rfl, hc, h6, _⟩
        obtain rfl := hc.inj (HE.out.climb HW.out)
        have H6 := Lib.hid h6
        clear hc h6
        go_wp2_with fail
        refine (hlen H6.out).mono ?_
        rintro e w7 ⟨rfl, hw7⟩
        obtain rfl := hw7.symm
        have hl : ((s.knows (W + k)).l.length : Int) = 3 + (k : Int) := by
          show (s.l.length : Int) = _
          rw [HL.out]; omega
        rw [hl]
        have HF := Lib.hid H6.out.fr
        clear hw7 hl
        go_wp2_with fail
        go_ret
        exact ⟨rfl, f1.trans HF.out⟩
end Go.Proofs.YtalidmlomfobdaaDoor
