/- HotCuts walked. -/
import Derived.Test.YtalidmlomfobdaaDoorHGp
import Derived.Test.YtalidmlomfobdaaDoorHCut
import Derived.Test.YtalidmlomfobdaaDoorHAdd3
import Derived.Test.YtalidmlomfobdaaDoorNum
namespace Go.Proofs.YtalidmlomfobdaaDoor
open Go.RowKit

theorem HHd.step {X : Nat → Prop} {w0 w w' : World} {B : Nat} {s s' : HSt} {lv' sv' : Value} (h : HHd X w0 w B s) (g : Hg (fun b => b ≠ B ∨ w.heap.size ≤ b) w' B lv' sv' s') (f : Fr (fun b => b ≠ B) w w') (hlv : ∀ k, lv'.ownBlock = some k → w.heap.size ≤ k) : HHd X w0 w' B s' ∧ Fr X w w' := by
  have hl := h.lt
  have fw := h.fr
  have fX : Fr X w w' := f.mono fun b hb e => h.xB (e ▸ hb)
  have f0 : Fr All w0 w' := ⟨f.os.trans fw.os, f.tape.trans fw.tape, f.output.trans fw.output, Nat.le_trans fw.size f.size, fun b hb _ => (f.block b (Nat.lt_of_lt_of_le hb fw.size) (fun e => by have := h.b0; omega)).trans (fw.block b hb trivial)⟩
  refine ⟨⟨⟨lv', sv', g.mono (fun b hb _ => ?_) (fun b hb => hb), fun k hk => ⟨?_, fun hb => ?_⟩⟩, h.b0, h.xB, fun b hb => Nat.lt_of_lt_of_le (h.xl b hb) f.size, f0⟩, fX⟩
  · rcases hb with hb | hb
    · exact hb
    · omega
  · have := hlv k hk; have := fw.size; omega
  · have := hlv k hk; have := h.xl k hb; omega
theorem hcut {X : Nat → Prop} {w0 w : World} {B : Nat} {s : HSt} {T : Nat → Prop} {PA : Option Addr} {pn pc : Nat} {xs : List Span} (h : HHd X w0 w B s) (k : Sl kSpan T w (.slice PA pn pc) xs) (ok : SpansOk xs) :
    Calls Tryd.prog 31 #[.pointer (some ⟨B, 0, none⟩), .slice PA pn pc] w fun e w' => e = .returned (.tuple #[.int .i64 ((s.l.length : Int) - ((s.cut xs).l.length : Int)), .nilIface]) ∧ HHd X w0 w' B (s.cut xs) ∧ Fr X w w' := by
  obtain ⟨lv, sv, h1, h2⟩ := h.ex
  refine (cut_ok h1 k ok).mono ?_
  rintro e w' ⟨lv', sv', rfl, g, hlv, f⟩
  exact ⟨rfl, h.step g f hlv⟩
theorem hdead {X : Nat → Prop} {w0 w : World} {B : Nat} {s : HSt} {r : Redo} {v0 v1 : Value} {S0 S1 : Nat → Prop} (h : HHd X w0 w B s) (k0 : Sl kByte S0 w v0 r.key) (k1 : Sl kByte S1 w v1 r.val) (hv : validIx r = none) (hg : r.group = s.group) (hd : deadS s.spans r.lsn r.epoch = true) :
    Calls Tryd.prog 16 #[.pointer (some ⟨B, 0, none⟩), .agg #[.int .i64 r.lsn, .int .i64 r.back, .int .i64 r.epoch, .int .i64 r.group, .int .i64 r.page, .int .i64 r.kind, .int .i64 r.slot, v0, v1, .bool r.last]] w
      fun e w' => e = .returned (.tuple #[.bool false, .nilIface]) ∧ Fr All w w' := by
  obtain ⟨lv, sv, h1, _⟩ := h.ex
  exact add_dead h1 k0 k1 hv hg hd

/-- The statement's span, and what comes behind it. -/
def sp9 (f n : Nat) : Span := ⟨3, 2 * (f : Int), 2 * (n : Int) + 10⟩
theorem sp9_ok {f n : Nat} (hf : f ≤ n) (hn : n ≤ 100) : SpansOk [sp9 f n] := by
  refine ⟨by simp, fun s hs => ?_, fun i a b ha hb => by simp at hb⟩
  obtain rfl := List.mem_singleton.1 hs
  simp only [sp9]
  omega
theorem dead9 {f n i : Nat} (hi : i < n) : deadS [sp9 f n] (rec9 i).lsn (rec9 i).epoch = decide (f ≤ i) := by
  have e : deadS [sp9 f n] (rec9 i).lsn (rec9 i).epoch = (decide ((3 : Int) > 0) && (decide (2 * (f : Int) < 2 * (i : Int) + 2) && decide (2 * (i : Int) + 2 ≤ 2 * (n : Int) + 10)) || false) := rfl
  rw [e, Bool.eq_iff_iff]
  simp only [Bool.or_false, Bool.and_eq_true, decide_eq_true_eq]
  omega
def bk9 (f n i : Nat) : Int := if i = 0 then 2 * (f : Int) else 2 * (n : Int) + 10 + i
def beh9 (f n i : Nat) : Redo := ⟨2 * (n : Int) + 10 + ((i : Int) + 1), bk9 f n i, 3, 0, 0, 2, 0, [], [], false⟩
structure Cs (f n k : Nat) (s : HSt) : Prop where
  rise : Rise s.l
  mem : ∀ r, r ∈ s.l ↔ (∃ i, i < f ∧ r = rec9 i) ∨ ∃ i, i < k ∧ r = beh9 f n i
  len : s.l.length = f + k
  group : s.group = 0
  spans : s.spans = [sp9 f n]
theorem Cs.start {f n : Nat} {s : HSt} (h : St9 n (fun i => decide (i < n)) s) (hf : f ≤ n) : Cs f n 0 (s.cut [sp9 f n]) := by
  have hl : s.l = rows9 n := h.has.all fun i hi => decide_eq_true hi
  have hm : ∀ r, r ∈ (s.cut [sp9 f n]).l ↔ ∃ i, i < f ∧ r = rec9 i := fun r => by
    show r ∈ s.l.filter _ ↔ _
    rw [hl, List.mem_filter, (Has.rows n).mem]
    constructor
    · rintro ⟨⟨i, hi, _, rfl⟩, hd⟩
      rw [dead9 hi] at hd
      exact ⟨i, by simpa using hd, rfl⟩
    · rintro ⟨i, hi, rfl⟩
      refine ⟨⟨i, by omega, rfl, rfl⟩, ?_⟩
      rw [dead9 (by omega)]
      simpa using hi
  have hr : Rise (s.cut [sp9 f n]).l := h.has.rise.sublist List.filter_sublist
  have he : (s.cut [sp9 f n]).l = rows9 f := Rise.ext _ _ hr (Has.rows f).rise fun r => by
    rw [hm, (Has.rows f).mem]
    exact ⟨fun ⟨i, hi, e⟩ => ⟨i, hi, rfl, e⟩, fun ⟨i, hi, _, e⟩ => ⟨i, hi, e⟩⟩
  refine ⟨hr, fun r => ?_, by rw [he, rows9_len]; rfl, h.group, rfl⟩
  rw [hm]
  constructor
  · exact fun hh => .inl hh
  · rintro (hh | ⟨i, hi, _⟩)
    · exact hh
    · omega
section
variable {f n k : Nat} {s : HSt}
theorem Cs.fresh (h : Cs f n k s) (hf : f ≤ n) : isL s.l (beh9 f n k).lsn = false := by
  rw [isL_false]
  intro x hx he
  have he : x.lsn = 2 * (n : Int) + 10 + ((k : Int) + 1) := he
  rcases (h.mem x).1 hx with ⟨i, hi, rfl⟩ | ⟨i, hi, rfl⟩
  · rw [rec9_lsn] at he; omega
  · have : 2 * (n : Int) + 10 + ((i : Int) + 1) = 2 * (n : Int) + 10 + ((k : Int) + 1) := he
    omega
theorem Cs.add (h : Cs f n k s) (hf : f ≤ n) : Cs f n (k + 1) (s.add (beh9 f n k)) := by
  refine ⟨lins_rise h.rise (h.fresh hf), fun r => ?_, ?_, h.group, h.spans⟩
  · show r ∈ lins s.l _ ↔ _
    rw [lins_mem, h.mem]
    constructor
    · rintro (rfl | hr | ⟨i, hi, rfl⟩)
      · exact .inr ⟨k, by omega, rfl⟩
      · exact .inl hr
      · exact .inr ⟨i, by omega, rfl⟩
    · rintro (hr | ⟨i, hi, rfl⟩)
      · exact .inr (.inl hr)
      · rcases Nat.lt_or_eq_of_le (Nat.le_of_lt_succ hi) with h1 | rfl
        · exact .inr (.inr ⟨i, h1, rfl⟩)
        · exact .inl rfl
  · show (lins s.l _).length = _
    rw [lins_len, h.len]
    omega
theorem beh9_valid {f n k : Nat} (hf : f ≤ n) (hn : n ≤ 100) (hk : k ≤ 100) : validIx (beh9 f n k) = none := by
  have hb0 : 0 ≤ bk9 f n k := by unfold bk9; split <;> omega
  have hb1 : bk9 f n k < 2 * (n : Int) + 10 + ((k : Int) + 1) := by unfold bk9; split <;> omega
  have a1 : decide (2 * (n : Int) + 10 + ((k : Int) + 1) < 1) = false := decide_eq_false (by omega)
  have a2 : decide (2 * (n : Int) + 10 + ((k : Int) + 1) > 1099511627776) = false := decide_eq_false (by omega)
  have a4 : decide (bk9 f n k < 0) = false := decide_eq_false (by omega)
  have a5 : decide (bk9 f n k ≥ 2 * (n : Int) + 10 + ((k : Int) + 1)) = false := decide_eq_false (by omega)
  unfold validIx beh9
  dsimp only
  rw [a1, a2, a4, a5]
  rfl
theorem beh9_dead : deadS [sp9 f n] (beh9 f n k).lsn (beh9 f n k).epoch = false := by
  simp [deadS, sp9, beh9]
theorem Cs.climb (h : Cs f n k s) (hf : f ≤ n) : Climb s.l 0 (bk9 f n k) := by
  have key2 : ∀ d i, i + d = k → Climb s.l (bk9 f n i) (bk9 f n k) := by
    intro d
    induction d with
    | zero =>
      intro i hi
      obtain rfl : i = k := by omega
      refine .stop (pick_none_iff.2 fun x hx hb => ?_)
      rcases (h.mem x).1 hx with ⟨j, hj, rfl⟩ | ⟨j, hj, rfl⟩
      · rw [rec9_back] at hb
        unfold bk9 at hb
        split at hb <;> omega
      · have hb : bk9 f n j = bk9 f n i := hb
        unfold bk9 at hb
        split at hb <;> split at hb <;> omega
    | succ d ih =>
      intro i hi
      have h1 := ih (i + 1) (by omega)
      refine .step (x := beh9 f n i) (pick_one ((h.mem _).2 (.inr ⟨i, by omega, rfl⟩)) rfl fun y hy hb => ?_) ?_
      · rcases (h.mem y).1 hy with ⟨j, hj, rfl⟩ | ⟨j, hj, rfl⟩
        · rw [rec9_back] at hb
          unfold bk9 at hb
          split at hb <;> omega
        · have hb : bk9 f n j = bk9 f n i := hb
          have : j = i := by
            unfold bk9 at hb
            split at hb <;> split at hb <;> omega
          rw [this]
      · have e : (beh9 f n i).lsn = bk9 f n (i + 1) := by
          show 2 * (n : Int) + 10 + ((i : Int) + 1) = _
          unfold bk9
          rw [if_neg (by omega)]
          omega
        rw [e]
        exact h1
  have key1 : ∀ d i, i + d = f → Climb s.l (2 * (i : Int)) (bk9 f n k) := by
    intro d
    induction d with
    | zero =>
      intro i hi
      obtain rfl : i = f := by omega
      have := key2 k 0 (by omega)
      rwa [show bk9 i n 0 = 2 * (i : Int) by simp [bk9]] at this
    | succ d ih =>
      intro i hi
      have h1 := ih (i + 1) (by omega)
      refine .step (x := rec9 i) (pick_one ((h.mem _).2 (.inl ⟨i, by omega, rfl⟩)) rfl fun y hy hb => ?_) ?_
      · rcases (h.mem y).1 hy with ⟨j, hj, rfl⟩ | ⟨j, hj, rfl⟩
        · rw [rec9_back] at hb
          obtain rfl : j = i := by omega
          rfl
        · have hb : bk9 f n j = 2 * (i : Int) := hb
          unfold bk9 at hb
          split at hb <;> omega
      · rw [rec9_lsn, show 2 * (i : Int) + 2 = 2 * ((i + 1 : Nat) : Int) by omega]
        exact h1
  exact key1 f 0 (by omega)
theorem Cs.knows (h : Cs f n k s) (v : Int) : Cs f n k (s.knows v) := ⟨h.rise, h.mem, h.len, h.group, h.spans⟩
end
theorem Own.inside4 {α : Type} {d : Kd α} {e : TypeId} {base : Nat} {w : World} {v : Value} {xs : List α} (o : Own d e base Nowhere w v xs) : Sl d (fun b => base ≤ b ∧ b < w.heap.size) w v xs :=
  o.sl.mono fun b hb _ => by
    rcases hb with hb | hb
    · exact hb.elim
    · exact own_lt o b hb.symm

set_option maxRecDepth 100000 in
set_option maxHeartbeats 4000000 in
theorem cuts_walk (a0 a1 a2 : Int) (w : World) : Calls Tryd.prog 9 #[.int .i64 a0, .int .i64 a1, .int .i64 a2] w fun e w' => e = .returned (.bool true) ∧ Fr All w w' := by
  go_enter Tryd.func9, Tryd.ntmps9
  go_wp2_with fail
  refine (first9_call w).mono ?_
  rintro e w1 ⟨rfl, f1⟩
  go_wp2_with fail
  refine (number1 w1 (by omega) (by omega)).mono ?_
  rintro e wn ⟨n, hn1, hn2, rfl, hwn⟩
  obtain rfl := hwn.symm
  have hn30 : n ≤ 30 := by omega
  go_wp2_with fail
  refine (number w1 (k := (n : Int) + 1) (by omega) (by omega)).mono ?_
  rintro e wn ⟨f, hf, rfl, hwn⟩
  obtain rfl := hwn.symm
  have hfn : f ≤ n := by omega
  go_wp2_with fail
  refine (number w1 (by omega) (by omega)).mono ?_
  rintro e wn ⟨m, hm, rfl, hwn⟩
  obtain rfl := hwn.symm
  go_wp2_with fail
  refine (hnew 0 w1).mono ?_
  rintro e w2 ⟨rfl, h2⟩
  have H2 := Lib.hid h2
  clear h2
  go_wp2_with fail
  refine (row9_call (n := n) (by omega) w2).mono ?_
  rintro e w3 ⟨A, c, rfl, o3, f3⟩
  have H3 := Lib.hid (H2.out.guard f3)
  obtain ⟨B, hB⟩ : ∃ B, w1.heap.size = B := ⟨_, rfl⟩
  rw [hB] at H3
  simp only [hB]
  obtain ⟨X, hX⟩ : ∃ X : Nat → Prop, X = fun b => False ∨ (w2.heap.size ≤ b ∧ b < w3.heap.size) := ⟨_, rfl⟩
  rw [← hX] at H3
  have HR : Hid (Sl kRedo X w3 (.slice A n c) (rows9 n)) := Lib.hid (by
    rw [hX]
    exact o3.inside4.mono fun b hb _ => .inr hb)
  clear hX hB H2 o3 f3
  have S3 : Hid (St9 n (fun i => decide (i < 0)) (.new 0)) := Lib.hid (St9.new n _ fun i hi => decide_eq_false (by omega))
  go_wp2_with fail
  go_loopw [10] (fun i wr => ∃ (j : Nat) (s : HSt), j ≤ n ∧ i = .int .i64 j ∧ Hid (HHd X w1 wr B s) ∧ Hid (St9 n (fun i => decide (i < j)) s) ∧ Fr X w3 wr) (fun i _ => n - (intOf i).toNat)
  case atStart => exact ⟨0, _, Nat.zero_le _, rfl, H3, S3, Fr.refl _ _⟩
  case round =>
    obtain ⟨j, s, hj, rfl, HS, HT, HF⟩ := hrel
    by_cases hlt : j < n
    · have b0 : (0 : Int) ≤ (j : Int) := by omega
      have b1 : (j : Int) < (n : Int) := by omega
      obtain ⟨b, o, X0, n0, c0, X1, n1, c1, rfl, g0, g1, g2, g3, g4, g5, g6, g7, g8, g9, t0, t1⟩ := redo_at (HR.out.move HF) (rows9_get hlt)
      have T0 := Lib.hid t0
      have T1 := Lib.hid t1
      clear t0 t1
      go_wp2_with fail
      refine (hadd9 (Q := fun i => decide (i < j + 1)) HS.out HT.out (by omega) hlt (decide_eq_false (by omega)) (fun i hi => by
        by_cases hik : i = j
        · subst hik; simp
        · have h1 : decide (i < j + 1) = decide (i < j) := by rw [decide_eq_decide]; omega
          rw [h1, beq_false_of_ne hik, Bool.or_false]) T0.out T1.out).mono ?_
      rintro e w5 ⟨rfl, h5, t5, f5⟩
      have H5 := Lib.hid h5
      have T5 := Lib.hid t5
      have F5 := HF.trans f5
      clear h5 t5 f5 g0 g1 g2 g3 g4 g5 g6 g7 g8 g9
      go_wp2_with fail
      go_roundw
      case rel => exact ⟨j + 1, _, by omega, by go_num, H5, T5, F5⟩
      case measure => simp [intOf]; omega
    · obtain rfl : n = j := by omega
      have hsl : (s.l.length : Int) = (n : Int) := by rw [HT.out.has.all fun i hi => decide_eq_true hi, rows9_len]
      have HSL := Lib.hid hsl
      have hK : Sl kSpan Nowhere (wr.alloc (.cells #[.int .i64 3, .int .i64 (2 * (f : Int)), .int .i64 (2 * (n : Int) + 10)] 63)) (.slice none 0 0) [] := Sl.nil_ _ _ _
      have hlay := Own.lay (d := kSpan) (e := 63) (base := wr.heap.size) (S := Nowhere) (w := wr) (xs := [sp9 f n]) (cs := [.int .i64 3, .int .i64 (2 * (f : Int)), .int .i64 (2 * (n : Int) + 10)]) (Reps.single (kSpan_mk (x := sp9 f n))) (Nat.le_refl _) (by simp [maxLen])
      have HLAY := Lib.hid hlay
      have FB := (Fr.refl All wr).alloc (.cells #[.int .i64 3, .int .i64 (2 * (f : Int)), .int .i64 (2 * (n : Int) + 10)] 63)
      have HSB := Lib.hid (HS.out.all FB)
      have HFB := Lib.hid (HF.trans (FB.mono fun _ _ => trivial))
      clear hK hlay FB hsl HS HF
      go_wp2_with fail
      refine (hcut HSB.out HLAY.out.sl (sp9_ok hfn (by omega))).mono ?_
      rintro e w5 ⟨rfl, h5, f5⟩
      have C5 := Lib.hid (Cs.start HT.out hfn)
      have hcl : ((s.cut [sp9 f n]).l.length : Int) = (f : Int) := by rw [C5.out.len]; omega
      rw [HSL.out, hcl]
      have H5 := Lib.hid h5
      have F5 := Lib.hid (HFB.out.trans f5)
      obtain ⟨s5, hs5⟩ : ∃ s5, s.cut [sp9 f n] = s5 := ⟨_, rfl⟩
      rw [hs5] at C5 H5
      clear h5 f5 hcl hs5 HT HSB HLAY
      go_wp2_with fail
      refine (hscl H5.out).mono ?_
      rintro e w6 ⟨v, rfl, hc, h6, f6⟩
      have hv := hc.inj (C5.out.climb hfn)
      rw [show bk9 f n 0 = 2 * (f : Int) by simp [bk9]] at hv
      subst hv
      have H6 := Lib.hid h6
      have C6 := Lib.hid (C5.out.knows (2 * (f : Int)))
      have F6 := Lib.hid (F5.out.trans f6)
      obtain ⟨s6, hs6⟩ : ∃ s6, s5.knows (2 * (f : Int)) = s6 := ⟨_, rfl⟩
      rw [hs6] at C6 H6
      clear hc h6 f6 hs6 H5 C5 F5
      go_wp2_with fail
      go_loopw [14] (fun i wr => ∃ j : Nat, f ≤ j ∧ j ≤ n ∧ i = .int .i64 j ∧ Hid (HHd X w1 wr B s6) ∧ Hid (Fr X w3 wr)) (fun i _ => n - (intOf i).toNat)
      case atStart => exact ⟨f, Nat.le_refl _, hfn, rfl, H6, F6⟩
      case round =>
        obtain ⟨j, hfj, hj, rfl, HS, HF⟩ := hrel
        by_cases hlt : j < n
        · have b0 : (0 : Int) ≤ (j : Int) := by omega
          have b1 : (j : Int) < (n : Int) := by omega
          obtain ⟨b, o, X0, n0, c0, X1, n1, c1, rfl, g0, g1, g2, g3, g4, g5, g6, g7, g8, g9, t0, t1⟩ := redo_at (HR.out.move HF.out) (rows9_get hlt)
          have T0 := Lib.hid t0
          have T1 := Lib.hid t1
          clear t0 t1
          go_wp2_with fail
          refine (hdead HS.out T0.out T1.out (rec9_valid (by omega)) C6.out.group.symm (by rw [C6.out.spans, dead9 hlt]; exact decide_eq_true hfj)).mono ?_
          rintro e w7 ⟨rfl, f7⟩
          have H7 := Lib.hid (HS.out.all f7)
          have F7 := Lib.hid (HF.out.trans (f7.mono fun _ _ => trivial))
          clear f7 g0 g1 g2 g3 g4 g5 g6 g7 g8 g9
          go_wp2_with fail
          go_roundw
          case rel => exact ⟨j + 1, by omega, by omega, by go_num, H7, F7⟩
          case measure => simp [intOf]; omega
        · obtain rfl : n = j := by omega
          have C7 : Hid (Cs f n 0 s6) := C6
          have hbk0 : 2 * (f : Int) = bk9 f n 0 := by simp [bk9]
          have HBK := Lib.hid hbk0
          clear hbk0 C6
          go_wp2_with fail
          go_loopw [17, 18] (fun bk i wr => ∃ (k : Nat) (s : HSt), k ≤ m ∧ i = .int .i64 ((k : Int) + 1) ∧ bk = .int .i64 (bk9 f n k) ∧ Hid (HHd X w1 wr B s) ∧ Hid (Cs f n k s)) (fun _ i _ => m + 1 - (intOf i).toNat)
          case atStart => exact ⟨0, s6, Nat.zero_le _, rfl, by rw [HBK.out], HS, C7⟩
          case round =>
            obtain ⟨k, s, hk, rfl, rfl, HS, HC⟩ := hrel
            by_cases hlt : k < m
            · have hd : decide ((k : Int) + 1 ≤ (m : Int)) = true := decide_eq_true (by omega)
              have F1 := (Fr.refl All wr).alloc (.cells #[.int .i64 (2 * (n : Int) + 10 + ((k : Int) + 1)), .int .i64 (bk9 f n k), .int .i64 3, .int .i64 0, .int .i64 0, .int .i64 2, .int .i64 0, .slice none 0 0, .slice none 0 0, .bool false] 34)
              have B1 := heap_alloc_new wr (.cells #[.int .i64 (2 * (n : Int) + 10 + ((k : Int) + 1)), .int .i64 (bk9 f n k), .int .i64 3, .int .i64 0, .int .i64 0, .int .i64 2, .int .i64 0, .slice none 0 0, .slice none 0 0, .bool false] 34)
              have H1 := Lib.hid (HS.out.guard F1)
              obtain ⟨Y, hY⟩ : ∃ Y, bk9 f n k = Y := ⟨_, rfl⟩
              have HY := Lib.hid hY
              obtain ⟨p0, p1, p2, p3, p4, p5, p6, p7, p8, p9, pz⟩ := blk10 B1
              clear hY
              go_wp2_with fail
              refine (hadd (r := beh9 f n k) H1.out (nilB All _) (nilB All _) (beh9_valid hfn (by omega) (by omega)) HC.out.group.symm (by rw [HC.out.spans]; exact beh9_dead) (HC.out.fresh hfn) (by have := HC.out.len; omega)).mono ?_
              rintro e w7 ⟨rfl, h7, f7⟩
              have B7 := (f7.block wr.heap.size (blk_lt B1) (.inr ⟨Nat.le_refl _, blk_lt B1⟩)).trans B1
              have H7 := Lib.hid (h7.mono fun b hb => .inl hb)
              have C7 := Lib.hid (HC.out.add hfn)
              clear p0 p1 p2 p3 p4 p5 p6 p7 p8 p9 pz B1 h7 f7 F1
              obtain ⟨p0, p1, p2, p3, p4, p5, p6, p7, p8, p9, pz⟩ := blk10 B7
              go_wp2_with fail
              have hbk : Value.int .i64 (2 * (n : Int) + 10 + ((k : Int) + 1)) = Value.int .i64 (bk9 f n (k + 1)) := by
                unfold bk9
                rw [if_neg (by omega)]
                congr 1
              go_roundw
              case rel => exact ⟨k + 1, _, by omega, by go_num, hbk, H7, C7⟩
              case measure => simp [intOf]; omega
            · obtain rfl : m = k := by omega
              have hd : decide ((m : Int) + 1 ≤ (m : Int)) = false := decide_eq_false (by omega)
              obtain ⟨Y, hY⟩ : ∃ Y, bk9 f n m = Y := ⟨_, rfl⟩
              have HY := Lib.hid hY
              clear hY
              go_wp2_with fail
              refine (hscl HS.out).mono ?_
              rintro e w7 ⟨v, rfl, hc, h7, f7⟩
              obtain rfl := hc.inj (HC.out.climb hfn)
              have H7 := Lib.hid h7
              clear hc h7 f7
              go_wp2_with fail
              refine (hlen H7.out).mono ?_
              rintro e w8 ⟨rfl, hw8⟩
              obtain rfl := hw8.symm
              have hl : ((s.knows (bk9 f n m)).l.length : Int) = (f : Int) + (m : Int) := by
                show (s.l.length : Int) = _
                rw [HC.out.len]; omega
              rw [hl]
              have HF := Lib.hid H7.out.fr
              clear hw8 hl
              go_wp2_with fail
              go_ret
              exact ⟨rfl, f1.trans HF.out⟩
end Go.Proofs.YtalidmlomfobdaaDoor
