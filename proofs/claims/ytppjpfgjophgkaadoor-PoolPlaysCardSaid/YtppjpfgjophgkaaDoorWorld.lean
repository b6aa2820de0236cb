/- The statements' light inputs: Redo, Redos, Right; the document's Valid. -/
import Derived.Test.YtppjpfgjophgkaaDoorVIx
import Derived.Test.YtppjpfgjophgkaaDoorProg
import Derived.KernelRfl
import Derived.Outline
namespace Go.Proofs.YtppjpfgjophgkaaDoor
open Go.RowKit

def lsnB (n : Int) : Bool := decide (n ≥ 1) && decide (n ≤ 1099511627776)

theorem refin_call (n b : Int) (w : World) : Calls Tryd.prog 35 #[.int .i64 n, .int .i64 b] w fun e w' => e = .returned (.bool (inB n b)) ∧ w' = w := by
  cases h1 : decide (n ≥ 0) with
  | true =>
    go_enter Tryd.func35, Tryd.ntmps35
    go_wp2_with fail
    go_ret
    exact ⟨ret_bool (by have := of_decide_eq_true h1; simp [inB]; omega), rfl⟩
  | false =>
    go_enter Tryd.func35, Tryd.ntmps35
    go_wp2_with fail
    go_ret
    exact ⟨ret_bool (by have := of_decide_eq_false h1; simp [inB]; omega), rfl⟩
theorem reflsn_call (n : Int) (w : World) : Calls Tryd.prog 45 #[.int .i64 n] w fun e w' => e = .returned (.bool (lsnB n)) ∧ w' = w := by
  cases h1 : decide (n ≥ 1) with
  | true =>
    go_enter Tryd.func45, Tryd.ntmps45
    go_wp2_with fail
    go_ret
    exact ⟨ret_bool (by simp [lsnB, h1]), rfl⟩
  | false =>
    go_enter Tryd.func45, Tryd.ntmps45
    go_wp2_with fail
    go_ret
    exact ⟨ret_bool (by simp [lsnB, h1]), rfl⟩
theorem refepoch_call (n : Int) (w : World) : Calls Tryd.prog 46 #[.int .i64 n] w fun e w' => e = .returned (.bool (inB n 1073741825)) ∧ w' = w := by
  cases h1 : decide (n ≥ 0) with
  | true =>
    go_enter Tryd.func46, Tryd.ntmps46
    go_wp2_with fail
    go_ret
    exact ⟨ret_bool (by have := of_decide_eq_true h1; rw [Bool.eq_iff_iff]; simp [inB]; omega), rfl⟩
  | false =>
    go_enter Tryd.func46, Tryd.ntmps46
    go_wp2_with fail
    go_ret
    exact ⟨ret_bool (by have := of_decide_eq_false h1; rw [Bool.eq_iff_iff]; simp [inB]; omega), rfl⟩
theorem refgroup_call (n : Int) (w : World) : Calls Tryd.prog 47 #[.int .i64 n] w fun e w' => e = .returned (.bool (inB n 4)) ∧ w' = w := by
  go_enter Tryd.func47, Tryd.ntmps47
  go_wp2_with (first | (go_at_call 35; refine (refin_call _ _ _).mono ?_; rintro e _ ⟨rfl, rfl⟩))
  go_ret
  exact ⟨rfl, rfl⟩
theorem refpage_call (n : Int) (w : World) : Calls Tryd.prog 18 #[.int .i64 n] w fun e w' => e = .returned (.bool (inB n 256)) ∧ w' = w := by
  go_enter Tryd.func18, Tryd.ntmps18
  go_wp2_with (first | (go_at_call 35; refine (refin_call _ _ _).mono ?_; rintro e _ ⟨rfl, rfl⟩))
  go_ret
  exact ⟨rfl, rfl⟩

theorem validIx_of {r : Redo} (h1 : lsnB r.lsn = true) (h3 : inB r.epoch 1073741825 = true) (h4 : inB r.group 4 = true) (h5 : inB r.page 256 = true) (h6 : decide (r.back < 0) = false) (h7 : decide (r.back ≥ r.lsn) = false) (h8 : decide (r.slot < 0) = false) (h13 : decide (r.slot > 32768) = false)
    (h9 : decide (r.kind < 1) = false) (h10 : decide (r.kind > 6) = false) (h11 : decide ((r.key.length : Int) > 32) = false) (h12 : decide ((r.val.length : Int) > 64) = false) : validIx r = none := by
  unfold lsnB at h1
  have a1 : decide (r.lsn < 1) = false := by simp at h1 ⊢; omega
  have a2 : decide (r.lsn > 1099511627776) = false := by simp at h1 ⊢; omega
  have a3 : inB r.slot 32769 = true := by simp [inB] at h8 h13 ⊢; omega
  unfold validIx
  rw [a1, a2, h3, h4, h5, h6, h7, a3, h9, h10, h11, h12]
  rfl

set_option hygiene false in
set_option maxHeartbeats 4000000 in
set_option maxRecDepth 100000 in
theorem refvalid_call {w : World} {r : Redo} {v0 v1 : Value} {S T : Nat → Prop} (s0 : Sl kByte S w v0 r.key) (s1 : Sl kByte T w v1 r.val) :
    Calls Tryd.prog 27 #[.agg #[.int .i64 r.lsn, .int .i64 r.back, .int .i64 r.epoch, .int .i64 r.group, .int .i64 r.page, .int .i64 r.kind, .int .i64 r.slot, v0, v1, .bool r.last]] w
      fun e w' => ∃ z : Int, e = .returned (.int .i64 z) ∧ (z = 0 → validIx r = none) ∧ Fr All w w' := by
  obtain ⟨A0, n0, c0, rfl, e0, _⟩ := s0.open_
  obtain ⟨A1, n1, c1, rfl, e1, _⟩ := s1.open_
  obtain ⟨lsn, back, epoch, group, page, kind, slot, key, val, last⟩ := r
  dsimp only at *
  have B := heap_alloc_new w (.cells #[.int .i64 lsn, .int .i64 back, .int .i64 epoch, .int .i64 group, .int .i64 page, .int .i64 kind, .int .i64 slot, .slice A0 n0 c0, .slice A1 n1 c1, .bool last] 33)
  have F0 := (Fr.refl All w).alloc (.cells #[.int .i64 lsn, .int .i64 back, .int .i64 epoch, .int .i64 group, .int .i64 page, .int .i64 kind, .int .i64 slot, .slice A0 n0 c0, .slice A1 n1 c1, .bool last] 33)
  obtain ⟨p0, p1, p2, p3, p4, p5, p6, p7, p8, p9, pz⟩ := blk10 B
  obtain ⟨W, hW⟩ : ∃ W, w.alloc (.cells #[.int .i64 lsn, .int .i64 back, .int .i64 epoch, .int .i64 group, .int .i64 page, .int .i64 kind, .int .i64 slot, .slice A0 n0 c0, .slice A1 n1 c1, .bool last] 33) = W := ⟨_, rfl⟩
  rw [hW] at F0 p0 p1 p2 p3 p4 p5 p6 p7 p8 p9 pz
  have E0 := Lib.hid e0
  have E1 := Lib.hid e1
  clear B s0 s1 e0 e1
  cases h1 : lsnB lsn with
  | false =>
    go_enter Tryd.func27, Tryd.ntmps27
    go_wp2_with (first | (go_at_call 45; refine (reflsn_call _ _).mono ?_; rintro e _ ⟨rfl, rfl⟩) | (go_at_call 46; refine (refepoch_call _ _).mono ?_; rintro e _ ⟨rfl, rfl⟩) | (go_at_call 47; refine (refgroup_call _ _).mono ?_; rintro e _ ⟨rfl, rfl⟩) | (go_at_call 18; refine (refpage_call _ _).mono ?_; rintro e _ ⟨rfl, rfl⟩))
    go_ret
    refine ⟨_, rfl, fun hz => ?_, F0⟩
    exact absurd hz (by decide)
  | true =>
  cases h3 : inB epoch 1073741825 with
  | false =>
    go_enter Tryd.func27, Tryd.ntmps27
    go_wp2_with (first | (go_at_call 45; refine (reflsn_call _ _).mono ?_; rintro e _ ⟨rfl, rfl⟩) | (go_at_call 46; refine (refepoch_call _ _).mono ?_; rintro e _ ⟨rfl, rfl⟩) | (go_at_call 47; refine (refgroup_call _ _).mono ?_; rintro e _ ⟨rfl, rfl⟩) | (go_at_call 18; refine (refpage_call _ _).mono ?_; rintro e _ ⟨rfl, rfl⟩))
    go_ret
    refine ⟨_, rfl, fun hz => ?_, F0⟩
    exact absurd hz (by decide)
  | true =>
  cases h4 : inB group 4 with
  | false =>
    go_enter Tryd.func27, Tryd.ntmps27
    go_wp2_with (first | (go_at_call 45; refine (reflsn_call _ _).mono ?_; rintro e _ ⟨rfl, rfl⟩) | (go_at_call 46; refine (refepoch_call _ _).mono ?_; rintro e _ ⟨rfl, rfl⟩) | (go_at_call 47; refine (refgroup_call _ _).mono ?_; rintro e _ ⟨rfl, rfl⟩) | (go_at_call 18; refine (refpage_call _ _).mono ?_; rintro e _ ⟨rfl, rfl⟩))
    go_ret
    refine ⟨_, rfl, fun hz => ?_, F0⟩
    exact absurd hz (by decide)
  | true =>
  cases h5 : inB page 256 with
  | false =>
    go_enter Tryd.func27, Tryd.ntmps27
    go_wp2_with (first | (go_at_call 45; refine (reflsn_call _ _).mono ?_; rintro e _ ⟨rfl, rfl⟩) | (go_at_call 46; refine (refepoch_call _ _).mono ?_; rintro e _ ⟨rfl, rfl⟩) | (go_at_call 47; refine (refgroup_call _ _).mono ?_; rintro e _ ⟨rfl, rfl⟩) | (go_at_call 18; refine (refpage_call _ _).mono ?_; rintro e _ ⟨rfl, rfl⟩))
    go_ret
    refine ⟨_, rfl, fun hz => ?_, F0⟩
    exact absurd hz (by decide)
  | true =>
  cases h6 : decide (back < 0) with
  | true =>
    go_enter Tryd.func27, Tryd.ntmps27
    go_wp2_with (first | (go_at_call 45; refine (reflsn_call _ _).mono ?_; rintro e _ ⟨rfl, rfl⟩) | (go_at_call 46; refine (refepoch_call _ _).mono ?_; rintro e _ ⟨rfl, rfl⟩) | (go_at_call 47; refine (refgroup_call _ _).mono ?_; rintro e _ ⟨rfl, rfl⟩) | (go_at_call 18; refine (refpage_call _ _).mono ?_; rintro e _ ⟨rfl, rfl⟩))
    go_ret
    refine ⟨_, rfl, fun hz => ?_, F0⟩
    exact absurd hz (by decide)
  | false =>
  cases h7 : decide (back ≥ lsn) with
  | true =>
    go_enter Tryd.func27, Tryd.ntmps27
    go_wp2_with (first | (go_at_call 45; refine (reflsn_call _ _).mono ?_; rintro e _ ⟨rfl, rfl⟩) | (go_at_call 46; refine (refepoch_call _ _).mono ?_; rintro e _ ⟨rfl, rfl⟩) | (go_at_call 47; refine (refgroup_call _ _).mono ?_; rintro e _ ⟨rfl, rfl⟩) | (go_at_call 18; refine (refpage_call _ _).mono ?_; rintro e _ ⟨rfl, rfl⟩))
    go_ret
    refine ⟨_, rfl, fun hz => ?_, F0⟩
    exact absurd hz (by decide)
  | false =>
  cases h8 : decide (slot < 0) with
  | true =>
    go_enter Tryd.func27, Tryd.ntmps27
    go_wp2_with (first | (go_at_call 45; refine (reflsn_call _ _).mono ?_; rintro e _ ⟨rfl, rfl⟩) | (go_at_call 46; refine (refepoch_call _ _).mono ?_; rintro e _ ⟨rfl, rfl⟩) | (go_at_call 47; refine (refgroup_call _ _).mono ?_; rintro e _ ⟨rfl, rfl⟩) | (go_at_call 18; refine (refpage_call _ _).mono ?_; rintro e _ ⟨rfl, rfl⟩))
    go_ret
    refine ⟨_, rfl, fun hz => ?_, F0⟩
    exact absurd hz (by decide)
  | false =>
  cases h13 : decide (slot > 32768) with
  | true =>
    go_enter Tryd.func27, Tryd.ntmps27
    go_wp2_with (first | (go_at_call 45; refine (reflsn_call _ _).mono ?_; rintro e _ ⟨rfl, rfl⟩) | (go_at_call 46; refine (refepoch_call _ _).mono ?_; rintro e _ ⟨rfl, rfl⟩) | (go_at_call 47; refine (refgroup_call _ _).mono ?_; rintro e _ ⟨rfl, rfl⟩) | (go_at_call 18; refine (refpage_call _ _).mono ?_; rintro e _ ⟨rfl, rfl⟩))
    go_ret
    refine ⟨_, rfl, fun hz => ?_, F0⟩
    exact absurd hz (by decide)
  | false =>
  cases h9 : decide (kind < 1) with
  | true =>
    go_enter Tryd.func27, Tryd.ntmps27
    go_wp2_with (first | (go_at_call 45; refine (reflsn_call _ _).mono ?_; rintro e _ ⟨rfl, rfl⟩) | (go_at_call 46; refine (refepoch_call _ _).mono ?_; rintro e _ ⟨rfl, rfl⟩) | (go_at_call 47; refine (refgroup_call _ _).mono ?_; rintro e _ ⟨rfl, rfl⟩) | (go_at_call 18; refine (refpage_call _ _).mono ?_; rintro e _ ⟨rfl, rfl⟩))
    go_ret
    refine ⟨_, rfl, fun hz => ?_, F0⟩
    exact absurd hz (by decide)
  | false =>
  cases h10 : decide (kind > 6) with
  | true =>
    go_enter Tryd.func27, Tryd.ntmps27
    go_wp2_with (first | (go_at_call 45; refine (reflsn_call _ _).mono ?_; rintro e _ ⟨rfl, rfl⟩) | (go_at_call 46; refine (refepoch_call _ _).mono ?_; rintro e _ ⟨rfl, rfl⟩) | (go_at_call 47; refine (refgroup_call _ _).mono ?_; rintro e _ ⟨rfl, rfl⟩) | (go_at_call 18; refine (refpage_call _ _).mono ?_; rintro e _ ⟨rfl, rfl⟩))
    go_ret
    refine ⟨_, rfl, fun hz => ?_, F0⟩
    exact absurd hz (by decide)
  | false =>
  cases h11 : decide ((n0 : Int) > 32) with
  | true =>
    go_enter Tryd.func27, Tryd.ntmps27
    go_wp2_with (first | (go_at_call 45; refine (reflsn_call _ _).mono ?_; rintro e _ ⟨rfl, rfl⟩) | (go_at_call 46; refine (refepoch_call _ _).mono ?_; rintro e _ ⟨rfl, rfl⟩) | (go_at_call 47; refine (refgroup_call _ _).mono ?_; rintro e _ ⟨rfl, rfl⟩) | (go_at_call 18; refine (refpage_call _ _).mono ?_; rintro e _ ⟨rfl, rfl⟩))
    go_ret
    refine ⟨_, rfl, fun hz => ?_, F0⟩
    exact absurd hz (by decide)
  | false =>
  cases h12 : decide ((n1 : Int) > 64) with
  | true =>
    go_enter Tryd.func27, Tryd.ntmps27
    go_wp2_with (first | (go_at_call 45; refine (reflsn_call _ _).mono ?_; rintro e _ ⟨rfl, rfl⟩) | (go_at_call 46; refine (refepoch_call _ _).mono ?_; rintro e _ ⟨rfl, rfl⟩) | (go_at_call 47; refine (refgroup_call _ _).mono ?_; rintro e _ ⟨rfl, rfl⟩) | (go_at_call 18; refine (refpage_call _ _).mono ?_; rintro e _ ⟨rfl, rfl⟩))
    go_ret
    refine ⟨_, rfl, fun hz => ?_, F0⟩
    exact absurd hz (by decide)
  | false =>
    go_enter Tryd.func27, Tryd.ntmps27
    go_wp2_with (first | (go_at_call 45; refine (reflsn_call _ _).mono ?_; rintro e _ ⟨rfl, rfl⟩) | (go_at_call 46; refine (refepoch_call _ _).mono ?_; rintro e _ ⟨rfl, rfl⟩) | (go_at_call 47; refine (refgroup_call _ _).mono ?_; rintro e _ ⟨rfl, rfl⟩) | (go_at_call 18; refine (refpage_call _ _).mono ?_; rintro e _ ⟨rfl, rfl⟩))
    go_ret
    refine ⟨_, rfl, fun hz => ?_, F0⟩
    exact validIx_of h1 h3 h4 h5 h6 h7 h8 h13 h9 h10 (by rw [E0.out]; exact h11) (by rw [E1.out]; exact h12)

theorem redo_light {w : World} {r : Redo} {v0 v1 : Value} {S T : Nat → Prop} (s0 : Sl kByte S w v0 r.key) (s1 : Sl kByte T w v1 r.val) :
    Calls Tryd.prog 44 #[.agg #[.int .i64 r.lsn, .int .i64 r.back, .int .i64 r.epoch, .int .i64 r.group, .int .i64 r.page, .int .i64 r.kind, .int .i64 r.slot, v0, v1, .bool r.last]] w
      fun e w' => ∃ b, e = .returned (.bool b) ∧ (b = true → r.key.length ≤ 100 ∧ r.val.length ≤ 150) ∧ Fr All w w' := by
  obtain ⟨A0, n0, c0, rfl, e0, _⟩ := s0.open_
  obtain ⟨A1, n1, c1, rfl, e1, _⟩ := s1.open_
  obtain ⟨lsn, back, epoch, group, page, kind, slot, key, val, last⟩ := r
  dsimp only at *
  have F0 := (Fr.refl All w).alloc (.cells #[.int .i64 lsn, .int .i64 back, .int .i64 epoch, .int .i64 group, .int .i64 page, .int .i64 kind, .int .i64 slot, .slice A0 n0 c0, .slice A1 n1 c1, .bool last] 33)
  have E0 := Lib.hid e0
  have E1 := Lib.hid e1
  clear s0 s1 e0 e1
  cases h1 : decide ((n0 : Int) ≤ 100) with
  | false =>
    go_enter Tryd.func44, Tryd.ntmps44
    go_wp2_with fail
    go_ret
    exact ⟨false, rfl, fun h => (by cases h), F0⟩
  | true =>
    cases h2 : decide ((n1 : Int) ≤ 150) with
    | false =>
      go_enter Tryd.func44, Tryd.ntmps44
      go_wp2_with fail
      go_ret
      exact ⟨false, rfl, fun h => (by cases h), F0⟩
    | true =>
      go_enter Tryd.func44, Tryd.ntmps44
      go_wp2_with fail
      go_ret
      refine ⟨true, rfl, fun _ => ?_, F0⟩
      have a1 := of_decide_eq_true h1
      have a2 := of_decide_eq_true h2
      have := E0.out
      have := E1.out
      omega

set_option maxHeartbeats 1000000 in
theorem redos_light {w : World} {l : List Redo} {v : Value} {S : Nat → Prop} (m : Nat) (hm6 : m ≤ 1000000) (s : Sl kRedo S w v l) :
    Calls Tryd.prog 26 #[v, .int .i64 m] w fun e w' => ∃ b, e = .returned (.bool b) ∧ (b = true → l.length ≤ m ∧ ∀ r ∈ l, r.key.length ≤ 100 ∧ r.val.length ≤ 150) ∧ Fr All w w' := by
  obtain ⟨A, n, c, rfl, en, hn⟩ := s.open_
  have En := Lib.hid en
  clear en
  by_cases hm : n > m
  · have hd : decide ((n : Int) > (m : Int)) = true := decide_eq_true (by omega)
    go_enter Tryd.func26, Tryd.ntmps26
    go_wp2_with fail
    go_ret
    exact ⟨false, rfl, fun h => (by cases h), Fr.refl _ _⟩
  · have hd : decide ((n : Int) > (m : Int)) = false := decide_eq_false (by omega)
    have hn6 : n ≤ 1000000 := by omega
    go_enter Tryd.func26, Tryd.ntmps26
    go_wp2_with fail
    go_loopw [5] (fun i wr => ∃ k : Nat, k ≤ n ∧ i = .int .i64 k ∧ Hid (∀ r ∈ l.take k, r.key.length ≤ 100 ∧ r.val.length ≤ 150) ∧ Fr All w wr) (fun i _ => n - (intOf i).toNat)
    case atStart => exact ⟨0, Nat.zero_le _, rfl, (fun r hr => by simp at hr : ∀ r ∈ l.take 0, r.key.length ≤ 100 ∧ r.val.length ≤ 150), Fr.refl _ _⟩
    case round =>
      obtain ⟨j, hj, rfl, HT, HF⟩ := hrel
      by_cases hlt : j < n
      · obtain ⟨x, hx, _⟩ := get_of (l := l) (k := j) (by rw [En.out]; exact hlt)
        obtain ⟨b, o, A0, n0, c0, A1, n1, c1, rfl, g0, g1, g2, g3, g4, g5, g6, g7, g8, g9, t0, t1⟩ := redo_at (s.all HF) hx
        have Hx := Lib.hid hx
        have b0 : (0 : Int) ≤ (j : Int) := by omega
        have b1 : (j : Int) < (n : Int) := by omega
        clear hx
        go_wp2_with fail
        refine (redo_light t0 t1).mono ?_
        rintro e w1 ⟨bb, rfl, hb, f1⟩
        have Hb := Lib.hid hb
        clear hb
        cases bb with
        | false =>
          go_wp2_with fail
          go_ret
          exact ⟨false, rfl, fun h => (by cases h), HF.trans f1⟩
        | true =>
          go_wp2_with fail
          go_roundw
          case rel => exact ⟨j + 1, by omega, by go_num, (by
            intro r hr
            rw [take_snoc Hx.out] at hr
            rcases List.mem_append.1 hr with hr | hr
            · exact HT.out r hr
            · rw [List.mem_singleton.1 hr]
              exact Hb.out trivial : ∀ r ∈ l.take (j + 1), r.key.length ≤ 100 ∧ r.val.length ≤ 150), HF.trans f1⟩
          case measure => simp [intOf]; omega
      · obtain rfl : j = n := by omega
        go_wp2_with fail
        go_ret
        refine ⟨true, rfl, fun _ => ⟨by rw [En.out]; omega, ?_⟩, HF⟩
        have := HT.out
        rwa [List.take_of_length_le (by rw [En.out]; exact Nat.le_refl _)] at this

set_option maxHeartbeats 1000000 in
/-- Right: few, short, and right. -/
theorem right_call {w : World} {l : List Redo} {v : Value} {S : Nat → Prop} (m : Nat) (hm6 : m ≤ 1000000) (s : Sl kRedo S w v l) :
    Calls Tryd.prog 7 #[v, .int .i64 m] w fun e w' => ∃ b, e = .returned (.bool b) ∧ (b = true → l.length ≤ m ∧ ∀ r ∈ l, validIx r = none) ∧ Fr All w w' := by
  obtain ⟨A, n, c, rfl, en, hn⟩ := s.open_
  have En := Lib.hid en
  clear en
  go_enter Tryd.func7, Tryd.ntmps7
  go_wp2_with fail
  refine (redos_light m hm6 s).mono ?_
  rintro e w1 ⟨bb, rfl, hb, f1⟩
  have Hb := Lib.hid hb
  clear hb
  cases bb with
  | false =>
    go_wp2_with fail
    go_ret
    exact ⟨false, rfl, fun h => (by cases h), f1⟩
  | true =>
    have hn6 : n ≤ 1000000 := by
      have h1 := (Hb.out rfl).1
      rw [En.out] at h1
      omega
    go_wp2_with fail
    go_loopw [5] (fun i wr => ∃ k : Nat, k ≤ n ∧ i = .int .i64 k ∧ Hid (∀ r ∈ l.take k, validIx r = none) ∧ Fr All w wr) (fun i _ => n - (intOf i).toNat)
    case atStart => exact ⟨0, Nat.zero_le _, rfl, (fun r hr => by simp at hr : ∀ r ∈ l.take 0, validIx r = none), f1⟩
    case round =>
      obtain ⟨j, hj, rfl, HT, HF⟩ := hrel
      by_cases hlt : j < n
      · obtain ⟨x, hx, _⟩ := get_of (l := l) (k := j) (by rw [En.out]; exact hlt)
        obtain ⟨b, o, A0, n0, c0, A1, n1, c1, rfl, g0, g1, g2, g3, g4, g5, g6, g7, g8, g9, t0, t1⟩ := redo_at (s.all HF) hx
        have Hx := Lib.hid hx
        have b0 : (0 : Int) ≤ (j : Int) := by omega
        have b1 : (j : Int) < (n : Int) := by omega
        clear hx
        go_wp2_with fail
        refine (refvalid_call t0 t1).mono ?_
        rintro e w2 ⟨z, rfl, hz, f2⟩
        have Hz := Lib.hid hz
        clear hz
        by_cases h0 : z = 0
        · subst h0
          go_wp2_with fail
          go_roundw
          case rel => exact ⟨j + 1, by omega, by go_num, (by
            intro r hr
            rw [take_snoc Hx.out] at hr
            rcases List.mem_append.1 hr with hr | hr
            · exact HT.out r hr
            · rw [List.mem_singleton.1 hr]
              exact Hz.out trivial : ∀ r ∈ l.take (j + 1), validIx r = none), HF.trans f2⟩
          case measure => simp [intOf]; omega
        · have he : (z != 0) = true := by rw [bne_iff_ne]; exact h0
          clear h0
          go_wp2_with fail
          go_ret
          exact ⟨false, rfl, fun h => (by cases h), HF.trans f2⟩
      · obtain rfl : j = n := by omega
        go_wp2_with fail
        go_ret
        refine ⟨true, rfl, fun _ => ⟨(Hb.out trivial).1, ?_⟩, HF⟩
        have := HT.out
        rwa [List.take_of_length_le (by rw [En.out]; exact Nat.le_refl _)] at this
end Go.Proofs.YtppjpfgjophgkaaDoor
