/- Two logs that were never cut, held against each other: slices.EqualFunc, slices.Equal of nothing, Same. -/
import Derived.Test.YtalidmlomfobdaaDoorHHd
import Derived.Test.YtalidmlomfobdaaDoorRSame2
namespace Go.Proofs.YtalidmlomfobdaaDoor
open Go.RowKit

set_option maxRecDepth 100000 in
set_option maxHeartbeats 2000000 in
theorem equal_redos {v u : Value} {xs ys : List Redo} {S T : Nat → Prop} {w : World} (h : Sl kRedo S w v xs) (k : Sl kRedo T w u ys) (hn : xs.length ≤ 1000000) :
    Calls Tryd.prog 55 #[v, u, .func (.func 44) #[] #[]] w fun e w' => e = .returned (.bool (decide (xs = ys))) ∧ Fr All w w' := by
  obtain ⟨A, n, c, rfl, en, _⟩ := h.open_
  obtain ⟨B, m, d, rfl, em, _⟩ := k.open_
  rw [en] at hn
  by_cases hl : n = m
  · subst hl
    have Hn := Lib.hid en
    have Hm := Lib.hid em
    clear en em
    go_enter Tryd.func55, Tryd.ntmps55
    go_wp2_with fail
    go_loopw [17] (fun i wr => ∃ k : Nat, k ≤ n ∧ i = .int .i64 k ∧ Hid (xs.take k = ys.take k) ∧ Fr All w wr) (fun i _ => n - (intOf i).toNat)
    case atStart => exact ⟨0, Nat.zero_le _, rfl, (rfl : xs.take 0 = ys.take 0), Fr.refl _ _⟩
    case round =>
      obtain ⟨j, hj, rfl, HT, HF⟩ := hrel
      by_cases hlt : j < n
      · obtain ⟨x, hx, _⟩ := get_of (l := xs) (k := j) (by rw [Hn.out]; exact hlt)
        obtain ⟨y, hy, _⟩ := get_of (l := ys) (k := j) (by rw [Hm.out]; exact hlt)
        obtain ⟨b, o, X0, n0, c0, X1, n1, c1, rfl, g0, g1, g2, g3, g4, g5, g6, g7, g8, g9, t0, t1⟩ := redo_at (h.all HF) hx
        have F1 := (Fr.refl All wr).alloc (.cells #[.int .i64 x.lsn, .int .i64 x.back, .int .i64 x.epoch, .int .i64 x.group, .int .i64 x.page, .int .i64 x.kind, .int .i64 x.slot, .slice X0 n0 c0, .slice X1 n1 c1, .bool x.last] 34)
        obtain ⟨b', o', Y0, m0, d0, Y1, m1, d1, rfl, e0, e1, e2, e3, e4, e5, e6, e7, e8, e9, u0, u1⟩ := redo_at (k.all (HF.trans F1)) hy
        have F2 := F1.alloc (.cells #[.int .i64 y.lsn, .int .i64 y.back, .int .i64 y.epoch, .int .i64 y.group, .int .i64 y.page, .int .i64 y.kind, .int .i64 y.slot, .slice Y0 m0 d0, .slice Y1 m1 d1, .bool y.last] 34)
        have Hx := Lib.hid hx
        have Hy := Lib.hid hy
        have hT := HF.trans F2
        have T0 := Lib.hid (t0.all F2)
        have T1 := Lib.hid (t1.all F2)
        have U0 := Lib.hid (u0.all ((Fr.refl All _).alloc (.cells #[.int .i64 y.lsn, .int .i64 y.back, .int .i64 y.epoch, .int .i64 y.group, .int .i64 y.page, .int .i64 y.kind, .int .i64 y.slot, .slice Y0 m0 d0, .slice Y1 m1 d1, .bool y.last] 34)))
        have U1 := Lib.hid (u1.all ((Fr.refl All _).alloc (.cells #[.int .i64 y.lsn, .int .i64 y.back, .int .i64 y.epoch, .int .i64 y.group, .int .i64 y.page, .int .i64 y.kind, .int .i64 y.slot, .slice Y0 m0 d0, .slice Y1 m1 d1, .bool y.last] 34)))
        have b0 : (0 : Int) ≤ (j : Int) := by omega
        have b1 : (j : Int) < (n : Int) := by omega
        clear hx hy t0 t1 u0 u1 F1
        go_wp2_with fail
        refine (redo_same (x := x) (y := y) T0.out T1.out U0.out U1.out).mono ?_
        rintro e w5 ⟨rfl, f5⟩
        have F5 := hT.trans f5
        clear f5 hT F2 g0 g1 g2 g3 g4 g5 g6 g7 g8 g9 e0 e1 e2 e3 e4 e5 e6 e7 e8 e9
        by_cases hxy : x = y
        · have hd : decide (x = y) = true := decide_eq_true hxy
          have HXY := Lib.hid hxy
          rw [hd]
          clear hxy hd
          go_wp2_with fail
          go_roundw
          case rel => exact ⟨j + 1, by omega, by go_num, (by rw [take_snoc Hx.out, take_snoc Hy.out, HT.out, HXY.out] : xs.take (j + 1) = ys.take (j + 1)), F5⟩
          case measure => simp [intOf]; omega
        · have hd : decide (x = y) = false := decide_eq_false hxy
          have HXY := Lib.hid hxy
          rw [hd]
          clear hxy hd
          go_wp2_with fail
          go_ret
          have hF : decide (xs = ys) = false := decide_eq_false fun he => by
            have h1 := Hx.out
            rw [he, Hy.out] at h1
            exact HXY.out (Option.some.inj h1).symm
          exact ⟨ret_bool hF.symm, F5⟩
      · obtain rfl : j = n := by omega
        go_wp2_with fail
        go_ret
        exact ⟨ret_bool (decide_eq_true (take_eq_of Hn.out Hm.out (Nat.le_refl _) HT.out)).symm, HF⟩
  · have he : ((n : Int) != (m : Int)) = true := by rw [bne_iff_ne]; omega
    go_enter Tryd.func55, Tryd.ntmps55
    go_wp2_with fail
    go_ret
    exact ⟨ret_bool (decide_eq_false (fun h => by rw [h] at en; omega)).symm, Fr.refl _ _⟩

theorem spans_none (A B : Option Addr) (c d : Nat) (w : World) : Calls Tryd.prog 54 #[.slice A 0 c, .slice B 0 d] w fun e w' => e = .returned (.bool true) ∧ w' = w := by
  have hc : Calls Tryd.prog 82 #[.slice A 0 c, .slice B 0 d] w fun e w' => e = .returned (.bool true) ∧ w' = w := by
    go_enter Tryd.func82, Tryd.ntmps82
    go_wp2_with fail
    go_loopw [13] (fun i wr => i = .int .i64 0 ∧ wr = w) (fun _ _ => 0)
    case atStart => exact ⟨rfl, rfl⟩
    case round =>
      obtain ⟨rfl, rfl⟩ := hrel
      go_wp2_with fail
      go_ret
      exact ⟨rfl, rfl⟩
  have HC := Lib.hid hc
  clear hc
  go_enter Tryd.func54, Tryd.ntmps54
  go_wp2_with fail
  refine HC.out.mono ?_
  rintro e wn ⟨rfl, hwn⟩
  obtain rfl := hwn.symm
  go_wp2_with fail
  go_ret
  exact ⟨rfl, rfl⟩

set_option maxRecDepth 100000 in
set_option maxHeartbeats 2000000 in
theorem hot_same {S T : Nat → Prop} {w : World} {Ba Bb : Nat} {la va lb vb : Value} {a b : HSt} (h : Hg S w Ba la va a) (k : Hg T w Bb lb vb b) (hg : a.group = b.group) (ha : a.spans = []) (hb : b.spans = []) :
    Calls Tryd.prog 27 #[.pointer (some ⟨Ba, 0, none⟩), .pointer (some ⟨Bb, 0, none⟩)] w fun e w' => e = .returned (.bool (decide (a.l = b.l))) ∧ Fr All w w' := by
  obtain ⟨p0, p1, p2, p3, p4, p5, pz⟩ := blk6 h.blk
  obtain ⟨q0, q1, q2, q3, q4, q5, qz⟩ := blk6 k.blk
  obtain ⟨A, n, c, hva, en, _⟩ := h.sp.open_
  obtain ⟨A', n', c', hvb, en', _⟩ := k.sp.open_
  rw [ha] at en
  rw [hb] at en'
  obtain rfl : n = 0 := en.symm
  obtain rfl : n' = 0 := en'.symm
  obtain ⟨LA, lc, hla⟩ := h.row.length
  obtain ⟨LB, ld, hlb⟩ := k.row.length
  have hfew := h.few
  have S1 := Lib.hid h.row.sl
  have S2 := Lib.hid k.row.sl
  obtain ⟨an, han⟩ : ∃ an, a.l.length = an := ⟨_, rfl⟩
  obtain ⟨bn, hbn⟩ : ∃ bn, b.l.length = bn := ⟨_, rfl⟩
  rw [han] at hla
  rw [hbn] at hlb
  subst hla
  subst hlb
  subst hva
  subst hvb
  have hgb : (a.group == b.group) = true := by rw [beq_iff_eq]; exact hg
  have HN := Lib.hid han
  clear h k han hbn en en' ha hb hg
  go_enter Tryd.func27, Tryd.ntmps27
  go_upto_region 1 with (fail)
  go_region_held3 (fun w' => w'.cell? ⟨Ba, 0, none⟩ = some (.int .i64 a.group) ∧ w'.cell? ⟨Ba, 1, none⟩ = some (.slice LA an lc) ∧ w'.cell? ⟨Ba, 2, none⟩ = some (.slice A 0 c) ∧ w'.cell? ⟨Bb, 0, none⟩ = some (.int .i64 b.group) ∧ w'.cell? ⟨Bb, 1, none⟩ = some (.slice LB bn ld) ∧ w'.cell? ⟨Bb, 2, none⟩ = some (.slice A' 0 c'))
    (first | go_keep | (go_split_ands; refine ⟨?_, ?_, ?_, ?_, ?_, ?_⟩ <;> exact Fr.cell (by assumption) trivial (by assumption)))
    (first
      | (go_at_call 54; refine (spans_none _ _ _ _ _).mono ?_; rintro e w5 ⟨rfl, hw5⟩; have F5 : Fr All w w5 := (by rw [hw5]; exact (Fr.refl All w).drew); clear hw5)
      | (go_at_call 55; refine (equal_redos (S1.out.all F5) (S2.out.all F5) (by have := HN.out; omega)).mono ?_; rintro e w6 ⟨rfl, f6⟩))
  go_wp2_with fail
  go_ret
  exact ⟨rfl, F5.trans f6⟩
end Go.Proofs.YtalidmlomfobdaaDoor
