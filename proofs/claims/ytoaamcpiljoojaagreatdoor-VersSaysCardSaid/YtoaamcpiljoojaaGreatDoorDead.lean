/- span.has, span.Dead. -/
import Derived.Test.YtoaamcpiljoojaaGreatDoorHg
namespace Go.Proofs.YtoaamcpiljoojaaGreatDoor
open Go.RowKit

theorem has_call (s : Span) (x : Int) (w : World) : Calls Tryz.prog 82 #[.agg #[.int .i64 s.epoch, .int .i64 s.lo, .int .i64 s.hi], .int .i64 x] w fun e w' => e = .returned (.bool (hasS s x)) ∧ Fr All w w' := by
  obtain ⟨ep, lo, hi⟩ := s
  dsimp only
  cases h1 : decide (lo < x) with
  | true =>
    go_enter Tryz.func82, Tryz.ntmps82
    go_wp2_with fail
    go_ret
    exact ⟨ret_bool (by simp [hasS, h1]), (Fr.refl _ _).alloc _⟩
  | false =>
    go_enter Tryz.func82, Tryz.ntmps82
    go_wp2_with fail
    go_ret
    exact ⟨ret_bool (by simp [hasS, h1]), (Fr.refl _ _).alloc _⟩

theorem dead1_call (s : Span) {be bl : Nat} {x ep : Int} {w : World} (h0 : w.cell? ⟨be, 0, none⟩ = some (.int .i64 ep)) (h1 : w.cell? ⟨bl, 0, none⟩ = some (.int .i64 x)) :
    Calls Tryz.prog 81 #[.agg #[.int .i64 s.epoch, .int .i64 s.lo, .int .i64 s.hi], .pointer (some ⟨be, 0, none⟩), .pointer (some ⟨bl, 0, none⟩)] w fun e w' => e = .returned (.bool (decide (s.epoch > ep) && hasS s x)) ∧ Fr All w w' := by
  have F0 := (Fr.refl All w).alloc (.cells #[.int .i64 s.epoch, .int .i64 s.lo, .int .i64 s.hi] 83)
  have g0 := F0.cell trivial h0
  have g1 := F0.cell trivial h1
  cases hd : decide (s.epoch > ep) with
  | true =>
    go_enter Tryz.func81, Tryz.ntmps81
    go_wp2_with fail
    refine (has_call s x _).mono ?_
    rintro e w2 ⟨rfl, f2⟩
    go_wp2_with fail
    go_ret
    exact ⟨ret_bool (by simp), F0.trans f2⟩
  | false =>
    go_enter Tryz.func81, Tryz.ntmps81
    go_wp2_with fail
    go_ret
    exact ⟨ret_bool (by simp), F0⟩

theorem deadS_iff {sp : List Span} {x ep : Int} : deadS sp x ep = true ↔ ∃ (k : Nat) (s : Span), sp[k]? = some s ∧ (decide (s.epoch > ep) && hasS s x) = true := by
  rw [deadS, List.any_eq_true]
  constructor
  · rintro ⟨s, hs, h⟩
    obtain ⟨k, hk⟩ := List.mem_iff_getElem?.1 hs
    exact ⟨k, s, hk, h⟩
  · rintro ⟨k, s, hk, h⟩
    exact ⟨s, List.mem_of_getElem? hk, h⟩

def IxRes (b : Bool) (w : World) (e : Ending) (w' : World) : Prop := ∃ k : Int, e = .returned (.int .i64 k) ∧ decide (k ≥ 0) = b ∧ Fr All w w'

set_option maxRecDepth 100000 in
theorem dead_ix {sp : List Span} {S : Nat → Prop} {A : Option Addr} {n c be bl : Nat} {x ep : Int} {w : World} (h : Sl kSpan S w (.slice A n c) sp) (hn : n ≤ 1000000) (h0 : w.cell? ⟨be, 0, none⟩ = some (.int .i64 ep)) (h1 : w.cell? ⟨bl, 0, none⟩ = some (.int .i64 x)) :
    Calls Tryz.prog 109 #[.slice A n c, .func (.func 81) #[] #[.pointer (some ⟨be, 0, none⟩), .pointer (some ⟨bl, 0, none⟩)]] w (IxRes (deadS sp x ep) w) := by
  have En := Lib.hid h.len
  have H0 := Lib.hid h0
  have H1 := Lib.hid h1
  clear h0 h1
  go_enter Tryz.func109, Tryz.ntmps109
  go_wp2_with fail
  go_loopw [8] (fun i wr => ∃ k : Nat, k ≤ n ∧ i = .int .i64 k ∧ Hid (∀ j s, sp[j]? = some s → j < k → (decide (s.epoch > ep) && hasS s x) = false) ∧ Fr All w wr) (fun i _ => n - (intOf i).toNat)
  case atStart => exact ⟨0, Nat.zero_le _, rfl, (fun j s _ hj => absurd hj (Nat.not_lt_zero _) : ∀ j s, sp[j]? = some s → j < 0 → (decide (s.epoch > ep) && hasS s x) = false), Fr.refl _ _⟩
  case round =>
    obtain ⟨k, hk, rfl, HN, HF⟩ := hrel
    by_cases hlt : k < n
    · obtain ⟨s, hs, _⟩ := get_of (l := sp) (k := k) (by rw [En.out]; omega)
      obtain ⟨b, o, rfl, g0, g1, g2⟩ := span_at (h.all HF) hs
      have HS := Lib.hid hs
      have b0 : (0 : Int) ≤ (k : Int) := by omega
      have b1 : (k : Int) < (n : Int) := by omega
      clear hs
      cases hd : (decide (s.epoch > ep) && hasS s x) with
      | true =>
        have HD := Lib.hid hd
        clear hd
        go_wp2_with fail
        refine (dead1_call s (HF.cell trivial H0.out) (HF.cell trivial H1.out)).mono ?_
        rintro e w2 ⟨rfl, f2⟩
        rw [HD.out]
        go_wp2_with fail
        go_ret
        have hD : deadS sp x ep = true := deadS_iff.2 ⟨k, s, HS.out, HD.out⟩
        exact ⟨(k : Int), rfl, by rw [hD]; exact decide_eq_true (by omega), HF.trans f2⟩
      | false =>
        have HD := Lib.hid hd
        clear hd
        go_wp2_with fail
        refine (dead1_call s (HF.cell trivial H0.out) (HF.cell trivial H1.out)).mono ?_
        rintro e w2 ⟨rfl, f2⟩
        rw [HD.out]
        go_wp2_with fail
        go_roundw
        case rel => exact ⟨k + 1, by omega, by go_num, (fun j t ht hj => by
          rcases Nat.lt_or_eq_of_le (Nat.le_of_lt_succ hj) with h1 | rfl
          · exact HN.out j t ht h1
          · obtain rfl := Option.some.inj (HS.out.symm.trans ht)
            exact HD.out : ∀ j t, sp[j]? = some t → j < k + 1 → (decide (t.epoch > ep) && hasS t x) = false), HF.trans f2⟩
        case measure => simp [intOf]; omega
    · obtain rfl : k = n := by omega
      go_wp2_with fail
      go_ret
      have hD : deadS sp x ep = false := by
        rw [← Bool.not_eq_true, deadS_iff]
        rintro ⟨j, s, hs, hh⟩
        have := HN.out j s hs (by have := (List.getElem?_eq_some_iff.1 hs).1; have := En.out; omega)
        rw [this] at hh
        cases hh
      exact ⟨-1, rfl, by rw [hD]; rfl, HF⟩

theorem dead_call {sp : List Span} {S : Nat → Prop} {v : Value} {w : World} (h : Sl kSpan S w v sp) (hn : sp.length ≤ 1000000) (x ep : Int) :
    Calls Tryz.prog 41 #[v, .int .i64 x, .int .i64 ep] w fun e w' => e = .returned (.bool (deadS sp x ep)) ∧ Fr All w w' := by
  obtain ⟨A, n, c, rfl, en, _⟩ := h.open_
  have F0 := ((Fr.refl All w).alloc (.cells #[.int .i64 x] 2)).alloc (.cells #[.int .i64 ep] 3)
  have C0 := (blk1 (heap_alloc2_old w (.cells #[.int .i64 x] 2) (.cells #[.int .i64 ep] 3))).1
  have C1 := (blk1 (heap_alloc2_new w (.cells #[.int .i64 x] 2) (.cells #[.int .i64 ep] 3))).1
  have hc : Calls Tryz.prog 80 #[.slice A n c, .func (.func 81) #[] #[.pointer (some ⟨w.heap.size + 1, 0, none⟩), .pointer (some ⟨w.heap.size, 0, none⟩)]] ((w.alloc (.cells #[.int .i64 x] 2)).alloc (.cells #[.int .i64 ep] 3))
      fun e w' => e = .returned (.bool (deadS sp x ep)) ∧ Fr All w w' := by
    have HX := Lib.hid (dead_ix (h.all F0) (by omega) C1 C0)
    have HF := Lib.hid F0
    clear h F0 C0 C1 en
    go_enter Tryz.func80, Tryz.ntmps80
    go_wp2_with fail
    refine HX.out.mono ?_
    rintro e w2 ⟨k, rfl, hk, f2⟩
    have HK := Lib.hid hk
    clear hk
    go_wp2_with fail
    go_ret
    exact ⟨ret_bool HK.out, HF.out.trans f2⟩
  have HC := Lib.hid hc
  clear hc h F0 C0 C1 en hn
  go_enter Tryz.func41, Tryz.ntmps41
  go_wp2_with fail
  refine HC.out.mono ?_
  rintro e w2 ⟨rfl, f2⟩
  go_wp2_with fail
  go_ret
  exact ⟨rfl, f2⟩
end Go.Proofs.YtoaamcpiljoojaaGreatDoor
