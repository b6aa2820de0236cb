/- span.has, span.Dead. slices.BinarySearchFunc over a log's records; place. -/
import Derived.Test.YteclgcnndjcmmaaDoorHg
namespace Go.Proofs.YteclgcnndjcmmaaDoor
open Go.RowKit

theorem has_call (s : Span) (x : Int) (w : World) : Calls Tryd.prog 77 #[.agg #[.int .i64 s.epoch, .int .i64 s.lo, .int .i64 s.hi], .int .i64 x] w fun e w' => e = .returned (.bool (hasS s x)) ∧ Fr All w w' := by
  obtain ⟨ep, lo, hi⟩ := s
  dsimp only
  cases h1 : decide (lo < x) with
  | true =>
    go_enter Tryd.func77, Tryd.ntmps77
    go_wp2_with fail
    go_ret
    exact ⟨ret_bool (by simp [hasS, h1]), (Fr.refl _ _).alloc _⟩
  | false =>
    go_enter Tryd.func77, Tryd.ntmps77
    go_wp2_with fail
    go_ret
    exact ⟨ret_bool (by simp [hasS, h1]), (Fr.refl _ _).alloc _⟩

theorem dead1_call (s : Span) {be bl : Nat} {x ep : Int} {w : World} (h0 : w.cell? ⟨be, 0, none⟩ = some (.int .i64 ep)) (h1 : w.cell? ⟨bl, 0, none⟩ = some (.int .i64 x)) :
    Calls Tryd.prog 76 #[.agg #[.int .i64 s.epoch, .int .i64 s.lo, .int .i64 s.hi], .pointer (some ⟨be, 0, none⟩), .pointer (some ⟨bl, 0, none⟩)] w fun e w' => e = .returned (.bool (decide (s.epoch > ep) && hasS s x)) ∧ Fr All w w' := by
  have F0 := (Fr.refl All w).alloc (.cells #[.int .i64 s.epoch, .int .i64 s.lo, .int .i64 s.hi] 81)
  have g0 := F0.cell trivial h0
  have g1 := F0.cell trivial h1
  cases hd : decide (s.epoch > ep) with
  | true =>
    go_enter Tryd.func76, Tryd.ntmps76
    go_wp2_with fail
    refine (has_call s x _).mono ?_
    rintro e w2 ⟨rfl, f2⟩
    go_wp2_with fail
    go_ret
    exact ⟨ret_bool (by simp), F0.trans f2⟩
  | false =>
    go_enter Tryd.func76, Tryd.ntmps76
    go_wp2_with fail
    go_ret
    exact ⟨ret_bool (by simp), F0⟩

theorem deadS_iff {sp : List Span} {x ep : Int} : deadS sp x ep = true ↔ ∃ (k : Nat) (s : Span), sp[k]? = some s ∧ (decide (s.epoch > ep) && hasS s x) = true := by
  rw [deadS, List.any_eq_true]
  constructor
  · rintro ⟨s, hs, h⟩
    obtain ⟨k, hk⟩ := List.mem_iff_getElem?.1 hs
    exact ⟨k, s, hk, h⟩
  · rintro ⟨k, s, hk, h⟩
    exact ⟨s, List.mem_of_getElem? hk, h⟩

def IxRes (b : Bool) (w : World) (e : Ending) (w' : World) : Prop := ∃ k : Int, e = .returned (.int .i64 k) ∧ decide (k ≥ 0) = b ∧ Fr All w w'

set_option maxRecDepth 100000 in
theorem dead_ix {sp : List Span} {S : Nat → Prop} {A : Option Addr} {n c be bl : Nat} {x ep : Int} {w : World} (h : Sl kSpan S w (.slice A n c) sp) (hn : n ≤ 1000000) (h0 : w.cell? ⟨be, 0, none⟩ = some (.int .i64 ep)) (h1 : w.cell? ⟨bl, 0, none⟩ = some (.int .i64 x)) :
    Calls Tryd.prog 90 #[.slice A n c, .func (.func 76) #[] #[.pointer (some ⟨be, 0, none⟩), .pointer (some ⟨bl, 0, none⟩)]] w (IxRes (deadS sp x ep) w) := by
  have En := Lib.hid h.len
  have H0 := Lib.hid h0
  have H1 := Lib.hid h1
  clear h0 h1
  go_enter Tryd.func90, Tryd.ntmps90
  go_wp2_with fail
  go_loopw [8] (fun i wr => ∃ k : Nat, k ≤ n ∧ i = .int .i64 k ∧ Hid (∀ j s, sp[j]? = some s → j < k → (decide (s.epoch > ep) && hasS s x) = false) ∧ Fr All w wr) (fun i _ => n - (intOf i).toNat)
  case atStart => exact ⟨0, Nat.zero_le _, rfl, (fun j s _ hj => absurd hj (Nat.not_lt_zero _) : ∀ j s, sp[j]? = some s → j < 0 → (decide (s.epoch > ep) && hasS s x) = false), Fr.refl _ _⟩
  case round =>
    obtain ⟨k, hk, rfl, HN, HF⟩ := hrel
    by_cases hlt : k < n
    · obtain ⟨s, hs, _⟩ := get_of (l := sp) (k := k) (by rw [En.out]; omega)
      obtain ⟨b, o, rfl, g0, g1, g2⟩ := span_at (h.all HF) hs
      have HS := Lib.hid hs
      have b0 : (0 : Int) ≤ (k : Int) := by omega
      have b1 : (k : Int) < (n : Int) := by omega
      clear hs
      cases hd : (decide (s.epoch > ep) && hasS s x) with
      | true =>
        have HD := Lib.hid hd
        clear hd
        go_wp2_with fail
        refine (dead1_call s (HF.cell trivial H0.out) (HF.cell trivial H1.out)).mono ?_
        rintro e w2 ⟨rfl, f2⟩
        rw [HD.out]
        go_wp2_with fail
        go_ret
        have hD : deadS sp x ep = true := deadS_iff.2 ⟨k, s, HS.out, HD.out⟩
        exact ⟨(k : Int), rfl, by rw [hD]; exact decide_eq_true (by omega), HF.trans f2⟩
      | false =>
        have HD := Lib.hid hd
        clear hd
        go_wp2_with fail
        refine (dead1_call s (HF.cell trivial H0.out) (HF.cell trivial H1.out)).mono ?_
        rintro e w2 ⟨rfl, f2⟩
        rw [HD.out]
        go_wp2_with fail
        go_roundw
        case rel => exact ⟨k + 1, by omega, by go_num, (fun j t ht hj => by
          rcases Nat.lt_or_eq_of_le (Nat.le_of_lt_succ hj) with h1 | rfl
          · exact HN.out j t ht h1
          · obtain rfl := Option.some.inj (HS.out.symm.trans ht)
            exact HD.out : ∀ j t, sp[j]? = some t → j < k + 1 → (decide (t.epoch > ep) && hasS t x) = false), HF.trans f2⟩
        case measure => simp [intOf]; omega
    · obtain rfl : k = n := by omega
      go_wp2_with fail
      go_ret
      have hD : deadS sp x ep = false := by
        rw [← Bool.not_eq_true, deadS_iff]
        rintro ⟨j, s, hs, hh⟩
        have := HN.out j s hs (by have := (List.getElem?_eq_some_iff.1 hs).1; have := En.out; omega)
        rw [this] at hh
        cases hh
      exact ⟨-1, rfl, by rw [hD]; rfl, HF⟩

theorem dead_call {sp : List Span} {S : Nat → Prop} {v : Value} {w : World} (h : Sl kSpan S w v sp) (hn : sp.length ≤ 1000000) (x ep : Int) :
    Calls Tryd.prog 51 #[v, .int .i64 x, .int .i64 ep] w fun e w' => e = .returned (.bool (deadS sp x ep)) ∧ Fr All w w' := by
  obtain ⟨A, n, c, rfl, en, _⟩ := h.open_
  have F0 := ((Fr.refl All w).alloc (.cells #[.int .i64 x] 2)).alloc (.cells #[.int .i64 ep] 3)
  have C0 := (blk1 (heap_alloc2_old w (.cells #[.int .i64 x] 2) (.cells #[.int .i64 ep] 3))).1
  have C1 := (blk1 (heap_alloc2_new w (.cells #[.int .i64 x] 2) (.cells #[.int .i64 ep] 3))).1
  have hc : Calls Tryd.prog 75 #[.slice A n c, .func (.func 76) #[] #[.pointer (some ⟨w.heap.size + 1, 0, none⟩), .pointer (some ⟨w.heap.size, 0, none⟩)]] ((w.alloc (.cells #[.int .i64 x] 2)).alloc (.cells #[.int .i64 ep] 3))
      fun e w' => e = .returned (.bool (deadS sp x ep)) ∧ Fr All w w' := by
    have HX := Lib.hid (dead_ix (h.all F0) (by omega) C1 C0)
    have HF := Lib.hid F0
    clear h F0 C0 C1 en
    go_enter Tryd.func75, Tryd.ntmps75
    go_wp2_with fail
    refine HX.out.mono ?_
    rintro e w2 ⟨k, rfl, hk, f2⟩
    have HK := Lib.hid hk
    clear hk
    go_wp2_with fail
    go_ret
    exact ⟨ret_bool HK.out, HF.out.trans f2⟩
  have HC := Lib.hid hc
  clear hc h F0 C0 C1 en hn
  go_enter Tryd.func51, Tryd.ntmps51
  go_wp2_with fail
  refine HC.out.mono ?_
  rintro e w2 ⟨rfl, f2⟩
  go_wp2_with fail
  go_ret
  exact ⟨rfl, f2⟩
end Go.Proofs.YteclgcnndjcmmaaDoor
namespace Go.Proofs.YteclgcnndjcmmaaDoor
open Go.RowKit

def cmp3 (a n : Int) : Int := if a < n then -1 else if a > n then 1 else 0
theorem cmp3_lt {a n : Int} : decide (cmp3 a n < 0) = decide (a < n) := by
  unfold cmp3
  split
  · rename_i h; simp [h]
  · rename_i h; split <;> simp [h]
theorem cmp3_eq {a n : Int} : (cmp3 a n == 0) = (a == n) := by
  unfold cmp3
  split
  · rename_i h; rw [beq_false_of_ne (by omega : a ≠ n)]; rfl
  · split
    · rw [beq_false_of_ne (by omega : a ≠ n)]; rfl
    · rw [show a = n by omega]; simp

theorem place1_call {r : Redo} {v0 v1 : Value} {n : Int} {w : World} (k0 : ∃ A m c, v0 = .slice A m c) (k1 : ∃ A m c, v1 = .slice A m c) : Calls Tryd.prog 74 #[.agg #[.int .i64 r.lsn, .int .i64 r.back, .int .i64 r.epoch, .int .i64 r.group, .int .i64 r.page, .int .i64 r.kind, .int .i64 r.slot, v0, v1, .bool r.last], .int .i64 n] w
    fun e w' => e = .returned (.int .i64 (cmp3 r.lsn n)) ∧ Fr All w w' := by
  obtain ⟨A0, m0, c0, rfl⟩ := k0
  obtain ⟨A1, m1, c1, rfl⟩ := k1
  obtain ⟨lsn, back, epoch, group, page, kind, slot, key, val, last⟩ := r
  dsimp only
  cases h1 : decide (lsn < n) with
  | true =>
    go_enter Tryd.func74, Tryd.ntmps74
    go_wp2_with fail
    go_ret
    exact ⟨ret_int (by rw [cmp3, if_pos (of_decide_eq_true h1)]), (Fr.refl _ _).alloc _⟩
  | false =>
    cases h2 : decide (lsn > n) with
    | true =>
      go_enter Tryd.func74, Tryd.ntmps74
      go_wp2_with fail
      go_ret
      exact ⟨ret_int (by rw [cmp3, if_neg (of_decide_eq_false h1), if_pos (of_decide_eq_true h2)]), (Fr.refl _ _).alloc _⟩
    | false =>
      go_enter Tryd.func74, Tryd.ntmps74
      go_wp2_with fail
      go_ret
      exact ⟨ret_int (by rw [cmp3, if_neg (of_decide_eq_false h1), if_neg (of_decide_eq_false h2)]), (Fr.refl _ _).alloc _⟩

set_option maxRecDepth 100000 in
set_option maxHeartbeats 1000000 in
theorem bsearch {l : List Redo} {S : Nat → Prop} {A : Option Addr} {n c : Nat} {w : World} (h : Sl kRedo S w (.slice A n c) l) (hr : Rise l) (hn : n ≤ 1000000) (x : Int) :
    Calls Tryd.prog 73 #[.slice A n c, .int .i64 x, .func (.func 74) #[] #[]] w fun e w' =>
      e = .returned (.tuple #[.int .i64 (placeL l x : Nat), .bool (isL l x)]) ∧ Fr All w w' := by
  have En := Lib.hid h.len
  have HR := Lib.hid hr
  clear hr
  go_enter Tryd.func73, Tryd.ntmps73
  go_wp2_with fail
  go_loopw [9, 10] (fun a b wr => ∃ (i j : Nat), i ≤ j ∧ j ≤ n ∧ a = .int .i64 i ∧ b = .int .i64 j ∧ Hid ((∀ p y, l[p]? = some y → p < i → y.lsn < x) ∧ ∀ p y, l[p]? = some y → j ≤ p → x ≤ y.lsn) ∧ Fr All w wr) (fun a b _ => (intOf b).toNat - (intOf a).toNat)
  case atStart => exact ⟨0, n, Nat.zero_le _, Nat.le_refl _, rfl, rfl, ⟨fun p y _ h => absurd h (Nat.not_lt_zero _), fun p y hy hp => by have := (List.getElem?_eq_some_iff.1 hy).1; have := En.out; omega⟩, Fr.refl _ _⟩
  case round =>
    obtain ⟨i, j, hij, hjn, rfl, rfl, HI, HF⟩ := hrel
    by_cases hlt : i < j
    · obtain ⟨m, hm⟩ : ∃ m, m = (i + j) / 2 := ⟨_, rfl⟩
      have hmi : i ≤ m := by omega
      have hmj : m < j := by omega
      obtain ⟨y, hy, _⟩ := get_of (l := l) (k := m) (by rw [En.out]; omega)
      obtain ⟨b, o, A0, n0, c0, A1, n1, c1, rfl, g0, g1, g2, g3, g4, g5, g6, g7, g8, g9, t0, t1⟩ := redo_at (h.all HF) hy
      have HY := Lib.hid hy
      have hm2 : ((i : Int) + (j : Int)) / 2 = (m : Int) := by omega
      have b0 : (0 : Int) ≤ (m : Int) := by omega
      have b1 : (m : Int) < (n : Int) := by omega
      clear hy hm t0 t1
      cases hd : decide (y.lsn < x) with
      | true =>
        have hd' := (cmp3_lt (a := y.lsn) (n := x)).trans hd
        have HD := Lib.hid (of_decide_eq_true hd)
        clear hd
        go_wp2_with fail
        refine (place1_call ⟨_, _, _, rfl⟩ ⟨_, _, _, rfl⟩).mono ?_
        rintro e w2 ⟨rfl, f2⟩
        go_wp2_with fail
        go_roundw
        case rel => exact ⟨m + 1, j, by omega, hjn, by go_num, rfl, ⟨fun p z hz hp => by
          rcases Nat.lt_or_eq_of_le (Nat.le_of_lt_succ hp) with h1 | rfl
          · have := HR.out.get hz HY.out h1
            have := HD.out
            omega
          · obtain rfl := Option.some.inj (HY.out.symm.trans hz)
            exact HD.out, HI.out.2⟩, HF.trans f2⟩
        case measure => simp [intOf]; omega
      | false =>
        have hd' := (cmp3_lt (a := y.lsn) (n := x)).trans hd
        have HD := Lib.hid (of_decide_eq_false hd)
        clear hd
        go_wp2_with fail
        refine (place1_call ⟨_, _, _, rfl⟩ ⟨_, _, _, rfl⟩).mono ?_
        rintro e w2 ⟨rfl, f2⟩
        go_wp2_with fail
        go_roundw
        case rel => exact ⟨i, m, hmi, by omega, rfl, rfl, ⟨HI.out.1, fun p z hz hp => by
          have := HR.out.le HY.out hz hp
          have := HD.out
          omega⟩, HF.trans f2⟩
        case measure => simp [intOf]; omega
    · obtain rfl : i = j := by omega
      have hp : IsPlace l x i := ⟨by rw [En.out]; exact hjn, HI.out.1, HI.out.2⟩
      have HPL := Lib.hid ((place_is HR.out x).inj hp)
      have hl := isL_at HR.out hp
      by_cases hin : i < n
      · obtain ⟨y, hy, _⟩ := get_of (l := l) (k := i) (by rw [En.out]; omega)
        obtain ⟨b, o, A0, n0, c0, A1, n1, c1, rfl, g0, g1, g2, g3, g4, g5, g6, g7, g8, g9, t0, t1⟩ := redo_at (h.all HF) hy
        have b0 : (0 : Int) ≤ (i : Int) := by omega
        have b1 : (i : Int) < (n : Int) := by omega
        have hb : isL l x = (y.lsn == x) := by
          rw [Bool.eq_iff_iff, hl]
          constructor
          · rintro ⟨z, hz, he⟩
            obtain rfl := Option.some.inj (hy.symm.trans hz)
            simpa using he
          · exact fun he => ⟨y, hy, by simpa using he⟩
        have HB := Lib.hid hb
        have hc := cmp3_eq (a := y.lsn) (n := x)
        clear hy t0 t1 hb hl hp
        go_wp2_with fail
        refine (place1_call ⟨_, _, _, rfl⟩ ⟨_, _, _, rfl⟩).mono ?_
        rintro e w2 ⟨rfl, f2⟩
        go_wp2_with fail
        go_ret2
        exact ⟨by rw [HPL.out, HB.out]; rfl, HF.trans f2⟩
      · have hb : isL l x = false := by
          rw [← Bool.not_eq_true, hl]
          rintro ⟨z, hz, _⟩
          have := (List.getElem?_eq_some_iff.1 hz).1
          have := En.out
          omega
        have HB := Lib.hid hb
        clear hb hl hp
        go_wp2_with fail
        go_ret2
        exact ⟨by rw [HPL.out, HB.out]; rfl, HF⟩

theorem place_call {S : Nat → Prop} {w : World} {B : Nat} {lv sv : Value} {s : HSt} (h : Hg S w B lv sv s) (x : Int) : Calls Tryd.prog 50 #[.pointer (some ⟨B, 0, none⟩), .int .i64 x] w fun e w' =>
    e = .returned (.tuple #[.int .i64 (placeL s.l x : Nat), .bool (isL s.l x)]) ∧ Fr All w w' := by
  obtain ⟨A, c, rfl⟩ := h.row.length
  obtain ⟨p0, p1, p2, p3, p4, p5, pz⟩ := blk6 h.blk
  have H := Lib.hid h
  clear h
  go_enter Tryd.func50, Tryd.ntmps50
  go_wp2_with fail
  refine (bsearch H.out.row.sl H.out.ok.rise (by have := H.out.few; omega) x).mono ?_
  rintro e w2 ⟨rfl, f2⟩
  go_wp2_with fail
  go_ret2
  exact ⟨rfl, f2⟩
end Go.Proofs.YteclgcnndjcmmaaDoor
