/- slices.symMergeCmpFunc of records that rise: nothing changes. -/
import Derived.Test.YtoaamcpiljoojaaGreatDoorSStable
import Derived.Test.YtoaamcpiljoojaaGreatDoorVIx
namespace Go.Proofs.YtoaamcpiljoojaaGreatDoor
open Go.RowKit

theorem fr_grow (w : World) (q : Nat) (os : Array Obj) : Fr All w (Go.Sort.grow (w.drewN q) os) := by
  refine ⟨rfl, rfl, rfl, ?_, fun b hb _ => ?_⟩
  · unfold Go.Sort.grow
    simp
  · unfold Go.Sort.grow
    simp only
    rw [Array.getElem?_append_left (by simpa using hb)]
    rfl
theorem up_get {l : List Redo} (h : l.Pairwise fun a b => a.lsn < b.lsn) {i j : Nat} {x y : Redo} (hx : l[i]? = some x) (hy : l[j]? = some y) (hij : i < j) : x.lsn < y.lsn := by
  obtain ⟨h1, rfl⟩ := List.getElem?_eq_some_iff.1 hx
  obtain ⟨h2, rfl⟩ := List.getElem?_eq_some_iff.1 hy
  exact (List.pairwise_iff_getElem.1 h) i j h1 h2 hij
/-- The records' order, of a later one and one ahead of it. -/
theorem cmp_up {x y : Redo} {A0 A1 B0 B1 : Option Addr} {n0 n1 m0 m1 c0 c1 d0 d1 : Nat} (hlt : y.lsn < x.lsn) (w : World) :
    Calls Tryz.prog 127 #[.agg #[.int .i64 x.lsn, .int .i64 x.back, .int .i64 x.epoch, .int .i64 x.group, .int .i64 x.page, .int .i64 x.kind, .int .i64 x.slot, .slice A0 n0 c0, .slice A1 n1 c1, .bool x.last],
      .agg #[.int .i64 y.lsn, .int .i64 y.back, .int .i64 y.epoch, .int .i64 y.group, .int .i64 y.page, .int .i64 y.kind, .int .i64 y.slot, .slice B0 m0 d0, .slice B1 m1 d1, .bool y.last]] w fun e w' => e = .returned (.int .i64 1) ∧ Fr All w w' := by
  have h := sort_cmp ⟨x.lsn, x.back, x.epoch, x.group, x.page, x.kind, x.slot, (A0, n0, c0), (A1, n1, c1), x.last⟩ ⟨y.lsn, y.back, y.epoch, y.group, y.page, y.kind, y.slot, (B0, m0, d0), (B1, m1, d1), y.last⟩ w
  refine Calls.mono h ?_
  rintro e w' ⟨rfl, q, os, rfl⟩
  refine ⟨ret_int ?_, fr_grow w q os⟩
  unfold rcCmp orI cmpI
  dsimp only
  rw [if_neg (show ¬ x.lsn < y.lsn by omega), if_pos hlt]
  rfl
section
variable {l : List Redo} {A : Option Addr} {n c : Nat}
set_option maxRecDepth 100000 in
set_option maxHeartbeats 4000000 in
theorem sym_rise (hr : l.Pairwise fun a b => a.lsn < b.lsn) (hn : n ≤ 1000000) : ∀ k a m b : Nat, b - a ≤ k → a < m → m < b → b ≤ n → ∀ w : World, Sl kRedo All w (.slice A n c) l →
    Calls Tryz.prog 159 #[.slice A n c, .int .i64 a, .int .i64 m, .int .i64 b, .func (.func 127) #[] #[]] w fun e w' => e = .returned (.tuple #[]) ∧ Fr All w w' := by
  intro k
  induction k with
  | zero => intro a m b hk ham hmb; omega
  | succ k ih =>
    intro a m b hk ham hmb hbn w hs
    have IH := Lib.hid ih
    have HS := Lib.hid hs
    have En := Lib.hid hs.len
    have HR := Lib.hid hr
    clear ih hs hr
    have i0 : (0 : Int) ≤ (a : Int) := by omega
    have i1 : (a : Int) < (m : Int) := by omega
    have i2 : (m : Int) < (b : Int) := by omega
    have i3 : (b : Int) ≤ (n : Int) := by omega
    by_cases h1 : m = a + 1
    · have hd : ((m : Int) - (a : Int) == 1) = true := by rw [beq_iff_eq]; omega
      have HD2 : Hid (decide ((a : Int) < (m : Int) - 1) = false) := Lib.hid (decide_eq_false (by omega))
      clear h1
      go_enter Tryz.func159, Tryz.ntmps159
      go_wp2_with fail
      clear hd
      go_loopw [10, 11] (fun i j wr => ∃ t : Nat, m ≤ t ∧ t ≤ b ∧ i = .int .i64 m ∧ j = .int .i64 t ∧ Fr All w wr) (fun _ j _ => (intOf j).toNat - m)
      case atStart => exact ⟨b, by omega, Nat.le_refl _, rfl, rfl, Fr.refl _ _⟩
      case round =>
        obtain ⟨t, ht1, ht2, rfl, rfl, HF⟩ := hrel
        by_cases hlt : m < t
        · obtain ⟨u, hu⟩ : ∃ u, u = (m + t) / 2 := ⟨_, rfl⟩
          have hu1 : m ≤ u := by omega
          have hu2 : u < t := by omega
          have hm2 : ((m : Int) + (t : Int)) / 2 = (u : Int) := by omega
          clear hu
          go_upto_region 5 with (fail)
          clear hm2
          have hxi : u < l.length := by rw [En.out]; omega
          have b0 : (0 : Int) ≤ (u : Int) := by omega
          have b1 : (u : Int) < (n : Int) := by omega
          obtain ⟨x, hx, _⟩ := get_of (l := l) (k := u) hxi
          have hyi : a < l.length := by rw [En.out]; omega
          have c0' : (0 : Int) ≤ (a : Int) := by omega
          have c1' : (a : Int) < (n : Int) := by omega
          obtain ⟨y, hy, _⟩ := get_of (l := l) (k := a) hyi
          have HXY : Hid (y.lsn < x.lsn) := Lib.hid (up_get HR.out hy hx (by omega))
          obtain ⟨bb, o, A0, n0, c0, A1, n1, c1, rfl, g0, g1, g2, g3, g4, g5, g6, g7, g8, g9, t0, t1⟩ := redo_at (HS.out.all HF) hx
          obtain ⟨bb', o', B0, m0, d0, B1, m1, d1, hbb, e0, e1, e2, e3, e4, e5, e6, e7, e8, e9, s0, s1⟩ := redo_at (HS.out.all HF) hy
          obtain ⟨rfl, rfl⟩ : bb = bb' ∧ o = o' := by injection hbb with hbb; injection hbb with h1 h2; exact ⟨h1, h2⟩
          have HFF := Lib.hid HF
          clear hbb t0 t1 s0 s1 hx hy hxi hyi HF
          go_region_held3 (fun w' => (w'.cell? ⟨bb, o + u * 10, none⟩ = some (.int .i64 x.lsn) ∧ w'.cell? ⟨bb, o + u * 10 + 1, none⟩ = some (.int .i64 x.back) ∧ w'.cell? ⟨bb, o + u * 10 + 2, none⟩ = some (.int .i64 x.epoch) ∧ w'.cell? ⟨bb, o + u * 10 + 3, none⟩ = some (.int .i64 x.group) ∧ w'.cell? ⟨bb, o + u * 10 + 4, none⟩ = some (.int .i64 x.page) ∧ w'.cell? ⟨bb, o + u * 10 + 5, none⟩ = some (.int .i64 x.kind) ∧ w'.cell? ⟨bb, o + u * 10 + 6, none⟩ = some (.int .i64 x.slot) ∧ w'.cell? ⟨bb, o + u * 10 + 7, none⟩ = some (.slice A0 n0 c0) ∧ w'.cell? ⟨bb, o + u * 10 + 8, none⟩ = some (.slice A1 n1 c1) ∧ w'.cell? ⟨bb, o + u * 10 + 9, none⟩ = some (.bool x.last)) ∧ (w'.cell? ⟨bb, o + a * 10, none⟩ = some (.int .i64 y.lsn) ∧ w'.cell? ⟨bb, o + a * 10 + 1, none⟩ = some (.int .i64 y.back) ∧ w'.cell? ⟨bb, o + a * 10 + 2, none⟩ = some (.int .i64 y.epoch) ∧ w'.cell? ⟨bb, o + a * 10 + 3, none⟩ = some (.int .i64 y.group) ∧ w'.cell? ⟨bb, o + a * 10 + 4, none⟩ = some (.int .i64 y.page) ∧ w'.cell? ⟨bb, o + a * 10 + 5, none⟩ = some (.int .i64 y.kind) ∧ w'.cell? ⟨bb, o + a * 10 + 6, none⟩ = some (.int .i64 y.slot) ∧ w'.cell? ⟨bb, o + a * 10 + 7, none⟩ = some (.slice B0 m0 d0) ∧ w'.cell? ⟨bb, o + a * 10 + 8, none⟩ = some (.slice B1 m1 d1) ∧ w'.cell? ⟨bb, o + a * 10 + 9, none⟩ = some (.bool y.last))) (first | go_keep | (go_split_ands; refine ⟨⟨?_, ?_, ?_, ?_, ?_, ?_, ?_, ?_, ?_, ?_⟩, ?_, ?_, ?_, ?_, ?_, ?_, ?_, ?_, ?_, ?_⟩ <;> exact Fr.cell (by assumption) trivial (by assumption))) ((go_at_call 127; refine (cmp_up HXY.out _).mono ?_; rintro e w6 ⟨rfl, f6⟩))
          clear g0 g1 g2 g3 g4 g5 g6 g7 g8 g9 e0 e1 e2 e3 e4 e5 e6 e7 e8 e9
          go_wp2_with fail
          go_roundw
          case rel => exact ⟨u, hu1, by omega, rfl, rfl, by first | exact HFF.out.drew.trans f6 | exact HFF.out.trans f6⟩
          case measure => simp [intOf]; omega
        · obtain rfl : t = m := by omega
          have hd2 := HD2.out
          go_wp2_with fail
          go_loopw [13] (fun i wr => i = .int .i64 a ∧ Fr All w wr) (fun _ _ => 0)
          case atStart => exact ⟨rfl, HF⟩
          case round =>
            obtain ⟨rfl, HF2⟩ := hrel
            go_wp2_with fail
            refine bodyPost_ret (results_none rfl _ _ _) rfl ?_
            exact ⟨rfl, HF2⟩
    · have hd : ((m : Int) - (a : Int) == 1) = false := by rw [beq_eq_false_iff_ne]; omega
      by_cases h2 : b = m + 1
      · have hdb : ((b : Int) - (m : Int) == 1) = true := by rw [beq_iff_eq]; omega
        clear h1 h2
        go_enter Tryz.func159, Tryz.ntmps159
        go_wp2_with fail
        clear hd hdb
        go_loopw [14, 15] (fun i j wr => ∃ t : Nat, a ≤ t ∧ t ≤ m ∧ i = .int .i64 t ∧ j = .int .i64 m ∧ Fr All w wr) (fun i _ _ => m - (intOf i).toNat)
        case atStart => exact ⟨a, Nat.le_refl _, by omega, rfl, rfl, Fr.refl _ _⟩
        case round =>
          obtain ⟨t, ht1, ht2, rfl, rfl, HF⟩ := hrel
          by_cases hlt : t < m
          · obtain ⟨u, hu⟩ : ∃ u, u = (t + m) / 2 := ⟨_, rfl⟩
            have hu1 : t ≤ u := by omega
            have hu2 : u < m := by omega
            have hm2 : ((t : Int) + (m : Int)) / 2 = (u : Int) := by omega
            clear hu
            go_upto_region 17 with (fail)
            clear hm2
            have hxi : m < l.length := by rw [En.out]; omega
            have b0 : (0 : Int) ≤ (m : Int) := by omega
            have b1 : (m : Int) < (n : Int) := by omega
            obtain ⟨x, hx, _⟩ := get_of (l := l) (k := m) hxi
            have hyi : u < l.length := by rw [En.out]; omega
            have c0' : (0 : Int) ≤ (u : Int) := by omega
            have c1' : (u : Int) < (n : Int) := by omega
            obtain ⟨y, hy, _⟩ := get_of (l := l) (k := u) hyi
            have HXY : Hid (y.lsn < x.lsn) := Lib.hid (up_get HR.out hy hx (by omega))
            obtain ⟨bb, o, A0, n0, c0, A1, n1, c1, rfl, g0, g1, g2, g3, g4, g5, g6, g7, g8, g9, t0, t1⟩ := redo_at (HS.out.all HF) hx
            obtain ⟨bb', o', B0, m0, d0, B1, m1, d1, hbb, e0, e1, e2, e3, e4, e5, e6, e7, e8, e9, s0, s1⟩ := redo_at (HS.out.all HF) hy
            obtain ⟨rfl, rfl⟩ : bb = bb' ∧ o = o' := by injection hbb with hbb; injection hbb with h1 h2; exact ⟨h1, h2⟩
            have HFF := Lib.hid HF
            clear hbb t0 t1 s0 s1 hx hy hxi hyi HF
            go_region_held3 (fun w' => (w'.cell? ⟨bb, o + m * 10, none⟩ = some (.int .i64 x.lsn) ∧ w'.cell? ⟨bb, o + m * 10 + 1, none⟩ = some (.int .i64 x.back) ∧ w'.cell? ⟨bb, o + m * 10 + 2, none⟩ = some (.int .i64 x.epoch) ∧ w'.cell? ⟨bb, o + m * 10 + 3, none⟩ = some (.int .i64 x.group) ∧ w'.cell? ⟨bb, o + m * 10 + 4, none⟩ = some (.int .i64 x.page) ∧ w'.cell? ⟨bb, o + m * 10 + 5, none⟩ = some (.int .i64 x.kind) ∧ w'.cell? ⟨bb, o + m * 10 + 6, none⟩ = some (.int .i64 x.slot) ∧ w'.cell? ⟨bb, o + m * 10 + 7, none⟩ = some (.slice A0 n0 c0) ∧ w'.cell? ⟨bb, o + m * 10 + 8, none⟩ = some (.slice A1 n1 c1) ∧ w'.cell? ⟨bb, o + m * 10 + 9, none⟩ = some (.bool x.last)) ∧ (w'.cell? ⟨bb, o + u * 10, none⟩ = some (.int .i64 y.lsn) ∧ w'.cell? ⟨bb, o + u * 10 + 1, none⟩ = some (.int .i64 y.back) ∧ w'.cell? ⟨bb, o + u * 10 + 2, none⟩ = some (.int .i64 y.epoch) ∧ w'.cell? ⟨bb, o + u * 10 + 3, none⟩ = some (.int .i64 y.group) ∧ w'.cell? ⟨bb, o + u * 10 + 4, none⟩ = some (.int .i64 y.page) ∧ w'.cell? ⟨bb, o + u * 10 + 5, none⟩ = some (.int .i64 y.kind) ∧ w'.cell? ⟨bb, o + u * 10 + 6, none⟩ = some (.int .i64 y.slot) ∧ w'.cell? ⟨bb, o + u * 10 + 7, none⟩ = some (.slice B0 m0 d0) ∧ w'.cell? ⟨bb, o + u * 10 + 8, none⟩ = some (.slice B1 m1 d1) ∧ w'.cell? ⟨bb, o + u * 10 + 9, none⟩ = some (.bool y.last))) (first | go_keep | (go_split_ands; refine ⟨⟨?_, ?_, ?_, ?_, ?_, ?_, ?_, ?_, ?_, ?_⟩, ?_, ?_, ?_, ?_, ?_, ?_, ?_, ?_, ?_, ?_⟩ <;> exact Fr.cell (by assumption) trivial (by assumption))) ((go_at_call 127; refine (cmp_up HXY.out _).mono ?_; rintro e w6 ⟨rfl, f6⟩))
            clear g0 g1 g2 g3 g4 g5 g6 g7 g8 g9 e0 e1 e2 e3 e4 e5 e6 e7 e8 e9
            go_wp2_with fail
            go_roundw
            case rel => exact ⟨u + 1, by omega, by omega, by go_num, rfl, by first | exact HFF.out.drew.trans f6 | exact HFF.out.trans f6⟩
            case measure => simp [intOf]; omega
          · obtain rfl : t = m := by omega
            go_wp2_with fail
            go_loopw [17] (fun i wr => i = .int .i64 t ∧ Fr All w wr) (fun _ _ => 0)
            case atStart => exact ⟨rfl, HF⟩
            case round =>
              obtain ⟨rfl, HF2⟩ := hrel
              go_wp2_with fail
              refine bodyPost_ret (results_none rfl _ _ _) rfl ?_
              exact ⟨rfl, HF2⟩
      · have hdb : ((b : Int) - (m : Int) == 1) = false := by rw [beq_eq_false_iff_ne]; omega
        obtain ⟨mid, hmid⟩ : ∃ mid, mid = (a + b) / 2 := ⟨_, rfl⟩
        have hq1 : a < mid := by omega
        have hq2 : mid < b := by omega
        have hq3 : 2 * mid ≤ a + b := by omega
        have hq4 : a + b ≤ 2 * mid + 1 := by omega
        have hm3 : ((a : Int) + (b : Int)) / 2 = (mid : Int) := by omega
        obtain ⟨p, hp0⟩ : ∃ p, p = mid + m - 1 := ⟨_, rfl⟩
        have hp1 : p + 1 ≤ mid + m := by omega
        have hp2 : mid + m ≤ p + 1 := by omega
        have hp3 : (mid : Int) + (m : Int) - 1 = (p : Int) := by omega
        clear hmid h1 h2 hp0
        by_cases hside : mid < m
        · have i4 : (mid : Int) < (m : Int) := by omega
          obtain ⟨st, hst⟩ : ∃ st, st = mid + m - b := ⟨_, rfl⟩
          have hs1 : a ≤ st := by omega
          have hs2 : st < mid := by omega
          have hs3 : st + b = mid + m := by omega
          have hst2 : (mid : Int) + (m : Int) - (b : Int) = (st : Int) := by omega
          clear hst
          go_enter Tryz.func159, Tryz.ntmps159
          go_wp2_with fail
          clear hd hdb hm3 hst2 hp3
          go_loopw [20, 21] (fun i j wr => ∃ t : Nat, st ≤ t ∧ t ≤ mid ∧ i = .int .i64 t ∧ j = .int .i64 mid ∧ Fr All w wr) (fun i _ _ => mid - (intOf i).toNat)
          case atStart => exact ⟨st, Nat.le_refl _, by omega, rfl, rfl, Fr.refl _ _⟩
          case round =>
            obtain ⟨t, ht1, ht2, rfl, rfl, HF⟩ := hrel
            by_cases hlt : t < mid
            · obtain ⟨u, hu⟩ : ∃ u, u = (t + mid) / 2 := ⟨_, rfl⟩
              have hu1 : t ≤ u := by omega
              have hu2 : u < mid := by omega
              have hm2 : ((t : Int) + (mid : Int)) / 2 = (u : Int) := by omega
              clear hu
              obtain ⟨v, hv⟩ : ∃ v, v = p - u := ⟨_, rfl⟩
              have hv1 : u < v := by omega
              have hv2 : v < n := by omega
              have hv3 : IntKind.i64.wrap ((p : Int) - (u : Int)) = (v : Int) := by rw [IntKind.wrap_i64]; omega
              clear hv
              go_upto_region 35 with (fail)
              clear hm2
              have hxi : v < l.length := by rw [En.out]; omega
              have b0 : (0 : Int) ≤ (v : Int) := by omega
              have b1 : (v : Int) < (n : Int) := by omega
              obtain ⟨x, hx, _⟩ := get_of (l := l) (k := v) hxi
              have hyi : u < l.length := by rw [En.out]; omega
              have c0' : (0 : Int) ≤ (u : Int) := by omega
              have c1' : (u : Int) < (n : Int) := by omega
              obtain ⟨y, hy, _⟩ := get_of (l := l) (k := u) hyi
              have HXY : Hid (y.lsn < x.lsn) := Lib.hid (up_get HR.out hy hx (by omega))
              obtain ⟨bb, o, A0, n0, c0, A1, n1, c1, rfl, g0, g1, g2, g3, g4, g5, g6, g7, g8, g9, t0, t1⟩ := redo_at (HS.out.all HF) hx
              obtain ⟨bb', o', B0, m0, d0, B1, m1, d1, hbb, e0, e1, e2, e3, e4, e5, e6, e7, e8, e9, s0, s1⟩ := redo_at (HS.out.all HF) hy
              obtain ⟨rfl, rfl⟩ : bb = bb' ∧ o = o' := by injection hbb with hbb; injection hbb with h1 h2; exact ⟨h1, h2⟩
              have HFF := Lib.hid HF
              clear hbb t0 t1 s0 s1 hx hy hxi hyi HF
              go_region_held3 (fun w' => (w'.cell? ⟨bb, o + v * 10, none⟩ = some (.int .i64 x.lsn) ∧ w'.cell? ⟨bb, o + v * 10 + 1, none⟩ = some (.int .i64 x.back) ∧ w'.cell? ⟨bb, o + v * 10 + 2, none⟩ = some (.int .i64 x.epoch) ∧ w'.cell? ⟨bb, o + v * 10 + 3, none⟩ = some (.int .i64 x.group) ∧ w'.cell? ⟨bb, o + v * 10 + 4, none⟩ = some (.int .i64 x.page) ∧ w'.cell? ⟨bb, o + v * 10 + 5, none⟩ = some (.int .i64 x.kind) ∧ w'.cell? ⟨bb, o + v * 10 + 6, none⟩ = some (.int .i64 x.slot) ∧ w'.cell? ⟨bb, o + v * 10 + 7, none⟩ = some (.slice A0 n0 c0) ∧ w'.cell? ⟨bb, o + v * 10 + 8, none⟩ = some (.slice A1 n1 c1) ∧ w'.cell? ⟨bb, o + v * 10 + 9, none⟩ = some (.bool x.last)) ∧ (w'.cell? ⟨bb, o + u * 10, none⟩ = some (.int .i64 y.lsn) ∧ w'.cell? ⟨bb, o + u * 10 + 1, none⟩ = some (.int .i64 y.back) ∧ w'.cell? ⟨bb, o + u * 10 + 2, none⟩ = some (.int .i64 y.epoch) ∧ w'.cell? ⟨bb, o + u * 10 + 3, none⟩ = some (.int .i64 y.group) ∧ w'.cell? ⟨bb, o + u * 10 + 4, none⟩ = some (.int .i64 y.page) ∧ w'.cell? ⟨bb, o + u * 10 + 5, none⟩ = some (.int .i64 y.kind) ∧ w'.cell? ⟨bb, o + u * 10 + 6, none⟩ = some (.int .i64 y.slot) ∧ w'.cell? ⟨bb, o + u * 10 + 7, none⟩ = some (.slice B0 m0 d0) ∧ w'.cell? ⟨bb, o + u * 10 + 8, none⟩ = some (.slice B1 m1 d1) ∧ w'.cell? ⟨bb, o + u * 10 + 9, none⟩ = some (.bool y.last))) (first | go_keep | (go_split_ands; refine ⟨⟨?_, ?_, ?_, ?_, ?_, ?_, ?_, ?_, ?_, ?_⟩, ?_, ?_, ?_, ?_, ?_, ?_, ?_, ?_, ?_, ?_⟩ <;> exact Fr.cell (by assumption) trivial (by assumption))) ((go_at_call 127; refine (cmp_up HXY.out _).mono ?_; rintro e w6 ⟨rfl, f6⟩))
              clear g0 g1 g2 g3 g4 g5 g6 g7 g8 g9 e0 e1 e2 e3 e4 e5 e6 e7 e8 e9
              go_wp2_with fail
              go_roundw
              case rel => exact ⟨u + 1, by omega, by omega, by go_num, rfl, by first | exact HFF.out.drew.trans f6 | exact HFF.out.trans f6⟩
              case measure => simp [intOf]; omega
            · obtain rfl : t = mid := by omega
              have he : (t : Int) + (m : Int) - (t : Int) = (m : Int) := by omega
              have i5 : (a : Int) < (t : Int) := by omega
              go_wp2_with fail
              refine (IH.out t m b (by omega) hside hmb hbn _ (HS.out.all HF)).mono ?_
              rintro e w7 ⟨rfl, f7⟩
              go_wp2_with fail
              go_end0
              exact ⟨rfl, HF.trans f7⟩
        · have i4 : (m : Int) ≤ (mid : Int) := by omega
          go_enter Tryz.func159, Tryz.ntmps159
          go_wp2_with fail
          clear hd hdb hm3 hp3
          go_loopw [20, 21] (fun i j wr => ∃ t : Nat, a ≤ t ∧ t ≤ m ∧ i = .int .i64 t ∧ j = .int .i64 m ∧ Fr All w wr) (fun i _ _ => m - (intOf i).toNat)
          case atStart => exact ⟨a, Nat.le_refl _, by omega, rfl, rfl, Fr.refl _ _⟩
          case round =>
            obtain ⟨t, ht1, ht2, rfl, rfl, HF⟩ := hrel
            by_cases hlt : t < m
            · obtain ⟨u, hu⟩ : ∃ u, u = (t + m) / 2 := ⟨_, rfl⟩
              have hu1 : t ≤ u := by omega
              have hu2 : u < m := by omega
              have hm2 : ((t : Int) + (m : Int)) / 2 = (u : Int) := by omega
              clear hu
              obtain ⟨v, hv⟩ : ∃ v, v = p - u := ⟨_, rfl⟩
              have hv1 : u < v := by omega
              have hv2 : v < n := by omega
              have hv3 : IntKind.i64.wrap ((p : Int) - (u : Int)) = (v : Int) := by rw [IntKind.wrap_i64]; omega
              clear hv
              go_upto_region 35 with (fail)
              clear hm2
              have hxi : v < l.length := by rw [En.out]; omega
              have b0 : (0 : Int) ≤ (v : Int) := by omega
              have b1 : (v : Int) < (n : Int) := by omega
              obtain ⟨x, hx, _⟩ := get_of (l := l) (k := v) hxi
              have hyi : u < l.length := by rw [En.out]; omega
              have c0' : (0 : Int) ≤ (u : Int) := by omega
              have c1' : (u : Int) < (n : Int) := by omega
              obtain ⟨y, hy, _⟩ := get_of (l := l) (k := u) hyi
              have HXY : Hid (y.lsn < x.lsn) := Lib.hid (up_get HR.out hy hx (by omega))
              obtain ⟨bb, o, A0, n0, c0, A1, n1, c1, rfl, g0, g1, g2, g3, g4, g5, g6, g7, g8, g9, t0, t1⟩ := redo_at (HS.out.all HF) hx
              obtain ⟨bb', o', B0, m0, d0, B1, m1, d1, hbb, e0, e1, e2, e3, e4, e5, e6, e7, e8, e9, s0, s1⟩ := redo_at (HS.out.all HF) hy
              obtain ⟨rfl, rfl⟩ : bb = bb' ∧ o = o' := by injection hbb with hbb; injection hbb with h1 h2; exact ⟨h1, h2⟩
              have HFF := Lib.hid HF
              clear hbb t0 t1 s0 s1 hx hy hxi hyi HF
              go_region_held3 (fun w' => (w'.cell? ⟨bb, o + v * 10, none⟩ = some (.int .i64 x.lsn) ∧ w'.cell? ⟨bb, o + v * 10 + 1, none⟩ = some (.int .i64 x.back) ∧ w'.cell? ⟨bb, o + v * 10 + 2, none⟩ = some (.int .i64 x.epoch) ∧ w'.cell? ⟨bb, o + v * 10 + 3, none⟩ = some (.int .i64 x.group) ∧ w'.cell? ⟨bb, o + v * 10 + 4, none⟩ = some (.int .i64 x.page) ∧ w'.cell? ⟨bb, o + v * 10 + 5, none⟩ = some (.int .i64 x.kind) ∧ w'.cell? ⟨bb, o + v * 10 + 6, none⟩ = some (.int .i64 x.slot) ∧ w'.cell? ⟨bb, o + v * 10 + 7, none⟩ = some (.slice A0 n0 c0) ∧ w'.cell? ⟨bb, o + v * 10 + 8, none⟩ = some (.slice A1 n1 c1) ∧ w'.cell? ⟨bb, o + v * 10 + 9, none⟩ = some (.bool x.last)) ∧ (w'.cell? ⟨bb, o + u * 10, none⟩ = some (.int .i64 y.lsn) ∧ w'.cell? ⟨bb, o + u * 10 + 1, none⟩ = some (.int .i64 y.back) ∧ w'.cell? ⟨bb, o + u * 10 + 2, none⟩ = some (.int .i64 y.epoch) ∧ w'.cell? ⟨bb, o + u * 10 + 3, none⟩ = some (.int .i64 y.group) ∧ w'.cell? ⟨bb, o + u * 10 + 4, none⟩ = some (.int .i64 y.page) ∧ w'.cell? ⟨bb, o + u * 10 + 5, none⟩ = some (.int .i64 y.kind) ∧ w'.cell? ⟨bb, o + u * 10 + 6, none⟩ = some (.int .i64 y.slot) ∧ w'.cell? ⟨bb, o + u * 10 + 7, none⟩ = some (.slice B0 m0 d0) ∧ w'.cell? ⟨bb, o + u * 10 + 8, none⟩ = some (.slice B1 m1 d1) ∧ w'.cell? ⟨bb, o + u * 10 + 9, none⟩ = some (.bool y.last))) (first | go_keep | (go_split_ands; refine ⟨⟨?_, ?_, ?_, ?_, ?_, ?_, ?_, ?_, ?_, ?_⟩, ?_, ?_, ?_, ?_, ?_, ?_, ?_, ?_, ?_, ?_⟩ <;> exact Fr.cell (by assumption) trivial (by assumption))) ((go_at_call 127; refine (cmp_up HXY.out _).mono ?_; rintro e w6 ⟨rfl, f6⟩))
              clear g0 g1 g2 g3 g4 g5 g6 g7 g8 g9 e0 e1 e2 e3 e4 e5 e6 e7 e8 e9
              go_wp2_with fail
              go_roundw
              case rel => exact ⟨u + 1, by omega, by omega, by go_num, rfl, by first | exact HFF.out.drew.trans f6 | exact HFF.out.trans f6⟩
              case measure => simp [intOf]; omega
            · obtain rfl : t = m := by omega
              have he : (mid : Int) + (t : Int) - (t : Int) = (mid : Int) := by omega
              by_cases hlm : t < mid
              · have i5 : (t : Int) < (mid : Int) := by omega
                go_wp2_with fail
                refine (IH.out a t mid (by omega) ham hlm (by omega) _ (HS.out.all HF)).mono ?_
                rintro e w7 ⟨rfl, f7⟩
                go_wp2_with fail
                go_end0
                exact ⟨rfl, HF.trans f7⟩
              · have i5 : decide ((t : Int) < (mid : Int)) = false := decide_eq_false (by omega)
                go_wp2_with fail
                go_end0
                exact ⟨rfl, HF⟩
end
end Go.Proofs.YtoaamcpiljoojaaGreatDoor
