/- HotAbove walked. -/
import Derived.Test.YtalidmlomfobdaaDoorHGp
import Derived.Test.YtalidmlomfobdaaDoorAbv
import Derived.Test.YtalidmlomfobdaaDoorNum
import Derived.Test.YtalidmlomfobdaaDoorBit
namespace Go.Proofs.YtalidmlomfobdaaDoor
open Go.RowKit

theorem Own.inside' {α : Type} {d : Kd α} {e : TypeId} {base : Nat} {w : World} {v : Value} {xs : List α} (o : Own d e base Nowhere w v xs) : Sl d (fun b => base ≤ b ∧ b < w.heap.size) w v xs :=
  o.sl.mono fun b hb _ => by
    rcases hb with hb | hb
    · exact hb.elim
    · exact own_lt o b hb.symm
theorem above_rows (n : Nat) {a : Int} (ha : 0 ≤ a) (m : Int) : aboveL (rows9 n) a m = ((rows9 n).drop (a / 2).toNat).take m.toNat := by
  unfold aboveL
  congr 1
  have hr := (Has.rows n).rise
  refine Rise.ext _ _ (hr.sublist List.filter_sublist) (hr.sublist (List.drop_sublist _ _)) fun r => ?_
  rw [List.mem_filter, (Has.rows n).mem, List.mem_iff_getElem?]
  constructor
  · rintro ⟨⟨i, hi, _, rfl⟩, hd⟩
    have hd : 2 * (i : Int) + 2 > a := by simpa [rec9_lsn] using hd
    refine ⟨i - (a / 2).toNat, ?_⟩
    rw [List.getElem?_drop, show (a / 2).toNat + (i - (a / 2).toNat) = i by omega, rows9_get hi]
  · rintro ⟨k, hk⟩
    rw [List.getElem?_drop] at hk
    have hlt := (List.getElem?_eq_some_iff.1 hk).1
    rw [rows9_len] at hlt
    rw [rows9_get hlt] at hk
    obtain rfl := Option.some.inj hk
    refine ⟨⟨_, hlt, rfl, rfl⟩, ?_⟩
    show decide (2 * (((a / 2).toNat + k : Nat) : Int) + 2 > a) = true
    exact decide_eq_true (by omega)
theorem above_len (n : Nat) {a : Int} (ha : 0 ≤ a) (m : Int) : (aboveL (rows9 n) a m).length = min m.toNat (n - (a / 2).toNat) := by
  rw [above_rows n ha, List.length_take, List.length_drop, rows9_len]
theorem above_get (n : Nat) {a : Int} (ha : 0 ≤ a) (m : Int) {k : Nat} (hk : k < min m.toNat (n - (a / 2).toNat)) : (aboveL (rows9 n) a m)[k]? = some (rec9 ((a / 2).toNat + k)) := by
  rw [above_rows n ha, List.getElem?_take, if_pos (by omega), List.getElem?_drop, rows9_get (by omega)]
theorem top_rows (n : Nat) : topL (rows9 n) = 2 * (n : Int) := by
  cases n with
  | zero => rfl
  | succ n =>
    have : (rows9 (n + 1)).getLast? = some (rec9 n) := by rw [rows9_succ]; simp
    rw [topL, this]
    show 2 * (n : Int) + 2 = _
    omega
theorem habove {X : Nat → Prop} {w0 w : World} {B : Nat} {s : HSt} (h : HHd X w0 w B s) (y most : Int) : Calls Tryd.prog 22 #[.pointer (some ⟨B, 0, none⟩), .int .i64 y, .int .i64 most] w fun e w' =>
    ∃ A c, e = .returned (.slice A (aboveL s.l y most).length c) ∧ Own kRedo 34 w.heap.size (From w.heap.size) w' (.slice A (aboveL s.l y most).length c) (aboveL s.l y most) ∧ Fr All w w' := by
  obtain ⟨lv, sv, h1, _⟩ := h.ex
  exact above_call h1 y most

set_option maxRecDepth 100000 in
set_option maxHeartbeats 4000000 in
theorem above_walk (a0 a1 a2 : Int) (w : World) : Calls Tryd.prog 5 #[.int .i64 a0, .int .i64 a1, .int .i64 a2] w fun e w' => e = .returned (.bool true) ∧ Fr All w w' := by
  obtain ⟨f, hf⟩ : ∃ f, bits .and .i64 a2 63 = f := ⟨_, rfl⟩
  have hf0 : 0 ≤ f := by rw [← hf, and63]; omega
  have hf1 : f < 64 := by rw [← hf, and63]; omega
  go_enter Tryd.func5, Tryd.ntmps5
  go_wp2_with fail
  refine (first9_call w).mono ?_
  rintro e w1 ⟨rfl, f1⟩
  go_wp2_with fail
  refine (number w1 (by omega) (by omega)).mono ?_
  rintro e wn ⟨n, hn, rfl, hwn⟩
  obtain rfl := hwn.symm
  go_wp2_with fail
  refine (number w1 (by omega) (by omega)).mono ?_
  rintro e wn ⟨m0, hm0, rfl, hwn⟩
  obtain rfl := hwn.symm
  go_wp2_with fail
  refine (hnew 0 w1).mono ?_
  rintro e w2 ⟨rfl, h2⟩
  have H2 := Lib.hid h2
  clear h2 hf
  go_wp2_with fail
  refine (row9_call (n := n) (by omega) w2).mono ?_
  rintro e w3 ⟨A, c, rfl, o3, f3⟩
  have H3 := Lib.hid (H2.out.guard f3)
  obtain ⟨B, hB⟩ : ∃ B, w1.heap.size = B := ⟨_, rfl⟩
  rw [hB] at H3
  simp only [hB]
  obtain ⟨X, hX⟩ : ∃ X : Nat → Prop, X = fun b => False ∨ (w2.heap.size ≤ b ∧ b < w3.heap.size) := ⟨_, rfl⟩
  rw [← hX] at H3
  have HR : Hid (Sl kRedo X w3 (.slice A n c) (rows9 n)) := Lib.hid (by
    rw [hX]
    exact o3.inside'.mono fun b hb _ => .inr hb)
  clear hX hB H2 o3 f3
  have S3 : Hid (St9 n (fun i => decide (i < 0)) (.new 0)) := Lib.hid (St9.new n _ fun i hi => decide_eq_false (by omega))
  have hM2 : (m0 : Int) + 1 ≤ 9 := by omega
  go_wp2_with fail
  go_loopw [10] (fun i wr => ∃ (j : Nat) (s : HSt), j ≤ n ∧ i = .int .i64 j ∧ Hid (HHd X w1 wr B s) ∧ Hid (St9 n (fun i => decide (i < j)) s) ∧ Fr X w3 wr) (fun i _ => n - (intOf i).toNat)
  case atStart => exact ⟨0, _, Nat.zero_le _, rfl, H3, S3, Fr.refl _ _⟩
  case round =>
    obtain ⟨j, s, hj, rfl, HS, HT, HF⟩ := hrel
    by_cases hlt : j < n
    · have b0 : (0 : Int) ≤ (j : Int) := by omega
      have b1 : (j : Int) < (n : Int) := by omega
      obtain ⟨b, o, X0, n0, c0, X1, n1, c1, rfl, g0, g1, g2, g3, g4, g5, g6, g7, g8, g9, t0, t1⟩ := redo_at (HR.out.move HF) (rows9_get hlt)
      have T0 := Lib.hid t0
      have T1 := Lib.hid t1
      clear t0 t1
      go_wp2_with fail
      refine (hadd9 (Q := fun i => decide (i < j + 1)) HS.out HT.out (by omega) hlt (decide_eq_false (by omega)) (fun i hi => by
        by_cases hik : i = j
        · subst hik; simp
        · have h1 : decide (i < j + 1) = decide (i < j) := by rw [decide_eq_decide]; omega
          rw [h1, beq_false_of_ne hik, Bool.or_false]) T0.out T1.out).mono ?_
      rintro e w5 ⟨rfl, h5, t5, f5⟩
      have H5 := Lib.hid h5
      have T5 := Lib.hid t5
      have F5 := HF.trans f5
      clear h5 t5 f5 g0 g1 g2 g3 g4 g5 g6 g7 g8 g9
      go_wp2_with fail
      go_roundw
      case rel => exact ⟨j + 1, _, by omega, by go_num, H5, T5, F5⟩
      case measure => simp [intOf]; omega
    · obtain rfl : j = n := by omega
      have hl : s.l = rows9 j := HT.out.has.all fun i hi => decide_eq_true hi
      have HL := Lib.hid hl
      obtain ⟨W, hW⟩ : ∃ W, W = wr := ⟨_, rfl⟩
      subst hW
      have HR2 := Lib.hid (HR.out.move HF)
      have hAb : ∀ W' y q, Fr All W W' → Calls Tryd.prog 22 #[.pointer (some ⟨B, 0, none⟩), .int .i64 y, .int .i64 q] W' fun e w' =>
        ∃ A c, e = .returned (.slice A (aboveL (rows9 j) y q).length c) ∧ Own kRedo 34 W'.heap.size (From W'.heap.size) w' (.slice A (aboveL (rows9 j) y q).length c) (aboveL (rows9 j) y q) ∧ Fr All W' w' := fun W' y q hf => by
        have := habove (HS.out.all hf) y q
        rwa [hl] at this
      have HAB := Lib.hid hAb
      have hTop : ∀ W', Fr All W W' → Calls Tryd.prog 23 #[.pointer (some ⟨B, 0, none⟩)] W' fun e w' => e = .returned (.int .i64 (2 * (j : Int))) ∧ Fr All W' w' := fun W' hf => by
        have := htop (HS.out.all hf)
        rwa [hl, top_rows] at this
      have HTOP := Lib.hid hTop
      have HFR := Lib.hid HS.out.fr
      obtain ⟨t0, ht0⟩ : ∃ t0 : Nat, (f / 2).toNat = t0 := ⟨_, rfl⟩
      have HT0 := Lib.hid ht0
      clear hl hAb hTop HT ht0 hlt
      go_wp2_with fail
      go_loopw [11, 12, 13] (fun a cn i wr => ∃ (t k : Nat) (at_ : Int), 0 ≤ at_ ∧ at_ ≤ 100 ∧ k ≤ j + 1 ∧ t0 ≤ t ∧ k ≤ t - t0 ∧ (t ≤ j ∨ t = t0) ∧ Hid ((at_ / 2).toNat = t) ∧ i = .int .i64 k ∧ a = .int .i64 at_ ∧ cn = .int .i64 ((t - t0 : Nat) : Int) ∧ Fr All W wr) (fun _ _ i _ => j + 1 - (intOf i).toNat)
      case atStart => exact ⟨t0, 0, f, hf0, by omega, Nat.zero_le _, Nat.le_refl _, by omega, .inr rfl, HT0, rfl, rfl, by simp, Fr.refl _ _⟩
      case round =>
        obtain ⟨t, k, at_, ha0, ha1, hk, htt, hkt, htj, HA, rfl, rfl, rfl, HF2⟩ := hrel
        have hkj : decide ((k : Int) ≤ (j : Int)) = true := decide_eq_true (by rcases htj with h | h <;> omega)
        go_wp2_with fail
        refine (HAB.out wr at_ ((m0 : Int) + 1) HF2).mono ?_
        rintro e w6 ⟨A6, c6, rfl, o6, f6⟩
        have hlen := above_len j ha0 ((m0 : Int) + 1)
        rw [HA.out] at hlen
        obtain ⟨q, hq⟩ : ∃ q, (aboveL (rows9 j) at_ ((m0 : Int) + 1)).length = q := ⟨_, rfl⟩
        rw [hq] at hlen o6
        simp only [hq]
        have HQ := Lib.hid hq
        have HO6 := Lib.hid o6.sl
        have F6 := HF2.trans f6
        clear o6 f6 hq
        rcases Nat.eq_zero_or_pos q with h0 | h0
        · subst h0
          have htn : j ≤ t := by omega
          have hcw : (((t - t0 : Nat) : Int) == ((j - t0 : Nat) : Int)) = true := by rw [beq_iff_eq]; omega
          obtain ⟨W6, hW6⟩ : ∃ W6, W6 = w6 := ⟨_, rfl⟩
          subst hW6
          clear hlen
          go_wp2_with fail
          go_loopw [16, 17] (fun wa i wr2 => ∃ p : Nat, p ≤ j ∧ i = .int .i64 p ∧ wa = .int .i64 ((p - t0 : Nat) : Int) ∧ wr2 = W6) (fun _ i _ => j - (intOf i).toNat)
          case atStart => exact ⟨0, Nat.zero_le _, rfl, by simp, rfl⟩
          case round =>
            obtain ⟨p, hp, rfl, rfl, rfl⟩ := hrel
            by_cases hpj : p < j
            · obtain ⟨b, o, X0, n0, c0, X1, n1, c1, rfl, g0, g1, g2, g3, g4, g5, g6, g7, g8, g9, u0, u1⟩ := redo_at (HR2.out.all F6) (rows9_get hpj)
              rw [rec9_lsn] at g0
              have p0 : (0 : Int) ≤ (p : Int) := by omega
              have p1 : (p : Int) < (j : Int) := by omega
              clear u0 u1 g1 g2 g3 g4 g5 g6 g7 g8 g9
              cases hd : decide (2 * (p : Int) + 2 > f) with
              | true =>
                have HD := of_decide_eq_true hd
                have hs : ((p + 1 - t0 : Nat) : Int) = ((p - t0 : Nat) : Int) + 1 := by have := HT0.out; omega
                have HSS := Lib.hid hs
                clear hs HD
                go_wp2_with fail
                go_roundw
                case rel => exact ⟨p + 1, by omega, by go_num, by rw [HSS.out], trivial⟩
                case measure => simp [intOf]; omega
              | false =>
                have HD := of_decide_eq_false hd
                have hs : ((p + 1 - t0 : Nat) : Int) = ((p - t0 : Nat) : Int) := by have := HT0.out; omega
                have HSS := Lib.hid hs
                clear hs HD
                go_wp2_with fail
                go_roundw
                case rel => exact ⟨p + 1, by omega, by go_num, by rw [HSS.out], trivial⟩
                case measure => simp [intOf]; omega
            · obtain rfl : p = j := by omega
              go_wp2_with fail
              refine (HTOP.out _ F6).mono ?_
              rintro e w7 ⟨rfl, f7⟩
              have F7 := F6.trans f7
              clear f7
              go_wp2_with fail
              refine (HAB.out w7 (2 * (p : Int)) 9 F7).mono ?_
              rintro e w8 ⟨A8, c8, rfl, _, f8⟩
              have h8 : (aboveL (rows9 p) (2 * (p : Int)) 9).length = 0 := by rw [above_len p (by omega)]; omega
              rw [h8]
              have F8 := F7.trans f8
              clear f8 h8
              go_wp2_with fail
              refine (HAB.out w8 (-1) 0 F8).mono ?_
              rintro e w9 ⟨A9, c9, rfl, _, f9⟩
              have h9 : (aboveL (rows9 p) (-1) 0).length = 0 := by unfold aboveL; rw [List.length_take]; simp
              rw [h9]
              have F9 := F8.trans f9
              clear f9 h9
              go_wp2_with fail
              go_ret
              exact ⟨rfl, (f1.trans HFR.out).trans F9⟩
        · have hqM : decide ((q : Int) > (m0 : Int) + 1) = false := decide_eq_false (by omega)
          have hq0 : ((q : Int) == 0) = false := beq_false_of_ne (by omega)
          have HLEN := Lib.hid hlen
          have hqb : q ≤ 30 := by omega
          clear hlen
          obtain ⟨W6, hW6⟩ : ∃ W6, W6 = w6 := ⟨_, rfl⟩
          subst hW6
          go_wp2_with fail
          go_loopw [11, 12, 15] (fun a cn i wr2 => ∃ (p : Nat) (b_ : Int), 0 ≤ b_ ∧ b_ ≤ 100 ∧ p ≤ q ∧ Hid ((b_ / 2).toNat = t + p) ∧ i = .int .i64 p ∧ a = .int .i64 b_ ∧ cn = .int .i64 (((t - t0 : Nat) : Int) + p) ∧ wr2 = W6) (fun _ _ i _ => q - (intOf i).toNat)
          case atStart => exact ⟨0, at_, ha0, ha1, Nat.zero_le _, Lib.hid (by rw [HA.out]; rfl), rfl, rfl, by simp, rfl⟩
          case round =>
            obtain ⟨p, b_, hb0, hb1, hp, HP, rfl, rfl, rfl, rfl⟩ := hrel
            by_cases hpq : p < q
            · have hget := above_get j ha0 ((m0 : Int) + 1) (k := p) (by rw [HA.out, ← HLEN.out]; exact hpq)
              rw [HA.out] at hget
              obtain ⟨b, o, X0, n0, c0, X1, n1, c1, rfl, g0, g1, g2, g3, g4, g5, g6, g7, g8, g9, u0, u1⟩ := redo_at HO6.out hget
              rw [rec9_lsn, Int.natCast_add] at g0
              have hle : decide (2 * ((t : Int) + (p : Int)) + 2 ≤ b_) = false := decide_eq_false (by have := HP.out; omega)
              have p0 : (0 : Int) ≤ (p : Int) := by omega
              have p1 : (p : Int) < (q : Int) := by omega
              have HTJ : t + p < j := by have := HLEN.out; omega
              clear hget u0 u1 g1 g2 g3 g4 g5 g6 g7 g8 g9
              go_wp2_with fail
              go_roundw
              case rel => exact ⟨p + 1, 2 * ((t : Int) + (p : Int)) + 2, by omega, by omega, by omega, Lib.hid (by omega), by go_num, rfl, by go_num, trivial⟩
              case measure => simp [intOf]; omega
            · obtain rfl : p = q := by omega
              go_wp2_with fail
              go_roundw
              case rel => exact ⟨t + p, k + 1, b_, hb0, hb1, by rcases htj with h | h <;> (have := HLEN.out; omega), by omega, by omega, .inl (by have := HLEN.out; omega), HP, by go_num, rfl, by (congr 1; omega), F6⟩
              case measure => simp [intOf]; omega
end Go.Proofs.YtalidmlomfobdaaDoor
