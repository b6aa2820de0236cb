/- slices.SortStableFunc of at most twenty records. -/
import Derived.Test.YtalidmlomfobdaaDoorSOwn
namespace Go.Proofs.YtalidmlomfobdaaDoor
open Go.RowKit

theorem insertion_none (c : Nat) (A : Option Addr) (w : World) : Calls Tryd.prog 137 #[.slice A 0 c, .int .i64 0, .int .i64 0, .func (.func 105) #[] #[]] w fun e w' => e = .returned (.tuple #[]) ∧ w' = w := by
  go_enter Tryd.func137, Tryd.ntmps137
  go_wp2_with fail
  go_loopw [8] (fun i wr => i = .int .i64 1 ∧ wr = w) (fun _ _ => 0)
  case atStart => exact ⟨rfl, rfl⟩
  case round =>
    obtain ⟨rfl, rfl⟩ := hrel
    go_wp2_with fail
    go_end0
    exact ⟨rfl, rfl⟩

set_option maxHeartbeats 1000000 in
theorem stable_call {base : Nat} {S : Nat → Prop} {w : World} {g n c : Nat} {l : List Redo} (h : Own kRedo 34 base S w (.slice (some ⟨g, 0, none⟩) n c) l) (hn : n ≤ 20) :
    Calls Tryd.prog 129 #[.slice (some ⟨g, 0, none⟩) n c, .int .i64 n, .func (.func 105) #[] #[]] w fun e w' =>
      e = .returned (.tuple #[]) ∧ ∃ l', PermR l' l ∧ Own kRedo 34 base S w' (.slice (some ⟨g, 0, none⟩) n c) l' ∧ Fr (But (some g)) w w' := by
  go_enter Tryd.func129, Tryd.ntmps129
  go_wp2_with fail
  go_loopw [7, 8] (fun a b wr => ∃ (k : Nat) (l1 : List Redo), k ≤ 1 ∧ a = .int .i64 (20 * (k : Int)) ∧ b = .int .i64 (20 * (k : Int) + 20) ∧ 20 * k ≤ n ∧ Hid (PermR l1 l) ∧ Own kRedo 34 base S wr (.slice (some ⟨g, 0, none⟩) n c) l1 ∧ Fr (But (some g)) w wr) (fun _ b _ => 40 - (intOf b).toNat)
  case atStart => exact ⟨0, l, by decide, rfl, rfl, by omega, PermR.refl l, h, Fr.refl _ _⟩
  case round =>
    obtain ⟨k, l1, hk, rfl, rfl, hkn, HP, HO, HF⟩ := hrel
    match k, hk with
    | 0, _ =>
      by_cases hlt : 20 ≤ n
      · have hd : decide ((20 : Int) ≤ (n : Int)) = true := decide_eq_true (by omega)
        go_wp2_with fail
        refine (insertion_own (a := 0) (b := 20) HO (by decide) hlt (by omega)).mono ?_
        rintro e w1 ⟨rfl, l2, p2, o2, f2⟩
        go_wp2_with fail
        go_roundw
        case rel => exact ⟨1, l2, by decide, by go_num, by go_num, by omega, (p2.trans HP.out : PermR l2 l), o2, HF.trans f2⟩
        case measure => simp [intOf]
      · have hd : decide ((20 : Int) ≤ (n : Int)) = false := decide_eq_false (by omega)
        have hd2 : decide ((20 : Int) < (n : Int)) = false := decide_eq_false (by omega)
        go_wp2_with fail
        refine (insertion_own (a := 0) (b := n) HO (by omega) (by omega) (by omega)).mono ?_
        rintro e w1 ⟨rfl, l2, p2, o2, f2⟩
        go_wp2_with fail
        go_loopw [6] (fun i wr => i = .int .i64 20 ∧ wr = w1) (fun _ _ => 0)
        case atStart => exact ⟨rfl, rfl⟩
        case round =>
          obtain ⟨rfl, rfl⟩ := hrel
          go_wp2_with fail
          go_end0
          exact ⟨rfl, l2, p2.trans HP.out, o2, HF.trans f2⟩
    | 1, _ =>
      have hd : decide ((40 : Int) ≤ (n : Int)) = false := decide_eq_false (by omega)
      have hd2 : decide ((20 : Int) < (n : Int)) = false := decide_eq_false (by omega)
      go_wp2_with fail
      refine (insertion_own (a := 20) (b := n) HO (by omega) (by omega) (by omega)).mono ?_
      rintro e w1 ⟨rfl, l2, p2, o2, f2⟩
      go_wp2_with fail
      go_loopw [6] (fun i wr => i = .int .i64 20 ∧ wr = w1) (fun _ _ => 0)
      case atStart => exact ⟨rfl, rfl⟩
      case round =>
        obtain ⟨rfl, rfl⟩ := hrel
        go_wp2_with fail
        go_end0
        exact ⟨rfl, l2, p2.trans HP.out, o2, HF.trans f2⟩

set_option maxHeartbeats 1000000 in
theorem stable_none (c : Nat) (A : Option Addr) (w : World) : Calls Tryd.prog 129 #[.slice A 0 c, .int .i64 0, .func (.func 105) #[] #[]] w fun e w' => e = .returned (.tuple #[]) ∧ w' = w := by
  go_enter Tryd.func129, Tryd.ntmps129
  go_wp2_with fail
  go_loopw [7, 8] (fun a b wr => a = .int .i64 0 ∧ b = .int .i64 20 ∧ wr = w) (fun _ _ _ => 0)
  case atStart => exact ⟨rfl, rfl, rfl⟩
  case round =>
    obtain ⟨rfl, rfl, rfl⟩ := hrel
    go_wp2_with fail
    refine (insertion_none _ _ _).mono ?_
    rintro e w1 ⟨rfl, hw1⟩
    have Hw := Lib.hid hw1
    clear hw1
    go_wp2_with fail
    go_loopw [6] (fun i wr => i = .int .i64 20 ∧ wr = w1) (fun _ _ => 0)
    case atStart => exact ⟨rfl, rfl⟩
    case round =>
      obtain ⟨rfl, hw⟩ := hrel
      have Hv := Lib.hid hw
      clear hw
      go_wp2_with fail
      go_end0
      exact ⟨rfl, Hv.out.trans Hw.out⟩

/-- slices.SortStableFunc of at most twenty records, a row of one's own. -/
theorem sort_stable {base : Nat} {S : Nat → Prop} {w : World} {A : Option Addr} {n c : Nat} {l : List Redo} (h : Own kRedo 34 base S w (.slice A n c) l) (hn : n ≤ 20) :
    Calls Tryd.prog 104 #[.slice A n c, .func (.func 105) #[] #[]] w fun e w' =>
      e = .returned (.tuple #[]) ∧ ∃ l', PermR l' l ∧ Own kRedo 34 base S w' (.slice A n c) l' ∧ Fr (But (Value.slice A n c).ownBlock) w w' := by
  obtain ⟨cs, ho, hr⟩ := id h
  rcases ho.2 with ⟨hv, h0⟩ | ⟨g, cap, cur, hv, _⟩
  · cases hv
    go_enter Tryd.func104, Tryd.ntmps104
    go_wp2_with fail
    refine (stable_none _ _ _).mono ?_
    rintro e _ ⟨rfl, rfl⟩
    go_wp2_with fail
    go_end0
    exact ⟨rfl, l, PermR.refl _, h, Fr.refl _ _⟩
  · cases hv
    have en := h.sl.len
    have H := Lib.hid h
    clear ho hr
    go_enter Tryd.func104, Tryd.ntmps104
    go_wp2_with fail
    refine (stable_call H.out hn).mono ?_
    rintro e w1 ⟨rfl, l2, p2, o2, f2⟩
    go_wp2_with fail
    go_end0
    exact ⟨rfl, l2, p2, o2, f2⟩
end Go.Proofs.YtalidmlomfobdaaDoor
