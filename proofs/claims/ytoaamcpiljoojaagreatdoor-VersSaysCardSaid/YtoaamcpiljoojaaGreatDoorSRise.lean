/- slices.SortStableFunc of records that rise, however many. -/
import Derived.Test.YtoaamcpiljoojaaGreatDoorSSym
namespace Go.Proofs.YtoaamcpiljoojaaGreatDoor
open Go.RowKit

/-- Rows that the sort is known of: short ones, and those that rise. -/
def Sorts (l : List Redo) : Prop := l.length ≤ 20 ∨ (l.Pairwise fun a b => a.lsn < b.lsn) ∧ l.length ≤ 16384
set_option maxRecDepth 100000 in
set_option maxHeartbeats 4000000 in
theorem stable_rise {base : Nat} {S : Nat → Prop} {w : World} {g n c : Nat} {l : List Redo} (h : Own kRedo 33 base S w (.slice (some ⟨g, 0, none⟩) n c) l) (hr : l.Pairwise fun a b => a.lsn < b.lsn) (hn : n ≤ 16384) :
    Calls Tryz.prog 150 #[.slice (some ⟨g, 0, none⟩) n c, .int .i64 n, .func (.func 127) #[] #[]] w fun e w' =>
      e = .returned (.tuple #[]) ∧ Own kRedo 33 base S w' (.slice (some ⟨g, 0, none⟩) n c) l ∧ Fr (But (some g)) w w' := by
  have H := Lib.hid h
  have HR := Lib.hid hr
  clear h hr
  go_enter Tryz.func150, Tryz.ntmps150
  go_wp2_with fail
  go_loopw [7, 8] (fun i j wr => ∃ a b : Nat, Hid (b = a + 20) ∧ i = .int .i64 (a : Int) ∧ j = .int .i64 (b : Int) ∧ a ≤ n ∧ Hid (Own kRedo 33 base S wr (.slice (some ⟨g, 0, none⟩) n c) l) ∧ Fr (But (some g)) w wr) (fun i _ _ => n + 1 - (intOf i).toNat)
  case atStart => exact ⟨0, 20, Lib.hid rfl, rfl, rfl, Nat.zero_le _, H, Fr.refl _ _⟩
  case round =>
    obtain ⟨a, b, hab, rfl, rfl, han, HO, HF⟩ := hrel
    have hab1 : a < b := by have := hab.out; omega
    by_cases hlt : b ≤ n
    · have i0 : (b : Int) ≤ (n : Int) := by omega
      go_wp2_with fail
      refine (insertion_own (a := a) (b := b) HO.out (by omega) hlt (by omega)).mono ?_
      rintro e w1 ⟨rfl, l2, p2, o2, f2⟩
      have hl2 := p2.same HR.out
      have O2 := Lib.hid (hl2 ▸ o2)
      clear p2 o2 hl2
      go_wp2_with fail
      go_roundw
      case rel => exact ⟨b, b + 20, Lib.hid rfl, rfl, by go_num, by omega, O2, HF.trans f2⟩
      case measure => simp [intOf]; omega
    · have i0 : decide ((b : Int) ≤ (n : Int)) = false := decide_eq_false (by omega)
      go_wp2_with fail
      refine (insertion_own (a := a) (b := n) HO.out han (Nat.le_refl _) (by omega)).mono ?_
      rintro e w1 ⟨rfl, l2, p2, o2, f2⟩
      have hl2 := p2.same HR.out
      have O2 := Lib.hid (hl2 ▸ o2)
      have F2 := HF.trans f2
      clear p2 o2 hl2 f2 HF HO hab1 hab i0
      rcases (⟨w1, rfl⟩ : ∃ W, W = w1) with ⟨W1, hW1⟩
      subst hW1
      go_wp2_with fail
      go_loopw [6, 7, 8, 9] (fun s _ _ _ wr => ∃ bs : Nat, 20 ≤ bs ∧ bs ≤ 32768 ∧ s = .int .i64 (bs : Int) ∧ Hid (Own kRedo 33 base S wr (.slice (some ⟨g, 0, none⟩) n c) l) ∧ Fr (But (some g)) w wr) (fun s _ _ _ _ => 40000 - (intOf s).toNat)
      case atStart => exact ⟨20, Nat.le_refl _, by decide, rfl, O2, F2⟩
      case round =>
        obtain ⟨bs, hb1, hb2, rfl, HO, HF⟩ := hrel
        by_cases hlt2 : bs < n
        · have i0 : (bs : Int) < (n : Int) := by omega
          obtain ⟨d, hd0⟩ : ∃ d, d = 2 * bs := ⟨_, rfl⟩
          have hd1 : d ≤ 2 * bs := by omega
          have hd2 : 2 * bs ≤ d := by omega
          have hd3 : 2 * (bs : Int) = (d : Int) := by omega
          have HD4 : Hid ((bs : Int) * 2 = (d : Int)) := Lib.hid (by omega)
          clear hd0
          rcases (⟨wr, rfl⟩ : ∃ W, W = wr) with ⟨W3, hW3⟩
          subst hW3
          go_wp2_with fail
          go_loopw [7, 8] (fun i j wr => ∃ a b : Nat, Hid (b = a + d) ∧ i = .int .i64 (a : Int) ∧ j = .int .i64 (b : Int) ∧ a ≤ n ∧ Hid (Own kRedo 33 base S wr (.slice (some ⟨g, 0, none⟩) n c) l) ∧ Fr (But (some g)) w wr) (fun i _ _ => n + 1 - (intOf i).toNat)
          case atStart => exact ⟨0, d, Lib.hid (by omega), rfl, rfl, Nat.zero_le _, HO, HF⟩
          case round =>
            clear HO HF
            obtain ⟨a, b, hab, rfl, rfl, han, HO, HF⟩ := hrel
            have hab1 : a + d ≤ b := by have := hab.out; omega
            have hab2 : b ≤ a + d := by have := hab.out; omega
            obtain ⟨md, hmd0⟩ : ∃ md, md = a + bs := ⟨_, rfl⟩
            have hm1 : md ≤ a + bs := by omega
            have hm2 : a + bs ≤ md := by omega
            have hm3 : (a : Int) + (bs : Int) = (md : Int) := by omega
            clear hmd0
            by_cases hlt3 : b ≤ n
            · have i1 : (b : Int) ≤ (n : Int) := by omega
              go_wp2_with fail
              refine (sym_rise HR.out (by omega) (b - a) a md b (Nat.le_refl _) (by omega) (by omega) hlt3 _ (HO.out.sl.mono fun _ _ _ => trivial)).mono ?_
              rintro e w5 ⟨rfl, f5⟩
              have O5 := Lib.hid (HO.out.all f5)
              go_wp2_with fail
              go_roundw
              case rel => exact ⟨b, b + d, Lib.hid rfl, rfl, by go_num, by omega, O5, HF.then_all f5⟩
              case measure => simp [intOf]; omega
            · have i1 : decide ((b : Int) ≤ (n : Int)) = false := decide_eq_false (by omega)
              have hd4 := HD4.out
              by_cases hlt4 : md < n
              · have i2 : (md : Int) < (n : Int) := by omega
                go_wp2_with fail
                refine (sym_rise HR.out (by omega) (n - a) a md n (Nat.le_refl _) (by omega) (by omega) (Nat.le_refl _) _ (HO.out.sl.mono fun _ _ _ => trivial)).mono ?_
                rintro e w5 ⟨rfl, f5⟩
                have O5 := Lib.hid (HO.out.all f5)
                go_wp2_with fail
                go_roundw
                case rel => exact ⟨d, by omega, by omega, rfl, O5, HF.then_all f5⟩
                case measure => simp [intOf]; omega
              · have i2 : decide ((md : Int) < (n : Int)) = false := decide_eq_false (by omega)
                go_wp2_with fail
                go_roundw
                case rel => exact ⟨d, by omega, by omega, rfl, HO, HF⟩
                case measure => simp [intOf]; omega
        · have i0 : decide ((bs : Int) < (n : Int)) = false := decide_eq_false (by omega)
          go_wp2_with fail
          go_end0
          exact ⟨rfl, HO.out, HF⟩
/-- slices.SortStableFunc of records, a row of one's own. -/
theorem sort_any {base : Nat} {S : Nat → Prop} {w : World} {A : Option Addr} {n c : Nat} {l : List Redo} (h : Own kRedo 33 base S w (.slice A n c) l) (hn : Sorts l) :
    Calls Tryz.prog 126 #[.slice A n c, .func (.func 127) #[] #[]] w fun e w' =>
      e = .returned (.tuple #[]) ∧ ∃ l', PermR l' l ∧ Own kRedo 33 base S w' (.slice A n c) l' ∧ Fr (But (Value.slice A n c).ownBlock) w w' := by
  have en := h.sl.len
  rcases hn with hn | ⟨hr, hn⟩
  · exact sort_stable h (by omega)
  · obtain ⟨cs, ho, _⟩ := id h
    rcases ho.2 with ⟨hv, h0⟩ | ⟨g, cap, cur, hv, _⟩
    · exact sort_stable h (by omega)
    · cases hv
      have H := Lib.hid h
      have HR := Lib.hid hr
      clear ho hr h
      rw [en] at hn
      clear en
      go_enter Tryz.func126, Tryz.ntmps126
      go_wp2_with fail
      refine (stable_rise H.out HR.out hn).mono ?_
      rintro e w1 ⟨rfl, o2, f2⟩
      have O2 := Lib.hid o2
      go_wp2_with fail
      go_end0
      exact ⟨rfl, l, PermR.refl l, O2.out, f2⟩
end Go.Proofs.YtoaamcpiljoojaaGreatDoor
