/- The walk of the law on places. -/
import Derived.Test.YtblogahililddaaFind
namespace Go.Proofs.Ytblogahililddaa
open Go.RowKit

theorem places_plain : ∀ (n : Fin 9) (k : Fin 18), findIx [UInt8.ofNat k.1] (rowEnts n.1) = min ((k.1 + 1) / 2) n.1 ∧ findIs [UInt8.ofNat k.1] (rowEnts n.1) = (decide (k.1 % 2 = 0) && decide (k.1 / 2 < n.1)) := by
  decide +kernel

set_option maxHeartbeats 2000000 in
theorem places_walk (a0 a1 : Int) (w : World) : Calls Try.prog 8 #[.int .i64 a0, .int .i64 a1] w fun e w' => e = .returned (.bool true) ∧ Fr All w w' := by
  go_enter Try.func8, Try.ntmps8
  go_wp2_with fail
  refine (first_call _).mono ?_
  rintro e w1 ⟨rfl, f1⟩
  go_wp2_with fail
  refine (number _ (by decide) (by decide)).mono ?_
  rintro e _ ⟨n, hn, rfl, rfl⟩
  go_wp2_with fail
  refine (number _ (by decide) (by decide)).mono ?_
  rintro e _ ⟨k, hk, rfl, rfl⟩
  go_wp2_with fail
  refine (rows_call _ (by omega)).mono ?_
  rintro e w2 ⟨A2, c2, rfl, o2, f2⟩
  have el2 : (rowPage n).ents.length = n := rowEnts_len n
  rw [el2] at o2 ⊢
  have F2 := f1.trans f2
  dsimp only [rowPage] at o2 ⊢
  clear el2
  go_wp2_with fail
  have hw4 : ((UInt8.ofNat k).toNat : Int) = (k : Int) := by rw [UInt8.toNat_ofNat_of_lt' (by simp only [UInt8.size]; omega)]
  have K1 : Sl kByte All (w2.alloc (.cells #[.int .u8 (k : Int)] 5)) (.slice (some ⟨w2.heap.size, 0, none⟩) 1 1) [UInt8.ofNat k] := by
    have := Sl.byte w2 All (UInt8.ofNat k) 5 trivial
    rwa [hw4] at this
  obtain ⟨hp1, hp2⟩ := places_plain ⟨n, by omega⟩ ⟨k, by omega⟩
  dsimp only at hp1 hp2
  refine (page_find (p := rowPage n) (o2.all ((Fr.refl All w2).alloc _)) K1).mono ?_
  rintro e w3 ⟨rfl, f3⟩
  dsimp only [rowPage]
  rw [hp1, hp2]
  clear hp1 hp2 o2
  obtain ⟨r, hr⟩ : ∃ r, r = k % 2 := ⟨_, rfl⟩
  obtain ⟨h, hh⟩ : ∃ h, h = k / 2 := ⟨_, rfl⟩
  obtain ⟨g, hg⟩ : ∃ g, g = (k + 1) / 2 := ⟨_, rfl⟩
  obtain ⟨m, hm⟩ : ∃ m, m = min g n := ⟨_, rfl⟩
  rw [← hr, ← hh, ← hg, ← hm]
  have q1 : (k : Int).tmod 2 = (r : Int) := by rw [IntWalk.rem_in _ _ (by omega), hr]; omega
  have q2 : (k : Int).tdiv 2 = (h : Int) := by rw [Int.tdiv_eq_ediv_of_nonneg (by omega), hh]; omega
  have q3 : IntKind.i64.wrap ((k : Int) + 1) = (k : Int) + 1 := IntWalk.i64_in _ (by omega)
  have q4 : ((k : Int) + 1).tdiv 2 = (g : Int) := by rw [Int.tdiv_eq_ediv_of_nonneg (by omega), hg]; omega
  have q5 : IntKind.i64.wrap (r : Int) = (r : Int) := IntWalk.i64_in _ (by omega)
  have q6 : IntKind.i64.wrap (h : Int) = (h : Int) := IntWalk.i64_in _ (by omega)
  have q7 : IntKind.i64.wrap (g : Int) = (g : Int) := IntWalk.i64_in _ (by omega)
  have hmin : (if (n : Int) < (g : Int) then (n : Int) else (g : Int)) = (m : Int) := by rw [hm]; split <;> omega
  have Hm := Lib.hid hm
  clear hr hh hg hm
  by_cases h2 : r = 0
  · subst h2
    by_cases h3 : h < n
    · go_wp2_with fail
      all_goals
        go_ret
        exact ⟨ret_bool (by first | rfl | (have := Hm.out; rw [beq_iff_eq]; omega)), (F2.alloc _).trans f3⟩
    · go_wp2_with fail
      all_goals
        go_ret
        exact ⟨ret_bool (by first | rfl | (have := Hm.out; rw [beq_iff_eq]; omega)), (F2.alloc _).trans f3⟩
  · have h4 : ((r : Int) == 0) = false := by rw [beq_eq_false_iff_ne]; omega
    go_wp2_with fail
    all_goals
      go_ret
      exact ⟨ret_bool (by first | rfl | (have := Hm.out; rw [beq_iff_eq]; omega)), (F2.alloc _).trans f3⟩
end Go.Proofs.Ytblogahililddaa
