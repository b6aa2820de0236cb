/- The walk of the law on elder records. -/
import Derived.Test.YtblogahililddaaLaw
import Derived.Test.YtblogahililddaaApply4
import Derived.Test.YtblogahililddaaRef
namespace Go.Proofs.Ytblogahililddaa
open Go.RowKit

set_option maxHeartbeats 2000000 in
theorem elder_walk (a0 a1 a2 a3 a4 : Int) (w : World) : Calls Try.prog 6 #[.int .i64 a0, .int .i64 a1, .int .i64 a2, .int .i64 a3, .int .i64 a4] w fun e w' => e = .returned (.bool true) ∧ Fr All w w' := by
  go_enter Try.func6, Try.ntmps6
  go_wp2_with fail
  refine (first_call _).mono ?_
  rintro e w1 ⟨rfl, f1⟩
  go_wp2_with fail
  refine (number _ (by decide) (by decide)).mono ?_
  rintro e _ ⟨n, hn, rfl, rfl⟩
  obtain ⟨N, hN⟩ : ∃ N : Nat, (N : Int) = (n : Int) + 1 := ⟨n + 1, by omega⟩
  have hw1 : IntKind.i64.wrap ((n : Int) + 1) = (N : Int) := by rw [IntWalk.i64_in _ (by omega), hN]
  have hN8 : N ≤ 8 := by omega
  clear hN hn
  go_wp2_with fail
  refine (number _ (by decide) (by decide)).mono ?_
  rintro e _ ⟨id, hid, rfl, rfl⟩
  go_wp2_with fail
  refine (rows_call _ hN8).mono ?_
  rintro e w2 ⟨A2, c2, rfl, o2, f2⟩
  have el2 : (rowPage N).ents.length = N := rowEnts_len N
  rw [el2] at o2 ⊢
  have F2 := f1.trans f2
  dsimp only [rowPage] at o2 ⊢
  clear hw1 el2
  generalize bits BinOp.and IntKind.i64 a3 15 = lb
  obtain ⟨L, hL⟩ : ∃ L : Int, (if (1 : Int) < lb then lb else 1) = L := ⟨_, rfl⟩
  go_wp2_with fail
  refine (number _ (by decide) (by decide)).mono ?_
  rintro e _ ⟨kd, hkd, rfl, rfl⟩
  obtain ⟨K, hK⟩ : ∃ K : Int, K = (kd : Int) + 1 := ⟨_, rfl⟩
  have hw2 : IntKind.i64.wrap ((kd : Int) + 1) = K := by rw [IntWalk.i64_in _ (by omega), hK]
  clear hK hkd
  go_wp2_with fail
  refine (number _ (by decide) (by decide)).mono ?_
  rintro e _ ⟨sl, hsl, rfl, rfl⟩
  clear hw2
  obtain ⟨w3, hw3⟩ : ∃ w3, w2.alloc (.cells #[.int .i64 5, .int .i64 N, .int .i64 0, .int .i64 (-1), .slice A2 N c2] 26) = w3 := ⟨_, rfl⟩
  have P := heap_alloc_new w2 (.cells #[.int .i64 5, .int .i64 N, .int .i64 0, .int .i64 (-1), .slice A2 N c2] 26)
  have F3 := F2.alloc (.cells #[.int .i64 5, .int .i64 N, .int .i64 0, .int .i64 (-1), .slice A2 N c2] 26)
  have o3 := o2.all ((Fr.refl All w2).alloc (.cells #[.int .i64 5, .int .i64 N, .int .i64 0, .int .i64 (-1), .slice A2 N c2] 26))
  have z3 : w3.heap.size = w2.heap.size + 1 := by rw [← hw3, World.size_alloc]
  rw [hw3] at P F3 o3 ⊢
  have lP := blk_lt P
  obtain ⟨p0, p1, p2, p3, p4, pz⟩ := blk5 P
  go_wp2_with fail
  obtain ⟨w4, hw4⟩ : ∃ w4, (w3.alloc (.cells #[.int .u8 1] 5)).alloc (.cells #[.int .i64 L, .int .i64 0, .int .i64 0, .int .i64 0, .int .i64 id, .int .i64 K, .int .i64 sl, .slice (some ⟨w2.heap.size + 1, 0, none⟩) 1 1, .slice none 0 0, .bool false] 31) = w4 := ⟨_, rfl⟩
  have R := heap_alloc_new (w3.alloc (.cells #[.int .u8 1] 5)) (.cells #[.int .i64 L, .int .i64 0, .int .i64 0, .int .i64 0, .int .i64 id, .int .i64 K, .int .i64 sl, .slice (some ⟨w2.heap.size + 1, 0, none⟩) 1 1, .slice none 0 0, .bool false] 31)
  have G4 : Fr All w3 w4 := by rw [← hw4]; exact ((Fr.refl All w3).alloc _).alloc _
  have key : Sl kByte All w4 (.slice (some ⟨w2.heap.size + 1, 0, none⟩) 1 1) [1] := by
    have h1 := Sl.byte w3 All 1 5 trivial
    rw [z3] at h1
    rw [← hw4]
    exact h1.all ((Fr.refl All _).alloc _)
  have z4 : w4.heap.size = w2.heap.size + 3 := by rw [← hw4, World.size_alloc, World.size_alloc, z3]
  rw [World.size_alloc, z3] at R
  rw [hw4] at R ⊢
  have P4 := (G4.block w2.heap.size (by omega) trivial).trans P
  refine (page_apply (p := rowPage N) (r := ⟨L, 0, 0, 0, id, K, sl, [1], [], false⟩) (o3.all G4) (rowEnts_ok (by omega)) key (Sl.nil_ _ All _) (by simp) (by simp) (by show (0 : Int) ≤ (sl : Int); omega)).mono ?_
  rintro e w5 ⟨A5, c5, rfl, o5, f5⟩
  have o5' := Applied.sl o5
  have P5 := (f5.block w2.heap.size (by omega) trivial).trans P4
  have R5 := (f5.block (w2.heap.size + 1 + 1) (by omega) trivial).trans R
  have F5 := (F3.trans G4).trans f5
  have o35 := (o3.all G4).all f5
  have lP5 := blk_lt P5
  have lR5 := blk_lt R5
  clear o5 p0 p1 p2 p3 p4 pz P P4 R key hw3 hw4 o2 o3 hL lP
  obtain ⟨p0, p1, p2, p3, p4, pz⟩ := blk5 P5
  obtain ⟨r0, r1, r2, r3, r4, r5, r6, r7, r8, r9, rz⟩ := blk10 R5
  by_cases hs : L ≤ (N : Int)
  · have hs' : decide (L ≤ (N : Int)) = true := decide_eq_true hs
    rw [papply_skip (.inr hs)] at o5' ⊢
    have el2 : (rowPage N).ents.length = N := rowEnts_len N
    rw [el2] at o5' ⊢
    dsimp only [rowPage] at o5' ⊢
    clear hs el2
    go_wp2_with fail
    refine (same_page (p := rowPage N) (o5'.all ((Fr.refl All w5).alloc _)) (o35.all ((Fr.refl All w5).alloc _)) (by have := (rowEnts_ok hN8).1; show (rowEnts N).length ≤ _; omega) (fun x hx => by have := (rowEnts_ok hN8).2 x hx; omega)).mono ?_
    rintro e w6 ⟨rfl, f6⟩
    go_wp2_with fail
    go_ret
    exact ⟨rfl, (F5.alloc _).trans f6⟩
  · have hs' : decide (L ≤ (N : Int)) = false := decide_eq_false hs
    by_cases hid5 : id = 5
    · subst hid5
      have hq := papply_goes (p := rowPage N) (r := ⟨L, 0, 0, 0, ((5 : Nat) : Int), K, sl, [1], [], false⟩) (fun h => h.elim (fun h => h rfl) hs)
      generalize papply (rowPage N) ⟨L, 0, 0, 0, ((5 : Nat) : Int), K, sl, [1], [], false⟩ = q at hq o5' ⊢
      obtain ⟨q0, q1, q2, q3, q4⟩ := q
      dsimp only [rowPage] at hq o5' ⊢
      obtain ⟨rfl, rfl⟩ := hq
      clear hs o5'
      go_wp2_with fail
      go_ret
      exact ⟨rfl, F5.alloc _⟩
    · have hne : ((id : Int) != 5) = true := by rw [bne_iff_ne]; omega
      rw [papply_skip (.inl (by show (id : Int) ≠ 5; omega))] at o5' ⊢
      have el2 : (rowPage N).ents.length = N := rowEnts_len N
      rw [el2] at o5' ⊢
      dsimp only [rowPage] at o5' ⊢
      clear hs el2
      go_wp2_with fail
      refine (same_page (p := rowPage N) (o5'.all ((Fr.refl All w5).alloc _)) (o35.all ((Fr.refl All w5).alloc _)) (by have := (rowEnts_ok hN8).1; show (rowEnts N).length ≤ _; omega) (fun x hx => by have := (rowEnts_ok hN8).2 x hx; omega)).mono ?_
      rintro e w6 ⟨rfl, f6⟩
      go_wp2_with fail
      go_ret
      exact ⟨rfl, (F5.alloc _).trans f6⟩
end Go.Proofs.Ytblogahililddaa
