/- The walk of the law on cuts. -/
import Derived.Test.YtblogahililddaaLaw
import Derived.Test.YtblogahililddaaRef
namespace Go.Proofs.Ytblogahililddaa
open Go.RowKit

set_option maxHeartbeats 2000000 in
theorem cuts_walk (a0 a1 a2 : Int) (w : World) : Calls Try.prog 4 #[.int .i64 a0, .int .i64 a1, .int .i64 a2] w fun e w' => e = .returned (.bool true) ∧ Fr All w w' := by
  go_enter Try.func4, Try.ntmps4
  go_wp2_with fail
  refine (first_call _).mono ?_
  rintro e w1 ⟨rfl, f1⟩
  go_wp2_with fail
  refine (number _ (by decide) (by decide)).mono ?_
  rintro e _ ⟨n, hn, rfl, rfl⟩
  go_wp2_with fail
  refine (number _ (by decide) (by decide)).mono ?_
  rintro e _ ⟨k, hk, rfl, rfl⟩
  go_wp2_with fail
  refine (number _ (by decide) (by decide)).mono ?_
  rintro e _ ⟨l, hl, rfl, rfl⟩
  go_wp2_with fail
  refine (rows_call _ (by omega)).mono ?_
  rintro e w2 ⟨A2, c2, rfl, o2, f2⟩
  have el2 : (rowPage n).ents.length = n := rowEnts_len n
  rw [el2] at o2 ⊢
  have F2 := f1.trans f2
  dsimp only [rowPage] at o2 ⊢
  go_wp2_with fail
  obtain ⟨w3, hw3⟩ : ∃ w3, w2.alloc (.cells #[.int .i64 5, .int .i64 n, .int .i64 0, .int .i64 (-1), .slice A2 n c2] 26) = w3 := ⟨_, rfl⟩
  have P := heap_alloc_new w2 (.cells #[.int .i64 5, .int .i64 n, .int .i64 0, .int .i64 (-1), .slice A2 n c2] 26)
  have F3 := F2.alloc (.cells #[.int .i64 5, .int .i64 n, .int .i64 0, .int .i64 (-1), .slice A2 n c2] 26)
  have o3 := o2.all ((Fr.refl All w2).alloc (.cells #[.int .i64 5, .int .i64 n, .int .i64 0, .int .i64 (-1), .slice A2 n c2] 26))
  have z3 : w3.heap.size = w2.heap.size + 1 := by rw [← hw3, World.size_alloc]
  rw [hw3] at P F3 o3 ⊢
  obtain ⟨m, hm⟩ : ∃ m, m = min k n := ⟨_, rfl⟩
  refine (apply_cut (p := rowPage n) o3 (rowEnts_ok (by omega)) ⟨_, _, _, rfl⟩ ⟨_, _, _, rfl⟩ rfl (by show (n : Int) < 50; omega) (by omega)).mono ?_
  rintro e w4 ⟨A4, c4, rfl, o4, f4⟩
  have o4' := Applied.sl o4
  clear o4
  dsimp only [rowPage] at o4' ⊢
  have hlm : (rowEnts n).take (min (k : Int).toNat (rowEnts n).length) = (rowEnts n).take m := by rw [rowEnts_len, hm, Int.toNat_natCast]
  have hml : ((rowEnts n).take m).length = m := by rw [List.length_take, rowEnts_len]; omega
  rw [hlm, hml] at o4' ⊢
  have Hm := Lib.hid hm
  clear hm
  have P4 := (f4.block w2.heap.size (by omega) trivial).trans P
  have l4 := blk_lt P4
  obtain ⟨p0, p1, p2, p3, p4, pz⟩ := blk5 P4
  go_wp2_with fail
  obtain ⟨w5, hw5⟩ : ∃ w5, w4.alloc (.cells #[.int .i64 5, .int .i64 50, .int .i64 0, .int .i64 (-1), .slice A4 m c4] 26) = w5 := ⟨_, rfl⟩
  have Q := heap_alloc_new w4 (.cells #[.int .i64 5, .int .i64 50, .int .i64 0, .int .i64 (-1), .slice A4 m c4] 26)
  have G5 := f4.alloc (.cells #[.int .i64 5, .int .i64 50, .int .i64 0, .int .i64 (-1), .slice A4 m c4] 26)
  have o5 := o4'.all ((Fr.refl All w4).alloc (.cells #[.int .i64 5, .int .i64 50, .int .i64 0, .int .i64 (-1), .slice A4 m c4] 26))
  have z5 : w5.heap.size = w4.heap.size + 1 := by rw [← hw5, World.size_alloc]
  rw [hw5] at Q G5 o5 ⊢
  clear p0 p1 p2 p3 p4 pz
  have F5 := F3.trans G5
  have o3' := o3.all G5
  have z4 : w3.heap.size ≤ w4.heap.size := f4.size
  refine (apply_format (p := rowPage n) o3' (rowEnts_ok (by omega)) ⟨_, _, _, rfl⟩ ⟨_, _, _, rfl⟩ rfl (by show (n : Int) < 50; omega)).mono ?_
  rintro e w6 ⟨A6, c6, rfl, o6, f6⟩
  clear o6
  dsimp only [rowPage]
  obtain ⟨lv, hlv⟩ : ∃ lv : Int, (if 16 < (l : Int) then 16 else (l : Int)) = lv := ⟨_, rfl⟩
  rw [hlv]
  have Q6 := (f6.block w4.heap.size (by omega) trivial).trans Q
  have P6 := ((f6.block w2.heap.size (by omega) trivial).trans (G5.block w2.heap.size (by omega) trivial)).trans P
  obtain ⟨p0, p1, p2, p3, p4, pz⟩ := blk5 P6
  obtain ⟨q0, q1, q2, q3, q4, qz⟩ := blk5 Q6
  have hmin : (if (k : Int) < (n : Int) then (k : Int) else (n : Int)) = (m : Int) := by rw [Hm.out]; split <;> omega
  have hmn : m ≤ n := by rw [Hm.out]; omega
  have l6 := blk_lt P6
  have l7 := blk_lt Q6
  clear hlm Q6 P6 P4 P Q
  go_wp2_with fail
  all_goals
    have o7 : Sl kEnt _ _ (.slice A2 n c2) (rowEnts n) := (o3'.all f6).all ((Fr.refl All w6).alloc (.cells #[.int .i64 5, .int .i64 50, .int .i64 lv, .int .i64 (-1), .slice A6 0 c6] 26))
    have o8 : Sl kEnt _ _ (.slice A4 m c4) ((rowEnts n).take m) := (o5.all f6).all ((Fr.refl All w6).alloc (.cells #[.int .i64 5, .int .i64 50, .int .i64 lv, .int .i64 (-1), .slice A6 0 c6] 26))
    have F7 := (F5.trans f6).alloc (.cells #[.int .i64 5, .int .i64 50, .int .i64 lv, .int .i64 (-1), .slice A6 0 c6] 26)
    have F67 := (Fr.refl All w6).alloc (.cells #[.int .i64 5, .int .i64 50, .int .i64 lv, .int .i64 (-1), .slice A6 0 c6] 26)
    have t4 := F67.cell trivial p4
    have u4 := F67.cell trivial q4
    clear p0 p1 p2 p3 p4 pz q0 q1 q2 q3 q4 qz
    generalize w6.alloc (.cells #[.int .i64 5, .int .i64 50, .int .i64 lv, .int .i64 (-1), .slice A6 0 c6] 26) = w7 at *
    go_loopw [11] (fun i wr => ∃ j : Nat, j ≤ m ∧ i = .int .i64 j ∧ Fr All w7 wr) (fun i _ => m - (intOf i).toNat)
    case atStart => exact ⟨0, Nat.zero_le _, rfl, Fr.refl _ _⟩
    case round =>
      obtain ⟨j, hj, rfl, HF⟩ := hrel
      have x4 := HF.cell trivial t4
      have y4 := HF.cell trivial u4
      by_cases hlt : j < m
      · obtain ⟨x, hx, xm⟩ := get_of (l := rowEnts n) (k := j) (by rw [rowEnts_len]; omega)
        have hy : ((rowEnts n).take m)[j]? = some x := by rw [List.getElem?_take, if_pos hlt, hx]
        obtain ⟨b, o, A0, n0, c0, A1, n1, c1, rfl, x0, x1, k0, k1⟩ := ent_at (o7.all HF) hx
        obtain ⟨b', o', B0, m0, d0, B1, m1, d1, rfl, y0, y1, l0, l1⟩ := ent_at (o8.all HF) hy
        have b0 : (0 : Int) ≤ (j : Int) := by omega
        have b1 : (j : Int) < (m : Int) := by omega
        have b2 : (j : Int) < (n : Int) := by omega
        have hs1 := (rowEnts_ok (n := n) (by omega)).2 x xm
        have hd : decide (x = x) = true := decide_eq_true rfl
        clear hx hy xm
        go_wp2_with fail
        go_region_held3 (fun w' => w'.cell? ⟨w2.heap.size, 4, none⟩ = some (.slice (some ⟨b, o, none⟩) n c2) ∧ w'.cell? ⟨w4.heap.size, 4, none⟩ = some (.slice (some ⟨b', o', none⟩) m c4) ∧ w'.cell? ⟨b, o + j * 2, none⟩ = some (.slice A0 n0 c0) ∧ w'.cell? ⟨b, o + j * 2 + 1, none⟩ = some (.slice A1 n1 c1) ∧ w'.cell? ⟨b', o' + j * 2, none⟩ = some (.slice B0 m0 d0) ∧ w'.cell? ⟨b', o' + j * 2 + 1, none⟩ = some (.slice B1 m1 d1))
          (first | go_keep | (go_split_ands; refine ⟨?_, ?_, ?_, ?_, ?_, ?_⟩ <;> exact Fr.cell (by assumption) trivial (by assumption)))
          (first | (go_at_call 15; refine (same_entry (l0.all (Fr.refl All _).drew) (l1.all (Fr.refl All _).drew) (k0.all (Fr.refl All _).drew) (k1.all (Fr.refl All _).drew) (by omega) (by omega)).mono ?_; rintro e w8 ⟨rfl, f8⟩))
        go_wp2_with fail
        go_roundw
        case rel => exact ⟨j + 1, by omega, by go_num, HF.drew.trans f8⟩
        case measure => simp [intOf]; omega
      · obtain rfl : j = m := by omega
        go_wp2_with fail
        go_ret
        exact ⟨rfl, F7.trans HF⟩
end Go.Proofs.Ytblogahililddaa
