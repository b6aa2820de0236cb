/- The walk of the law on changes. -/
import Derived.Test.YtblogahililddaaLaw
import Derived.Test.YtblogahililddaaApply4
import Derived.Test.YtblogahililddaaRef
namespace Go.Proofs.Ytblogahililddaa
open Go.RowKit

/-- The entries with one value turned. -/
def turned (k : Nat) (vb : List UInt8) (l : List Ent) : List Ent := match l[k]? with | some x => l.set k ⟨x.key, vb⟩ | none => l
theorem turned_len (k : Nat) (vb : List UInt8) (l : List Ent) : (turned k vb l).length = l.length := by
  unfold turned
  split
  · rw [List.length_set]
  · rfl
theorem turned_at {k : Nat} {vb : List UInt8} {l : List Ent} {i : Nat} {x : Ent} (h : l[i]? = some x) : (turned k vb l)[i]? = some ⟨x.key, if i = k then vb else x.val⟩ := by
  unfold turned
  by_cases hik : i = k
  · subst hik
    rw [h]
    dsimp only
    rw [List.getElem?_set_self (List.getElem?_eq_some_iff.1 h).1, if_pos rfl]
  · rw [if_neg hik]
    split
    · rw [List.getElem?_set_ne (Ne.symm hik), h]
    · exact h
theorem papply_change {p : Page} {lsn back epoch group : Int} {k : Nat} {key vb : List UInt8} {last : Bool} (hl : p.lsn < lsn) : papply p ⟨lsn, back, epoch, group, p.id, 4, k, key, vb, last⟩ = { p with lsn := lsn, ents := turned k vb p.ents } := by
  unfold papply turned
  rw [if_neg (fun h => h.elim (fun h => h rfl) (fun h => by dsimp only at h; omega))]
  dsimp only
  rw [if_neg (by decide), if_neg (by decide), if_neg (by decide), if_pos rfl, Int.toNat_natCast]
  cases p.ents[k]? <;> rfl

set_option maxHeartbeats 2000000 in
theorem changes_walk (a0 a1 a2 : Int) {a3 : Option Addr} {len3 cap3 : Nat} {vb : List UInt8} (w : World) (hv : Sl kByte All w (.slice a3 len3 cap3) vb) : Calls Try.prog 5 #[.int .i64 a0, .int .i64 a1, .int .i64 a2, .slice a3 len3 cap3] w fun e w' => e = .returned (.bool true) ∧ Fr All w w' := by
  have hvl := hv.len
  by_cases hlong : 64 < len3
  · go_enter Try.func5, Try.ntmps5
    go_wp2_with fail
    refine (first_call _).mono ?_
    rintro e w1 ⟨rfl, f1⟩
    go_wp2_with fail
    refine (number _ (by decide) (by decide)).mono ?_
    rintro e _ ⟨n, hn, rfl, rfl⟩
    go_wp2_with fail
    refine (number _ (by decide) (by decide)).mono ?_
    rintro e _ ⟨k, hk, rfl, rfl⟩
    go_wp2_with fail
    refine (number _ (by decide) (by decide)).mono ?_
    rintro e _ ⟨l, hl, rfl, rfl⟩
    have hg : decide ((len3 : Int) > 64) = true := decide_eq_true (by omega)
    go_wp2_with fail
    go_ret
    exact ⟨rfl, f1⟩
  have hg : decide ((len3 : Int) > 64) = false := decide_eq_false (by omega)
  go_enter Try.func5, Try.ntmps5
  go_wp2_with fail
  refine (first_call _).mono ?_
  rintro e w1 ⟨rfl, f1⟩
  go_wp2_with fail
  refine (number _ (by decide) (by decide)).mono ?_
  rintro e _ ⟨n, hn, rfl, rfl⟩
  go_wp2_with fail
  refine (number _ (by decide) (by decide)).mono ?_
  rintro e _ ⟨k, hk, rfl, rfl⟩
  go_wp2_with fail
  refine (number _ (by decide) (by decide)).mono ?_
  rintro e _ ⟨l, hl, rfl, rfl⟩
  go_wp2_with fail
  refine (rows_call _ (by omega)).mono ?_
  rintro e w2 ⟨A2, c2, rfl, o2, f2⟩
  have el2 : (rowPage n).ents.length = n := rowEnts_len n
  rw [el2] at o2 ⊢
  have F2 := f1.trans f2
  dsimp only [rowPage] at o2 ⊢
  clear el2
  go_wp2_with fail
  obtain ⟨w3, hw3⟩ : ∃ w3, w2.alloc (.cells #[.int .i64 5, .int .i64 n, .int .i64 0, .int .i64 (-1), .slice A2 n c2] 26) = w3 := ⟨_, rfl⟩
  have P := heap_alloc_new w2 (.cells #[.int .i64 5, .int .i64 n, .int .i64 0, .int .i64 (-1), .slice A2 n c2] 26)
  have F3 := F2.alloc (.cells #[.int .i64 5, .int .i64 n, .int .i64 0, .int .i64 (-1), .slice A2 n c2] 26)
  have o3 := o2.all ((Fr.refl All w2).alloc (.cells #[.int .i64 5, .int .i64 n, .int .i64 0, .int .i64 (-1), .slice A2 n c2] 26))
  have z3 : w3.heap.size = w2.heap.size + 1 := by rw [← hw3, World.size_alloc]
  rw [hw3] at P F3 o3 ⊢
  have key : Sl kByte All (w3.alloc (.cells #[.int .u8 99] 5)) (.slice (some ⟨w2.heap.size + 1, 0, none⟩) 1 1) [99] := by
    have h1 := Sl.byte w3 All 99 5 trivial
    rw [z3] at h1
    exact h1
  refine (page_apply (p := rowPage n) (r := ⟨50, 0, 0, 0, (rowPage n).id, 4, k, [99], vb, false⟩) (o3.all ((Fr.refl All w3).alloc _)) (rowEnts_ok (by omega)) key ((hv.all F3).all ((Fr.refl All w3).alloc _)) (by simp) (by show vb.length ≤ 1000000; omega) (by show (0 : Int) ≤ (k : Int); omega)).mono ?_
  rintro e w4 ⟨A4, c4, rfl, o4, f4⟩
  rw [papply_change (show (n : Int) < 50 by omega)] at o4 ⊢
  have o4' := Applied.sl o4
  clear o4 key
  dsimp only [rowPage] at o4' ⊢
  rw [turned_len, rowEnts_len] at o4' ⊢
  have G4 := ((Fr.refl All w3).alloc (.cells #[.int .u8 99] 5)).then_all f4
  have P4 := (G4.block w2.heap.size (by omega) trivial).trans P
  have P4' := P
  have l4 := blk_lt P4
  obtain ⟨p0, p1, p2, p3, p4, pz⟩ := blk5 P4
  clear P
  go_wp2_with fail
  obtain ⟨w5, hw5⟩ : ∃ w5, w4.alloc (.cells #[.int .i64 5, .int .i64 50, .int .i64 0, .int .i64 (-1), .slice A4 n c4] 26) = w5 := ⟨_, rfl⟩
  have Q := heap_alloc_new w4 (.cells #[.int .i64 5, .int .i64 50, .int .i64 0, .int .i64 (-1), .slice A4 n c4] 26)
  have G5 := G4.alloc (.cells #[.int .i64 5, .int .i64 50, .int .i64 0, .int .i64 (-1), .slice A4 n c4] 26)
  have o5 := o4'.all ((Fr.refl All w4).alloc (.cells #[.int .i64 5, .int .i64 50, .int .i64 0, .int .i64 (-1), .slice A4 n c4] 26))
  have z5 : w5.heap.size = w4.heap.size + 1 := by rw [← hw5, World.size_alloc]
  rw [hw5] at Q G5 o5 ⊢
  clear p0 p1 p2 p3 p4 pz o4' G4
  have F5 := F3.trans G5
  have o3' := o3.all G5
  have z4 : w3.heap.size ≤ w4.heap.size := by have := G5.size; omega
  have hcont : Calls Try.prog 13 #[.agg #[.int .i64 5, .int .i64 n, .int .i64 0, .int .i64 (-1), .slice A2 n c2], .agg #[.int .i64 50, .int .i64 0, .int .i64 0, .int .i64 0, .int .i64 5, .int .i64 5, .int .i64 l, .slice none 0 0, .slice none 0 0, .bool false]] w5 (Applied w5 ⟨5, 50, 0, if 256 ≤ (l : Int) then -1 else (l : Int), rowEnts n⟩) := by
    by_cases h256 : 256 ≤ (l : Int)
    · rw [if_pos h256]
      exact apply_link_none (p := rowPage n) o3' (rowEnts_ok (by omega)) ⟨_, _, _, rfl⟩ ⟨_, _, _, rfl⟩ rfl (by show (n : Int) < 50; omega) h256
    · rw [if_neg h256]
      exact apply_link (p := rowPage n) o3' (rowEnts_ok (by omega)) ⟨_, _, _, rfl⟩ ⟨_, _, _, rfl⟩ rfl (by show (n : Int) < 50; omega) (by omega)
  refine hcont.mono ?_
  rintro e w6 ⟨A6, c6, rfl, o6, f6⟩
  clear hcont
  have o6' := Applied.sl o6
  clear o6
  obtain ⟨nx, hnx⟩ : ∃ nx : Int, (if 256 ≤ (l : Int) then -1 else (l : Int)) = nx := ⟨_, rfl⟩
  rw [hnx] at o6' ⊢
  dsimp only at o6' ⊢
  rw [rowEnts_len] at o6' ⊢
  have Q6 := (f6.block w4.heap.size (by omega) trivial).trans Q
  have P6 := ((f6.block w2.heap.size (by omega) trivial).trans (G5.block w2.heap.size (by omega) trivial)).trans P4'
  have l6 := blk_lt P6
  have l7 := blk_lt Q6
  obtain ⟨p0, p1, p2, p3, p4, pz⟩ := blk5 P6
  obtain ⟨q0, q1, q2, q3, q4, qz⟩ := blk5 Q6
  have F6 := F5.trans f6
  have o36 := o3'.all f6
  have o56 := o5.all f6
  have hv6 := hv.all F6
  clear Q6 P6 Q o3 o3' o5 hw5 hw3
  have F67 := (Fr.refl All w6).alloc (.cells #[.int .i64 5, .int .i64 50, .int .i64 0, .int .i64 nx, .slice A6 n c6] 26)
  by_cases h256 : 256 ≤ (l : Int)
  · rw [if_pos h256] at hnx
    have hd : decide ((l : Int) ≥ 256) = true := decide_eq_true h256
    subst hnx
    clear h256
    go_wp2_with fail
    refine (same_entrys (xs := rowEnts n) (ys := rowEnts n) (o6'.all F67) (o36.all F67) (by rw [rowEnts_len]; omega) (fun x hx => by have := (rowEnts_ok (n := n) (by omega)).2 x hx; omega)).mono ?_
    rintro e w8 ⟨rfl, f8⟩
    have hdd : decide (rowEnts n = rowEnts n) = true := decide_eq_true rfl
    have F8 := F67.then_all f8
    have t4 := F8.cell trivial p4
    have u4 := F8.cell trivial q4
    have o38 := o36.all F8
    have o58 := o56.all F8
    have hv8 := hv6.all F8
    have FF := F6.then_all F8
    clear p0 p1 p2 p3 p4 pz q0 q1 q2 q3 q4 qz F67 f8 F8 o36 o56 hv6 o6'
    go_wp2_with fail
    clear hdd
    go_loopw [14] (fun i wr => ∃ j : Nat, j ≤ n ∧ i = .int .i64 j ∧ Fr All w8 wr) (fun i _ => n - (intOf i).toNat)
    case atStart => exact ⟨0, Nat.zero_le _, rfl, Fr.refl _ _⟩
    case round =>
      obtain ⟨j, hj, rfl, HF⟩ := hrel
      have x4 := HF.cell trivial t4
      have y4 := HF.cell trivial u4
      by_cases hlt : j < n
      · obtain ⟨x, hx, xm⟩ := get_of (l := rowEnts n) (k := j) (by rw [rowEnts_len]; omega)
        have hy := turned_at (k := k) (vb := vb) hx
        obtain ⟨b, o, A0, n0, c0, A1, n1, c1, rfl, x0, x1, k0, k1⟩ := ent_at (o38.all HF) hx
        obtain ⟨b', o', B0, m0, d0, B1, m1, d1, rfl, y0, y1, l0, l1⟩ := ent_at (o58.all HF) hy
        have hv9 := hv8.all HF
        have b0 : (0 : Int) ≤ (j : Int) := by omega
        have b1 : (j : Int) < (n : Int) := by omega
        have hs1 := (rowEnts_ok (n := n) (by omega)).2 x xm
        have hd2 : decide (x.key = x.key) = true := decide_eq_true rfl
        have hd3 : decide (x.val = x.val) = true := decide_eq_true rfl
        have hd4 : decide (vb = vb) = true := decide_eq_true rfl
        clear hx hy xm
        by_cases hjk : j = k
        · rw [if_pos hjk] at l1
          dsimp only at l0 l1
          have he : ((j : Int) == (k : Int)) = true := by rw [beq_iff_eq]; omega
          clear hjk
          go_wp2_with fail
          go_region_held3 (fun w' => w'.cell? ⟨w2.heap.size, 4, none⟩ = some (.slice (some ⟨b, o, none⟩) n c2) ∧ w'.cell? ⟨w4.heap.size, 4, none⟩ = some (.slice (some ⟨b', o', none⟩) n c4) ∧ w'.cell? ⟨b, o + j * 2, none⟩ = some (.slice A0 n0 c0) ∧ w'.cell? ⟨b', o' + j * 2, none⟩ = some (.slice B0 m0 d0) ∧ w'.cell? ⟨b', o' + j * 2 + 1, none⟩ = some (.slice B1 m1 d1))
            (first | go_keep | (go_split_ands; refine ⟨?_, ?_, ?_, ?_, ?_⟩ <;> exact Fr.cell (by assumption) trivial (by assumption)))
            (first
              | (go_at_call_of 17 (Value.slice B0 m0 d0); refine (same_bytes (l0.all (Fr.refl All _).drew) (k0.all (Fr.refl All _).drew) (by omega)).mono ?_; rintro e wa ⟨rfl, fa⟩)
              | (go_at_call_of 17 (Value.slice B1 m1 d1); refine (same_bytes ((l1.all (Fr.refl All _).drew).all fa) ((hv9.all (Fr.refl All _).drew).all fa) (by omega)).mono ?_; rintro e wb ⟨rfl, fb⟩))
          go_wp2_with fail
          go_roundw
          case rel => exact ⟨j + 1, by omega, by go_num, (HF.drew.trans fa).trans fb⟩
          case measure => simp [intOf]; omega
        · rw [if_neg hjk] at l1
          dsimp only at l0 l1
          have he : ((j : Int) == (k : Int)) = false := by rw [beq_eq_false_iff_ne]; omega
          clear hjk
          go_wp2_with fail
          go_region_held3 (fun w' => w'.cell? ⟨w2.heap.size, 4, none⟩ = some (.slice (some ⟨b, o, none⟩) n c2) ∧ w'.cell? ⟨w4.heap.size, 4, none⟩ = some (.slice (some ⟨b', o', none⟩) n c4) ∧ w'.cell? ⟨b, o + j * 2, none⟩ = some (.slice A0 n0 c0) ∧ w'.cell? ⟨b', o' + j * 2, none⟩ = some (.slice B0 m0 d0) ∧ w'.cell? ⟨b', o' + j * 2 + 1, none⟩ = some (.slice B1 m1 d1))
            (first | go_keep | (go_split_ands; refine ⟨?_, ?_, ?_, ?_, ?_⟩ <;> exact Fr.cell (by assumption) trivial (by assumption)))
            (first
              | (go_at_call_of 17 (Value.slice B0 m0 d0); refine (same_bytes (l0.all (Fr.refl All _).drew) (k0.all (Fr.refl All _).drew) (by omega)).mono ?_; rintro e wa ⟨rfl, fa⟩)
              | (go_at_call_of 17 (Value.slice B1 m1 d1); refine (same_bytes ((l1.all (Fr.refl All _).drew).all fa) ((k1.all (Fr.refl All _).drew).all fa) (by omega)).mono ?_; rintro e wb ⟨rfl, fb⟩))
          go_wp2_with fail
          go_roundw
          case rel => exact ⟨j + 1, by omega, by go_num, (HF.drew.trans fa).trans fb⟩
          case measure => simp [intOf]; omega
      · obtain rfl : j = n := by omega
        go_wp2_with fail
        go_ret
        exact ⟨rfl, FF.trans HF⟩
  · rw [if_neg h256] at hnx
    have hd : decide ((l : Int) ≥ 256) = false := decide_eq_false h256
    subst hnx
    clear h256
    go_wp2_with fail
    refine (same_entrys (xs := rowEnts n) (ys := rowEnts n) (o6'.all F67) (o36.all F67) (by rw [rowEnts_len]; omega) (fun x hx => by have := (rowEnts_ok (n := n) (by omega)).2 x hx; omega)).mono ?_
    rintro e w8 ⟨rfl, f8⟩
    have hdd : decide (rowEnts n = rowEnts n) = true := decide_eq_true rfl
    have F8 := F67.then_all f8
    have t4 := F8.cell trivial p4
    have u4 := F8.cell trivial q4
    have o38 := o36.all F8
    have o58 := o56.all F8
    have hv8 := hv6.all F8
    have FF := F6.then_all F8
    clear p0 p1 p2 p3 p4 pz q0 q1 q2 q3 q4 qz F67 f8 F8 o36 o56 hv6 o6'
    go_wp2_with fail
    clear hdd
    go_loopw [14] (fun i wr => ∃ j : Nat, j ≤ n ∧ i = .int .i64 j ∧ Fr All w8 wr) (fun i _ => n - (intOf i).toNat)
    case atStart => exact ⟨0, Nat.zero_le _, rfl, Fr.refl _ _⟩
    case round =>
      obtain ⟨j, hj, rfl, HF⟩ := hrel
      have x4 := HF.cell trivial t4
      have y4 := HF.cell trivial u4
      by_cases hlt : j < n
      · obtain ⟨x, hx, xm⟩ := get_of (l := rowEnts n) (k := j) (by rw [rowEnts_len]; omega)
        have hy := turned_at (k := k) (vb := vb) hx
        obtain ⟨b, o, A0, n0, c0, A1, n1, c1, rfl, x0, x1, k0, k1⟩ := ent_at (o38.all HF) hx
        obtain ⟨b', o', B0, m0, d0, B1, m1, d1, rfl, y0, y1, l0, l1⟩ := ent_at (o58.all HF) hy
        have hv9 := hv8.all HF
        have b0 : (0 : Int) ≤ (j : Int) := by omega
        have b1 : (j : Int) < (n : Int) := by omega
        have hs1 := (rowEnts_ok (n := n) (by omega)).2 x xm
        have hd2 : decide (x.key = x.key) = true := decide_eq_true rfl
        have hd3 : decide (x.val = x.val) = true := decide_eq_true rfl
        have hd4 : decide (vb = vb) = true := decide_eq_true rfl
        clear hx hy xm
        by_cases hjk : j = k
        · rw [if_pos hjk] at l1
          dsimp only at l0 l1
          have he : ((j : Int) == (k : Int)) = true := by rw [beq_iff_eq]; omega
          clear hjk
          go_wp2_with fail
          go_region_held3 (fun w' => w'.cell? ⟨w2.heap.size, 4, none⟩ = some (.slice (some ⟨b, o, none⟩) n c2) ∧ w'.cell? ⟨w4.heap.size, 4, none⟩ = some (.slice (some ⟨b', o', none⟩) n c4) ∧ w'.cell? ⟨b, o + j * 2, none⟩ = some (.slice A0 n0 c0) ∧ w'.cell? ⟨b', o' + j * 2, none⟩ = some (.slice B0 m0 d0) ∧ w'.cell? ⟨b', o' + j * 2 + 1, none⟩ = some (.slice B1 m1 d1))
            (first | go_keep | (go_split_ands; refine ⟨?_, ?_, ?_, ?_, ?_⟩ <;> exact Fr.cell (by assumption) trivial (by assumption)))
            (first
              | (go_at_call_of 17 (Value.slice B0 m0 d0); refine (same_bytes (l0.all (Fr.refl All _).drew) (k0.all (Fr.refl All _).drew) (by omega)).mono ?_; rintro e wa ⟨rfl, fa⟩)
              | (go_at_call_of 17 (Value.slice B1 m1 d1); refine (same_bytes ((l1.all (Fr.refl All _).drew).all fa) ((hv9.all (Fr.refl All _).drew).all fa) (by omega)).mono ?_; rintro e wb ⟨rfl, fb⟩))
          go_wp2_with fail
          go_roundw
          case rel => exact ⟨j + 1, by omega, by go_num, (HF.drew.trans fa).trans fb⟩
          case measure => simp [intOf]; omega
        · rw [if_neg hjk] at l1
          dsimp only at l0 l1
          have he : ((j : Int) == (k : Int)) = false := by rw [beq_eq_false_iff_ne]; omega
          clear hjk
          go_wp2_with fail
          go_region_held3 (fun w' => w'.cell? ⟨w2.heap.size, 4, none⟩ = some (.slice (some ⟨b, o, none⟩) n c2) ∧ w'.cell? ⟨w4.heap.size, 4, none⟩ = some (.slice (some ⟨b', o', none⟩) n c4) ∧ w'.cell? ⟨b, o + j * 2, none⟩ = some (.slice A0 n0 c0) ∧ w'.cell? ⟨b', o' + j * 2, none⟩ = some (.slice B0 m0 d0) ∧ w'.cell? ⟨b', o' + j * 2 + 1, none⟩ = some (.slice B1 m1 d1))
            (first | go_keep | (go_split_ands; refine ⟨?_, ?_, ?_, ?_, ?_⟩ <;> exact Fr.cell (by assumption) trivial (by assumption)))
            (first
              | (go_at_call_of 17 (Value.slice B0 m0 d0); refine (same_bytes (l0.all (Fr.refl All _).drew) (k0.all (Fr.refl All _).drew) (by omega)).mono ?_; rintro e wa ⟨rfl, fa⟩)
              | (go_at_call_of 17 (Value.slice B1 m1 d1); refine (same_bytes ((l1.all (Fr.refl All _).drew).all fa) ((k1.all (Fr.refl All _).drew).all fa) (by omega)).mono ?_; rintro e wb ⟨rfl, fb⟩))
          go_wp2_with fail
          go_roundw
          case rel => exact ⟨j + 1, by omega, by go_num, (HF.drew.trans fa).trans fb⟩
          case measure => simp [intOf]; omega
      · obtain rfl : j = n := by omega
        go_wp2_with fail
        go_ret
        exact ⟨rfl, FF.trans HF⟩
end Go.Proofs.Ytblogahililddaa
