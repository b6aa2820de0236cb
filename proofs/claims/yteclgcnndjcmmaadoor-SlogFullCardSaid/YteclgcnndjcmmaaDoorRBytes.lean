/- redo.Bytes of a right record. -/
import Derived.Test.YteclgcnndjcmmaaDoorWire
import Derived.Test.YteclgcnndjcmmaaDoorValid
namespace Go.Proofs.YteclgcnndjcmmaaDoor
open Go.RowKit

def vints (l : List Int) : List UInt8 := l.flatMap fun n => vint (zig n)
def redoNums (r : Redo) : List Int := [r.lsn, r.back, r.epoch, r.group, r.page, r.kind, r.slot, if r.last then 1 else 0]
def bytesOf (b : List UInt8) : List UInt8 := vint (zig b.length) ++ b
def redoBytes (r : Redo) : List UInt8 := vints (redoNums r) ++ bytesOf r.key ++ bytesOf r.val

theorem vints_len (l : List Int) (h : ∀ n ∈ l, 0 ≤ n ∧ n < 4611686018427387904) : (vints l).length ≤ 9 * l.length := by
  induction l with
  | nil => simp [vints]
  | cons n l ih =>
    have h1 := ih fun m hm => h m (List.mem_cons_of_mem _ hm)
    have h2 := h n List.mem_cons_self
    have h3 := vint_len 9 (zig n) (by decide) (by simp only [zig, if_pos h2.1]; omega)
    simp only [vints, List.flatMap_cons, List.length_append, List.length_cons] at h1 ⊢
    omega
theorem vints_snoc (l : List Int) (n : Int) : vints (l ++ [n]) = vints l ++ vint (zig n) := by simp [vints]
theorem vints_snoc2 {l : List Int} {k : Nat} {x : Int} (h : l[k]? = some x) : vints (l.take (k + 1)) = vints (l.take k) ++ vint (zig x) := by rw [take_snoc h, vints_snoc]
theorem redoNums_small {r : Redo} (h : validIx r = none) : ∀ n ∈ redoNums r, 0 ≤ n ∧ n < 4611686018427387904 := by
  have := validIx_none h
  intro n hn
  simp only [redoNums, List.mem_cons, List.not_mem_nil, or_false] at hn
  rcases hn with rfl | rfl | rfl | rfl | rfl | rfl | rfl | rfl <;> first | omega | (split <;> omega)

theorem xs_short {xs zs k : List UInt8} (h : xs = zs ++ vint (zig k.length) ++ k) (h1 : zs.length ≤ 72) (h2 : k.length ≤ 32) : xs.length ≤ 1000000 := by
  have h3 := vint_len 9 (zig k.length) (by decide) (by simp only [zig]; split <;> omega)
  rw [h]
  simp only [List.length_append]
  omega
/-- A row of five numbers laid just now. -/
theorem Sl.ints5 (w : World) (a0 a1 a2 a3 a4 : Int) (t : TypeId) : Sl kInt All (w.alloc (.cells #[.int .i64 a0, .int .i64 a1, .int .i64 a2, .int .i64 a3, .int .i64 a4] t)) (.slice (some ⟨w.heap.size, 0, none⟩) 5 5) [a0, a1, a2, a3, a4] := by
  refine ⟨_, 5, rfl, Nat.le_refl _, by decide, fun _ => ⟨w.heap.size, 0, rfl, trivial, fun i x hi => ⟨[.int .i64 x], rfl, fun j u hu => ?_⟩⟩⟩
  cases j with
  | succ j => simp at hu
  | zero =>
    obtain rfl : Value.int .i64 x = u := by simpa using hu
    have h1 := World.news_of_block (cs := #[.int .i64 a0, .int .i64 a1, .int .i64 a2, .int .i64 a3, .int .i64 a4]) (t := t) (fr := (0, 0)) (heap_alloc_new w _) i (.int .i64 x)
      (by
        have : ([a0, a1, a2, a3, a4].map (Value.int .i64))[i]? = some (.int .i64 x) := by
          rw [List.getElem?_map, hi]
          rfl
        simpa using this)
    rw [addr_lit] at h1
    rw [show kInt.sz = 1 from rfl, Nat.mul_one, Nat.add_zero]
    exact h1
/-- A row of numbers laid just now. -/
theorem Sl.ints8 (w : World) (a0 a1 a2 a3 a4 a5 a6 a7 : Int) (t : TypeId) : Sl kInt All (w.alloc (.cells #[.int .i64 a0, .int .i64 a1, .int .i64 a2, .int .i64 a3, .int .i64 a4, .int .i64 a5, .int .i64 a6, .int .i64 a7] t)) (.slice (some ⟨w.heap.size, 0, none⟩) 8 8) [a0, a1, a2, a3, a4, a5, a6, a7] := by
  refine ⟨_, 8, rfl, Nat.le_refl _, by decide, fun _ => ⟨w.heap.size, 0, rfl, trivial, fun i x hi => ⟨[.int .i64 x], rfl, fun j u hu => ?_⟩⟩⟩
  cases j with
  | succ j => simp at hu
  | zero =>
    obtain rfl : Value.int .i64 x = u := by simpa using hu
    have h1 := World.news_of_block (cs := #[.int .i64 a0, .int .i64 a1, .int .i64 a2, .int .i64 a3, .int .i64 a4, .int .i64 a5, .int .i64 a6, .int .i64 a7]) (t := t) (fr := (0, 0)) (heap_alloc_new w _) i (.int .i64 x)
      (by
        have : ([a0, a1, a2, a3, a4, a5, a6, a7].map (Value.int .i64))[i]? = some (.int .i64 x) := by
          rw [List.getElem?_map, hi]
          rfl
        simpa using this)
    rw [addr_lit] at h1
    rw [show kInt.sz = 1 from rfl, Nat.mul_one, Nat.add_zero]
    exact h1

set_option maxRecDepth 100000 in
set_option maxHeartbeats 1000000 in
theorem redo_bytes {qs : List Addr} {w : World} {r : Redo} {v0 v1 : Value} {S T : Nat → Prop} (h : Errs w qs) (s0 : Sl kByte S w v0 r.key) (s1 : Sl kByte T w v1 r.val) (ok : validIx r = none) :
    Calls Tryd.prog 83 #[.agg #[.int .i64 r.lsn, .int .i64 r.back, .int .i64 r.epoch, .int .i64 r.group, .int .i64 r.page, .int .i64 r.kind, .int .i64 r.slot, v0, v1, .bool r.last]] w
      fun e w' => ∃ A c, e = .returned (.tuple #[.slice A (redoBytes r).length c, .nilIface]) ∧ Own kByte 5 w.heap.size All w' (.slice A (redoBytes r).length c) (redoBytes r) ∧ Fr All w w' := by
  obtain ⟨A0, n0, c0, rfl, e0, _⟩ := s0.open_
  obtain ⟨A1, n1, c1, rfl, e1, _⟩ := s1.open_
  have hv := validIx_none ok
  have hsm := redoNums_small ok
  have B := heap_alloc_new w (.cells #[.int .i64 r.lsn, .int .i64 r.back, .int .i64 r.epoch, .int .i64 r.group, .int .i64 r.page, .int .i64 r.kind, .int .i64 r.slot, .slice A0 n0 c0, .slice A1 n1 c1, .bool r.last] 36)
  have F0 := (Fr.refl All w).alloc (.cells #[.int .i64 r.lsn, .int .i64 r.back, .int .i64 r.epoch, .int .i64 r.group, .int .i64 r.page, .int .i64 r.kind, .int .i64 r.slot, .slice A0 n0 c0, .slice A1 n1 c1, .bool r.last] 36)
  have Hl0 := Lib.hid (show r.key.length ≤ 32 by omega)
  have Hl1 := Lib.hid (show r.val.length ≤ 64 by omega)
  have Hsm := Lib.hid hsm
  clear e0 e1 hv hsm
  go_enter Tryd.func83, Tryd.ntmps83
  go_wp2_with fail
  refine (valid_call (h.move F0) (s0.all F0) (s1.all F0)).mono ?_
  rintro e w1 ⟨rfl, f1⟩
  rw [ok, show errAt qs none = .nilIface from rfl]
  clear ok
  have B1 := (f1.block w.heap.size (blk_lt B) trivial).trans B
  have F1 := F0.trans f1
  obtain ⟨p0, p1, p2, p3, p4, p5, p6, p7, p8, p9, pz⟩ := blk10 B1
  cases hlast : r.last with
  | true =>
    rw [hlast] at p9
    have HE := Lib.hid (show redoNums r = [r.lsn, r.back, r.epoch, r.group, r.page, r.kind, r.slot, 1] by simp [redoNums, hlast])
    clear hlast
    have hN := Sl.ints8 w1 r.lsn r.back r.epoch r.group r.page r.kind r.slot 1 2
    have FN := F1.alloc (.cells #[.int .i64 r.lsn, .int .i64 r.back, .int .i64 r.epoch, .int .i64 r.group, .int .i64 r.page, .int .i64 r.kind, .int .i64 r.slot, .int .i64 1] 2)
    have BN := ((Fr.refl All w1).alloc (.cells #[.int .i64 r.lsn, .int .i64 r.back, .int .i64 r.epoch, .int .i64 r.group, .int .i64 r.page, .int .i64 r.kind, .int .i64 r.slot, .int .i64 1] 2)).block w.heap.size (blk_lt B1) trivial |>.trans B1
    rw [← HE.out] at hN
    go_wp2_with fail
    refine wp_name ?_
    intro W hW
    rw [← hW] at hN FN BN
    have HN := Lib.hid hN
    go_loopw [6, 33] (fun b i wr => ∃ (k : Nat) (zs : List UInt8), k ≤ 8 ∧ i = .int .i64 k ∧ Hid (zs = vints ((redoNums r).take k)) ∧ Own kByte 5 w.heap.size All wr b zs ∧ Fr All W wr) (fun _ i _ => 8 - (intOf i).toNat)
    case atStart => exact ⟨0, [], Nat.zero_le _, rfl, (rfl : [] = vints ((redoNums r).take 0)), Own.nil_ _ _ _ _ _, Fr.refl _ _⟩
    case round =>
      clear hW p0 p1 p2 p3 p4 p5 p6 p7 p8 p9 pz
      obtain ⟨k, zs, hk, rfl, HZ, HO, HF⟩ := hrel
      have hl8 : (redoNums r).length = 8 := rfl
      obtain ⟨A', c', rfl⟩ := HO.length
      by_cases hlt : k < 8
      · obtain ⟨x, hx, hmem⟩ := get_of (l := redoNums r) (k := k) (by rw [hl8]; exact hlt)
        obtain ⟨b, o, hA, c0'⟩ := (HN.out.all HF).at1 hx
        have hA2 := Option.some.inj hA
        injection hA2 with hb1 ho1 _
        subst hb1
        subst ho1
        rw [Nat.zero_add] at c0'
        have hx0 := (Hsm.out x hmem).1
        have hx1 := (Hsm.out x hmem).2
        have hlen : zs.length ≤ 1000000 := by
          rw [HZ.out]
          have := vints_len ((redoNums r).take k) (fun n hn => Hsm.out n (List.mem_of_mem_take hn))
          rw [List.length_take] at this
          omega
        have Hx := Lib.hid hx
        have b0 : (0 : Int) ≤ (k : Int) := by omega
        have b1 : (k : Int) < 8 := by omega
        clear hx hA hmem hl8 hN HE
        go_wp2_with fail
        refine (put2_call' HO.sl hlen (by omega) hx1).mono ?_
        rintro e w2 ⟨ys, A2, c2, rfl, HY, o2, f2⟩
        go_wp2_with fail
        go_roundw
        case rel =>
          refine ⟨k + 1, ys, by omega, by go_num, (?_ : ys = vints ((redoNums r).take (k + 1))), o2.lower (Nat.le_trans FN.size HF.size), HF.trans f2⟩
          rw [vints_snoc2 Hx.out, HY.out, HZ.out]
        case measure => simp [intOf]; omega
      · obtain rfl : k = 8 := by omega
        obtain ⟨_, _, _, _, _, _, _, p7, p8, _, _⟩ := blk10 ((HF.block w.heap.size (blk_lt BN) trivial).trans BN)
        have FW := FN.trans HF
        have hlen : zs.length ≤ 72 := by
          rw [HZ.out, show (redoNums r).take 8 = redoNums r from rfl]
          have := vints_len (redoNums r) Hsm.out
          rw [hl8] at this
          omega
        clear HN hN hl8 hlt hk HE B B1 BN F0 F1 f1
        go_wp2_with fail
        go_region_held3 (fun w' => w'.cell? ⟨w.heap.size, 7, none⟩ = some (.slice A0 n0 c0) ∧ w'.cell? ⟨w.heap.size, 8, none⟩ = some (.slice A1 n1 c1))
          (first | go_keep | (go_split_ands; refine ⟨?_, ?_⟩ <;> exact Fr.cell (by assumption) trivial (by assumption)))
          (first
            | (go_at_call_of 93 (Value.slice A0 n0 c0); refine (put_bytes_call' (HO.all (Fr.refl All _).drew).sl (s0.all FW.drew) (by omega) (by have := Hl0.out; omega)).mono ?_; rintro e w2 ⟨xs, A2, c2, rfl, HX, o2, f2⟩)
            | (go_at_call_of 93 (Value.slice A1 n1 c1); refine (put_bytes_call' o2.sl (s1.all (FW.drew.trans f2)) (xs_short HX.out hlen Hl0.out) (by have := Hl1.out; omega)).mono ?_; rintro e w3 ⟨us, A3, c3, rfl, HU, o3, f3⟩))
        go_wp2_with fail
        go_ret2
        have he : redoBytes r = us := by
          rw [HU.out, HX.out, HZ.out]
          simp [redoBytes, bytesOf, redoNums]
        rw [he]
        exact ⟨A3, c3, rfl, o3.lower (Nat.le_trans FW.size f2.size), (FW.drew.trans f2).trans f3⟩
  | false =>
    rw [hlast] at p9
    have HE := Lib.hid (show redoNums r = [r.lsn, r.back, r.epoch, r.group, r.page, r.kind, r.slot, 0] by simp [redoNums, hlast])
    clear hlast
    have hN := Sl.ints8 w1 r.lsn r.back r.epoch r.group r.page r.kind r.slot 0 2
    have FN := F1.alloc (.cells #[.int .i64 r.lsn, .int .i64 r.back, .int .i64 r.epoch, .int .i64 r.group, .int .i64 r.page, .int .i64 r.kind, .int .i64 r.slot, .int .i64 0] 2)
    have BN := ((Fr.refl All w1).alloc (.cells #[.int .i64 r.lsn, .int .i64 r.back, .int .i64 r.epoch, .int .i64 r.group, .int .i64 r.page, .int .i64 r.kind, .int .i64 r.slot, .int .i64 0] 2)).block w.heap.size (blk_lt B1) trivial |>.trans B1
    rw [← HE.out] at hN
    go_wp2_with fail
    refine wp_name ?_
    intro W hW
    rw [← hW] at hN FN BN
    have HN := Lib.hid hN
    go_loopw [6, 33] (fun b i wr => ∃ (k : Nat) (zs : List UInt8), k ≤ 8 ∧ i = .int .i64 k ∧ Hid (zs = vints ((redoNums r).take k)) ∧ Own kByte 5 w.heap.size All wr b zs ∧ Fr All W wr) (fun _ i _ => 8 - (intOf i).toNat)
    case atStart => exact ⟨0, [], Nat.zero_le _, rfl, (rfl : [] = vints ((redoNums r).take 0)), Own.nil_ _ _ _ _ _, Fr.refl _ _⟩
    case round =>
      clear hW p0 p1 p2 p3 p4 p5 p6 p7 p8 p9 pz
      obtain ⟨k, zs, hk, rfl, HZ, HO, HF⟩ := hrel
      have hl8 : (redoNums r).length = 8 := rfl
      obtain ⟨A', c', rfl⟩ := HO.length
      by_cases hlt : k < 8
      · obtain ⟨x, hx, hmem⟩ := get_of (l := redoNums r) (k := k) (by rw [hl8]; exact hlt)
        obtain ⟨b, o, hA, c0'⟩ := (HN.out.all HF).at1 hx
        have hA2 := Option.some.inj hA
        injection hA2 with hb1 ho1 _
        subst hb1
        subst ho1
        rw [Nat.zero_add] at c0'
        have hx0 := (Hsm.out x hmem).1
        have hx1 := (Hsm.out x hmem).2
        have hlen : zs.length ≤ 1000000 := by
          rw [HZ.out]
          have := vints_len ((redoNums r).take k) (fun n hn => Hsm.out n (List.mem_of_mem_take hn))
          rw [List.length_take] at this
          omega
        have Hx := Lib.hid hx
        have b0 : (0 : Int) ≤ (k : Int) := by omega
        have b1 : (k : Int) < 8 := by omega
        clear hx hA hmem hl8 hN HE
        go_wp2_with fail
        refine (put2_call' HO.sl hlen (by omega) hx1).mono ?_
        rintro e w2 ⟨ys, A2, c2, rfl, HY, o2, f2⟩
        go_wp2_with fail
        go_roundw
        case rel =>
          refine ⟨k + 1, ys, by omega, by go_num, (?_ : ys = vints ((redoNums r).take (k + 1))), o2.lower (Nat.le_trans FN.size HF.size), HF.trans f2⟩
          rw [vints_snoc2 Hx.out, HY.out, HZ.out]
        case measure => simp [intOf]; omega
      · obtain rfl : k = 8 := by omega
        obtain ⟨_, _, _, _, _, _, _, p7, p8, _, _⟩ := blk10 ((HF.block w.heap.size (blk_lt BN) trivial).trans BN)
        have FW := FN.trans HF
        have hlen : zs.length ≤ 72 := by
          rw [HZ.out, show (redoNums r).take 8 = redoNums r from rfl]
          have := vints_len (redoNums r) Hsm.out
          rw [hl8] at this
          omega
        clear HN hN hl8 hlt hk HE B B1 BN F0 F1 f1
        go_wp2_with fail
        go_region_held3 (fun w' => w'.cell? ⟨w.heap.size, 7, none⟩ = some (.slice A0 n0 c0) ∧ w'.cell? ⟨w.heap.size, 8, none⟩ = some (.slice A1 n1 c1))
          (first | go_keep | (go_split_ands; refine ⟨?_, ?_⟩ <;> exact Fr.cell (by assumption) trivial (by assumption)))
          (first
            | (go_at_call_of 93 (Value.slice A0 n0 c0); refine (put_bytes_call' (HO.all (Fr.refl All _).drew).sl (s0.all FW.drew) (by omega) (by have := Hl0.out; omega)).mono ?_; rintro e w2 ⟨xs, A2, c2, rfl, HX, o2, f2⟩)
            | (go_at_call_of 93 (Value.slice A1 n1 c1); refine (put_bytes_call' o2.sl (s1.all (FW.drew.trans f2)) (xs_short HX.out hlen Hl0.out) (by have := Hl1.out; omega)).mono ?_; rintro e w3 ⟨us, A3, c3, rfl, HU, o3, f3⟩))
        go_wp2_with fail
        go_ret2
        have he : redoBytes r = us := by
          rw [HU.out, HX.out, HZ.out]
          simp [redoBytes, bytesOf, redoNums]
        rw [he]
        exact ⟨A3, c3, rfl, o3.lower (Nat.le_trans FW.size f2.size), (FW.drew.trans f2).trans f3⟩
end Go.Proofs.YteclgcnndjcmmaaDoor
