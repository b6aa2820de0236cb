/- The document's PageBytes. -/
import Derived.Test.YtoaamcpiljoojaaDoorPBy
import Derived.Test.YtoaamcpiljoojaaDoorDPut
namespace Go.Proofs.YtoaamcpiljoojaaDoor
open Go.RowKit

set_option hygiene false in
set_option maxRecDepth 100000 in
set_option maxHeartbeats 4000000 in
theorem ref_page_bytes {w : World} {p : Page} {v : Value} {S : Nat → Prop} (ok : pageIx p = none) (h : Sl kEnt S w v p.ents) :
    Calls Tryd.prog 25 #[.agg #[.int .i64 p.id, .int .i64 p.lsn, .int .i64 p.level, .int .i64 p.next, v]] w
      fun e w' => ∃ (zs : List UInt8) (A' : Option Addr) (c' : Nat), e = .returned (.slice A' zs.length c') ∧ Hid (zs = pageBytes p) ∧ Own kByte 5 w.heap.size All w' (.slice A' zs.length c') zs ∧ Fr All w w' := by
  obtain ⟨A, n, c, rfl, en, _⟩ := h.open_
  have B := heap_alloc_new w (.cells #[.int .i64 p.id, .int .i64 p.lsn, .int .i64 p.level, .int .i64 p.next, .slice A n c] 39)
  have F0 := (Fr.refl All w).alloc (.cells #[.int .i64 p.id, .int .i64 p.lsn, .int .i64 p.level, .int .i64 p.next, .slice A n c] 39)
  have En := Lib.hid en
  have Hs := Lib.hid h
  have Hsm := Lib.hid (pageNums_small ok)
  obtain ⟨_, h8, hsh⟩ := pageIx_none ok
  rw [en] at h8
  have Hsh := Lib.hid hsh
  have hb := fun i (hi : i ∈ pageNums p) => Hsm.out i hi
  have Ha1 := Lib.hid (hb p.id (by simp [pageNums]))
  have Ha2 := Lib.hid (hb p.lsn (by simp [pageNums]))
  have Ha3 := Lib.hid (hb p.level (by simp [pageNums]))
  have Ha4 := Lib.hid (hb p.next (by simp [pageNums]))
  obtain ⟨p0, p1, p2, p3, p4, pz⟩ := blk5 B
  clear h en hsh ok hb
  go_enter Tryd.func25, Tryd.ntmps25
  go_wp2_with fail
  refine (dput_call (Sl.nil_ kByte All _) (by decide) Ha1.out.1 Ha1.out.2).mono ?_
  rintro e w1 ⟨z1, A1, c1, rfl, Z1, o1, f1⟩
  have B1 := (f1.block w.heap.size (blk_lt B) trivial).trans B
  have F1 := F0.trans f1
  have L1 : Hid (z1.length ≤ 9) := Lib.hid (by rw [Z1.out]; have := vint_len 9 (zig p.id) (by decide) (by have := Ha1.out; simp only [zig]; split <;> omega); simpa using this)
  clear p0 p1 p2 p3 p4 pz B
  obtain ⟨p0, p1, p2, p3, p4, pz⟩ := blk5 B1
  go_wp2_with fail
  refine (dput_call o1.sl (by have := L1.out; omega) Ha2.out.1 Ha2.out.2).mono ?_
  rintro e w2 ⟨z2, A2, c2, rfl, Z2, o2, f2⟩
  have B2 := (f2.block w.heap.size (blk_lt B1) trivial).trans B1
  have F2 := F1.trans f2
  have L2 : Hid (z2.length ≤ 18) := Lib.hid (by rw [Z2.out, List.length_append]; have := L1.out; have := vint_len 9 (zig p.lsn) (by decide) (by have := Ha2.out; simp only [zig]; split <;> omega); omega)
  clear p0 p1 p2 p3 p4 pz B1
  obtain ⟨p0, p1, p2, p3, p4, pz⟩ := blk5 B2
  go_wp2_with fail
  refine (dput_call o2.sl (by have := L2.out; omega) Ha3.out.1 Ha3.out.2).mono ?_
  rintro e w3 ⟨z3, A3, c3, rfl, Z3, o3, f3⟩
  have B3 := (f3.block w.heap.size (blk_lt B2) trivial).trans B2
  have F3 := F2.trans f3
  have L3 : Hid (z3.length ≤ 27) := Lib.hid (by rw [Z3.out, List.length_append]; have := L2.out; have := vint_len 9 (zig p.level) (by decide) (by have := Ha3.out; simp only [zig]; split <;> omega); omega)
  clear p0 p1 p2 p3 p4 pz B2
  obtain ⟨p0, p1, p2, p3, p4, pz⟩ := blk5 B3
  go_wp2_with fail
  refine (dput_call o3.sl (by have := L3.out; omega) Ha4.out.1 Ha4.out.2).mono ?_
  rintro e w4 ⟨z4, A4, c4, rfl, Z4, o4, f4⟩
  have B4 := (f4.block w.heap.size (blk_lt B3) trivial).trans B3
  have F4 := F3.trans f4
  have L4 : Hid (z4.length ≤ 36) := Lib.hid (by rw [Z4.out, List.length_append]; have := L3.out; have := vint_len 9 (zig p.next) (by decide) (by have := Ha4.out; simp only [zig]; split <;> omega); omega)
  clear p0 p1 p2 p3 p4 pz B3
  obtain ⟨p0, p1, p2, p3, p4, pz⟩ := blk5 B4
  go_wp2_with fail
  refine (dput_call o4.sl (by have := L4.out; omega) (by omega) (by omega)).mono ?_
  rintro e w5 ⟨z5, A5, c5, rfl, Z5, o5, f5⟩
  have B5 := (f5.block w.heap.size (blk_lt B4) trivial).trans B4
  have F5 := F4.trans f5
  have HZ : Hid (z5 = vints (pageNums p)) := Lib.hid (by rw [Z5.out, Z4.out, Z3.out, Z2.out, Z1.out, ← En.out]; simp [vints, pageNums])
  have HO := o5.lower (base' := w.heap.size) F4.size
  have HS5 := Lib.hid (Hs.out.all F5)
  clear p0 p1 p2 p3 p4 pz B4 o1 o2 o3 o4 o5 f1 f2 f3 f4 f5 F0 F1 F2 F3 F4
  go_wp2_with fail
  go_loopw [3, 4] (fun b i wr => ∃ (k : Nat) (ys : List UInt8), k ≤ n ∧ i = .int .i64 k ∧ Hid (ys = vints (pageNums p) ++ entsBytes (p.ents.take k)) ∧ Own kByte 5 w.heap.size All wr b ys ∧ Fr All w5 wr) (fun _ i _ => n - (intOf i).toNat)
  case atStart => exact ⟨0, z5, Nat.zero_le _, rfl, Lib.hid (by rw [HZ.out]; simp [entsBytes]), HO, Fr.refl _ _⟩
  case round =>
    obtain ⟨k, ys, hk, rfl, HY, HO2, HF⟩ := hrel
    obtain ⟨A2, c2, rfl⟩ := HO2.length
    obtain ⟨p0, p1, p2, p3, p4, pz⟩ := blk5 ((HF.block w.heap.size (blk_lt B5) trivial).trans B5)
    have hyl : ys.length ≤ 2000 := by
      have h1 := entsBytes_short (p.ents.take k) (fun e he => Hsh.out e (List.mem_of_mem_take he))
      have h2 := vints_len' (pageNums p) Hsm.out
      have h3 : (pageNums p).length = 5 := rfl
      rw [HY.out, List.length_append]
      rw [List.length_take] at h1
      omega
    by_cases hlt : k < n
    · obtain ⟨x, hx, xm⟩ := get_of (l := p.ents) (k := k) (by rw [En.out]; exact hlt)
      obtain ⟨b, o, A0, n0, c0, A1, n1, c1, rfl, x0, x1, k0, k1⟩ := ent_at (HS5.out.all HF) hx
      have Hx := Lib.hid hx
      have hxs := Hsh.out x xm
      have e0 := k0.len
      have e1 := k1.len
      have b0 : (0 : Int) ≤ (k : Int) := by omega
      have b1 : (k : Int) < (n : Int) := by omega
      have E0 := Lib.hid e0
      have E1 := Lib.hid e1
      have l0 := Lib.hid hxs.1
      have l1 := Lib.hid hxs.2
      have FA := Fr.refl All wr
      clear hx xm e0 e1 hxs
      go_wp2_with fail
      go_region_held3 (fun w' => w'.cell? ⟨w.heap.size, 4, none⟩ = some (.slice (some ⟨b, o, none⟩) n c) ∧ w'.cell? ⟨b, o + k * 2, none⟩ = some (.slice A0 n0 c0) ∧ w'.cell? ⟨b, o + k * 2 + 1, none⟩ = some (.slice A1 n1 c1))
        (first | go_keep | (go_split_ands; refine ⟨?_, ?_, ?_⟩ <;> exact Fr.cell (by assumption) trivial (by assumption)))
        (first
          | (go_at_call_of 73 (Value.slice A0 n0 c0); refine (dput_bytes (HO2.all FA.drew).sl (k0.all FA.drew) (by omega) (by have := l0.out; omega)).mono ?_; rintro e w2 ⟨xs, A3, c3, rfl, HX, o2, f2⟩)
          | (go_at_call_of 73 (Value.slice A1 n1 c1); refine (dput_bytes o2.sl (k1.all (FA.drew.trans f2)) (by rw [HX.out, List.length_append, List.length_append]; have := l0.out; have := vint_len 9 (zig x.key.length) (by decide) (by simp only [zig]; split <;> omega); omega) (by have := l1.out; omega)).mono ?_; rintro e w3 ⟨us, A4, c4, rfl, HU, o3, f3⟩))
      go_wp2_with fail
      go_roundw
      case rel =>
        refine ⟨k + 1, us, by omega, by go_num, (?_ : us = vints (pageNums p) ++ entsBytes (p.ents.take (k + 1))), o3.lower (Nat.le_trans F5.size (Nat.le_trans HF.size (Nat.le_trans FA.drew.size f2.size))), HF.trans ((FA.drew.trans f2).trans f3)⟩
        rw [entsBytes_snoc Hx.out, HU.out, HX.out, HY.out]
        simp [entBytes, bytesOf]
      case measure => simp [intOf]; omega
    · obtain rfl : k = n := by omega
      go_wp2_with fail
      go_ret
      refine ⟨ys, A2, c2, rfl, (?_ : ys = pageBytes p), HO2, F5.trans HF⟩
      rw [HY.out, ← En.out, List.take_length]
      rfl
end Go.Proofs.YtoaamcpiljoojaaDoor
