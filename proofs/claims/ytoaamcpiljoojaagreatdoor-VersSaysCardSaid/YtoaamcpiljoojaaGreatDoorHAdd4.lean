/- The log's Add, at a record that is there. The log's Add, at a record whose number another one has; at one of another group. -/
import Derived.Test.YtoaamcpiljoojaaGreatDoorHAdd
import Derived.Test.YtoaamcpiljoojaaGreatDoorRSame2
import Derived.Test.YtoaamcpiljoojaaGreatDoorE
namespace Go.Proofs.YtoaamcpiljoojaaGreatDoor
open Go.RowKit

set_option hygiene false in
set_option maxRecDepth 100000 in
set_option maxHeartbeats 4000000 in
theorem add_same {S S0 S1 : Nat → Prop} {w : World} {B : Nat} {lv sv v0 v1 : Value} {s : HSt} {r : Redo} (h : Hg S w B lv sv s) (k0 : Sl kByte S0 w v0 r.key) (k1 : Sl kByte S1 w v1 r.val) (hv : validIx r = none) (hg : r.group = s.group)
    (hd : deadS s.spans r.lsn r.epoch = false) (hm : r ∈ s.l) :
    Calls Tryz.prog 10 #[.pointer (some ⟨B, 0, none⟩), .agg #[.int .i64 r.lsn, .int .i64 r.back, .int .i64 r.epoch, .int .i64 r.group, .int .i64 r.page, .int .i64 r.kind, .int .i64 r.slot, v0, v1, .bool r.last]] w
      fun e w' => e = .returned (.tuple #[.bool false, .nilIface]) ∧ Fr All w w' := by
  have hpl := (isL_at h.ok.rise (place_is h.ok.rise r.lsn)).1 (isL_mem.2 ⟨r, hm, rfl⟩)
  obtain ⟨x, hx, hxl⟩ := hpl
  have hxr : x = r := h.ok.rise.mem (List.mem_of_getElem? hx) hm hxl
  have HXR := Lib.hid hxr
  clear hxr hm
  obtain ⟨A0, n0, c0, rfl, e0, _⟩ := k0.open_
  obtain ⟨A1, n1, c1, rfl, e1, _⟩ := k1.open_
  have F0 := (Fr.refl All w).alloc (.cells #[.int .i64 r.lsn, .int .i64 r.back, .int .i64 r.epoch, .int .i64 r.group, .int .i64 r.page, .int .i64 r.kind, .int .i64 r.slot, .slice A0 n0 c0, .slice A1 n1 c1, .bool r.last] 33)
  have B0 := heap_alloc_new w (.cells #[.int .i64 r.lsn, .int .i64 r.back, .int .i64 r.epoch, .int .i64 r.group, .int .i64 r.page, .int .i64 r.kind, .int .i64 r.slot, .slice A0 n0 c0, .slice A1 n1 c1, .bool r.last] 33)
  obtain ⟨p0, p1, p2, p3, p4, p5, p6, p7, p8, p9, pz⟩ := blk10 B0
  have H := Lib.hid h
  have HV := Lib.hid hv
  have HG := Lib.hid hg
  have HD := Lib.hid hd
  have hi : isL s.l r.lsn = true := isL_mem.2 ⟨x, List.mem_of_getElem? hx, hxl⟩
  have HI := Lib.hid hi
  have HX := Lib.hid hx
  have HK0 := Lib.hid k0
  have HK1 := Lib.hid k1
  clear h hv hg hd hi hx hxl k0 k1 e0 e1
  go_enter Tryz.func10, Tryz.ntmps10
  go_wp2_with fail
  refine (valid_ok (r := r) HV.out (HK0.out.all F0) (HK1.out.all F0)).mono ?_
  rintro e w2 ⟨rfl, f2⟩
  have F2 := F0.trans f2
  have B2 := (f2.block _ (blk_lt B0) trivial).trans B0
  have H2 := Lib.hid (H.out.all F2)
  clear p0 p1 p2 p3 p4 p5 p6 p7 p8 p9 pz B0 F0 f2
  obtain ⟨p0, p1, p2, p3, p4, p5, p6, p7, p8, p9, pz⟩ := blk10 B2
  obtain ⟨q0, q1, q2, q3, q4, q5, qz⟩ := blk6 H2.out.blk
  have hgb : (r.group != s.group) = false := by rw [bne_eq_false_iff_eq]; exact HG.out
  go_wp2_with fail
  go_quiet (fail)
  generalize hW3 : w2.drewN _ = W3
  have F3 : Fr All w W3 := by rw [← hW3]; exact F2.drewN _
  have B3 : W3.heap[w.heap.size]? = some (.cells #[.int .i64 r.lsn, .int .i64 r.back, .int .i64 r.epoch, .int .i64 r.group, .int .i64 r.page, .int .i64 r.kind, .int .i64 r.slot, .slice A0 n0 c0, .slice A1 n1 c1, .bool r.last] 33 (0, 0)) := by rw [← hW3]; exact B2
  have H3 := Lib.hid (H.out.all F3)
  clear hW3 p0 p1 p2 p3 p4 p5 p6 p7 p8 p9 pz q0 q1 q2 q3 q4 q5 qz B2 F2 H2 hgb
  obtain ⟨p0, p1, p2, p3, p4, p5, p6, p7, p8, p9, pz⟩ := blk10 B3
  go_wp2_with fail
  refine (place_call H3.out _).mono ?_
  rintro e w4 ⟨rfl, f4⟩
  have F4 := F3.trans f4
  have B4 := (f4.block _ (blk_lt B3) trivial).trans B3
  have H4 := Lib.hid (H.out.all F4)
  rw [HI.out]
  clear p0 p1 p2 p3 p4 p5 p6 p7 p8 p9 pz B3 F3 H3 f4
  obtain ⟨p0, p1, p2, p3, p4, p5, p6, p7, p8, p9, pz⟩ := blk10 B4
  obtain ⟨q0, q1, q2, q3, q4, q5, qz⟩ := blk6 H4.out.blk
  obtain ⟨SA, sn, sc, rfl, _⟩ := H.out.sp.open_
  go_upto_region 7 with (fail)
  go_region_held3 (fun w' => w'.cell? ⟨B, 2, none⟩ = some (.slice SA sn sc) ∧ w'.cell? ⟨w.heap.size, 0, none⟩ = some (.int .i64 r.lsn) ∧ w'.cell? ⟨w.heap.size, 2, none⟩ = some (.int .i64 r.epoch))
    (first | go_keep | (go_split_ands; refine ⟨?_, ?_, ?_⟩ <;> exact Fr.cell (by assumption) trivial (by assumption)))
    (first
      | (go_at_call 41; refine (dead_call (H4.out.sp.all (Fr.refl All w4).drew) (by have := H4.out.ok.sfew; omega) _ _).mono ?_; rintro e w5 ⟨rfl, f5⟩))
  have F5 : Fr All w w5 := F4.drew.trans f5
  have f45 : Fr All w4 w5 := (Fr.refl All w4).drew.trans f5
  have B5 := (f45.block _ (blk_lt B4) trivial).trans B4
  have H5 := Lib.hid (H.out.all F5)
  clear p0 p1 p2 p3 p4 p5 p6 p7 p8 p9 pz q0 q1 q2 q3 q4 q5 qz B4 F4 H4 f5 f45
  obtain ⟨p0, p1, p2, p3, p4, p5, p6, p7, p8, p9, pz⟩ := blk10 B5
  obtain ⟨q0, q1, q2, q3, q4, q5, qz⟩ := blk6 H5.out.blk
  obtain ⟨LA, lc, hlv⟩ := H.out.row.length
  subst hlv
  obtain ⟨ln, hln⟩ : ∃ ln, s.l.length = ln := ⟨_, rfl⟩
  have hslx := H5.out.row.sl
  rw [hln] at q1 hslx
  obtain ⟨gb, go, X0, m0, d0, X1, m1, d1, rfl, g0, g1, g2, g3, g4, g5, g6, g7, g8, g9, t0, t1⟩ := redo_at hslx HX.out
  have T0 := Lib.hid t0
  have T1 := Lib.hid t1
  have hkl : ((placeL s.l r.lsn : Nat) : Int) < (ln : Int) := by have := (List.getElem?_eq_some_iff.1 HX.out).1; omega
  have hk0 : (0 : Int) ≤ ((placeL s.l r.lsn : Nat) : Int) := by omega
  have HLN := Lib.hid hln
  clear hln hslx t0 t1
  rw [HD.out]
  generalize placeL s.l r.lsn = pk at *
  go_upto_region 9 with (fail)
  go_region_held3 (fun w' => w'.cell? ⟨B, 1, none⟩ = some (.slice (some ⟨gb, go, none⟩) ln lc) ∧ (w'.cell? ⟨w.heap.size, 0, none⟩ = some (.int .i64 r.lsn) ∧ w'.cell? ⟨w.heap.size, 1, none⟩ = some (.int .i64 r.back) ∧ w'.cell? ⟨w.heap.size, 2, none⟩ = some (.int .i64 r.epoch) ∧ w'.cell? ⟨w.heap.size, 3, none⟩ = some (.int .i64 r.group) ∧ w'.cell? ⟨w.heap.size, 4, none⟩ = some (.int .i64 r.page) ∧ w'.cell? ⟨w.heap.size, 5, none⟩ = some (.int .i64 r.kind) ∧ w'.cell? ⟨w.heap.size, 6, none⟩ = some (.int .i64 r.slot) ∧ w'.cell? ⟨w.heap.size, 7, none⟩ = some (.slice A0 n0 c0) ∧ w'.cell? ⟨w.heap.size, 8, none⟩ = some (.slice A1 n1 c1) ∧ w'.cell? ⟨w.heap.size, 9, none⟩ = some (.bool r.last)) ∧
      (w'.cell? ⟨gb, go + pk * 10, none⟩ = some (.int .i64 x.lsn) ∧ w'.cell? ⟨gb, go + pk * 10 + 1, none⟩ = some (.int .i64 x.back) ∧ w'.cell? ⟨gb, go + pk * 10 + 2, none⟩ = some (.int .i64 x.epoch) ∧ w'.cell? ⟨gb, go + pk * 10 + 3, none⟩ = some (.int .i64 x.group) ∧ w'.cell? ⟨gb, go + pk * 10 + 4, none⟩ = some (.int .i64 x.page) ∧ w'.cell? ⟨gb, go + pk * 10 + 5, none⟩ = some (.int .i64 x.kind) ∧ w'.cell? ⟨gb, go + pk * 10 + 6, none⟩ = some (.int .i64 x.slot) ∧ w'.cell? ⟨gb, go + pk * 10 + 7, none⟩ = some (.slice X0 m0 d0) ∧ w'.cell? ⟨gb, go + pk * 10 + 8, none⟩ = some (.slice X1 m1 d1) ∧ w'.cell? ⟨gb, go + pk * 10 + 9, none⟩ = some (.bool x.last)))
    (first | go_keep | (go_split_ands; refine ⟨?_, ⟨?_, ?_, ?_, ?_, ?_, ?_, ?_, ?_, ?_, ?_⟩, ?_, ?_, ?_, ?_, ?_, ?_, ?_, ?_, ?_, ?_⟩ <;> exact Fr.cell (by assumption) trivial (by assumption)))
    (first
      | (go_at_call 42; refine (redo_same (x := x) (y := r) (T0.out.all (Fr.refl All w5).drew) (T1.out.all (Fr.refl All w5).drew) (HK0.out.all F5.drew) (HK1.out.all F5.drew)).mono ?_; rintro e w6 ⟨rfl, f6⟩))
  have hd2 : decide (x = r) = true := decide_eq_true HXR.out
  rw [hd2]
  have F6 : Fr All w w6 := F5.drew.trans f6
  clear hd2 f6 g0 g1 g2 g3 g4 g5 g6 g7 g8 g9 p0 p1 p2 p3 p4 p5 p6 p7 p8 p9 pz q0 q1 q2 q3 q4 q5 qz
  go_wp2_with fail
  go_ret2
  exact ⟨rfl, F6⟩
end Go.Proofs.YtoaamcpiljoojaaGreatDoor
namespace Go.Proofs.YtoaamcpiljoojaaGreatDoor
open Go.RowKit

set_option hygiene false in
set_option maxRecDepth 100000 in
set_option maxHeartbeats 4000000 in
theorem add_there {qs : List Addr} {S S0 S1 : Nat → Prop} {w : World} {B : Nat} {lv sv v0 v1 : Value} {s : HSt} {r : Redo} (hE : Errs w qs) (h : Hg S w B lv sv s) (k0 : Sl kByte S0 w v0 r.key) (k1 : Sl kByte S1 w v1 r.val) (hv : validIx r = none) (hg : r.group = s.group)
    (hd : deadS s.spans r.lsn r.epoch = false) (hm : ∃ x ∈ s.l, x.lsn = r.lsn ∧ x ≠ r) :
    Calls Tryz.prog 10 #[.pointer (some ⟨B, 0, none⟩), .agg #[.int .i64 r.lsn, .int .i64 r.back, .int .i64 r.epoch, .int .i64 r.group, .int .i64 r.page, .int .i64 r.kind, .int .i64 r.slot, v0, v1, .bool r.last]] w
      fun e w' => ∃ a, qs[7]? = some a ∧ e = .returned (.tuple #[.bool false, errV a]) ∧ Fr All w w' := by
  obtain ⟨x0, hm0, hml, hne⟩ := hm
  have hpl := (isL_at h.ok.rise (place_is h.ok.rise r.lsn)).1 (isL_mem.2 ⟨x0, hm0, hml⟩)
  obtain ⟨x, hx, hxl⟩ := hpl
  have hxr : x ≠ r := by
    have := h.ok.rise.mem (List.mem_of_getElem? hx) hm0 (hxl.trans hml.symm)
    rw [this]
    exact hne
  have HXR := Lib.hid hxr
  have HE := Lib.hid hE
  clear hxr hm0 hml hne hE
  obtain ⟨A0, n0, c0, rfl, e0, _⟩ := k0.open_
  obtain ⟨A1, n1, c1, rfl, e1, _⟩ := k1.open_
  have F0 := (Fr.refl All w).alloc (.cells #[.int .i64 r.lsn, .int .i64 r.back, .int .i64 r.epoch, .int .i64 r.group, .int .i64 r.page, .int .i64 r.kind, .int .i64 r.slot, .slice A0 n0 c0, .slice A1 n1 c1, .bool r.last] 33)
  have B0 := heap_alloc_new w (.cells #[.int .i64 r.lsn, .int .i64 r.back, .int .i64 r.epoch, .int .i64 r.group, .int .i64 r.page, .int .i64 r.kind, .int .i64 r.slot, .slice A0 n0 c0, .slice A1 n1 c1, .bool r.last] 33)
  obtain ⟨p0, p1, p2, p3, p4, p5, p6, p7, p8, p9, pz⟩ := blk10 B0
  have H := Lib.hid h
  have HV := Lib.hid hv
  have HG := Lib.hid hg
  have HD := Lib.hid hd
  have hi : isL s.l r.lsn = true := isL_mem.2 ⟨x, List.mem_of_getElem? hx, hxl⟩
  have HI := Lib.hid hi
  have HX := Lib.hid hx
  have HK0 := Lib.hid k0
  have HK1 := Lib.hid k1
  clear h hv hg hd hi hx hxl k0 k1 e0 e1
  go_enter Tryz.func10, Tryz.ntmps10
  go_wp2_with fail
  refine (valid_ok (r := r) HV.out (HK0.out.all F0) (HK1.out.all F0)).mono ?_
  rintro e w2 ⟨rfl, f2⟩
  have F2 := F0.trans f2
  have B2 := (f2.block _ (blk_lt B0) trivial).trans B0
  have H2 := Lib.hid (H.out.all F2)
  clear p0 p1 p2 p3 p4 p5 p6 p7 p8 p9 pz B0 F0 f2
  obtain ⟨p0, p1, p2, p3, p4, p5, p6, p7, p8, p9, pz⟩ := blk10 B2
  obtain ⟨q0, q1, q2, q3, q4, q5, qz⟩ := blk6 H2.out.blk
  have hgb : (r.group != s.group) = false := by rw [bne_eq_false_iff_eq]; exact HG.out
  go_wp2_with fail
  go_quiet (fail)
  generalize hW3 : w2.drewN _ = W3
  have F3 : Fr All w W3 := by rw [← hW3]; exact F2.drewN _
  have B3 : W3.heap[w.heap.size]? = some (.cells #[.int .i64 r.lsn, .int .i64 r.back, .int .i64 r.epoch, .int .i64 r.group, .int .i64 r.page, .int .i64 r.kind, .int .i64 r.slot, .slice A0 n0 c0, .slice A1 n1 c1, .bool r.last] 33 (0, 0)) := by rw [← hW3]; exact B2
  have H3 := Lib.hid (H.out.all F3)
  clear hW3 p0 p1 p2 p3 p4 p5 p6 p7 p8 p9 pz q0 q1 q2 q3 q4 q5 qz B2 F2 H2 hgb
  obtain ⟨p0, p1, p2, p3, p4, p5, p6, p7, p8, p9, pz⟩ := blk10 B3
  go_wp2_with fail
  refine (place_call H3.out _).mono ?_
  rintro e w4 ⟨rfl, f4⟩
  have F4 := F3.trans f4
  have B4 := (f4.block _ (blk_lt B3) trivial).trans B3
  have H4 := Lib.hid (H.out.all F4)
  rw [HI.out]
  clear p0 p1 p2 p3 p4 p5 p6 p7 p8 p9 pz B3 F3 H3 f4
  obtain ⟨p0, p1, p2, p3, p4, p5, p6, p7, p8, p9, pz⟩ := blk10 B4
  obtain ⟨q0, q1, q2, q3, q4, q5, qz⟩ := blk6 H4.out.blk
  obtain ⟨SA, sn, sc, rfl, _⟩ := H.out.sp.open_
  go_upto_region 7 with (fail)
  go_region_held3 (fun w' => w'.cell? ⟨B, 2, none⟩ = some (.slice SA sn sc) ∧ w'.cell? ⟨w.heap.size, 0, none⟩ = some (.int .i64 r.lsn) ∧ w'.cell? ⟨w.heap.size, 2, none⟩ = some (.int .i64 r.epoch))
    (first | go_keep | (go_split_ands; refine ⟨?_, ?_, ?_⟩ <;> exact Fr.cell (by assumption) trivial (by assumption)))
    (first
      | (go_at_call 41; refine (dead_call (H4.out.sp.all (Fr.refl All w4).drew) (by have := H4.out.ok.sfew; omega) _ _).mono ?_; rintro e w5 ⟨rfl, f5⟩))
  have F5 : Fr All w w5 := F4.drew.trans f5
  have f45 : Fr All w4 w5 := (Fr.refl All w4).drew.trans f5
  have B5 := (f45.block _ (blk_lt B4) trivial).trans B4
  have H5 := Lib.hid (H.out.all F5)
  clear p0 p1 p2 p3 p4 p5 p6 p7 p8 p9 pz q0 q1 q2 q3 q4 q5 qz B4 F4 H4 f5 f45
  obtain ⟨p0, p1, p2, p3, p4, p5, p6, p7, p8, p9, pz⟩ := blk10 B5
  obtain ⟨q0, q1, q2, q3, q4, q5, qz⟩ := blk6 H5.out.blk
  obtain ⟨LA, lc, hlv⟩ := H.out.row.length
  subst hlv
  obtain ⟨ln, hln⟩ : ∃ ln, s.l.length = ln := ⟨_, rfl⟩
  have hslx := H5.out.row.sl
  rw [hln] at q1 hslx
  obtain ⟨gb, go, X0, m0, d0, X1, m1, d1, rfl, g0, g1, g2, g3, g4, g5, g6, g7, g8, g9, t0, t1⟩ := redo_at hslx HX.out
  have T0 := Lib.hid t0
  have T1 := Lib.hid t1
  have hkl : ((placeL s.l r.lsn : Nat) : Int) < (ln : Int) := by have := (List.getElem?_eq_some_iff.1 HX.out).1; omega
  have hk0 : (0 : Int) ≤ ((placeL s.l r.lsn : Nat) : Int) := by omega
  have HLN := Lib.hid hln
  clear hln hslx t0 t1
  rw [HD.out]
  generalize placeL s.l r.lsn = pk at *
  go_upto_region 9 with (fail)
  go_region_held3 (fun w' => w'.cell? ⟨B, 1, none⟩ = some (.slice (some ⟨gb, go, none⟩) ln lc) ∧ (w'.cell? ⟨w.heap.size, 0, none⟩ = some (.int .i64 r.lsn) ∧ w'.cell? ⟨w.heap.size, 1, none⟩ = some (.int .i64 r.back) ∧ w'.cell? ⟨w.heap.size, 2, none⟩ = some (.int .i64 r.epoch) ∧ w'.cell? ⟨w.heap.size, 3, none⟩ = some (.int .i64 r.group) ∧ w'.cell? ⟨w.heap.size, 4, none⟩ = some (.int .i64 r.page) ∧ w'.cell? ⟨w.heap.size, 5, none⟩ = some (.int .i64 r.kind) ∧ w'.cell? ⟨w.heap.size, 6, none⟩ = some (.int .i64 r.slot) ∧ w'.cell? ⟨w.heap.size, 7, none⟩ = some (.slice A0 n0 c0) ∧ w'.cell? ⟨w.heap.size, 8, none⟩ = some (.slice A1 n1 c1) ∧ w'.cell? ⟨w.heap.size, 9, none⟩ = some (.bool r.last)) ∧
      (w'.cell? ⟨gb, go + pk * 10, none⟩ = some (.int .i64 x.lsn) ∧ w'.cell? ⟨gb, go + pk * 10 + 1, none⟩ = some (.int .i64 x.back) ∧ w'.cell? ⟨gb, go + pk * 10 + 2, none⟩ = some (.int .i64 x.epoch) ∧ w'.cell? ⟨gb, go + pk * 10 + 3, none⟩ = some (.int .i64 x.group) ∧ w'.cell? ⟨gb, go + pk * 10 + 4, none⟩ = some (.int .i64 x.page) ∧ w'.cell? ⟨gb, go + pk * 10 + 5, none⟩ = some (.int .i64 x.kind) ∧ w'.cell? ⟨gb, go + pk * 10 + 6, none⟩ = some (.int .i64 x.slot) ∧ w'.cell? ⟨gb, go + pk * 10 + 7, none⟩ = some (.slice X0 m0 d0) ∧ w'.cell? ⟨gb, go + pk * 10 + 8, none⟩ = some (.slice X1 m1 d1) ∧ w'.cell? ⟨gb, go + pk * 10 + 9, none⟩ = some (.bool x.last)))
    (first | go_keep | (go_split_ands; refine ⟨?_, ⟨?_, ?_, ?_, ?_, ?_, ?_, ?_, ?_, ?_, ?_⟩, ?_, ?_, ?_, ?_, ?_, ?_, ?_, ?_, ?_, ?_⟩ <;> exact Fr.cell (by assumption) trivial (by assumption)))
    (first
      | (go_at_call 42; refine (redo_same (x := x) (y := r) (T0.out.all (Fr.refl All w5).drew) (T1.out.all (Fr.refl All w5).drew) (HK0.out.all F5.drew) (HK1.out.all F5.drew)).mono ?_; rintro e w6 ⟨rfl, f6⟩))
  have hd2 : decide (x = r) = false := decide_eq_false HXR.out
  rw [hd2]
  have F6 : Fr All w w6 := F5.drew.trans f6
  obtain ⟨aT, qT, gT⟩ := (HE.out.move F6).at 7 "sextet/api.ErrThere" 1 rfl (by kernel_rfl)
  have QT := Lib.hid qT
  unfold errV at gT
  clear hd2 f6 g0 g1 g2 g3 g4 g5 g6 g7 g8 g9 p0 p1 p2 p3 p4 p5 p6 p7 p8 p9 pz q0 q1 q2 q3 q4 q5 qz qT
  go_wp2_with fail
  go_quiet (fail)
  go_wp2_with fail
  go_ret2
  exact ⟨aT, QT.out, rfl, F6.drewN _⟩
set_option hygiene false in
set_option maxRecDepth 100000 in
set_option maxHeartbeats 4000000 in
theorem add_shape {qs : List Addr} {S S0 S1 : Nat → Prop} {w : World} {B : Nat} {lv sv v0 v1 : Value} {s : HSt} {r : Redo} (hE : Errs w qs) (h : Hg S w B lv sv s) (k0 : Sl kByte S0 w v0 r.key) (k1 : Sl kByte S1 w v1 r.val) (hv : validIx r = none) (hg : r.group ≠ s.group) :
    Calls Tryz.prog 10 #[.pointer (some ⟨B, 0, none⟩), .agg #[.int .i64 r.lsn, .int .i64 r.back, .int .i64 r.epoch, .int .i64 r.group, .int .i64 r.page, .int .i64 r.kind, .int .i64 r.slot, v0, v1, .bool r.last]] w
      fun e w' => ∃ a, qs[2]? = some a ∧ e = .returned (.tuple #[.bool false, errV a]) ∧ Fr All w w' := by
  obtain ⟨A0, n0, c0, rfl, e0, _⟩ := k0.open_
  obtain ⟨A1, n1, c1, rfl, e1, _⟩ := k1.open_
  have F0 := (Fr.refl All w).alloc (.cells #[.int .i64 r.lsn, .int .i64 r.back, .int .i64 r.epoch, .int .i64 r.group, .int .i64 r.page, .int .i64 r.kind, .int .i64 r.slot, .slice A0 n0 c0, .slice A1 n1 c1, .bool r.last] 33)
  have B0 := heap_alloc_new w (.cells #[.int .i64 r.lsn, .int .i64 r.back, .int .i64 r.epoch, .int .i64 r.group, .int .i64 r.page, .int .i64 r.kind, .int .i64 r.slot, .slice A0 n0 c0, .slice A1 n1 c1, .bool r.last] 33)
  obtain ⟨p0, p1, p2, p3, p4, p5, p6, p7, p8, p9, pz⟩ := blk10 B0
  have H := Lib.hid h
  have HV := Lib.hid hv
  have HG := Lib.hid hg
  have HE := Lib.hid hE
  have HK0 := Lib.hid k0
  have HK1 := Lib.hid k1
  clear h hv hg hE k0 k1 e0 e1
  go_enter Tryz.func10, Tryz.ntmps10
  go_wp2_with fail
  refine (valid_ok (r := r) HV.out (HK0.out.all F0) (HK1.out.all F0)).mono ?_
  rintro e w2 ⟨rfl, f2⟩
  have F2 := F0.trans f2
  have B2 := (f2.block _ (blk_lt B0) trivial).trans B0
  have H2 := Lib.hid (H.out.all F2)
  clear p0 p1 p2 p3 p4 p5 p6 p7 p8 p9 pz B0 F0 f2
  obtain ⟨p0, p1, p2, p3, p4, p5, p6, p7, p8, p9, pz⟩ := blk10 B2
  obtain ⟨q0, q1, q2, q3, q4, q5, qz⟩ := blk6 H2.out.blk
  have hgb : (r.group != s.group) = true := by rw [bne_iff_ne]; exact HG.out
  go_wp2_with fail
  go_quiet (fail)
  generalize hW3 : w2.drewN _ = W3
  have F3 : Fr All w W3 := by rw [← hW3]; exact F2.drewN _
  obtain ⟨aT, qT, gT⟩ := (HE.out.move F3).at 2 "sextet/api.ErrShape" 0 rfl (by kernel_rfl)
  have QT := Lib.hid qT
  unfold errV at gT
  clear hW3 p0 p1 p2 p3 p4 p5 p6 p7 p8 p9 pz q0 q1 q2 q3 q4 q5 qz B2 F2 H2 qT
  go_wp2_with fail
  go_quiet (fail)
  go_wp2_with fail
  go_ret2
  exact ⟨aT, QT.out, rfl, F3.drewN _⟩
end Go.Proofs.YtoaamcpiljoojaaGreatDoor
