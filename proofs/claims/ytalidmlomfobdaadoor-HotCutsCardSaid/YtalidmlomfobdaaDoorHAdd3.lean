/- The log's Add, at a record that is dead. -/
import Derived.Test.YtalidmlomfobdaaDoorHAdd
namespace Go.Proofs.YtalidmlomfobdaaDoor
open Go.RowKit

set_option hygiene false in
set_option maxRecDepth 100000 in
set_option maxHeartbeats 4000000 in
theorem add_dead {S S0 S1 : Nat → Prop} {w : World} {B : Nat} {lv sv v0 v1 : Value} {s : HSt} {r : Redo} (h : Hg S w B lv sv s) (k0 : Sl kByte S0 w v0 r.key) (k1 : Sl kByte S1 w v1 r.val) (hv : validIx r = none) (hg : r.group = s.group)
    (hd : deadS s.spans r.lsn r.epoch = true) :
    Calls Tryd.prog 16 #[.pointer (some ⟨B, 0, none⟩), .agg #[.int .i64 r.lsn, .int .i64 r.back, .int .i64 r.epoch, .int .i64 r.group, .int .i64 r.page, .int .i64 r.kind, .int .i64 r.slot, v0, v1, .bool r.last]] w
      fun e w' => e = .returned (.tuple #[.bool false, .nilIface]) ∧ Fr All w w' := by
  obtain ⟨A0, n0, c0, rfl, e0, _⟩ := k0.open_
  obtain ⟨A1, n1, c1, rfl, e1, _⟩ := k1.open_
  have F0 := (Fr.refl All w).alloc (.cells #[.int .i64 r.lsn, .int .i64 r.back, .int .i64 r.epoch, .int .i64 r.group, .int .i64 r.page, .int .i64 r.kind, .int .i64 r.slot, .slice A0 n0 c0, .slice A1 n1 c1, .bool r.last] 34)
  have B0 := heap_alloc_new w (.cells #[.int .i64 r.lsn, .int .i64 r.back, .int .i64 r.epoch, .int .i64 r.group, .int .i64 r.page, .int .i64 r.kind, .int .i64 r.slot, .slice A0 n0 c0, .slice A1 n1 c1, .bool r.last] 34)
  obtain ⟨p0, p1, p2, p3, p4, p5, p6, p7, p8, p9, pz⟩ := blk10 B0
  have H := Lib.hid h
  have HV := Lib.hid hv
  have HG := Lib.hid hg
  have HD := Lib.hid hd
  have HK0 := Lib.hid k0
  have HK1 := Lib.hid k1
  clear h hv hg hd k0 k1 e0 e1
  go_enter Tryd.func16, Tryd.ntmps16
  go_wp2_with fail
  refine (valid_ok (r := r) HV.out (HK0.out.all F0) (HK1.out.all F0)).mono ?_
  rintro e w2 ⟨rfl, f2⟩
  have F2 := F0.trans f2
  have B2 := (f2.block _ (blk_lt B0) trivial).trans B0
  have H2 := Lib.hid (H.out.all F2)
  clear p0 p1 p2 p3 p4 p5 p6 p7 p8 p9 pz B0 F0 f2
  obtain ⟨p0, p1, p2, p3, p4, p5, p6, p7, p8, p9, pz⟩ := blk10 B2
  obtain ⟨q0, q1, q2, q3, q4, q5, qz⟩ := blk6 H2.out.blk
  have hgb : (r.group != s.group) = false := by rw [bne_eq_false_iff_eq]; exact HG.out
  go_wp2_with fail
  go_quiet (fail)
  generalize hW3 : w2.drewN _ = W3
  have F3 : Fr All w W3 := by rw [← hW3]; exact F2.drewN _
  have B3 : W3.heap[w.heap.size]? = some (.cells #[.int .i64 r.lsn, .int .i64 r.back, .int .i64 r.epoch, .int .i64 r.group, .int .i64 r.page, .int .i64 r.kind, .int .i64 r.slot, .slice A0 n0 c0, .slice A1 n1 c1, .bool r.last] 34 (0, 0)) := by rw [← hW3]; exact B2
  have H3 := Lib.hid (H.out.all F3)
  clear hW3 p0 p1 p2 p3 p4 p5 p6 p7 p8 p9 pz q0 q1 q2 q3 q4 q5 qz B2 F2 H2 hgb
  obtain ⟨p0, p1, p2, p3, p4, p5, p6, p7, p8, p9, pz⟩ := blk10 B3
  go_wp2_with fail
  refine (place_call H3.out _).mono ?_
  rintro e w4 ⟨rfl, f4⟩
  have F4 := F3.trans f4
  have B4 := (f4.block _ (blk_lt B3) trivial).trans B3
  have H4 := Lib.hid (H.out.all F4)
  generalize isL s.l r.lsn = bi
  clear p0 p1 p2 p3 p4 p5 p6 p7 p8 p9 pz B3 F3 H3 f4
  obtain ⟨p0, p1, p2, p3, p4, p5, p6, p7, p8, p9, pz⟩ := blk10 B4
  obtain ⟨q0, q1, q2, q3, q4, q5, qz⟩ := blk6 H4.out.blk
  obtain ⟨SA, sn, sc, rfl, _⟩ := H.out.sp.open_
  go_upto_region 7 with (fail)
  go_region_held3 (fun w' => w'.cell? ⟨B, 2, none⟩ = some (.slice SA sn sc) ∧ w'.cell? ⟨w.heap.size, 0, none⟩ = some (.int .i64 r.lsn) ∧ w'.cell? ⟨w.heap.size, 2, none⟩ = some (.int .i64 r.epoch))
    (first | go_keep | (go_split_ands; refine ⟨?_, ?_, ?_⟩ <;> exact Fr.cell (by assumption) trivial (by assumption)))
    (first
      | (go_at_call 43; refine (dead_call (H4.out.sp.all (Fr.refl All w4).drew) (by have := H4.out.ok.sfew; omega) _ _).mono ?_; rintro e w5 ⟨rfl, f5⟩))
  have F5 : Fr All w w5 := F4.drew.trans f5
  rw [HD.out]
  clear p0 p1 p2 p3 p4 p5 p6 p7 p8 p9 pz q0 q1 q2 q3 q4 q5 qz B4 F4 H4 f5
  go_wp2_with fail
  go_ret2
  exact ⟨rfl, F5⟩
end Go.Proofs.YtalidmlomfobdaaDoor
