/- The log's Add, at a record that is right: new ones, dead ones, ones that are there. -/
import Derived.Test.YteclgcnndjcmmaaDoorBs
import Derived.Test.YteclgcnndjcmmaaDoorRClones
import Derived.Test.YteclgcnndjcmmaaDoorInsertRedo
import Derived.Test.YteclgcnndjcmmaaDoorValidOk
namespace Go.Proofs.YteclgcnndjcmmaaDoor
open Go.RowKit

/-- Behind an act that made a log anew, out of the log before: its row is the old one, or a new one. -/
structure HNext (S : Nat → Prop) (w w' : World) (B : Nat) (lv sv : Value) (s' : HSt) : Prop where
  out : ∃ lv', Hg (fun b => S b ∨ w.heap.size ≤ b) w' B lv' sv s' ∧ Fr (Off2 B lv) w w' ∧ (lv'.ownBlock = lv.ownBlock ∨ ∃ k, lv'.ownBlock = some k ∧ w.heap.size ≤ k)

set_option hygiene false in
set_option maxRecDepth 100000 in
set_option maxHeartbeats 4000000 in
theorem add_new {S S0 S1 : Nat → Prop} {w : World} {B : Nat} {lv sv v0 v1 : Value} {s : HSt} {r : Redo} (h : Hg S w B lv sv s) (k0 : Sl kByte S0 w v0 r.key) (k1 : Sl kByte S1 w v1 r.val) (hv : validIx r = none) (hg : r.group = s.group)
    (hd : deadS s.spans r.lsn r.epoch = false) (hn : isL s.l r.lsn = false) (hf : s.l.length < 16384) :
    Calls Tryd.prog 27 #[.pointer (some ⟨B, 0, none⟩), .agg #[.int .i64 r.lsn, .int .i64 r.back, .int .i64 r.epoch, .int .i64 r.group, .int .i64 r.page, .int .i64 r.kind, .int .i64 r.slot, v0, v1, .bool r.last]] w
      fun e w' => e = .returned (.tuple #[.bool true, .nilIface]) ∧ HNext S w w' B lv sv (s.add r) := by
  obtain ⟨A0, n0, c0, rfl, e0, _⟩ := k0.open_
  obtain ⟨A1, n1, c1, rfl, e1, _⟩ := k1.open_
  have hl0 : r.key.length ≤ 1000000 := by obtain ⟨_, _, _, _, _, _, _, _, _, _, _, _, _, _, hk, hvl⟩ := validIx_none hv; omega
  have hl1 : r.val.length ≤ 1000000 := by obtain ⟨_, _, _, _, _, _, _, _, _, _, _, _, _, _, hk, hvl⟩ := validIx_none hv; omega
  have F0 := (Fr.refl All w).alloc (.cells #[.int .i64 r.lsn, .int .i64 r.back, .int .i64 r.epoch, .int .i64 r.group, .int .i64 r.page, .int .i64 r.kind, .int .i64 r.slot, .slice A0 n0 c0, .slice A1 n1 c1, .bool r.last] 36)
  have B0 := heap_alloc_new w (.cells #[.int .i64 r.lsn, .int .i64 r.back, .int .i64 r.epoch, .int .i64 r.group, .int .i64 r.page, .int .i64 r.kind, .int .i64 r.slot, .slice A0 n0 c0, .slice A1 n1 c1, .bool r.last] 36)
  obtain ⟨p0, p1, p2, p3, p4, p5, p6, p7, p8, p9, pz⟩ := blk10 B0
  have H := Lib.hid h
  have HV := Lib.hid hv
  have HG := Lib.hid hg
  have HD := Lib.hid hd
  have HN := Lib.hid hn
  have HF := Lib.hid hf
  have HK0 := Lib.hid k0
  have HK1 := Lib.hid k1
  clear h hv hg hd hn hf k0 k1 e0 e1
  go_enter Tryd.func27, Tryd.ntmps27
  go_wp2_with fail
  refine (valid_ok (r := r) HV.out (HK0.out.all F0) (HK1.out.all F0)).mono ?_
  rintro e w2 ⟨rfl, f2⟩
  have F2 := F0.trans f2
  have B2 := (f2.block _ (blk_lt B0) trivial).trans B0
  have H2 := Lib.hid (H.out.all F2)
  clear p0 p1 p2 p3 p4 p5 p6 p7 p8 p9 pz B0 F0 f2
  obtain ⟨p0, p1, p2, p3, p4, p5, p6, p7, p8, p9, pz⟩ := blk10 B2
  obtain ⟨q0, q1, q2, q3, q4, q5, qz⟩ := blk6 H2.out.blk
  have hgb : (r.group != s.group) = false := by rw [bne_eq_false_iff_eq]; exact HG.out
  go_wp2_with fail
  go_quiet (fail)
  generalize hW3 : w2.drewN _ = W3
  have F3 : Fr All w W3 := by rw [← hW3]; exact F2.drewN _
  have B3 : W3.heap[w.heap.size]? = some (.cells #[.int .i64 r.lsn, .int .i64 r.back, .int .i64 r.epoch, .int .i64 r.group, .int .i64 r.page, .int .i64 r.kind, .int .i64 r.slot, .slice A0 n0 c0, .slice A1 n1 c1, .bool r.last] 36 (0, 0)) := by rw [← hW3]; exact B2
  have H3 := Lib.hid (H.out.all F3)
  clear hW3 p0 p1 p2 p3 p4 p5 p6 p7 p8 p9 pz q0 q1 q2 q3 q4 q5 qz B2 F2 H2 hgb
  obtain ⟨p0, p1, p2, p3, p4, p5, p6, p7, p8, p9, pz⟩ := blk10 B3
  go_wp2_with fail
  refine (place_call H3.out _).mono ?_
  rintro e w4 ⟨rfl, f4⟩
  have F4 := F3.trans f4
  have B4 := (f4.block _ (blk_lt B3) trivial).trans B3
  have H4 := Lib.hid (H.out.all F4)
  rw [HN.out]
  clear p0 p1 p2 p3 p4 p5 p6 p7 p8 p9 pz B3 F3 H3 f4
  obtain ⟨p0, p1, p2, p3, p4, p5, p6, p7, p8, p9, pz⟩ := blk10 B4
  obtain ⟨q0, q1, q2, q3, q4, q5, qz⟩ := blk6 H4.out.blk
  obtain ⟨SA, sn, sc, rfl, _⟩ := H.out.sp.open_
  go_upto_region 7 with (fail)
  go_region_held3 (fun w' => w'.cell? ⟨B, 2, none⟩ = some (.slice SA sn sc) ∧ w'.cell? ⟨w.heap.size, 0, none⟩ = some (.int .i64 r.lsn) ∧ w'.cell? ⟨w.heap.size, 2, none⟩ = some (.int .i64 r.epoch))
    (first | go_keep | (go_split_ands; refine ⟨?_, ?_, ?_⟩ <;> exact Fr.cell (by assumption) trivial (by assumption)))
    (first
      | (go_at_call 51; refine (dead_call (H4.out.sp.all (Fr.refl All w4).drew) (by have := H4.out.ok.sfew; omega) _ _).mono ?_; rintro e w5 ⟨rfl, f5⟩))
  have F5 : Fr All w w5 := F4.drew.trans f5
  have f45 : Fr All w4 w5 := (Fr.refl All w4).drew.trans f5
  have B5 := (f45.block _ (blk_lt B4) trivial).trans B4
  have H5 := Lib.hid (H.out.all F5)
  clear p0 p1 p2 p3 p4 p5 p6 p7 p8 p9 pz q0 q1 q2 q3 q4 q5 qz B4 F4 H4 f5 f45
  obtain ⟨p0, p1, p2, p3, p4, p5, p6, p7, p8, p9, pz⟩ := blk10 B5
  obtain ⟨q0, q1, q2, q3, q4, q5, qz⟩ := blk6 H5.out.blk
  obtain ⟨LA, lc, hlv⟩ := H.out.row.length
  subst hlv
  obtain ⟨ln, hln⟩ : ∃ ln, s.l.length = ln := ⟨_, rfl⟩
  have hfd : decide ((ln : Int) ≥ 16384) = false := decide_eq_false (by have := HF.out; omega)
  rw [hln] at q1
  have HLN := Lib.hid hln
  clear hln
  rw [HD.out]
  go_upto_region 9 with (fail)
  go_quiet (fail)
  generalize hW6 : w5.drewN _ = W6
  have F6 : Fr All w W6 := by rw [← hW6]; exact F5.drewN _
  have B6 : W6.heap[w.heap.size]? = some (.cells #[.int .i64 r.lsn, .int .i64 r.back, .int .i64 r.epoch, .int .i64 r.group, .int .i64 r.page, .int .i64 r.kind, .int .i64 r.slot, .slice A0 n0 c0, .slice A1 n1 c1, .bool r.last] 36 (0, 0)) := by rw [← hW6]; exact B5
  have H6 := Lib.hid (H.out.all F6)
  clear hW6 p0 p1 p2 p3 p4 p5 p6 p7 p8 p9 pz q0 q1 q2 q3 q4 q5 qz B5 F5 H5
  obtain ⟨p0, p1, p2, p3, p4, p5, p6, p7, p8, p9, pz⟩ := blk10 B6
  obtain ⟨q0, q1, q2, q3, q4, q5, qz⟩ := blk6 H6.out.blk
  rw [HLN.out] at q1
  go_upto_region 15 with (fail)
  refine wp_region_last (S := fun w' => w'.cell? ⟨B, 1, none⟩ = some (.slice LA ln lc) ∧ w'.cell? ⟨w.heap.size, 0, none⟩ = some (.int .i64 r.lsn) ∧ w'.cell? ⟨w.heap.size, 1, none⟩ = some (.int .i64 r.back) ∧ w'.cell? ⟨w.heap.size, 2, none⟩ = some (.int .i64 r.epoch) ∧ w'.cell? ⟨w.heap.size, 3, none⟩ = some (.int .i64 r.group) ∧ w'.cell? ⟨w.heap.size, 4, none⟩ = some (.int .i64 r.page) ∧ w'.cell? ⟨w.heap.size, 5, none⟩ = some (.int .i64 r.kind) ∧ w'.cell? ⟨w.heap.size, 6, none⟩ = some (.int .i64 r.slot) ∧ w'.cell? ⟨w.heap.size, 7, none⟩ = some (.slice A0 n0 c0) ∧ w'.cell? ⟨w.heap.size, 8, none⟩ = some (.slice A1 n1 c1) ∧ w'.cell? ⟨w.heap.size, 9, none⟩ = some (.bool r.last)) 12 (by kernel_rfl) rfl (by kernel_rfl) ⟨q1, p0, p1, p2, p3, p4, p5, p6, p7, p8, p9⟩ (fun hHeld => ?_)
  simp only [List.take_succ_cons, List.take_zero]
  refine wpAnyH_take (i := 0) (v := ?_) rfl (by kernel_rfl) (by kernel_rfl) (by kernel_rfl) (fun _ _ _ h => h) (Or.inl ⟨by rfl, ?_⟩) (by assumption) ?_
  rotate_left
  · (intro w hSw; (try dsimp only at hSw); go_simp; try with_reducible rfl)
  try simp only [Act.put]
  try simp only [List.setIfInBounds_toArray]
  try simp only [List.set_cons_succ]
  try simp only [List.set_cons_zero]
  refine wpAnyH_take (i := 1) (v := ?_) rfl (by kernel_rfl) (by kernel_rfl) (by kernel_rfl) (fun _ _ _ h => h) (Or.inl ⟨by rfl, ?_⟩) (by assumption) ?_
  rotate_left
  · (intro w hSw; (try dsimp only at hSw); go_simp; try with_reducible rfl)
  try simp only [Act.put]
  try simp only [List.setIfInBounds_toArray]
  try simp only [List.set_cons_succ]
  try simp only [List.set_cons_zero]
  refine wpAnyH_take (i := 2) (v := ?_) rfl (by kernel_rfl) (by kernel_rfl) (by kernel_rfl) (fun _ _ _ h => h) (Or.inl ⟨by rfl, ?_⟩) (by assumption) ?_
  rotate_left
  · (intro w hSw; (try dsimp only at hSw); go_simp; try with_reducible rfl)
  try simp only [Act.put]
  try simp only [List.setIfInBounds_toArray]
  try simp only [List.set_cons_succ]
  try simp only [List.set_cons_zero]
  refine wpAnyH_take (i := 3) (v := ?_) rfl (by kernel_rfl) (by kernel_rfl) (by kernel_rfl) (fun _ _ _ h => h) (Or.inl ⟨by rfl, ?_⟩) (by assumption) ?_
  rotate_left
  · (intro w hSw; (try dsimp only at hSw); go_simp; try with_reducible rfl)
  try simp only [Act.put]
  try simp only [List.setIfInBounds_toArray]
  try simp only [List.set_cons_succ]
  try simp only [List.set_cons_zero]
  refine wpAnyH_take (i := 4) (v := ?_) rfl (by kernel_rfl) (by kernel_rfl) (by kernel_rfl) (fun _ _ _ h => h) (Or.inl ⟨by rfl, ?_⟩) (by assumption) ?_
  rotate_left
  · (intro w hSw; (try dsimp only at hSw); go_simp; try with_reducible rfl)
  try simp only [Act.put]
  try simp only [List.setIfInBounds_toArray]
  try simp only [List.set_cons_succ]
  try simp only [List.set_cons_zero]
  refine wpAnyH_take (i := 5) (v := ?_) rfl (by kernel_rfl) (by kernel_rfl) (by kernel_rfl) (fun _ _ _ h => h) (Or.inl ⟨by rfl, ?_⟩) (by assumption) ?_
  rotate_left
  · (intro w hSw; (try dsimp only at hSw); go_simp; try with_reducible rfl)
  try simp only [Act.put]
  try simp only [List.setIfInBounds_toArray]
  try simp only [List.set_cons_succ]
  try simp only [List.set_cons_zero]
  refine wpAnyH_take (i := 6) (v := ?_) rfl (by kernel_rfl) (by kernel_rfl) (by kernel_rfl) (fun _ _ _ h => h) (Or.inl ⟨by rfl, ?_⟩) (by assumption) ?_
  rotate_left
  · (intro w hSw; (try dsimp only at hSw); go_simp; try with_reducible rfl)
  try simp only [Act.put]
  try simp only [List.setIfInBounds_toArray]
  try simp only [List.set_cons_succ]
  try simp only [List.set_cons_zero]
  refine wpAnyH_ready (rs := [7]) (by kernel_rfl) (by simp) (AllReadyH.cons rfl (fun K hK => ?_) AllReadyH.nil)
  go_simp
  refine (redo_clone (r := r) (HK0.out.all F6.drew) (HK1.out.all F6.drew) hl0 hl1).mono ?_
  rintro e w7 ⟨C0, m0, d0, C1, m1, d1, rfl, o0, o1, f6⟩
  go_simp
  have g6 : Fr All W6 w7 := (Fr.refl All W6).drew.trans f6
  refine hK.out _ _ ⟨g6.cell trivial q1, g6.cell trivial p0, g6.cell trivial p1, g6.cell trivial p2, g6.cell trivial p3, g6.cell trivial p4, g6.cell trivial p5, g6.cell trivial p6, g6.cell trivial p7, g6.cell trivial p8, g6.cell trivial p9⟩ (fun hHeld => ?_)
  clear hK K
  try simp only [Act.put]
  try simp only [List.setIfInBounds_toArray]
  try simp only [List.set_cons_succ]
  try simp only [List.set_cons_zero]
  refine wpAnyH_ready (rs := [8]) (by kernel_rfl) (by simp) (AllReadyH.cons rfl (fun K hK => ?_) AllReadyH.nil)
  go_simp
  have F7 : Fr All w w7 := F6.trans g6
  have F8 := F7.alloc (.cells #[.int .i64 r.lsn, .int .i64 r.back, .int .i64 r.epoch, .int .i64 r.group, .int .i64 r.page, .int .i64 r.kind, .int .i64 r.slot, .slice C0 m0 d0, .slice C1 m1 d1, .bool r.last] 36)
  have g8 := g6.alloc (.cells #[.int .i64 r.lsn, .int .i64 r.back, .int .i64 r.epoch, .int .i64 r.group, .int .i64 r.page, .int .i64 r.kind, .int .i64 r.slot, .slice C0 m0 d0, .slice C1 m1 d1, .bool r.last] 36)
  have B8 := heap_alloc_new w7 (.cells #[.int .i64 r.lsn, .int .i64 r.back, .int .i64 r.epoch, .int .i64 r.group, .int .i64 r.page, .int .i64 r.kind, .int .i64 r.slot, .slice C0 m0 d0, .slice C1 m1 d1, .bool r.last] 36)
  have z7 := F7.size
  have hlB := H.out.lt
  have hw7 : W6.drew.heap.size = W6.heap.size := rfl
  have z6 := F6.size
  have hs0 : Sl kByte (fun b => w.heap.size < b) w7 (.slice C0 m0 d0) r.key := o0.plain_in (fun b hb _ => by omega)
  have hs1 : Sl kByte (fun b => w.heap.size < b) w7 (.slice C1 m1 d1) r.val := o1.plain_in (fun b hb _ => by omega)
  have hX := kRedo_mk (hs0.all ((Fr.refl All w7).alloc (.cells #[.int .i64 r.lsn, .int .i64 r.back, .int .i64 r.epoch, .int .i64 r.group, .int .i64 r.page, .int .i64 r.kind, .int .i64 r.slot, .slice C0 m0 d0, .slice C1 m1 d1, .bool r.last] 36))) (hs1.all ((Fr.refl All w7).alloc (.cells #[.int .i64 r.lsn, .int .i64 r.back, .int .i64 r.epoch, .int .i64 r.group, .int .i64 r.page, .int .i64 r.kind, .int .i64 r.slot, .slice C0 m0 d0, .slice C1 m1 d1, .bool r.last] 36)))
  have HRow : Own kRedo 36 0 (fun b => S b ∨ w.heap.size ≤ b) (w7.alloc (.cells #[.int .i64 r.lsn, .int .i64 r.back, .int .i64 r.epoch, .int .i64 r.group, .int .i64 r.page, .int .i64 r.kind, .int .i64 r.slot, .slice C0 m0 d0, .slice C1 m1 d1, .bool r.last] 36)) (.slice LA ln lc) s.l := by
    rw [← HLN.out]
    exact (H.out.row.all F8).mono fun b hb _ => .inl hb
  have hvl : ∀ k, (Value.slice LA ln lc).ownBlock = some k → k < w.heap.size := fun k hk => (own_lt H.out.row k (by rw [HLN.out]; exact hk)).2
  have hrB : (Value.slice LA ln lc).ownBlock ≠ some B := by have := H.out.rB; rwa [HLN.out] at this
  have hIns := insertRedo (S := fun b => S b ∨ w.heap.size ≤ b) (T := fun b => w.heap.size < b) HRow (place_is H.out.ok.rise r.lsn).le hX (fun b hb _ => ⟨.inr (Nat.le_of_lt hb), fun e => by have := hvl b e.symm; omega⟩) B8 (fun e => by have := hvl _ e.symm; omega) (Nat.zero_le _) (by have := HF.out; omega)
  generalize hW8 : (w7.alloc (.cells #[.int .i64 r.lsn, .int .i64 r.back, .int .i64 r.epoch, .int .i64 r.group, .int .i64 r.page, .int .i64 r.kind, .int .i64 r.slot, .slice C0 m0 d0, .slice C1 m1 d1, .bool r.last] 36)) = W8 at *
  refine hK.out _ _ ⟨g8.cell trivial q1, g8.cell trivial p0, g8.cell trivial p1, g8.cell trivial p2, g8.cell trivial p3, g8.cell trivial p4, g8.cell trivial p5, g8.cell trivial p6, g8.cell trivial p7, g8.cell trivial p8, g8.cell trivial p9⟩ (fun hHeld => ?_)
  have HINS := Lib.hid hIns
  clear hIns hX HRow hs0 hs1 o0 o1 B8
  clear hK K
  try simp only [Act.put]
  try simp only [List.setIfInBounds_toArray]
  try simp only [List.set_cons_succ]
  try simp only [List.set_cons_zero]
  refine wpAnyH_ready (rs := [9]) (by kernel_rfl) (by simp) (AllReadyH.cons rfl (fun K hK => ?_) AllReadyH.nil)
  go_simp
  refine HINS.out.mono ?_
  rintro e w9 ⟨A9, c9, rfl, o9, f9, h9⟩
  go_simp
  have hbB : But (Value.slice LA ln lc).ownBlock B := fun e => hrB e.symm
  have hbX : But (Value.slice LA ln lc).ownBlock w.heap.size := fun e => by have := hvl _ e.symm; omega
  have gX : ∀ {j : Nat} {u : Value}, W6.cell? ⟨w.heap.size, j, none⟩ = some u → w9.cell? ⟨w.heap.size, j, none⟩ = some u := fun hu => f9.cell (p := ⟨w.heap.size, _, none⟩) hbX (g8.cell trivial hu)
  refine hK.out _ _ ⟨f9.cell (p := ⟨B, 1, none⟩) hbB (g8.cell trivial q1), gX p0, gX p1, gX p2, gX p3, gX p4, gX p5, gX p6, gX p7, gX p8, gX p9⟩ (fun hHeld => ?_)
  have BB9 := (f9.block B (Nat.lt_of_lt_of_le H6.out.lt g8.size) hbB).trans ((g8.block B H6.out.lt trivial).trans H6.out.blk)
  rw [HLN.out] at BB9
  clear hK K
  try simp only [Act.put]
  try simp only [List.setIfInBounds_toArray]
  try simp only [List.set_cons_succ]
  try simp only [List.set_cons_zero]
  refine wpAnyH_take (i := 10) (v := ?_) rfl (by kernel_rfl) (by kernel_rfl) (by kernel_rfl) (fun _ _ _ h => h) (Or.inl ⟨by rfl, ?_⟩) (by assumption) ?_
  rotate_left
  · (intro w hSw; (try dsimp only at hSw); go_simp; try with_reducible rfl)
  try simp only [Act.put]
  try simp only [List.setIfInBounds_toArray]
  try simp only [List.set_cons_succ]
  try simp only [List.set_cons_zero]
  refine wpAnyH_take (i := 11) (v := ?_) rfl (by kernel_rfl) (by kernel_rfl) (by kernel_rfl) (fun _ _ _ h => h) (Or.inl ⟨by rfl, ?_⟩) (by assumption) ?_
  rotate_left
  · (intro w hSw; (try dsimp only at hSw); go_simp; try with_reducible rfl)
  try simp only [Act.put]
  try simp only [List.setIfInBounds_toArray]
  try simp only [List.set_cons_succ]
  try simp only [List.set_cons_zero]
  have O9 := Lib.hid o9
  have FF9 := Lib.hid f9
  have HH9 := Lib.hid h9
  have FF8 := Lib.hid F8
  have HB9 := Lib.hid BB9
  have HVL := Lib.hid hvl
  have HRB := Lib.hid hrB
  clear hHeld o9 f9 h9 F7 F8 g8 gX p0 p1 p2 p3 p4 p5 p6 p7 p8 p9 pz q0 q1 q2 q3 q4 q5 qz g6 f6 hvl hrB F6 B6 z6 hw7 z7 hW8
  obtain ⟨q0, q1, q2, q3, q4, q5, qz⟩ := blk6 BB9
  clear BB9
  refine wpAnyH_done (by kernel_rfl) ?_ _
  show wpList _ _ _ _ _ _
  go_wp2_with fail
  go_ret2
  have hl : s.l.take (placeL s.l r.lsn) ++ r :: s.l.drop (placeL s.l r.lsn) = (s.add r).l := rfl
  have o9 := O9.out
  rw [HLN.out, hl] at o9
  have h9 := HH9.out
  rw [HLN.out] at h9
  have z8 := FF8.out.size
  have hnB9 : (Value.slice A9 (ln + 1) c9).ownBlock ≠ some B := fun e => by
    rcases h9 with h | h
    · exact HRB.out (by rw [← h, e])
    · rw [h] at e; have := Option.some.inj e; omega
  have fS : Fr (fun b => b ≠ B) w9 ((w9.setCell ⟨B, 1, none⟩ (.slice A9 (ln + 1) c9)).setCell ⟨B, 5, none⟩ (.bool false)) := by
    repeat (first | (with_reducible exact Fr.refl _ _) | with_reducible refine Fr.setCell ?_ (fun m hm => by exact hm) _)
  have fA : Fr (Off2 B (.slice LA ln lc)) w ((w9.setCell ⟨B, 1, none⟩ (.slice A9 (ln + 1) c9)).setCell ⟨B, 5, none⟩ (.bool false)) :=
    ((FF8.out.mono fun _ _ => trivial).trans (FF9.out.mono fun b (hb : Off2 B (.slice LA ln lc) b) => hb.2)).trans (fS.mono fun b hb => hb.1)
  rw [HLN.out]
  refine ⟨rfl, ⟨⟨.slice A9 (ln + 1) c9, ⟨heap_setCell_same _ B 5 _ _ _ (heap_setCell_same _ B 1 _ _ _ HB9.out), ?_, ?_, ?_, hnB9, ?_⟩, fA, ?_⟩⟩⟩
  · refine o9.move fS (fun b hb _ => ?_) (fun k hk e => hnB9 (by rw [hk, e]))
    rcases hb with hb | hb
    · exact H.out.nB b hb
    · omega
  · have hsp := H.out.sp
    rw [HLN.out] at hsp
    refine ((hsp.mono (T := fun b => ((S b ∨ w.heap.size ≤ b) ∧ some b ≠ (Value.slice A9 (ln + 1) c9).ownBlock) ∧ Off2 B (.slice LA ln lc) b) fun b hb hl => ⟨⟨.inl hb.1, fun e => ?_⟩, H.out.nB b hb.1, hb.2⟩).move' fA fun b hb _ => hb.2).mono fun b hb _ => hb.1
    rcases h9 with h | h
    · exact hb.2 (by rw [e, h])
    · rw [h] at e; have := Option.some.inj e; omega
  · rintro b (hb | hb)
    · exact H.out.nB b hb
    · omega
  · exact H.out.ok.add HV.out HN.out HF.out
  · rcases h9 with h | h
    · exact .inl h
    · exact .inr ⟨_, h, z8⟩
end Go.Proofs.YteclgcnndjcmmaaDoor
