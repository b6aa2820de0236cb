/- redo.Clone: a record of its own. redo.Clones, redo.Sort (at most twenty records). -/
import Derived.Test.YteclgcnndjcmmaaDoorClone
import Derived.Test.YteclgcnndjcmmaaDoorVIx
import Derived.Test.YteclgcnndjcmmaaDoorLast3
import Derived.Deep.RegionHeld3
import Derived.Deep.Cut
import Derived.Deep.DeepFit
import Derived.Deep.LoopGhost
namespace Go.Proofs.YteclgcnndjcmmaaDoor
open Go.RowKit

set_option hygiene false in
set_option maxRecDepth 100000 in
set_option maxHeartbeats 2000000 in
theorem redo_clone {w : World} {r : Redo} {v0 v1 : Value} {S T : Nat → Prop} (s0 : Sl kByte S w v0 r.key) (s1 : Sl kByte T w v1 r.val) (hk : r.key.length ≤ 1000000) (hv : r.val.length ≤ 1000000) :
    Calls Tryd.prog 54 #[.agg #[.int .i64 r.lsn, .int .i64 r.back, .int .i64 r.epoch, .int .i64 r.group, .int .i64 r.page, .int .i64 r.kind, .int .i64 r.slot, v0, v1, .bool r.last]] w
      fun e w' => ∃ A0 k0 c0 A1 k1 c1, e = .returned (.agg #[.int .i64 r.lsn, .int .i64 r.back, .int .i64 r.epoch, .int .i64 r.group, .int .i64 r.page, .int .i64 r.kind, .int .i64 r.slot, .slice A0 k0 c0, .slice A1 k1 c1, .bool r.last]) ∧
        Own kByte 5 (w.heap.size + 2) All w' (.slice A0 k0 c0) r.key ∧ Own kByte 5 (w.heap.size + 2) All w' (.slice A1 k1 c1) r.val ∧ Fr All w w' := by
  obtain ⟨A0, n0, c0, rfl, e0, _⟩ := s0.open_
  obtain ⟨A1, n1, c1, rfl, e1, _⟩ := s1.open_
  have P := heap_alloc2_old w (.cells #[.int .i64 r.lsn, .int .i64 r.back, .int .i64 r.epoch, .int .i64 r.group, .int .i64 r.page, .int .i64 r.kind, .int .i64 r.slot, .slice A0 n0 c0, .slice A1 n1 c1, .bool r.last] 36) (.cells #[.int .i64 0, .int .i64 0, .int .i64 0, .int .i64 0, .int .i64 0, .int .i64 0, .int .i64 0, .slice none 0 0, .slice none 0 0, .bool false] 36)
  have Q := heap_alloc2_new w (.cells #[.int .i64 r.lsn, .int .i64 r.back, .int .i64 r.epoch, .int .i64 r.group, .int .i64 r.page, .int .i64 r.kind, .int .i64 r.slot, .slice A0 n0 c0, .slice A1 n1 c1, .bool r.last] 36) (.cells #[.int .i64 0, .int .i64 0, .int .i64 0, .int .i64 0, .int .i64 0, .int .i64 0, .int .i64 0, .slice none 0 0, .slice none 0 0, .bool false] 36)
  have F0 := ((Fr.refl All w).alloc (.cells #[.int .i64 r.lsn, .int .i64 r.back, .int .i64 r.epoch, .int .i64 r.group, .int .i64 r.page, .int .i64 r.kind, .int .i64 r.slot, .slice A0 n0 c0, .slice A1 n1 c1, .bool r.last] 36)).alloc (.cells #[.int .i64 0, .int .i64 0, .int .i64 0, .int .i64 0, .int .i64 0, .int .i64 0, .int .i64 0, .slice none 0 0, .slice none 0 0, .bool false] 36)
  have hsz : ((w.alloc (.cells #[.int .i64 r.lsn, .int .i64 r.back, .int .i64 r.epoch, .int .i64 r.group, .int .i64 r.page, .int .i64 r.kind, .int .i64 r.slot, .slice A0 n0 c0, .slice A1 n1 c1, .bool r.last] 36)).alloc (.cells #[.int .i64 0, .int .i64 0, .int .i64 0, .int .i64 0, .int .i64 0, .int .i64 0, .int .i64 0, .slice none 0 0, .slice none 0 0, .bool false] 36)).heap.size = w.heap.size + 2 := by simp
  go_enter Tryd.func54, Tryd.ntmps54
  go_upto_region 1 with (fail)
  refine wp_name ?_
  intro W hW
  rw [← hW] at P Q F0 hsz
  clear hW
  obtain ⟨p0, p1, p2, p3, p4, p5, p6, p7, p8, p9, pz⟩ := blk10 P
  have hlP := blk_lt P
  have hlQ := blk_lt Q
  refine wp_region_last3 (S := fun w' => w'.cell? ⟨w.heap.size, 7, none⟩ = some (.slice A0 n0 c0) ∧ w'.cell? ⟨w.heap.size, 8, none⟩ = some (.slice A1 n1 c1)) 7 (by kernel_rfl) rfl (by kernel_rfl) (by kernel_rfl) (by kernel_rfl) ⟨p7, p8⟩ (fun hHeld => ?_)
  simp only [List.take_succ_cons, List.take_zero]
  refine wpAnyH_take (i := 0) (v := ?_) rfl (by kernel_rfl) (by kernel_rfl) (by kernel_rfl) (fun _ _ _ h => h) (Or.inl ⟨by rfl, ?_⟩) (by assumption) ?_
  rotate_left
  · (intro w hSw; (try dsimp only at hSw); go_simp; try with_reducible rfl)
  try simp only [Act.put]
  try simp only [List.setIfInBounds_toArray]
  try simp only [List.set_cons_succ]
  try simp only [List.set_cons_zero]
  refine wpAnyH_take (i := 1) (v := ?_) rfl (by kernel_rfl) (by kernel_rfl) (by kernel_rfl) (fun _ _ _ h => h) (Or.inl ⟨by rfl, ?_⟩) (by assumption) ?_
  rotate_left
  · (intro w hSw; (try dsimp only at hSw); go_simp; try with_reducible rfl)
  try simp only [Act.put]
  try simp only [List.setIfInBounds_toArray]
  try simp only [List.set_cons_succ]
  try simp only [List.set_cons_zero]
  refine wpAnyH_take (i := 3) (v := ?_) rfl (by kernel_rfl) (by kernel_rfl) (by kernel_rfl) (fun _ _ _ h => h) (Or.inl ⟨by rfl, ?_⟩) (by assumption) ?_
  rotate_left
  · (intro w hSw; (try dsimp only at hSw); go_simp; try with_reducible rfl)
  try simp only [Act.put]
  try simp only [List.setIfInBounds_toArray]
  try simp only [List.set_cons_succ]
  try simp only [List.set_cons_zero]
  refine wpAnyH_take (i := 4) (v := ?_) rfl (by kernel_rfl) (by kernel_rfl) (by kernel_rfl) (fun _ _ _ h => h) (Or.inl ⟨by rfl, ?_⟩) (by assumption) ?_
  rotate_left
  · (intro w hSw; (try dsimp only at hSw); go_simp; try with_reducible rfl)
  try simp only [Act.put]
  try simp only [List.setIfInBounds_toArray]
  try simp only [List.set_cons_succ]
  try simp only [List.set_cons_zero]
  refine wpAnyH_ready (rs := [2]) (by kernel_rfl) (by simp) (AllReadyH.cons rfl (fun K hK => ?_) AllReadyH.nil)
  go_simp
  refine (clone_bytes ((s0.all F0).all (Fr.refl All W).drew) (by omega)).mono ?_
  rintro e w3 ⟨A3, c3, rfl, o3, f3⟩
  go_simp
  have F3 : Fr All W w3 := (Fr.refl All W).drew.then_all f3
  refine hK.out _ _ ⟨F3.cell trivial p7, F3.cell trivial p8⟩ (fun hHeld => ?_)
  clear hK K
  try simp only [Act.put]
  try simp only [List.setIfInBounds_toArray]
  try simp only [List.set_cons_succ]
  try simp only [List.set_cons_zero]
  refine wpAnyH_take (i := 6) (v := ?_) rfl (by kernel_rfl) (by kernel_rfl) (by kernel_rfl) (fun _ _ _ h => h) (Or.inl ⟨by rfl, ?_⟩) (by assumption) ?_
  rotate_left
  · (intro w hSw; (try dsimp only at hSw); go_simp; try with_reducible rfl)
  try simp only [Act.put]
  try simp only [List.setIfInBounds_toArray]
  try simp only [List.set_cons_succ]
  try simp only [List.set_cons_zero]
  refine wpAnyH_ready (rs := [5]) (by kernel_rfl) (by simp) (AllReadyH.cons rfl (fun K hK => ?_) AllReadyH.nil)
  go_simp
  refine (clone_bytes ((s1.all F0).all F3) (by omega)).mono ?_
  rintro e w4 ⟨A4, c4, rfl, o4, f4⟩
  go_simp
  have F4 : Fr All W w4 := F3.then_all f4
  refine hK.out _ _ ⟨F4.cell trivial p7, F4.cell trivial p8⟩ (fun hHeld => ?_)
  clear hK K
  try simp only [Act.put]
  try simp only [List.setIfInBounds_toArray]
  try simp only [List.set_cons_succ]
  try simp only [List.set_cons_zero]
  have FW := F0.trans F4
  have B1 := (F4.block _ hlP trivial).trans P
  have B2 := (F4.block _ hlQ trivial).trans Q
  have O3 : Own kByte 5 (w.heap.size + 2) All w4 (.slice A3 r.key.length c3) r.key := (o3.all f4).lower (by have : W.drew.heap.size = W.heap.size := rfl; omega)
  have O4 : Own kByte 5 (w.heap.size + 2) All w4 (.slice A4 r.val.length c4) r.val := o4.lower (by have := F3.size; omega)
  clear hHeld p0 p1 p2 p3 p4 p5 p6 p7 p8 p9 pz P Q o3 o4 F3 f3 f4 F4
  rw [e0] at O3
  rw [e1] at O4
  obtain ⟨p0, p1, p2, p3, p4, p5, p6, p7, p8, p9, pz⟩ := blk10 B1
  obtain ⟨q0, q1, q2, q3, q4, q5, q6, q7, q8, q9, qz⟩ := blk10 B2
  refine wpAnyH_done (by kernel_rfl) ?_ _
  show wpList _ _ _ _ _ _
  go_wp2_with fail
  show wpList _ _ _ _ _ _
  go_wp2_with fail
  show wpList _ _ _ _ _ _
  go_wp2_with fail
  refine bodyPost_ret (v := .agg #[.int .i64 r.lsn, .int .i64 r.back, .int .i64 r.epoch, .int .i64 r.group, .int .i64 r.page, .int .i64 r.kind, .int .i64 r.slot, .slice A3 n0 c3, .slice A4 n1 c4, .bool r.last]) ?_ rfl ⟨A3, n0, c3, A4, n1, c4, rfl, ?_, ?_, ?_⟩
  · simp [results, Tryd.results54, go_sem, q0, q1, q2, q3, q4, q5, q6, q7, q8, q9]
  · refine ((O3.any (T := Nowhere)).move (T := fun b => w.heap.size + 2 ≤ b) ?_ (fun _ h _ => h.elim) (fun k hk => (own_lt O3 k hk).1)).any
    repeat (first | (with_reducible exact Fr.refl _ _) | with_reducible refine Fr.setCell ?_ (fun m hm => by dsimp only at hm ⊢; omega) _)
  · refine ((O4.any (T := Nowhere)).move (T := fun b => w.heap.size + 2 ≤ b) ?_ (fun _ h _ => h.elim) (fun k hk => (own_lt O4 k hk).1)).any
    repeat (first | (with_reducible exact Fr.refl _ _) | with_reducible refine Fr.setCell ?_ (fun m hm => by dsimp only at hm ⊢; omega) _)
  · repeat (first | (with_reducible exact FW) | with_reducible refine Fr.setNew ?_ (by dsimp only; omega) _)
end Go.Proofs.YteclgcnndjcmmaaDoor
namespace Go.Proofs.YteclgcnndjcmmaaDoor
open Go.RowKit

theorem info_redo : (Tryd.prog.info? 36).map (fun i => (i.zero, i.size, i.bytes)) = some (some (.agg #[.int .i64 0, .int .i64 0, .int .i64 0, .int .i64 0, .int .i64 0, .int .i64 0, .int .i64 0, .slice none 0 0, .slice none 0 0, .bool false]), kRedo.sz, 112) := by kernel_rfl

/-- Records' bytes are short. -/
def RedosOk (l : List Redo) : Prop := l.length ≤ 1000000 ∧ ∀ r ∈ l, r.key.length ≤ 1000000 ∧ r.val.length ≤ 1000000

end Go.Proofs.YteclgcnndjcmmaaDoor
