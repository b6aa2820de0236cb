/- The document's copies of records. -/
import Derived.Test.YtoaamcpiljoojaaGreatDoorRefY
import Derived.Test.YtoaamcpiljoojaaGreatDoorVIx
import Derived.Test.YtoaamcpiljoojaaGreatDoorRClones
import Derived.Test.YtoaamcpiljoojaaGreatDoorLast3
import Derived.Deep.Cut
namespace Go.Proofs.YtoaamcpiljoojaaGreatDoor
open Go.RowKit

theorem ref_bytes2 {v : Value} {xs : List UInt8} {S : Nat → Prop} {w : World} (h : Sl kByte S w v xs) (hn : xs.length ≤ 1000000) :
    Calls Tryz.prog 90 #[v] w fun e w' => ∃ A c, e = .returned (.slice A xs.length c) ∧ Own kByte 5 w.heap.size All w' (.slice A xs.length c) xs ∧ Fr All w w' :=
  (ref_bytes h hn).mono fun e w' ⟨v', he, ho, hf⟩ => by
    obtain ⟨A', c', rfl⟩ := ho.length
    exact ⟨A', c', he, ho, hf⟩
set_option maxRecDepth 100000 in
set_option maxHeartbeats 4000000 in
theorem ref_redo {r : Redo} {A0 A1 : Option Addr} {n0 c0 n1 c1 : Nat} {S0 S1 : Nat → Prop} {w : World} (k0 : Sl kByte S0 w (.slice A0 n0 c0) r.key) (k1 : Sl kByte S1 w (.slice A1 n1 c1) r.val) (h0 : r.key.length ≤ 1000000) (h1 : r.val.length ≤ 1000000) :
    Calls Tryz.prog 50 #[.agg #[.int .i64 r.lsn, .int .i64 r.back, .int .i64 r.epoch, .int .i64 r.group, .int .i64 r.page, .int .i64 r.kind, .int .i64 r.slot, .slice A0 n0 c0, .slice A1 n1 c1, .bool r.last]] w fun e w' => ∃ A2 n2 A3 n3, e = .returned (.agg #[.int .i64 r.lsn, .int .i64 r.back, .int .i64 r.epoch, .int .i64 r.group, .int .i64 r.page, .int .i64 r.kind, .int .i64 r.slot, .slice A2 r.key.length n2, .slice A3 r.val.length n3, .bool r.last]) ∧ Sl kByte (From w.heap.size) w' (.slice A2 r.key.length n2) r.key ∧ Sl kByte (From w.heap.size) w' (.slice A3 r.val.length n3) r.val ∧ Fr All w w' := by
  have P := heap_alloc2_old w (.cells #[.int .i64 r.lsn, .int .i64 r.back, .int .i64 r.epoch, .int .i64 r.group, .int .i64 r.page, .int .i64 r.kind, .int .i64 r.slot, .slice A0 n0 c0, .slice A1 n1 c1, .bool r.last] 33) (.cells #[.int .i64 0, .int .i64 0, .int .i64 0, .int .i64 0, .int .i64 0, .int .i64 0, .int .i64 0, .slice none 0 0, .slice none 0 0, .bool false] 33)
  have Q := heap_alloc2_new w (.cells #[.int .i64 r.lsn, .int .i64 r.back, .int .i64 r.epoch, .int .i64 r.group, .int .i64 r.page, .int .i64 r.kind, .int .i64 r.slot, .slice A0 n0 c0, .slice A1 n1 c1, .bool r.last] 33) (.cells #[.int .i64 0, .int .i64 0, .int .i64 0, .int .i64 0, .int .i64 0, .int .i64 0, .int .i64 0, .slice none 0 0, .slice none 0 0, .bool false] 33)
  have F0 := ((Fr.refl All w).alloc (.cells #[.int .i64 r.lsn, .int .i64 r.back, .int .i64 r.epoch, .int .i64 r.group, .int .i64 r.page, .int .i64 r.kind, .int .i64 r.slot, .slice A0 n0 c0, .slice A1 n1 c1, .bool r.last] 33)).alloc (.cells #[.int .i64 0, .int .i64 0, .int .i64 0, .int .i64 0, .int .i64 0, .int .i64 0, .int .i64 0, .slice none 0 0, .slice none 0 0, .bool false] 33)
  have hz : ((w.alloc (.cells #[.int .i64 r.lsn, .int .i64 r.back, .int .i64 r.epoch, .int .i64 r.group, .int .i64 r.page, .int .i64 r.kind, .int .i64 r.slot, .slice A0 n0 c0, .slice A1 n1 c1, .bool r.last] 33)).alloc (.cells #[.int .i64 0, .int .i64 0, .int .i64 0, .int .i64 0, .int .i64 0, .int .i64 0, .int .i64 0, .slice none 0 0, .slice none 0 0, .bool false] 33)).heap.size = w.heap.size + 2 := by simp
  obtain ⟨W, hW⟩ : ∃ W, (w.alloc (.cells #[.int .i64 r.lsn, .int .i64 r.back, .int .i64 r.epoch, .int .i64 r.group, .int .i64 r.page, .int .i64 r.kind, .int .i64 r.slot, .slice A0 n0 c0, .slice A1 n1 c1, .bool r.last] 33)).alloc (.cells #[.int .i64 0, .int .i64 0, .int .i64 0, .int .i64 0, .int .i64 0, .int .i64 0, .int .i64 0, .slice none 0 0, .slice none 0 0, .bool false] 33) = W := ⟨_, rfl⟩
  rw [hW] at P Q F0 hz
  obtain ⟨p0, p1, p2, p3, p4, p5, p6, p7, p8, p9, pz⟩ := blk10 P
  obtain ⟨q0, q1, q2, q3, q4, q5, q6, q7, q8, q9, qz⟩ := blk10 Q
  have HF0 := Lib.hid F0
  have HK0 := Lib.hid (k0.all F0)
  have HK1 := Lib.hid (k1.all F0)
  clear k0 k1 P Q F0
  go_enter Tryz.func50, Tryz.ntmps50
  go_upto_region 1 with (fail)
  clear hW
  refine wp_region_last (S := fun w' => w'.cell? ⟨w.heap.size, 0, none⟩ = some (.int .i64 r.lsn) ∧ w'.cell? ⟨w.heap.size, 1, none⟩ = some (.int .i64 r.back) ∧ w'.cell? ⟨w.heap.size, 2, none⟩ = some (.int .i64 r.epoch) ∧ w'.cell? ⟨w.heap.size, 3, none⟩ = some (.int .i64 r.group) ∧ w'.cell? ⟨w.heap.size, 4, none⟩ = some (.int .i64 r.page) ∧ w'.cell? ⟨w.heap.size, 5, none⟩ = some (.int .i64 r.kind) ∧ w'.cell? ⟨w.heap.size, 6, none⟩ = some (.int .i64 r.slot) ∧ w'.cell? ⟨w.heap.size, 7, none⟩ = some (.slice A0 n0 c0) ∧ w'.cell? ⟨w.heap.size, 8, none⟩ = some (.slice A1 n1 c1) ∧ w'.cell? ⟨w.heap.size, 9, none⟩ = some (.bool r.last)) 23 (by kernel_rfl) rfl (by kernel_rfl) ⟨p0, p1, p2, p3, p4, p5, p6, p7, p8, p9⟩ (fun hHeld => ?_)
  simp only [List.take_succ_cons, List.take_zero]
  refine wpAnyH_take (i := 0) (v := ?_) rfl (by kernel_rfl) (by kernel_rfl) (by kernel_rfl) (fun _ _ _ h => h) (Or.inl ⟨by rfl, ?_⟩) (by assumption) ?_
  rotate_left
  · (intro w hSw; (try dsimp only at hSw); go_simp; try with_reducible rfl)
  try simp only [List.getElem_toArray, List.getElem_cons_succ, List.getElem_cons_zero, Act.put, List.setIfInBounds_toArray, List.set_cons_succ, List.set_cons_zero]
  refine wpAnyH_take (i := 1) (v := ?_) rfl (by kernel_rfl) (by kernel_rfl) (by kernel_rfl) (fun _ _ _ h => h) (Or.inl ⟨by rfl, ?_⟩) (by assumption) ?_
  rotate_left
  · (intro w hSw; (try dsimp only at hSw); go_simp; try with_reducible rfl)
  try simp only [List.getElem_toArray, List.getElem_cons_succ, List.getElem_cons_zero, Act.put, List.setIfInBounds_toArray, List.set_cons_succ, List.set_cons_zero]
  refine wpAnyH_take (i := 2) (v := ?_) rfl (by kernel_rfl) (by kernel_rfl) (by kernel_rfl) (fun _ _ _ h => h) (Or.inl ⟨by rfl, ?_⟩) (by assumption) ?_
  rotate_left
  · (intro w hSw; (try dsimp only at hSw); go_simp; try with_reducible rfl)
  try simp only [List.getElem_toArray, List.getElem_cons_succ, List.getElem_cons_zero, Act.put, List.setIfInBounds_toArray, List.set_cons_succ, List.set_cons_zero]
  refine wpAnyH_take (i := 3) (v := ?_) rfl (by kernel_rfl) (by kernel_rfl) (by kernel_rfl) (fun _ _ _ h => h) (Or.inl ⟨by rfl, ?_⟩) (by assumption) ?_
  rotate_left
  · (intro w hSw; (try dsimp only at hSw); go_simp; try with_reducible rfl)
  try simp only [List.getElem_toArray, List.getElem_cons_succ, List.getElem_cons_zero, Act.put, List.setIfInBounds_toArray, List.set_cons_succ, List.set_cons_zero]
  refine wpAnyH_take (i := 4) (v := ?_) rfl (by kernel_rfl) (by kernel_rfl) (by kernel_rfl) (fun _ _ _ h => h) (Or.inl ⟨by rfl, ?_⟩) (by assumption) ?_
  rotate_left
  · (intro w hSw; (try dsimp only at hSw); go_simp; try with_reducible rfl)
  try simp only [List.getElem_toArray, List.getElem_cons_succ, List.getElem_cons_zero, Act.put, List.setIfInBounds_toArray, List.set_cons_succ, List.set_cons_zero]
  refine wpAnyH_take (i := 5) (v := ?_) rfl (by kernel_rfl) (by kernel_rfl) (by kernel_rfl) (fun _ _ _ h => h) (Or.inl ⟨by rfl, ?_⟩) (by assumption) ?_
  rotate_left
  · (intro w hSw; (try dsimp only at hSw); go_simp; try with_reducible rfl)
  try simp only [List.getElem_toArray, List.getElem_cons_succ, List.getElem_cons_zero, Act.put, List.setIfInBounds_toArray, List.set_cons_succ, List.set_cons_zero]
  refine wpAnyH_take (i := 6) (v := ?_) rfl (by kernel_rfl) (by kernel_rfl) (by kernel_rfl) (fun _ _ _ h => h) (Or.inl ⟨by rfl, ?_⟩) (by assumption) ?_
  rotate_left
  · (intro w hSw; (try dsimp only at hSw); go_simp; try with_reducible rfl)
  try simp only [List.getElem_toArray, List.getElem_cons_succ, List.getElem_cons_zero, Act.put, List.setIfInBounds_toArray, List.set_cons_succ, List.set_cons_zero]
  refine wpAnyH_take (i := 7) (v := ?_) rfl (by kernel_rfl) (by kernel_rfl) (by kernel_rfl) (fun _ _ _ h => h) (Or.inl ⟨by rfl, ?_⟩) (by assumption) ?_
  rotate_left
  · (intro w hSw; (try dsimp only at hSw); go_simp; try with_reducible rfl)
  try simp only [List.getElem_toArray, List.getElem_cons_succ, List.getElem_cons_zero, Act.put, List.setIfInBounds_toArray, List.set_cons_succ, List.set_cons_zero]
  refine wpAnyH_take (i := 8) (v := ?_) rfl (by kernel_rfl) (by kernel_rfl) (by kernel_rfl) (fun _ _ _ h => h) (Or.inl ⟨by rfl, ?_⟩) (by assumption) ?_
  rotate_left
  · (intro w hSw; (try dsimp only at hSw); go_simp; try with_reducible rfl)
  try simp only [List.getElem_toArray, List.getElem_cons_succ, List.getElem_cons_zero, Act.put, List.setIfInBounds_toArray, List.set_cons_succ, List.set_cons_zero]
  refine wpAnyH_take (i := 9) (v := ?_) rfl (by kernel_rfl) (by kernel_rfl) (by kernel_rfl) (fun _ _ _ h => h) (Or.inl ⟨by rfl, ?_⟩) (by assumption) ?_
  rotate_left
  · (intro w hSw; (try dsimp only at hSw); go_simp; try with_reducible rfl)
  try simp only [List.getElem_toArray, List.getElem_cons_succ, List.getElem_cons_zero, Act.put, List.setIfInBounds_toArray, List.set_cons_succ, List.set_cons_zero]
  refine wpAnyH_take (i := 10) (v := ?_) rfl (by kernel_rfl) (by kernel_rfl) (by kernel_rfl) (fun _ _ _ h => h) (Or.inl ⟨by rfl, ?_⟩) (by assumption) ?_
  rotate_left
  · (intro w hSw; (try dsimp only at hSw); go_simp; try with_reducible rfl)
  try simp only [List.getElem_toArray, List.getElem_cons_succ, List.getElem_cons_zero, Act.put, List.setIfInBounds_toArray, List.set_cons_succ, List.set_cons_zero]
  refine wpAnyH_take (i := 11) (v := ?_) rfl (by kernel_rfl) (by kernel_rfl) (by kernel_rfl) (fun _ _ _ h => h) (Or.inl ⟨by rfl, ?_⟩) (by assumption) ?_
  rotate_left
  · (intro w hSw; (try dsimp only at hSw); go_simp; try with_reducible rfl)
  try simp only [List.getElem_toArray, List.getElem_cons_succ, List.getElem_cons_zero, Act.put, List.setIfInBounds_toArray, List.set_cons_succ, List.set_cons_zero]
  refine wpAnyH_take (i := 12) (v := ?_) rfl (by kernel_rfl) (by kernel_rfl) (by kernel_rfl) (fun _ _ _ h => h) (Or.inl ⟨by rfl, ?_⟩) (by assumption) ?_
  rotate_left
  · (intro w hSw; (try dsimp only at hSw); go_simp; try with_reducible rfl)
  try simp only [List.getElem_toArray, List.getElem_cons_succ, List.getElem_cons_zero, Act.put, List.setIfInBounds_toArray, List.set_cons_succ, List.set_cons_zero]
  refine wpAnyH_take (i := 13) (v := ?_) rfl (by kernel_rfl) (by kernel_rfl) (by kernel_rfl) (fun _ _ _ h => h) (Or.inl ⟨by rfl, ?_⟩) (by assumption) ?_
  rotate_left
  · (intro w hSw; (try dsimp only at hSw); go_simp; try with_reducible rfl)
  try simp only [List.getElem_toArray, List.getElem_cons_succ, List.getElem_cons_zero, Act.put, List.setIfInBounds_toArray, List.set_cons_succ, List.set_cons_zero]
  refine wpAnyH_take (i := 14) (v := ?_) rfl (by kernel_rfl) (by kernel_rfl) (by kernel_rfl) (fun _ _ _ h => h) (Or.inl ⟨by rfl, ?_⟩) (by assumption) ?_
  rotate_left
  · (intro w hSw; (try dsimp only at hSw); go_simp; try with_reducible rfl)
  try simp only [List.getElem_toArray, List.getElem_cons_succ, List.getElem_cons_zero, Act.put, List.setIfInBounds_toArray, List.set_cons_succ, List.set_cons_zero]
  refine wpAnyH_take (i := 15) (v := ?_) rfl (by kernel_rfl) (by kernel_rfl) (by kernel_rfl) (fun _ _ _ h => h) (Or.inl ⟨by rfl, ?_⟩) (by assumption) ?_
  rotate_left
  · (intro w hSw; (try dsimp only at hSw); go_simp; try with_reducible rfl)
  try simp only [List.getElem_toArray, List.getElem_cons_succ, List.getElem_cons_zero, Act.put, List.setIfInBounds_toArray, List.set_cons_succ, List.set_cons_zero]
  refine wpAnyH_take (i := 17) (v := ?_) rfl (by kernel_rfl) (by kernel_rfl) (by kernel_rfl) (fun _ _ _ h => h) (Or.inl ⟨by rfl, ?_⟩) (by assumption) ?_
  rotate_left
  · (intro w hSw; (try dsimp only at hSw); go_simp; try with_reducible rfl)
  try simp only [List.getElem_toArray, List.getElem_cons_succ, List.getElem_cons_zero, Act.put, List.setIfInBounds_toArray, List.set_cons_succ, List.set_cons_zero]
  refine wpAnyH_take (i := 18) (v := ?_) rfl (by kernel_rfl) (by kernel_rfl) (by kernel_rfl) (fun _ _ _ h => h) (Or.inl ⟨by rfl, ?_⟩) (by assumption) ?_
  rotate_left
  · (intro w hSw; (try dsimp only at hSw); go_simp; try with_reducible rfl)
  try simp only [List.getElem_toArray, List.getElem_cons_succ, List.getElem_cons_zero, Act.put, List.setIfInBounds_toArray, List.set_cons_succ, List.set_cons_zero]
  refine wpAnyH_take (i := 20) (v := ?_) rfl (by kernel_rfl) (by kernel_rfl) (by kernel_rfl) (fun _ _ _ h => h) (Or.inl ⟨by rfl, ?_⟩) (by assumption) ?_
  rotate_left
  · (intro w hSw; (try dsimp only at hSw); go_simp; try with_reducible rfl)
  try simp only [List.getElem_toArray, List.getElem_cons_succ, List.getElem_cons_zero, Act.put, List.setIfInBounds_toArray, List.set_cons_succ, List.set_cons_zero]
  refine wpAnyH_take (i := 21) (v := ?_) rfl (by kernel_rfl) (by kernel_rfl) (by kernel_rfl) (fun _ _ _ h => h) (Or.inl ⟨by rfl, ?_⟩) (by assumption) ?_
  rotate_left
  · (intro w hSw; (try dsimp only at hSw); go_simp; try with_reducible rfl)
  try simp only [List.getElem_toArray, List.getElem_cons_succ, List.getElem_cons_zero, Act.put, List.setIfInBounds_toArray, List.set_cons_succ, List.set_cons_zero]
  refine wpAnyH_ready (rs := [16]) (by kernel_rfl) (by simp) (AllReadyH.cons rfl (fun K hK => ?_) AllReadyH.nil)
  go_simp
  refine (ref_bytes2 (HK0.out.all (Fr.refl All W).drew) h0).mono ?_
  rintro e w1 ⟨A2, n2, rfl, o1, f1⟩
  go_simp
  have F1 : Fr All W w1 := (Fr.refl All W).drew.then_all f1
  refine hK.out _ _ ⟨F1.cell trivial p0, F1.cell trivial p1, F1.cell trivial p2, F1.cell trivial p3, F1.cell trivial p4, F1.cell trivial p5, F1.cell trivial p6, F1.cell trivial p7, F1.cell trivial p8, F1.cell trivial p9⟩ (fun hHeld => ?_)
  clear hK K
  try simp only [List.getElem_toArray, List.getElem_cons_succ, List.getElem_cons_zero, Act.put, List.setIfInBounds_toArray, List.set_cons_succ, List.set_cons_zero]
  refine wpAnyH_ready (rs := [19]) (by kernel_rfl) (by simp) (AllReadyH.cons rfl (fun K hK => ?_) AllReadyH.nil)
  go_simp
  refine (ref_bytes2 (HK1.out.all F1) h1).mono ?_
  rintro e w2 ⟨A3, n3, rfl, o2, f2⟩
  go_simp
  have F2 : Fr All W w2 := F1.then_all f2
  refine hK.out _ _ ⟨F2.cell trivial p0, F2.cell trivial p1, F2.cell trivial p2, F2.cell trivial p3, F2.cell trivial p4, F2.cell trivial p5, F2.cell trivial p6, F2.cell trivial p7, F2.cell trivial p8, F2.cell trivial p9⟩ (fun hHeld => ?_)
  clear hK K
  try simp only [List.getElem_toArray, List.getElem_cons_succ, List.getElem_cons_zero, Act.put, List.setIfInBounds_toArray, List.set_cons_succ, List.set_cons_zero]
  refine wpAnyH_take (i := 22) (v := ?_) rfl (by kernel_rfl) (by kernel_rfl) (by kernel_rfl) (fun _ _ _ h => h) (Or.inl ⟨by rfl, ?_⟩) (by assumption) ?_
  rotate_left
  · (intro w hSw; (try dsimp only at hSw); go_simp; try with_reducible rfl)
  try simp only [List.getElem_toArray, List.getElem_cons_succ, List.getElem_cons_zero, Act.put, List.setIfInBounds_toArray, List.set_cons_succ, List.set_cons_zero]
  refine wpAnyH_done (by kernel_rfl) ?_ _
  show wpList _ _ _ _ _ _
  have Q2 := F2.block (w.heap.size + 1) (by omega) trivial
  have x0 := F2.cell trivial q0
  have x1 := F2.cell trivial q1
  have x2 := F2.cell trivial q2
  have x3 := F2.cell trivial q3
  have x4 := F2.cell trivial q4
  have x5 := F2.cell trivial q5
  have x6 := F2.cell trivial q6
  have x7 := F2.cell trivial q7
  have x8 := F2.cell trivial q8
  have x9 := F2.cell trivial q9
  have xz : ∀ j, w2.frozen? ⟨w.heap.size + 1, j, none⟩ = false := fun j => (World.frozen?_of_block (a := ⟨w.heap.size + 1, j, none⟩) Q2).trans (qz j)
  clear hHeld p0 p1 p2 p3 p4 p5 p6 p7 p8 p9 pz q0 q1 q2 q3 q4 q5 q6 q7 q8 q9 qz
  go_wp2_with fail
  have z1 := f1.size
  have z2 := f2.size
  have zd : W.drew.heap.size = W.heap.size := rfl
  refine bodyPost_ret (v := .agg #[.int .i64 r.lsn, .int .i64 r.back, .int .i64 r.epoch, .int .i64 r.group, .int .i64 r.page, .int .i64 r.kind, .int .i64 r.slot, .slice A2 r.key.length n2, .slice A3 r.val.length n3, .bool r.last]) ?_ rfl ⟨A2, n2, A3, n3, rfl, ?_, ?_, ?_⟩
  · simp [results, Tryz.results50, go_sem, x0, x1, x2, x3, x4, x5, x6, x7, x8, x9]
  · refine (((o1.all f2).plain_in (T := fun b => w.heap.size + 2 ≤ b) (fun b hb _ => by omega)).move' (T := fun b => b ≠ w.heap.size + 1) ?_ (fun b hb _ => by omega)).mono fun b hb _ => by unfold From; omega
    repeat (first | (with_reducible exact Fr.refl _ _) | with_reducible refine Fr.setCell ?_ (fun m hm => by exact hm) _)
  · refine ((o2.plain_in (T := fun b => w.heap.size + 2 ≤ b) (fun b hb _ => by omega)).move' (T := fun b => b ≠ w.heap.size + 1) ?_ (fun b hb _ => by omega)).mono fun b hb _ => by unfold From; omega
    repeat (first | (with_reducible exact Fr.refl _ _) | with_reducible refine Fr.setCell ?_ (fun m hm => by exact hm) _)
  · have FF := HF0.out.trans F2
    repeat (first | (with_reducible exact FF) | with_reducible refine Fr.setNew ?_ (by dsimp only; omega) _)
set_option maxHeartbeats 1000000 in
theorem ref_redos {v : Value} {xs : List Redo} {S : Nat → Prop} {w : World} (h : Sl kRedo S w v xs) (ok : RedosOk xs) :
    Calls Tryz.prog 49 #[v] w fun e w' => ∃ A c, e = .returned (.slice A xs.length c) ∧ Own kRedo 33 w.heap.size (From w.heap.size) w' (.slice A xs.length c) xs ∧ Fr All w w' := by
  obtain ⟨A, n, c, rfl, en, _⟩ := h.open_
  have En := Lib.hid en
  have OK := Lib.hid ok
  have hn : n ≤ 1000000 := by have := ok.1; omega
  clear en ok
  by_cases h0 : n = 0
  · subst h0
    obtain rfl : xs = [] := List.eq_nil_of_length_eq_zero En.out
    clear En OK
    go_enter Tryz.func49, Tryz.ntmps49
    go_wp2_with fail
    go_ret
    exact ⟨none, 0, rfl, Own.nil_ _ _ _ _ _, Fr.refl _ _⟩
  · obtain ⟨w1, hmk, o1, f1⟩ := run_mk (P := Tryz.prog) kRedo (From w.heap.size) w w.heap.size 27 33 (.agg #[.int .i64 0, .int .i64 0, .int .i64 0, .int .i64 0, .int .i64 0, .int .i64 0, .int .i64 0, .slice none 0 0, .slice none 0 0, .bool false]) 112 Tryz.underlying27 info_redo n (by omega) (by simp only [maxLen]; omega) (Nat.le_refl _)
    have hd0 : ((n : Int) == 0) = false := beq_false_of_ne (by omega)
    go_enter Tryz.func49, Tryz.ntmps49
    go_wp2_with fail
    clear hmk hd0
    go_loopw [3, 4] (fun u i wr => ∃ k : Nat, k ≤ n ∧ i = .int .i64 k ∧ Own kRedo 33 w.heap.size (From w.heap.size) wr u (xs.take k) ∧ Fr All w wr) (fun _ i _ => n - (intOf i).toNat)
    case atStart => exact ⟨0, Nat.zero_le _, rfl, o1, f1⟩
    case round =>
      obtain ⟨k, hk, rfl, HO, HF⟩ := hrel
      by_cases hlt : k < n
      · obtain ⟨r, hx, hm⟩ := get_of (l := xs) (k := k) (by rw [En.out]; exact hlt)
        obtain ⟨b, o, A0, n0, c0, A1, n1, c1, rfl, g0, g1, g2, g3, g4, g5, g6, g7, g8, g9, k0, k1⟩ := redo_at (h.all HF) hx
        have b0 : (0 : Int) ≤ (k : Int) := by omega
        have b1 : (k : Int) < (n : Int) := by omega
        have Hx := Lib.hid hx
        have hq := OK.out.2 r hm
        have HK0 := Lib.hid k0
        have HK1 := Lib.hid k1
        clear hx hm k0 k1
        go_wp2_with fail
        refine (ref_redo HK0.out HK1.out hq.1 hq.2).mono ?_
        rintro e w2 ⟨B0, d0, B1, d1, rfl, s0, s1, f2⟩
        have hlo := own_lt HO
        have FB := f2.alloc (.cells #[.int .i64 r.lsn, .int .i64 r.back, .int .i64 r.epoch, .int .i64 r.group, .int .i64 r.page, .int .i64 r.kind, .int .i64 r.slot, .slice B0 r.key.length d0, .slice B1 r.val.length d1, .bool r.last] 33)
        have HO2 := HO.all FB
        have HY : Src kRedo (From wr.heap.size) (w2.alloc (.cells #[.int .i64 r.lsn, .int .i64 r.back, .int .i64 r.epoch, .int .i64 r.group, .int .i64 r.page, .int .i64 r.kind, .int .i64 r.slot, .slice B0 r.key.length d0, .slice B1 r.val.length d1, .bool r.last] 33)) (.slice (some ⟨w2.heap.size, 0, none⟩) 1 1) [r] := Src.box (d := kRedo) (x := r) (kRedo_mk s0 s1) _ 1
        have hne : ∀ b, From wr.heap.size b → b < (w2.alloc (.cells #[.int .i64 r.lsn, .int .i64 r.back, .int .i64 r.epoch, .int .i64 r.group, .int .i64 r.page, .int .i64 r.kind, .int .i64 r.slot, .slice B0 r.key.length d0, .slice B1 r.val.length d1, .bool r.last] 33)).heap.size → From w.heap.size b ∧ some b ≠ u3.ownBlock := fun b hb _ => ⟨Nat.le_trans HF.size hb, fun e => by have := (hlo b e.symm).2; unfold From at hb; omega⟩
        have hl : ((xs.take k).length + [r].length) * 112 ≤ 140737488355328 := by rw [List.length_take]; simp only [List.length_cons, List.length_nil]; omega
        have hb6 : w.heap.size ≤ (w2.alloc (.cells #[.int .i64 r.lsn, .int .i64 r.back, .int .i64 r.epoch, .int .i64 r.group, .int .i64 r.page, .int .i64 r.kind, .int .i64 r.slot, .slice B0 r.key.length d0, .slice B1 r.val.length d1, .bool r.last] 33)).heap.size := (HF.trans FB).size
        clear g0 g1 g2 g3 g4 g5 g6 g7 g8 g9 hq
        go_wp2_with (at_builtin; refine wpList_app rfl rfl Tryz.underlying27 info_redo rfl (by decide) HO2 HY rfl rfl hne hl hb6 ?_; intro v' w' h3 h4 h5)
        have F3 : Fr All w w' := (HF.trans FB).row h4.grown fun m hm => (own_lt HO2 m hm).1
        rw [← take_snoc Hx.out] at h3
        go_roundw
        case rel => exact ⟨k + 1, by omega, by go_num, h3, F3⟩
        case measure => simp [intOf]; omega
      · obtain rfl : k = n := by omega
        rw [List.take_of_length_le (by rw [En.out]; exact Nat.le_refl _)] at HO
        obtain ⟨A', c', rfl⟩ := HO.length
        go_wp2_with fail
        go_ret
        exact ⟨A', c', rfl, HO, HF⟩
end Go.Proofs.YtoaamcpiljoojaaGreatDoor
