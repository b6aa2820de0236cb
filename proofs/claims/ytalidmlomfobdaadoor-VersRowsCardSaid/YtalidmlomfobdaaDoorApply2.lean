/- page.Apply: the records that call nothing more. -/
import Derived.Test.YtalidmlomfobdaaDoorApply
namespace Go.Proofs.YtalidmlomfobdaaDoor
open Go.RowKit
set_option maxRecDepth 100000 in
set_option maxHeartbeats 1000000 in
theorem apply_format
    {p : Page} {v kv vv : Value} {lsn back epoch group page slot : Int} {last : Bool} {S : Nat → Prop} {w : World} (h : Sl kEnt S w v p.ents) (ok : EntsOk p.ents) (kk : ∃ A n c, kv = .slice A n c) (vk : ∃ A n c, vv = .slice A n c) (hp : page = p.id) (hs : p.lsn < lsn)
    :
    Calls Tryd.prog 85 #[.agg #[.int .i64 p.id, .int .i64 p.lsn, .int .i64 p.level, .int .i64 p.next, v], .agg #[.int .i64 lsn, .int .i64 back, .int .i64 epoch, .int .i64 group, .int .i64 page, .int .i64 1, .int .i64 slot, kv, vv, .bool last]] w
      (Applied w { p with lsn := lsn, level := if 16 < slot then 16 else slot, next := -1, ents := [] }) := by
  obtain ⟨lv, hlv⟩ : ∃ lv : Int, (if 16 < slot then 16 else slot) = lv := ⟨_, rfl⟩
  rw [hlv]
  have h1 : (page != p.id) = false := by rw [bne_eq_false_iff_eq]; exact hp
  have h1' : (page == p.id) = true := by rw [beq_iff_eq]; exact hp
  have h2 : decide (lsn ≤ p.lsn) = false := by rw [decide_eq_false_iff_not]; omega
  clear hp hs
  obtain ⟨A, n, c, rfl, en, _⟩ := h.open_
  obtain ⟨K0, k0, j0, rfl⟩ := kk
  obtain ⟨K1, k1, j1, rfl⟩ := vk
  have F0 := (((Fr.refl All w).alloc (.cells #[.int .i64 p.id, .int .i64 p.lsn, .int .i64 p.level, .int .i64 p.next, .slice A n c] 66)).alloc (.cells #[.int .i64 lsn, .int .i64 back, .int .i64 epoch, .int .i64 group, .int .i64 page, .int .i64 1, .int .i64 slot, .slice K0 k0 j0, .slice K1 k1 j1, .bool last] 34)).alloc (.cells #[.int .i64 0, .int .i64 0, .int .i64 0, .int .i64 0, .slice none 0 0] 66)
  go_enter Tryd.func85, Tryd.ntmps85
  go_wp2_with fail
  refine (page_clone' (h.all F0) ok).mono ?_
  rintro e w1 ⟨A1, c1, rfl, o1, f1⟩
  obtain ⟨p0, p1, p2, p3, p4, pz⟩ := blk5 ((f1.block w.heap.size (by simp; omega) trivial).trans (heap_a3 _ _ _ _).1)
  obtain ⟨r0, r1, r2, r3, r4, r5, r6, r7, r8, r9, rz⟩ := blk10 ((f1.block (w.heap.size + 1) (by simp) trivial).trans (heap_a3 _ _ _ _).2.1)
  obtain ⟨s0, s1, s2, s3, s4, sz⟩ := blk5 ((f1.block (w.heap.size + 1 + 1) (by simp) trivial).trans (heap_a3 _ _ _ _).2.2)
  have FF := F0.then_all f1
  have hsz := f1.size
  simp only [World.size_alloc] at hsz o1
  dsimp only
  go_upto_region 6 with (fail)
  refine wp_name ?_
  intro W hW
  have p0' : W.cell? ⟨w.heap.size, 0, none⟩ = some (.int .i64 p.id) := by rw [hW]; go_simp
  have p1' : W.cell? ⟨w.heap.size, 1, none⟩ = some (.int .i64 lsn) := by rw [hW]; refine World.cell?_setCell_same _ _ _ (u := .int .i64 p.lsn) ?_; go_simp
  have p2' : W.cell? ⟨w.heap.size, 2, none⟩ = some (.int .i64 p.level) := by rw [hW]; go_simp
  have p3' : W.cell? ⟨w.heap.size, 3, none⟩ = some (.int .i64 p.next) := by rw [hW]; go_simp
  have p4' : W.cell? ⟨w.heap.size, 4, none⟩ = some (.slice A1 n c1) := by rw [hW]; go_simp
  have pz' : ∀ j, W.frozen? ⟨w.heap.size, j, none⟩ = false := by intro j; rw [hW]; go_simp
  have r5' : W.cell? ⟨w.heap.size + 1, 5, none⟩ = some (.int .i64 1) := by rw [hW]; go_simp
  have r6' : W.cell? ⟨w.heap.size + 1, 6, none⟩ = some (.int .i64 slot) := by rw [hW]; go_simp
  have r7' : W.cell? ⟨w.heap.size + 1, 7, none⟩ = some (.slice K0 k0 j0) := by rw [hW]; go_simp
  have r8' : W.cell? ⟨w.heap.size + 1, 8, none⟩ = some (.slice K1 k1 j1) := by rw [hW]; go_simp
  have s0' : W.cell? ⟨w.heap.size + 1 + 1, 0, none⟩ = some (.int .i64 0) := by rw [hW]; go_simp
  have s1' : W.cell? ⟨w.heap.size + 1 + 1, 1, none⟩ = some (.int .i64 0) := by rw [hW]; go_simp
  have s2' : W.cell? ⟨w.heap.size + 1 + 1, 2, none⟩ = some (.int .i64 0) := by rw [hW]; go_simp
  have s3' : W.cell? ⟨w.heap.size + 1 + 1, 3, none⟩ = some (.int .i64 0) := by rw [hW]; go_simp
  have s4' : W.cell? ⟨w.heap.size + 1 + 1, 4, none⟩ = some (.slice none 0 0) := by rw [hW]; go_simp
  have sz' : ∀ j, W.frozen? ⟨w.heap.size + 1 + 1, j, none⟩ = false := by intro j; rw [hW]; go_simp
  have FW : Fr All w W := by
    rw [hW]
    repeat (first | (with_reducible exact FF) | with_reducible refine Fr.setNew ?_ (by dsimp only; omega) _)
  have oW : Own kEnt 70 (w.heap.size + 1 + 1 + 1) (From (w.heap.size + 1 + 1 + 1)) W (.slice A1 n c1) p.ents := by
    rw [hW, ← en]
    refine o1.past (B := w.heap.size + 3) ?_ (by omega)
    repeat (first | (with_reducible exact Fr.refl _ _) | with_reducible refine Fr.setCell ?_ (fun m hm => by unfold From at hm; dsimp only; omega) _)
  have hszW : w.heap.size + 1 + 1 + 1 ≤ W.heap.size := by rw [hW]; simp only [World.size_setCell]; exact hsz
  clear hW p0 p1 p2 p3 p4 pz r0 r1 r2 r3 r4 r5 r6 r7 r8 r9 rz s0 s1 s2 s3 s4 sz FF hsz o1 f1
  go_wp2_with fail
  refine bodyPost_ret (v := .agg #[.int .i64 p.id, .int .i64 lsn, .int .i64 lv, .int .i64 (-1), .slice none 0 0]) ?_ rfl ⟨none, 0, rfl, Own.nil_ _ _ _ _ _, ?_⟩
  · simp [results, Tryd.results85, go_sem, s0', s1', s2', s3', s4']
  · skip
    repeat (first | (with_reducible exact FW) | with_reducible refine Fr.setNew ?_ (by dsimp only; omega) _)

set_option maxRecDepth 100000 in
set_option maxHeartbeats 1000000 in
theorem apply_full
    {p : Page} {v kv vv : Value} {lsn back epoch group page slot : Int} {last : Bool} {S : Nat → Prop} {w : World} (h : Sl kEnt S w v p.ents) (ok : EntsOk p.ents) (kk : ∃ A n c, kv = .slice A n c) (vk : ∃ A n c, vv = .slice A n c) (hp : page = p.id) (hs : p.lsn < lsn)
    (hn : 8 ≤ p.ents.length) :
    Calls Tryd.prog 85 #[.agg #[.int .i64 p.id, .int .i64 p.lsn, .int .i64 p.level, .int .i64 p.next, v], .agg #[.int .i64 lsn, .int .i64 back, .int .i64 epoch, .int .i64 group, .int .i64 page, .int .i64 2, .int .i64 slot, kv, vv, .bool last]] w
      (Applied w { p with lsn := lsn }) := by
  have h1 : (page != p.id) = false := by rw [bne_eq_false_iff_eq]; exact hp
  have h1' : (page == p.id) = true := by rw [beq_iff_eq]; exact hp
  have h2 : decide (lsn ≤ p.lsn) = false := by rw [decide_eq_false_iff_not]; omega
  clear hp hs
  obtain ⟨A, n, c, rfl, en, _⟩ := h.open_
  obtain ⟨K0, k0, j0, rfl⟩ := kk
  obtain ⟨K1, k1, j1, rfl⟩ := vk
  have F0 := (((Fr.refl All w).alloc (.cells #[.int .i64 p.id, .int .i64 p.lsn, .int .i64 p.level, .int .i64 p.next, .slice A n c] 66)).alloc (.cells #[.int .i64 lsn, .int .i64 back, .int .i64 epoch, .int .i64 group, .int .i64 page, .int .i64 2, .int .i64 slot, .slice K0 k0 j0, .slice K1 k1 j1, .bool last] 34)).alloc (.cells #[.int .i64 0, .int .i64 0, .int .i64 0, .int .i64 0, .slice none 0 0] 66)
  go_enter Tryd.func85, Tryd.ntmps85
  go_wp2_with fail
  refine (page_clone' (h.all F0) ok).mono ?_
  rintro e w1 ⟨A1, c1, rfl, o1, f1⟩
  obtain ⟨p0, p1, p2, p3, p4, pz⟩ := blk5 ((f1.block w.heap.size (by simp; omega) trivial).trans (heap_a3 _ _ _ _).1)
  obtain ⟨r0, r1, r2, r3, r4, r5, r6, r7, r8, r9, rz⟩ := blk10 ((f1.block (w.heap.size + 1) (by simp) trivial).trans (heap_a3 _ _ _ _).2.1)
  obtain ⟨s0, s1, s2, s3, s4, sz⟩ := blk5 ((f1.block (w.heap.size + 1 + 1) (by simp) trivial).trans (heap_a3 _ _ _ _).2.2)
  have FF := F0.then_all f1
  have hsz := f1.size
  simp only [World.size_alloc] at hsz o1
  dsimp only
  go_upto_region 6 with (fail)
  refine wp_name ?_
  intro W hW
  have p0' : W.cell? ⟨w.heap.size, 0, none⟩ = some (.int .i64 p.id) := by rw [hW]; go_simp
  have p1' : W.cell? ⟨w.heap.size, 1, none⟩ = some (.int .i64 lsn) := by rw [hW]; refine World.cell?_setCell_same _ _ _ (u := .int .i64 p.lsn) ?_; go_simp
  have p2' : W.cell? ⟨w.heap.size, 2, none⟩ = some (.int .i64 p.level) := by rw [hW]; go_simp
  have p3' : W.cell? ⟨w.heap.size, 3, none⟩ = some (.int .i64 p.next) := by rw [hW]; go_simp
  have p4' : W.cell? ⟨w.heap.size, 4, none⟩ = some (.slice A1 n c1) := by rw [hW]; go_simp
  have pz' : ∀ j, W.frozen? ⟨w.heap.size, j, none⟩ = false := by intro j; rw [hW]; go_simp
  have r5' : W.cell? ⟨w.heap.size + 1, 5, none⟩ = some (.int .i64 2) := by rw [hW]; go_simp
  have r6' : W.cell? ⟨w.heap.size + 1, 6, none⟩ = some (.int .i64 slot) := by rw [hW]; go_simp
  have r7' : W.cell? ⟨w.heap.size + 1, 7, none⟩ = some (.slice K0 k0 j0) := by rw [hW]; go_simp
  have r8' : W.cell? ⟨w.heap.size + 1, 8, none⟩ = some (.slice K1 k1 j1) := by rw [hW]; go_simp
  have s0' : W.cell? ⟨w.heap.size + 1 + 1, 0, none⟩ = some (.int .i64 0) := by rw [hW]; go_simp
  have s1' : W.cell? ⟨w.heap.size + 1 + 1, 1, none⟩ = some (.int .i64 0) := by rw [hW]; go_simp
  have s2' : W.cell? ⟨w.heap.size + 1 + 1, 2, none⟩ = some (.int .i64 0) := by rw [hW]; go_simp
  have s3' : W.cell? ⟨w.heap.size + 1 + 1, 3, none⟩ = some (.int .i64 0) := by rw [hW]; go_simp
  have s4' : W.cell? ⟨w.heap.size + 1 + 1, 4, none⟩ = some (.slice none 0 0) := by rw [hW]; go_simp
  have sz' : ∀ j, W.frozen? ⟨w.heap.size + 1 + 1, j, none⟩ = false := by intro j; rw [hW]; go_simp
  have FW : Fr All w W := by
    rw [hW]
    repeat (first | (with_reducible exact FF) | with_reducible refine Fr.setNew ?_ (by dsimp only; omega) _)
  have oW : Own kEnt 70 (w.heap.size + 1 + 1 + 1) (From (w.heap.size + 1 + 1 + 1)) W (.slice A1 n c1) p.ents := by
    rw [hW, ← en]
    refine o1.past (B := w.heap.size + 3) ?_ (by omega)
    repeat (first | (with_reducible exact Fr.refl _ _) | with_reducible refine Fr.setCell ?_ (fun m hm => by unfold From at hm; dsimp only; omega) _)
  have hszW : w.heap.size + 1 + 1 + 1 ≤ W.heap.size := by rw [hW]; simp only [World.size_setCell]; exact hsz
  clear hW p0 p1 p2 p3 p4 pz r0 r1 r2 r3 r4 r5 r6 r7 r8 r9 rz s0 s1 s2 s3 s4 sz FF hsz o1 f1
  go_wp2_with fail
  refine bodyPost_ret (v := .agg #[.int .i64 p.id, .int .i64 lsn, .int .i64 p.level, .int .i64 p.next, .slice A1 n c1]) ?_ rfl ⟨A1, c1, by dsimp only; rw [en], ?_, ?_⟩
  · simp [results, Tryd.results85, go_sem, s0', s1', s2', s3', s4']
  · dsimp only
    rw [en]
    refine (oW.past (B := w.heap.size + 3) ?_ (by omega)).widen (by omega)
    repeat (first | (with_reducible exact Fr.refl _ _) | with_reducible refine Fr.setCell ?_ (fun m hm => by unfold From at hm; dsimp only; omega) _)
  · skip
    repeat (first | (with_reducible exact FW) | with_reducible refine Fr.setNew ?_ (by dsimp only; omega) _)

set_option maxRecDepth 100000 in
set_option maxHeartbeats 1000000 in
theorem apply_remove_past
    {p : Page} {v kv vv : Value} {lsn back epoch group page slot : Int} {last : Bool} {S : Nat → Prop} {w : World} (h : Sl kEnt S w v p.ents) (ok : EntsOk p.ents) (kk : ∃ A n c, kv = .slice A n c) (vk : ∃ A n c, vv = .slice A n c) (hp : page = p.id) (hs : p.lsn < lsn)
    (hn : (p.ents.length : Int) ≤ slot) :
    Calls Tryd.prog 85 #[.agg #[.int .i64 p.id, .int .i64 p.lsn, .int .i64 p.level, .int .i64 p.next, v], .agg #[.int .i64 lsn, .int .i64 back, .int .i64 epoch, .int .i64 group, .int .i64 page, .int .i64 3, .int .i64 slot, kv, vv, .bool last]] w
      (Applied w { p with lsn := lsn }) := by
  have h1 : (page != p.id) = false := by rw [bne_eq_false_iff_eq]; exact hp
  have h1' : (page == p.id) = true := by rw [beq_iff_eq]; exact hp
  have h2 : decide (lsn ≤ p.lsn) = false := by rw [decide_eq_false_iff_not]; omega
  clear hp hs
  obtain ⟨A, n, c, rfl, en, _⟩ := h.open_
  obtain ⟨K0, k0, j0, rfl⟩ := kk
  obtain ⟨K1, k1, j1, rfl⟩ := vk
  have F0 := (((Fr.refl All w).alloc (.cells #[.int .i64 p.id, .int .i64 p.lsn, .int .i64 p.level, .int .i64 p.next, .slice A n c] 66)).alloc (.cells #[.int .i64 lsn, .int .i64 back, .int .i64 epoch, .int .i64 group, .int .i64 page, .int .i64 3, .int .i64 slot, .slice K0 k0 j0, .slice K1 k1 j1, .bool last] 34)).alloc (.cells #[.int .i64 0, .int .i64 0, .int .i64 0, .int .i64 0, .slice none 0 0] 66)
  go_enter Tryd.func85, Tryd.ntmps85
  go_wp2_with fail
  refine (page_clone' (h.all F0) ok).mono ?_
  rintro e w1 ⟨A1, c1, rfl, o1, f1⟩
  obtain ⟨p0, p1, p2, p3, p4, pz⟩ := blk5 ((f1.block w.heap.size (by simp; omega) trivial).trans (heap_a3 _ _ _ _).1)
  obtain ⟨r0, r1, r2, r3, r4, r5, r6, r7, r8, r9, rz⟩ := blk10 ((f1.block (w.heap.size + 1) (by simp) trivial).trans (heap_a3 _ _ _ _).2.1)
  obtain ⟨s0, s1, s2, s3, s4, sz⟩ := blk5 ((f1.block (w.heap.size + 1 + 1) (by simp) trivial).trans (heap_a3 _ _ _ _).2.2)
  have FF := F0.then_all f1
  have hsz := f1.size
  simp only [World.size_alloc] at hsz o1
  dsimp only
  go_upto_region 6 with (fail)
  refine wp_name ?_
  intro W hW
  have p0' : W.cell? ⟨w.heap.size, 0, none⟩ = some (.int .i64 p.id) := by rw [hW]; go_simp
  have p1' : W.cell? ⟨w.heap.size, 1, none⟩ = some (.int .i64 lsn) := by rw [hW]; refine World.cell?_setCell_same _ _ _ (u := .int .i64 p.lsn) ?_; go_simp
  have p2' : W.cell? ⟨w.heap.size, 2, none⟩ = some (.int .i64 p.level) := by rw [hW]; go_simp
  have p3' : W.cell? ⟨w.heap.size, 3, none⟩ = some (.int .i64 p.next) := by rw [hW]; go_simp
  have p4' : W.cell? ⟨w.heap.size, 4, none⟩ = some (.slice A1 n c1) := by rw [hW]; go_simp
  have pz' : ∀ j, W.frozen? ⟨w.heap.size, j, none⟩ = false := by intro j; rw [hW]; go_simp
  have r5' : W.cell? ⟨w.heap.size + 1, 5, none⟩ = some (.int .i64 3) := by rw [hW]; go_simp
  have r6' : W.cell? ⟨w.heap.size + 1, 6, none⟩ = some (.int .i64 slot) := by rw [hW]; go_simp
  have r7' : W.cell? ⟨w.heap.size + 1, 7, none⟩ = some (.slice K0 k0 j0) := by rw [hW]; go_simp
  have r8' : W.cell? ⟨w.heap.size + 1, 8, none⟩ = some (.slice K1 k1 j1) := by rw [hW]; go_simp
  have s0' : W.cell? ⟨w.heap.size + 1 + 1, 0, none⟩ = some (.int .i64 0) := by rw [hW]; go_simp
  have s1' : W.cell? ⟨w.heap.size + 1 + 1, 1, none⟩ = some (.int .i64 0) := by rw [hW]; go_simp
  have s2' : W.cell? ⟨w.heap.size + 1 + 1, 2, none⟩ = some (.int .i64 0) := by rw [hW]; go_simp
  have s3' : W.cell? ⟨w.heap.size + 1 + 1, 3, none⟩ = some (.int .i64 0) := by rw [hW]; go_simp
  have s4' : W.cell? ⟨w.heap.size + 1 + 1, 4, none⟩ = some (.slice none 0 0) := by rw [hW]; go_simp
  have sz' : ∀ j, W.frozen? ⟨w.heap.size + 1 + 1, j, none⟩ = false := by intro j; rw [hW]; go_simp
  have FW : Fr All w W := by
    rw [hW]
    repeat (first | (with_reducible exact FF) | with_reducible refine Fr.setNew ?_ (by dsimp only; omega) _)
  have oW : Own kEnt 70 (w.heap.size + 1 + 1 + 1) (From (w.heap.size + 1 + 1 + 1)) W (.slice A1 n c1) p.ents := by
    rw [hW, ← en]
    refine o1.past (B := w.heap.size + 3) ?_ (by omega)
    repeat (first | (with_reducible exact Fr.refl _ _) | with_reducible refine Fr.setCell ?_ (fun m hm => by unfold From at hm; dsimp only; omega) _)
  have hszW : w.heap.size + 1 + 1 + 1 ≤ W.heap.size := by rw [hW]; simp only [World.size_setCell]; exact hsz
  clear hW p0 p1 p2 p3 p4 pz r0 r1 r2 r3 r4 r5 r6 r7 r8 r9 rz s0 s1 s2 s3 s4 sz FF hsz o1 f1
  go_wp2_with fail
  refine bodyPost_ret (v := .agg #[.int .i64 p.id, .int .i64 lsn, .int .i64 p.level, .int .i64 p.next, .slice A1 n c1]) ?_ rfl ⟨A1, c1, by dsimp only; rw [en], ?_, ?_⟩
  · simp [results, Tryd.results85, go_sem, s0', s1', s2', s3', s4']
  · dsimp only
    rw [en]
    refine (oW.past (B := w.heap.size + 3) ?_ (by omega)).widen (by omega)
    repeat (first | (with_reducible exact Fr.refl _ _) | with_reducible refine Fr.setCell ?_ (fun m hm => by unfold From at hm; dsimp only; omega) _)
  · skip
    repeat (first | (with_reducible exact FW) | with_reducible refine Fr.setNew ?_ (by dsimp only; omega) _)

set_option maxRecDepth 100000 in
set_option maxHeartbeats 1000000 in
theorem apply_change_past
    {p : Page} {v kv vv : Value} {lsn back epoch group page slot : Int} {last : Bool} {S : Nat → Prop} {w : World} (h : Sl kEnt S w v p.ents) (ok : EntsOk p.ents) (kk : ∃ A n c, kv = .slice A n c) (vk : ∃ A n c, vv = .slice A n c) (hp : page = p.id) (hs : p.lsn < lsn)
    (hn : (p.ents.length : Int) ≤ slot) :
    Calls Tryd.prog 85 #[.agg #[.int .i64 p.id, .int .i64 p.lsn, .int .i64 p.level, .int .i64 p.next, v], .agg #[.int .i64 lsn, .int .i64 back, .int .i64 epoch, .int .i64 group, .int .i64 page, .int .i64 4, .int .i64 slot, kv, vv, .bool last]] w
      (Applied w { p with lsn := lsn }) := by
  have h1 : (page != p.id) = false := by rw [bne_eq_false_iff_eq]; exact hp
  have h1' : (page == p.id) = true := by rw [beq_iff_eq]; exact hp
  have h2 : decide (lsn ≤ p.lsn) = false := by rw [decide_eq_false_iff_not]; omega
  clear hp hs
  obtain ⟨A, n, c, rfl, en, _⟩ := h.open_
  obtain ⟨K0, k0, j0, rfl⟩ := kk
  obtain ⟨K1, k1, j1, rfl⟩ := vk
  have F0 := (((Fr.refl All w).alloc (.cells #[.int .i64 p.id, .int .i64 p.lsn, .int .i64 p.level, .int .i64 p.next, .slice A n c] 66)).alloc (.cells #[.int .i64 lsn, .int .i64 back, .int .i64 epoch, .int .i64 group, .int .i64 page, .int .i64 4, .int .i64 slot, .slice K0 k0 j0, .slice K1 k1 j1, .bool last] 34)).alloc (.cells #[.int .i64 0, .int .i64 0, .int .i64 0, .int .i64 0, .slice none 0 0] 66)
  go_enter Tryd.func85, Tryd.ntmps85
  go_wp2_with fail
  refine (page_clone' (h.all F0) ok).mono ?_
  rintro e w1 ⟨A1, c1, rfl, o1, f1⟩
  obtain ⟨p0, p1, p2, p3, p4, pz⟩ := blk5 ((f1.block w.heap.size (by simp; omega) trivial).trans (heap_a3 _ _ _ _).1)
  obtain ⟨r0, r1, r2, r3, r4, r5, r6, r7, r8, r9, rz⟩ := blk10 ((f1.block (w.heap.size + 1) (by simp) trivial).trans (heap_a3 _ _ _ _).2.1)
  obtain ⟨s0, s1, s2, s3, s4, sz⟩ := blk5 ((f1.block (w.heap.size + 1 + 1) (by simp) trivial).trans (heap_a3 _ _ _ _).2.2)
  have FF := F0.then_all f1
  have hsz := f1.size
  simp only [World.size_alloc] at hsz o1
  dsimp only
  go_upto_region 6 with (fail)
  refine wp_name ?_
  intro W hW
  have p0' : W.cell? ⟨w.heap.size, 0, none⟩ = some (.int .i64 p.id) := by rw [hW]; go_simp
  have p1' : W.cell? ⟨w.heap.size, 1, none⟩ = some (.int .i64 lsn) := by rw [hW]; refine World.cell?_setCell_same _ _ _ (u := .int .i64 p.lsn) ?_; go_simp
  have p2' : W.cell? ⟨w.heap.size, 2, none⟩ = some (.int .i64 p.level) := by rw [hW]; go_simp
  have p3' : W.cell? ⟨w.heap.size, 3, none⟩ = some (.int .i64 p.next) := by rw [hW]; go_simp
  have p4' : W.cell? ⟨w.heap.size, 4, none⟩ = some (.slice A1 n c1) := by rw [hW]; go_simp
  have pz' : ∀ j, W.frozen? ⟨w.heap.size, j, none⟩ = false := by intro j; rw [hW]; go_simp
  have r5' : W.cell? ⟨w.heap.size + 1, 5, none⟩ = some (.int .i64 4) := by rw [hW]; go_simp
  have r6' : W.cell? ⟨w.heap.size + 1, 6, none⟩ = some (.int .i64 slot) := by rw [hW]; go_simp
  have r7' : W.cell? ⟨w.heap.size + 1, 7, none⟩ = some (.slice K0 k0 j0) := by rw [hW]; go_simp
  have r8' : W.cell? ⟨w.heap.size + 1, 8, none⟩ = some (.slice K1 k1 j1) := by rw [hW]; go_simp
  have s0' : W.cell? ⟨w.heap.size + 1 + 1, 0, none⟩ = some (.int .i64 0) := by rw [hW]; go_simp
  have s1' : W.cell? ⟨w.heap.size + 1 + 1, 1, none⟩ = some (.int .i64 0) := by rw [hW]; go_simp
  have s2' : W.cell? ⟨w.heap.size + 1 + 1, 2, none⟩ = some (.int .i64 0) := by rw [hW]; go_simp
  have s3' : W.cell? ⟨w.heap.size + 1 + 1, 3, none⟩ = some (.int .i64 0) := by rw [hW]; go_simp
  have s4' : W.cell? ⟨w.heap.size + 1 + 1, 4, none⟩ = some (.slice none 0 0) := by rw [hW]; go_simp
  have sz' : ∀ j, W.frozen? ⟨w.heap.size + 1 + 1, j, none⟩ = false := by intro j; rw [hW]; go_simp
  have FW : Fr All w W := by
    rw [hW]
    repeat (first | (with_reducible exact FF) | with_reducible refine Fr.setNew ?_ (by dsimp only; omega) _)
  have oW : Own kEnt 70 (w.heap.size + 1 + 1 + 1) (From (w.heap.size + 1 + 1 + 1)) W (.slice A1 n c1) p.ents := by
    rw [hW, ← en]
    refine o1.past (B := w.heap.size + 3) ?_ (by omega)
    repeat (first | (with_reducible exact Fr.refl _ _) | with_reducible refine Fr.setCell ?_ (fun m hm => by unfold From at hm; dsimp only; omega) _)
  have hszW : w.heap.size + 1 + 1 + 1 ≤ W.heap.size := by rw [hW]; simp only [World.size_setCell]; exact hsz
  clear hW p0 p1 p2 p3 p4 pz r0 r1 r2 r3 r4 r5 r6 r7 r8 r9 rz s0 s1 s2 s3 s4 sz FF hsz o1 f1
  go_wp2_with fail
  refine bodyPost_ret (v := .agg #[.int .i64 p.id, .int .i64 lsn, .int .i64 p.level, .int .i64 p.next, .slice A1 n c1]) ?_ rfl ⟨A1, c1, by dsimp only; rw [en], ?_, ?_⟩
  · simp [results, Tryd.results85, go_sem, s0', s1', s2', s3', s4']
  · dsimp only
    rw [en]
    refine (oW.past (B := w.heap.size + 3) ?_ (by omega)).widen (by omega)
    repeat (first | (with_reducible exact Fr.refl _ _) | with_reducible refine Fr.setCell ?_ (fun m hm => by unfold From at hm; dsimp only; omega) _)
  · skip
    repeat (first | (with_reducible exact FW) | with_reducible refine Fr.setNew ?_ (by dsimp only; omega) _)

set_option maxRecDepth 100000 in
set_option maxHeartbeats 1000000 in
theorem apply_link
    {p : Page} {v kv vv : Value} {lsn back epoch group page slot : Int} {last : Bool} {S : Nat → Prop} {w : World} (h : Sl kEnt S w v p.ents) (ok : EntsOk p.ents) (kk : ∃ A n c, kv = .slice A n c) (vk : ∃ A n c, vv = .slice A n c) (hp : page = p.id) (hs : p.lsn < lsn)
    (hn : slot < 256) :
    Calls Tryd.prog 85 #[.agg #[.int .i64 p.id, .int .i64 p.lsn, .int .i64 p.level, .int .i64 p.next, v], .agg #[.int .i64 lsn, .int .i64 back, .int .i64 epoch, .int .i64 group, .int .i64 page, .int .i64 5, .int .i64 slot, kv, vv, .bool last]] w
      (Applied w { p with lsn := lsn, next := slot }) := by
  have h1 : (page != p.id) = false := by rw [bne_eq_false_iff_eq]; exact hp
  have h1' : (page == p.id) = true := by rw [beq_iff_eq]; exact hp
  have h2 : decide (lsn ≤ p.lsn) = false := by rw [decide_eq_false_iff_not]; omega
  clear hp hs
  obtain ⟨A, n, c, rfl, en, _⟩ := h.open_
  obtain ⟨K0, k0, j0, rfl⟩ := kk
  obtain ⟨K1, k1, j1, rfl⟩ := vk
  have F0 := (((Fr.refl All w).alloc (.cells #[.int .i64 p.id, .int .i64 p.lsn, .int .i64 p.level, .int .i64 p.next, .slice A n c] 66)).alloc (.cells #[.int .i64 lsn, .int .i64 back, .int .i64 epoch, .int .i64 group, .int .i64 page, .int .i64 5, .int .i64 slot, .slice K0 k0 j0, .slice K1 k1 j1, .bool last] 34)).alloc (.cells #[.int .i64 0, .int .i64 0, .int .i64 0, .int .i64 0, .slice none 0 0] 66)
  go_enter Tryd.func85, Tryd.ntmps85
  go_wp2_with fail
  refine (page_clone' (h.all F0) ok).mono ?_
  rintro e w1 ⟨A1, c1, rfl, o1, f1⟩
  obtain ⟨p0, p1, p2, p3, p4, pz⟩ := blk5 ((f1.block w.heap.size (by simp; omega) trivial).trans (heap_a3 _ _ _ _).1)
  obtain ⟨r0, r1, r2, r3, r4, r5, r6, r7, r8, r9, rz⟩ := blk10 ((f1.block (w.heap.size + 1) (by simp) trivial).trans (heap_a3 _ _ _ _).2.1)
  obtain ⟨s0, s1, s2, s3, s4, sz⟩ := blk5 ((f1.block (w.heap.size + 1 + 1) (by simp) trivial).trans (heap_a3 _ _ _ _).2.2)
  have FF := F0.then_all f1
  have hsz := f1.size
  simp only [World.size_alloc] at hsz o1
  dsimp only
  go_upto_region 6 with (fail)
  refine wp_name ?_
  intro W hW
  have p0' : W.cell? ⟨w.heap.size, 0, none⟩ = some (.int .i64 p.id) := by rw [hW]; go_simp
  have p1' : W.cell? ⟨w.heap.size, 1, none⟩ = some (.int .i64 lsn) := by rw [hW]; refine World.cell?_setCell_same _ _ _ (u := .int .i64 p.lsn) ?_; go_simp
  have p2' : W.cell? ⟨w.heap.size, 2, none⟩ = some (.int .i64 p.level) := by rw [hW]; go_simp
  have p3' : W.cell? ⟨w.heap.size, 3, none⟩ = some (.int .i64 p.next) := by rw [hW]; go_simp
  have p4' : W.cell? ⟨w.heap.size, 4, none⟩ = some (.slice A1 n c1) := by rw [hW]; go_simp
  have pz' : ∀ j, W.frozen? ⟨w.heap.size, j, none⟩ = false := by intro j; rw [hW]; go_simp
  have r5' : W.cell? ⟨w.heap.size + 1, 5, none⟩ = some (.int .i64 5) := by rw [hW]; go_simp
  have r6' : W.cell? ⟨w.heap.size + 1, 6, none⟩ = some (.int .i64 slot) := by rw [hW]; go_simp
  have r7' : W.cell? ⟨w.heap.size + 1, 7, none⟩ = some (.slice K0 k0 j0) := by rw [hW]; go_simp
  have r8' : W.cell? ⟨w.heap.size + 1, 8, none⟩ = some (.slice K1 k1 j1) := by rw [hW]; go_simp
  have s0' : W.cell? ⟨w.heap.size + 1 + 1, 0, none⟩ = some (.int .i64 0) := by rw [hW]; go_simp
  have s1' : W.cell? ⟨w.heap.size + 1 + 1, 1, none⟩ = some (.int .i64 0) := by rw [hW]; go_simp
  have s2' : W.cell? ⟨w.heap.size + 1 + 1, 2, none⟩ = some (.int .i64 0) := by rw [hW]; go_simp
  have s3' : W.cell? ⟨w.heap.size + 1 + 1, 3, none⟩ = some (.int .i64 0) := by rw [hW]; go_simp
  have s4' : W.cell? ⟨w.heap.size + 1 + 1, 4, none⟩ = some (.slice none 0 0) := by rw [hW]; go_simp
  have sz' : ∀ j, W.frozen? ⟨w.heap.size + 1 + 1, j, none⟩ = false := by intro j; rw [hW]; go_simp
  have FW : Fr All w W := by
    rw [hW]
    repeat (first | (with_reducible exact FF) | with_reducible refine Fr.setNew ?_ (by dsimp only; omega) _)
  have oW : Own kEnt 70 (w.heap.size + 1 + 1 + 1) (From (w.heap.size + 1 + 1 + 1)) W (.slice A1 n c1) p.ents := by
    rw [hW, ← en]
    refine o1.past (B := w.heap.size + 3) ?_ (by omega)
    repeat (first | (with_reducible exact Fr.refl _ _) | with_reducible refine Fr.setCell ?_ (fun m hm => by unfold From at hm; dsimp only; omega) _)
  have hszW : w.heap.size + 1 + 1 + 1 ≤ W.heap.size := by rw [hW]; simp only [World.size_setCell]; exact hsz
  clear hW p0 p1 p2 p3 p4 pz r0 r1 r2 r3 r4 r5 r6 r7 r8 r9 rz s0 s1 s2 s3 s4 sz FF hsz o1 f1
  go_wp2_with fail
  refine bodyPost_ret (v := .agg #[.int .i64 p.id, .int .i64 lsn, .int .i64 p.level, .int .i64 slot, .slice A1 n c1]) ?_ rfl ⟨A1, c1, by dsimp only; rw [en], ?_, ?_⟩
  · simp [results, Tryd.results85, go_sem, s0', s1', s2', s3', s4']
  · dsimp only
    rw [en]
    refine (oW.past (B := w.heap.size + 3) ?_ (by omega)).widen (by omega)
    repeat (first | (with_reducible exact Fr.refl _ _) | with_reducible refine Fr.setCell ?_ (fun m hm => by unfold From at hm; dsimp only; omega) _)
  · skip
    repeat (first | (with_reducible exact FW) | with_reducible refine Fr.setNew ?_ (by dsimp only; omega) _)

set_option maxRecDepth 100000 in
set_option maxHeartbeats 1000000 in
theorem apply_link_none
    {p : Page} {v kv vv : Value} {lsn back epoch group page slot : Int} {last : Bool} {S : Nat → Prop} {w : World} (h : Sl kEnt S w v p.ents) (ok : EntsOk p.ents) (kk : ∃ A n c, kv = .slice A n c) (vk : ∃ A n c, vv = .slice A n c) (hp : page = p.id) (hs : p.lsn < lsn)
    (hn : 256 ≤ slot) :
    Calls Tryd.prog 85 #[.agg #[.int .i64 p.id, .int .i64 p.lsn, .int .i64 p.level, .int .i64 p.next, v], .agg #[.int .i64 lsn, .int .i64 back, .int .i64 epoch, .int .i64 group, .int .i64 page, .int .i64 5, .int .i64 slot, kv, vv, .bool last]] w
      (Applied w { p with lsn := lsn, next := -1 }) := by
  have h1 : (page != p.id) = false := by rw [bne_eq_false_iff_eq]; exact hp
  have h1' : (page == p.id) = true := by rw [beq_iff_eq]; exact hp
  have h2 : decide (lsn ≤ p.lsn) = false := by rw [decide_eq_false_iff_not]; omega
  clear hp hs
  obtain ⟨A, n, c, rfl, en, _⟩ := h.open_
  obtain ⟨K0, k0, j0, rfl⟩ := kk
  obtain ⟨K1, k1, j1, rfl⟩ := vk
  have F0 := (((Fr.refl All w).alloc (.cells #[.int .i64 p.id, .int .i64 p.lsn, .int .i64 p.level, .int .i64 p.next, .slice A n c] 66)).alloc (.cells #[.int .i64 lsn, .int .i64 back, .int .i64 epoch, .int .i64 group, .int .i64 page, .int .i64 5, .int .i64 slot, .slice K0 k0 j0, .slice K1 k1 j1, .bool last] 34)).alloc (.cells #[.int .i64 0, .int .i64 0, .int .i64 0, .int .i64 0, .slice none 0 0] 66)
  go_enter Tryd.func85, Tryd.ntmps85
  go_wp2_with fail
  refine (page_clone' (h.all F0) ok).mono ?_
  rintro e w1 ⟨A1, c1, rfl, o1, f1⟩
  obtain ⟨p0, p1, p2, p3, p4, pz⟩ := blk5 ((f1.block w.heap.size (by simp; omega) trivial).trans (heap_a3 _ _ _ _).1)
  obtain ⟨r0, r1, r2, r3, r4, r5, r6, r7, r8, r9, rz⟩ := blk10 ((f1.block (w.heap.size + 1) (by simp) trivial).trans (heap_a3 _ _ _ _).2.1)
  obtain ⟨s0, s1, s2, s3, s4, sz⟩ := blk5 ((f1.block (w.heap.size + 1 + 1) (by simp) trivial).trans (heap_a3 _ _ _ _).2.2)
  have FF := F0.then_all f1
  have hsz := f1.size
  simp only [World.size_alloc] at hsz o1
  dsimp only
  go_upto_region 6 with (fail)
  refine wp_name ?_
  intro W hW
  have p0' : W.cell? ⟨w.heap.size, 0, none⟩ = some (.int .i64 p.id) := by rw [hW]; go_simp
  have p1' : W.cell? ⟨w.heap.size, 1, none⟩ = some (.int .i64 lsn) := by rw [hW]; refine World.cell?_setCell_same _ _ _ (u := .int .i64 p.lsn) ?_; go_simp
  have p2' : W.cell? ⟨w.heap.size, 2, none⟩ = some (.int .i64 p.level) := by rw [hW]; go_simp
  have p3' : W.cell? ⟨w.heap.size, 3, none⟩ = some (.int .i64 p.next) := by rw [hW]; go_simp
  have p4' : W.cell? ⟨w.heap.size, 4, none⟩ = some (.slice A1 n c1) := by rw [hW]; go_simp
  have pz' : ∀ j, W.frozen? ⟨w.heap.size, j, none⟩ = false := by intro j; rw [hW]; go_simp
  have r5' : W.cell? ⟨w.heap.size + 1, 5, none⟩ = some (.int .i64 5) := by rw [hW]; go_simp
  have r6' : W.cell? ⟨w.heap.size + 1, 6, none⟩ = some (.int .i64 slot) := by rw [hW]; go_simp
  have r7' : W.cell? ⟨w.heap.size + 1, 7, none⟩ = some (.slice K0 k0 j0) := by rw [hW]; go_simp
  have r8' : W.cell? ⟨w.heap.size + 1, 8, none⟩ = some (.slice K1 k1 j1) := by rw [hW]; go_simp
  have s0' : W.cell? ⟨w.heap.size + 1 + 1, 0, none⟩ = some (.int .i64 0) := by rw [hW]; go_simp
  have s1' : W.cell? ⟨w.heap.size + 1 + 1, 1, none⟩ = some (.int .i64 0) := by rw [hW]; go_simp
  have s2' : W.cell? ⟨w.heap.size + 1 + 1, 2, none⟩ = some (.int .i64 0) := by rw [hW]; go_simp
  have s3' : W.cell? ⟨w.heap.size + 1 + 1, 3, none⟩ = some (.int .i64 0) := by rw [hW]; go_simp
  have s4' : W.cell? ⟨w.heap.size + 1 + 1, 4, none⟩ = some (.slice none 0 0) := by rw [hW]; go_simp
  have sz' : ∀ j, W.frozen? ⟨w.heap.size + 1 + 1, j, none⟩ = false := by intro j; rw [hW]; go_simp
  have FW : Fr All w W := by
    rw [hW]
    repeat (first | (with_reducible exact FF) | with_reducible refine Fr.setNew ?_ (by dsimp only; omega) _)
  have oW : Own kEnt 70 (w.heap.size + 1 + 1 + 1) (From (w.heap.size + 1 + 1 + 1)) W (.slice A1 n c1) p.ents := by
    rw [hW, ← en]
    refine o1.past (B := w.heap.size + 3) ?_ (by omega)
    repeat (first | (with_reducible exact Fr.refl _ _) | with_reducible refine Fr.setCell ?_ (fun m hm => by unfold From at hm; dsimp only; omega) _)
  have hszW : w.heap.size + 1 + 1 + 1 ≤ W.heap.size := by rw [hW]; simp only [World.size_setCell]; exact hsz
  clear hW p0 p1 p2 p3 p4 pz r0 r1 r2 r3 r4 r5 r6 r7 r8 r9 rz s0 s1 s2 s3 s4 sz FF hsz o1 f1
  go_wp2_with fail
  refine bodyPost_ret (v := .agg #[.int .i64 p.id, .int .i64 lsn, .int .i64 p.level, .int .i64 (-1), .slice A1 n c1]) ?_ rfl ⟨A1, c1, by dsimp only; rw [en], ?_, ?_⟩
  · simp [results, Tryd.results85, go_sem, s0', s1', s2', s3', s4']
  · dsimp only
    rw [en]
    refine (oW.past (B := w.heap.size + 3) ?_ (by omega)).widen (by omega)
    repeat (first | (with_reducible exact Fr.refl _ _) | with_reducible refine Fr.setCell ?_ (fun m hm => by unfold From at hm; dsimp only; omega) _)
  · skip
    repeat (first | (with_reducible exact FW) | with_reducible refine Fr.setNew ?_ (by dsimp only; omega) _)

set_option maxRecDepth 100000 in
set_option maxHeartbeats 1000000 in
theorem apply_cut
    {p : Page} {v kv vv : Value} {lsn back epoch group page slot : Int} {last : Bool} {S : Nat → Prop} {w : World} (h : Sl kEnt S w v p.ents) (ok : EntsOk p.ents) (kk : ∃ A n c, kv = .slice A n c) (vk : ∃ A n c, vv = .slice A n c) (hp : page = p.id) (hs : p.lsn < lsn)
    (h0 : 0 ≤ slot) :
    Calls Tryd.prog 85 #[.agg #[.int .i64 p.id, .int .i64 p.lsn, .int .i64 p.level, .int .i64 p.next, v], .agg #[.int .i64 lsn, .int .i64 back, .int .i64 epoch, .int .i64 group, .int .i64 page, .int .i64 6, .int .i64 slot, kv, vv, .bool last]] w
      (Applied w { p with lsn := lsn, ents := p.ents.take (min slot.toNat p.ents.length) }) := by
  obtain ⟨i, hi⟩ : ∃ i : Nat, i = min slot.toNat p.ents.length := ⟨_, rfl⟩
  have hmin : (if (p.ents.length : Int) < slot then (p.ents.length : Int) else slot) = (i : Int) := by rw [hi]; split <;> omega
  have hil : i ≤ p.ents.length := by omega
  rw [← hi]
  clear hi
  have h1 : (page != p.id) = false := by rw [bne_eq_false_iff_eq]; exact hp
  have h1' : (page == p.id) = true := by rw [beq_iff_eq]; exact hp
  have h2 : decide (lsn ≤ p.lsn) = false := by rw [decide_eq_false_iff_not]; omega
  clear hp hs
  obtain ⟨A, n, c, rfl, en, _⟩ := h.open_
  obtain ⟨K0, k0, j0, rfl⟩ := kk
  obtain ⟨K1, k1, j1, rfl⟩ := vk
  have F0 := (((Fr.refl All w).alloc (.cells #[.int .i64 p.id, .int .i64 p.lsn, .int .i64 p.level, .int .i64 p.next, .slice A n c] 66)).alloc (.cells #[.int .i64 lsn, .int .i64 back, .int .i64 epoch, .int .i64 group, .int .i64 page, .int .i64 6, .int .i64 slot, .slice K0 k0 j0, .slice K1 k1 j1, .bool last] 34)).alloc (.cells #[.int .i64 0, .int .i64 0, .int .i64 0, .int .i64 0, .slice none 0 0] 66)
  go_enter Tryd.func85, Tryd.ntmps85
  go_wp2_with fail
  refine (page_clone' (h.all F0) ok).mono ?_
  rintro e w1 ⟨A1, c1, rfl, o1, f1⟩
  obtain ⟨p0, p1, p2, p3, p4, pz⟩ := blk5 ((f1.block w.heap.size (by simp; omega) trivial).trans (heap_a3 _ _ _ _).1)
  obtain ⟨r0, r1, r2, r3, r4, r5, r6, r7, r8, r9, rz⟩ := blk10 ((f1.block (w.heap.size + 1) (by simp) trivial).trans (heap_a3 _ _ _ _).2.1)
  obtain ⟨s0, s1, s2, s3, s4, sz⟩ := blk5 ((f1.block (w.heap.size + 1 + 1) (by simp) trivial).trans (heap_a3 _ _ _ _).2.2)
  have FF := F0.then_all f1
  have hsz := f1.size
  simp only [World.size_alloc] at hsz o1
  dsimp only
  rw [en] at hmin hil
  go_upto_region 6 with (fail)
  refine wp_name ?_
  intro W hW
  have p0' : W.cell? ⟨w.heap.size, 0, none⟩ = some (.int .i64 p.id) := by rw [hW]; go_simp
  have p1' : W.cell? ⟨w.heap.size, 1, none⟩ = some (.int .i64 lsn) := by rw [hW]; refine World.cell?_setCell_same _ _ _ (u := .int .i64 p.lsn) ?_; go_simp
  have p2' : W.cell? ⟨w.heap.size, 2, none⟩ = some (.int .i64 p.level) := by rw [hW]; go_simp
  have p3' : W.cell? ⟨w.heap.size, 3, none⟩ = some (.int .i64 p.next) := by rw [hW]; go_simp
  have p4' : W.cell? ⟨w.heap.size, 4, none⟩ = some (.slice A1 n c1) := by rw [hW]; go_simp
  have pz' : ∀ j, W.frozen? ⟨w.heap.size, j, none⟩ = false := by intro j; rw [hW]; go_simp
  have r5' : W.cell? ⟨w.heap.size + 1, 5, none⟩ = some (.int .i64 6) := by rw [hW]; go_simp
  have r6' : W.cell? ⟨w.heap.size + 1, 6, none⟩ = some (.int .i64 slot) := by rw [hW]; go_simp
  have r7' : W.cell? ⟨w.heap.size + 1, 7, none⟩ = some (.slice K0 k0 j0) := by rw [hW]; go_simp
  have r8' : W.cell? ⟨w.heap.size + 1, 8, none⟩ = some (.slice K1 k1 j1) := by rw [hW]; go_simp
  have s0' : W.cell? ⟨w.heap.size + 1 + 1, 0, none⟩ = some (.int .i64 0) := by rw [hW]; go_simp
  have s1' : W.cell? ⟨w.heap.size + 1 + 1, 1, none⟩ = some (.int .i64 0) := by rw [hW]; go_simp
  have s2' : W.cell? ⟨w.heap.size + 1 + 1, 2, none⟩ = some (.int .i64 0) := by rw [hW]; go_simp
  have s3' : W.cell? ⟨w.heap.size + 1 + 1, 3, none⟩ = some (.int .i64 0) := by rw [hW]; go_simp
  have s4' : W.cell? ⟨w.heap.size + 1 + 1, 4, none⟩ = some (.slice none 0 0) := by rw [hW]; go_simp
  have sz' : ∀ j, W.frozen? ⟨w.heap.size + 1 + 1, j, none⟩ = false := by intro j; rw [hW]; go_simp
  have FW : Fr All w W := by
    rw [hW]
    repeat (first | (with_reducible exact FF) | with_reducible refine Fr.setNew ?_ (by dsimp only; omega) _)
  have oW : Own kEnt 70 (w.heap.size + 1 + 1 + 1) (From (w.heap.size + 1 + 1 + 1)) W (.slice A1 n c1) p.ents := by
    rw [hW, ← en]
    refine o1.past (B := w.heap.size + 3) ?_ (by omega)
    repeat (first | (with_reducible exact Fr.refl _ _) | with_reducible refine Fr.setCell ?_ (fun m hm => by unfold From at hm; dsimp only; omega) _)
  have hszW : w.heap.size + 1 + 1 + 1 ≤ W.heap.size := by rw [hW]; simp only [World.size_setCell]; exact hsz
  clear hW p0 p1 p2 p3 p4 pz r0 r1 r2 r3 r4 r5 r6 r7 r8 r9 rz s0 s1 s2 s3 s4 sz FF hsz o1 f1
  have hc1 : n ≤ c1 := by
    obtain ⟨A', n', c', he, z1, z2, _⟩ := oW.sl.open_
    injection he with _ z3 z4
    omega
  have hic : i ≤ c1 := by omega
  go_wp2_with fail
  have hlen : (p.ents.take i).length = i := by rw [List.length_take]; omega
  refine bodyPost_ret (v := .agg #[.int .i64 p.id, .int .i64 lsn, .int .i64 p.level, .int .i64 p.next, .slice A1 i c1]) ?_ rfl ⟨A1, c1, by dsimp only; rw [hlen], ?_, ?_⟩
  · simp [results, Tryd.results85, go_sem, s0', s1', s2', s3', s4']
  · dsimp only
    rw [hlen]
    refine ((oW.take hil).past (B := w.heap.size + 3) ?_ (by omega)).widen (by omega)
    repeat (first | (with_reducible exact Fr.refl _ _) | with_reducible refine Fr.setCell ?_ (fun m hm => by unfold From at hm; dsimp only; omega) _)
  · skip
    repeat (first | (with_reducible exact FW) | with_reducible refine Fr.setNew ?_ (by dsimp only; omega) _)

set_option maxRecDepth 100000 in
set_option maxHeartbeats 1000000 in
theorem apply_other {kind : Int}
    {p : Page} {v kv vv : Value} {lsn back epoch group page slot : Int} {last : Bool} {S : Nat → Prop} {w : World} (h : Sl kEnt S w v p.ents) (ok : EntsOk p.ents) (kk : ∃ A n c, kv = .slice A n c) (vk : ∃ A n c, vv = .slice A n c) (hp : page = p.id) (hs : p.lsn < lsn)
    (k1 : kind ≠ 1) (k2 : kind ≠ 2) (k3 : kind ≠ 3) (k4 : kind ≠ 4) (k5 : kind ≠ 5) (k6 : kind ≠ 6) :
    Calls Tryd.prog 85 #[.agg #[.int .i64 p.id, .int .i64 p.lsn, .int .i64 p.level, .int .i64 p.next, v], .agg #[.int .i64 lsn, .int .i64 back, .int .i64 epoch, .int .i64 group, .int .i64 page, .int .i64 kind, .int .i64 slot, kv, vv, .bool last]] w
      (Applied w { p with lsn := lsn }) := by
  have e1 : (kind == 1) = false := by rw [beq_eq_false_iff_ne]; exact k1
  have e2 : (kind == 2) = false := by rw [beq_eq_false_iff_ne]; exact k2
  have e3 : (kind == 3) = false := by rw [beq_eq_false_iff_ne]; exact k3
  have e4 : (kind == 4) = false := by rw [beq_eq_false_iff_ne]; exact k4
  have e5 : (kind == 5) = false := by rw [beq_eq_false_iff_ne]; exact k5
  have e6 : (kind == 6) = false := by rw [beq_eq_false_iff_ne]; exact k6
  clear k1 k2 k3 k4 k5 k6
  have h1 : (page != p.id) = false := by rw [bne_eq_false_iff_eq]; exact hp
  have h1' : (page == p.id) = true := by rw [beq_iff_eq]; exact hp
  have h2 : decide (lsn ≤ p.lsn) = false := by rw [decide_eq_false_iff_not]; omega
  clear hp hs
  obtain ⟨A, n, c, rfl, en, _⟩ := h.open_
  obtain ⟨K0, k0, j0, rfl⟩ := kk
  obtain ⟨K1, k1, j1, rfl⟩ := vk
  have F0 := (((Fr.refl All w).alloc (.cells #[.int .i64 p.id, .int .i64 p.lsn, .int .i64 p.level, .int .i64 p.next, .slice A n c] 66)).alloc (.cells #[.int .i64 lsn, .int .i64 back, .int .i64 epoch, .int .i64 group, .int .i64 page, .int .i64 kind, .int .i64 slot, .slice K0 k0 j0, .slice K1 k1 j1, .bool last] 34)).alloc (.cells #[.int .i64 0, .int .i64 0, .int .i64 0, .int .i64 0, .slice none 0 0] 66)
  go_enter Tryd.func85, Tryd.ntmps85
  go_wp2_with fail
  refine (page_clone' (h.all F0) ok).mono ?_
  rintro e w1 ⟨A1, c1, rfl, o1, f1⟩
  obtain ⟨p0, p1, p2, p3, p4, pz⟩ := blk5 ((f1.block w.heap.size (by simp; omega) trivial).trans (heap_a3 _ _ _ _).1)
  obtain ⟨r0, r1, r2, r3, r4, r5, r6, r7, r8, r9, rz⟩ := blk10 ((f1.block (w.heap.size + 1) (by simp) trivial).trans (heap_a3 _ _ _ _).2.1)
  obtain ⟨s0, s1, s2, s3, s4, sz⟩ := blk5 ((f1.block (w.heap.size + 1 + 1) (by simp) trivial).trans (heap_a3 _ _ _ _).2.2)
  have FF := F0.then_all f1
  have hsz := f1.size
  simp only [World.size_alloc] at hsz o1
  dsimp only
  go_upto_region 6 with (fail)
  refine wp_name ?_
  intro W hW
  have p0' : W.cell? ⟨w.heap.size, 0, none⟩ = some (.int .i64 p.id) := by rw [hW]; go_simp
  have p1' : W.cell? ⟨w.heap.size, 1, none⟩ = some (.int .i64 lsn) := by rw [hW]; refine World.cell?_setCell_same _ _ _ (u := .int .i64 p.lsn) ?_; go_simp
  have p2' : W.cell? ⟨w.heap.size, 2, none⟩ = some (.int .i64 p.level) := by rw [hW]; go_simp
  have p3' : W.cell? ⟨w.heap.size, 3, none⟩ = some (.int .i64 p.next) := by rw [hW]; go_simp
  have p4' : W.cell? ⟨w.heap.size, 4, none⟩ = some (.slice A1 n c1) := by rw [hW]; go_simp
  have pz' : ∀ j, W.frozen? ⟨w.heap.size, j, none⟩ = false := by intro j; rw [hW]; go_simp
  have r5' : W.cell? ⟨w.heap.size + 1, 5, none⟩ = some (.int .i64 kind) := by rw [hW]; go_simp
  have r6' : W.cell? ⟨w.heap.size + 1, 6, none⟩ = some (.int .i64 slot) := by rw [hW]; go_simp
  have r7' : W.cell? ⟨w.heap.size + 1, 7, none⟩ = some (.slice K0 k0 j0) := by rw [hW]; go_simp
  have r8' : W.cell? ⟨w.heap.size + 1, 8, none⟩ = some (.slice K1 k1 j1) := by rw [hW]; go_simp
  have s0' : W.cell? ⟨w.heap.size + 1 + 1, 0, none⟩ = some (.int .i64 0) := by rw [hW]; go_simp
  have s1' : W.cell? ⟨w.heap.size + 1 + 1, 1, none⟩ = some (.int .i64 0) := by rw [hW]; go_simp
  have s2' : W.cell? ⟨w.heap.size + 1 + 1, 2, none⟩ = some (.int .i64 0) := by rw [hW]; go_simp
  have s3' : W.cell? ⟨w.heap.size + 1 + 1, 3, none⟩ = some (.int .i64 0) := by rw [hW]; go_simp
  have s4' : W.cell? ⟨w.heap.size + 1 + 1, 4, none⟩ = some (.slice none 0 0) := by rw [hW]; go_simp
  have sz' : ∀ j, W.frozen? ⟨w.heap.size + 1 + 1, j, none⟩ = false := by intro j; rw [hW]; go_simp
  have FW : Fr All w W := by
    rw [hW]
    repeat (first | (with_reducible exact FF) | with_reducible refine Fr.setNew ?_ (by dsimp only; omega) _)
  have oW : Own kEnt 70 (w.heap.size + 1 + 1 + 1) (From (w.heap.size + 1 + 1 + 1)) W (.slice A1 n c1) p.ents := by
    rw [hW, ← en]
    refine o1.past (B := w.heap.size + 3) ?_ (by omega)
    repeat (first | (with_reducible exact Fr.refl _ _) | with_reducible refine Fr.setCell ?_ (fun m hm => by unfold From at hm; dsimp only; omega) _)
  have hszW : w.heap.size + 1 + 1 + 1 ≤ W.heap.size := by rw [hW]; simp only [World.size_setCell]; exact hsz
  clear hW p0 p1 p2 p3 p4 pz r0 r1 r2 r3 r4 r5 r6 r7 r8 r9 rz s0 s1 s2 s3 s4 sz FF hsz o1 f1
  go_wp2_with fail
  refine bodyPost_ret (v := .agg #[.int .i64 p.id, .int .i64 lsn, .int .i64 p.level, .int .i64 p.next, .slice A1 n c1]) ?_ rfl ⟨A1, c1, by dsimp only; rw [en], ?_, ?_⟩
  · simp [results, Tryd.results85, go_sem, s0', s1', s2', s3', s4']
  · dsimp only
    rw [en]
    refine (oW.past (B := w.heap.size + 3) ?_ (by omega)).widen (by omega)
    repeat (first | (with_reducible exact Fr.refl _ _) | with_reducible refine Fr.setCell ?_ (fun m hm => by unfold From at hm; dsimp only; omega) _)
  · skip
    repeat (first | (with_reducible exact FW) | with_reducible refine Fr.setNew ?_ (by dsimp only; omega) _)
end Go.Proofs.YtalidmlomfobdaaDoor
