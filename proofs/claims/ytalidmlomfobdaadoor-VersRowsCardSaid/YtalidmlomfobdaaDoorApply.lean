/- page.Apply: a page with a record. -/
import Derived.Test.YtalidmlomfobdaaDoorPClone
import Derived.Test.YtalidmlomfobdaaDoorDeleteEnt
import Derived.Test.YtalidmlomfobdaaDoorLast
import Derived.Deep.Cut
namespace Go.Proofs.YtalidmlomfobdaaDoor
open Go.RowKit

/-- What page.Apply answers. -/
def Applied (w : World) (q : Page) (e : Ending) (w' : World) : Prop :=
  ∃ A c, e = .returned (.agg #[.int .i64 q.id, .int .i64 q.lsn, .int .i64 q.level, .int .i64 q.next, .slice A q.ents.length c]) ∧ Own kEnt 70 w.heap.size (From w.heap.size) w' (.slice A q.ents.length c) q.ents ∧ Fr All w w'

set_option maxRecDepth 100000 in
set_option maxHeartbeats 400000 in
theorem apply_skip {p : Page} {v kv vv : Value} {lsn back epoch group page kind slot : Int} {last : Bool} {S : Nat → Prop} {w : World} (h : Sl kEnt S w v p.ents) (ok : EntsOk p.ents) (kk : ∃ A n c, kv = .slice A n c) (vk : ∃ A n c, vv = .slice A n c) (hs : page ≠ p.id ∨ lsn ≤ p.lsn) :
    Calls Tryd.prog 85 #[.agg #[.int .i64 p.id, .int .i64 p.lsn, .int .i64 p.level, .int .i64 p.next, v], .agg #[.int .i64 lsn, .int .i64 back, .int .i64 epoch, .int .i64 group, .int .i64 page, .int .i64 kind, .int .i64 slot, kv, vv, .bool last]] w (Applied w p) := by
  by_cases hp : page = p.id
  · have h1 : (page != p.id) = false := by rw [bne_eq_false_iff_eq]; exact hp
    have h1' : (page == p.id) = true := by rw [beq_iff_eq]; exact hp
    have h2 : decide (lsn ≤ p.lsn) = true := by rw [decide_eq_true_eq]; exact hs.resolve_left (fun h => h hp)
    clear hp hs
    obtain ⟨A, n, c, rfl, en, _⟩ := h.open_
    obtain ⟨K0, k0, j0, rfl⟩ := kk
    obtain ⟨K1, k1, j1, rfl⟩ := vk
    have F0 := (((Fr.refl All w).alloc (.cells #[.int .i64 p.id, .int .i64 p.lsn, .int .i64 p.level, .int .i64 p.next, .slice A n c] 66)).alloc (.cells #[.int .i64 lsn, .int .i64 back, .int .i64 epoch, .int .i64 group, .int .i64 page, .int .i64 kind, .int .i64 slot, .slice K0 k0 j0, .slice K1 k1 j1, .bool last] 34)).alloc (.cells #[.int .i64 0, .int .i64 0, .int .i64 0, .int .i64 0, .slice none 0 0] 66)
    go_enter Tryd.func85, Tryd.ntmps85
    go_wp2_with fail
    refine (page_clone' (h.all F0) ok).mono ?_
    rintro e w1 ⟨A1, c1, rfl, o1, f1⟩
    obtain ⟨p0, p1, p2, p3, p4, pz⟩ := blk5 ((f1.block w.heap.size (by simp; omega) trivial).trans (heap_a3 _ _ _ _).1)
    obtain ⟨r0, r1, r2, r3, r4, r5, r6, r7, r8, r9, rz⟩ := blk10 ((f1.block (w.heap.size + 1) (by simp) trivial).trans (heap_a3 _ _ _ _).2.1)
    obtain ⟨s0, s1, s2, s3, s4, sz⟩ := blk5 ((f1.block (w.heap.size + 1 + 1) (by simp) trivial).trans (heap_a3 _ _ _ _).2.2)
    have FF := F0.then_all f1
    have hsz := f1.size
    simp only [World.size_alloc] at hsz o1
    dsimp only
    go_wp2_with fail
    refine bodyPost_ret (v := .agg #[.int .i64 p.id, .int .i64 p.lsn, .int .i64 p.level, .int .i64 p.next, .slice A1 p.ents.length c1]) ?_ rfl ⟨A1, c1, rfl, ?_, ?_⟩
    · simp [results, Tryd.results85, go_sem, s0, s1, s2, s3, s4, en]
    · refine (o1.past (B := w.heap.size + 3) ?_ (by omega)).widen (by omega)
      repeat (first | (with_reducible exact Fr.refl _ _) | with_reducible refine Fr.setCell ?_ (fun m hm => by unfold From at hm; dsimp only; omega) _)
    · skip
      repeat (first | (with_reducible exact FF) | with_reducible refine Fr.setNew ?_ (by dsimp only; omega) _)
  · have h1 : (page != p.id) = true := by rw [bne_iff_ne]; exact hp
    have h1' : (page == p.id) = false := by rw [beq_eq_false_iff_ne]; exact hp
    clear hp hs
    obtain ⟨A, n, c, rfl, en, _⟩ := h.open_
    obtain ⟨K0, k0, j0, rfl⟩ := kk
    obtain ⟨K1, k1, j1, rfl⟩ := vk
    have F0 := (((Fr.refl All w).alloc (.cells #[.int .i64 p.id, .int .i64 p.lsn, .int .i64 p.level, .int .i64 p.next, .slice A n c] 66)).alloc (.cells #[.int .i64 lsn, .int .i64 back, .int .i64 epoch, .int .i64 group, .int .i64 page, .int .i64 kind, .int .i64 slot, .slice K0 k0 j0, .slice K1 k1 j1, .bool last] 34)).alloc (.cells #[.int .i64 0, .int .i64 0, .int .i64 0, .int .i64 0, .slice none 0 0] 66)
    go_enter Tryd.func85, Tryd.ntmps85
    go_wp2_with fail
    refine (page_clone' (h.all F0) ok).mono ?_
    rintro e w1 ⟨A1, c1, rfl, o1, f1⟩
    obtain ⟨p0, p1, p2, p3, p4, pz⟩ := blk5 ((f1.block w.heap.size (by simp; omega) trivial).trans (heap_a3 _ _ _ _).1)
    obtain ⟨r0, r1, r2, r3, r4, r5, r6, r7, r8, r9, rz⟩ := blk10 ((f1.block (w.heap.size + 1) (by simp) trivial).trans (heap_a3 _ _ _ _).2.1)
    obtain ⟨s0, s1, s2, s3, s4, sz⟩ := blk5 ((f1.block (w.heap.size + 1 + 1) (by simp) trivial).trans (heap_a3 _ _ _ _).2.2)
    have FF := F0.then_all f1
    have hsz := f1.size
    simp only [World.size_alloc] at hsz o1
    dsimp only
    go_wp2_with fail
    refine bodyPost_ret (v := .agg #[.int .i64 p.id, .int .i64 p.lsn, .int .i64 p.level, .int .i64 p.next, .slice A1 p.ents.length c1]) ?_ rfl ⟨A1, c1, rfl, ?_, ?_⟩
    · simp [results, Tryd.results85, go_sem, s0, s1, s2, s3, s4, en]
    · refine (o1.past (B := w.heap.size + 3) ?_ (by omega)).widen (by omega)
      repeat (first | (with_reducible exact Fr.refl _ _) | with_reducible refine Fr.setCell ?_ (fun m hm => by unfold From at hm; dsimp only; omega) _)
    · skip
      repeat (first | (with_reducible exact FF) | with_reducible refine Fr.setNew ?_ (by dsimp only; omega) _)

set_option maxRecDepth 100000 in
set_option maxHeartbeats 1000000 in
theorem apply_insert {p : Page} {v kv vv : Value} {lsn back epoch group page slot : Int} {last : Bool} {S : Nat → Prop} {w : World} (h : Sl kEnt S w v p.ents) (ok : EntsOk p.ents) (kk : ∃ A n c, kv = .slice A n c) (vk : ∃ A n c, vv = .slice A n c) {key val : List UInt8} {T : Nat → Prop} (hkv : Sl kByte T w kv key) (hvv : Sl kByte T w vv val) (hkl : key.length ≤ 1000000) (hvl : val.length ≤ 1000000) (hp : page = p.id) (hs : p.lsn < lsn) (h0 : 0 ≤ slot) (hn : p.ents.length < 8) :
    Calls Tryd.prog 85 #[.agg #[.int .i64 p.id, .int .i64 p.lsn, .int .i64 p.level, .int .i64 p.next, v], .agg #[.int .i64 lsn, .int .i64 back, .int .i64 epoch, .int .i64 group, .int .i64 page, .int .i64 2, .int .i64 slot, kv, vv, .bool last]] w (Applied w { p with lsn := lsn, ents := p.ents.take (min slot.toNat p.ents.length) ++ (⟨key, val⟩ :: p.ents.drop (min slot.toNat p.ents.length)) }) := by
  obtain ⟨i, hi⟩ : ∃ i : Nat, i = min slot.toNat p.ents.length := ⟨_, rfl⟩
  have hmin : (if (p.ents.length : Int) < slot then (p.ents.length : Int) else slot) = (i : Int) := by rw [hi]; split <;> omega
  have hil : i ≤ p.ents.length := by omega
  rw [← hi]
  clear hi
  have h1 : (page != p.id) = false := by rw [bne_eq_false_iff_eq]; exact hp
  have h1' : (page == p.id) = true := by rw [beq_iff_eq]; exact hp
  have h2 : decide (lsn ≤ p.lsn) = false := by rw [decide_eq_false_iff_not]; omega
  clear hp hs
  obtain ⟨A, n, c, rfl, en, _⟩ := h.open_
  obtain ⟨K0, k0, j0, rfl⟩ := kk
  obtain ⟨K1, k1, j1, rfl⟩ := vk
  have F0 := (((Fr.refl All w).alloc (.cells #[.int .i64 p.id, .int .i64 p.lsn, .int .i64 p.level, .int .i64 p.next, .slice A n c] 66)).alloc (.cells #[.int .i64 lsn, .int .i64 back, .int .i64 epoch, .int .i64 group, .int .i64 page, .int .i64 2, .int .i64 slot, .slice K0 k0 j0, .slice K1 k1 j1, .bool last] 34)).alloc (.cells #[.int .i64 0, .int .i64 0, .int .i64 0, .int .i64 0, .slice none 0 0] 66)
  go_enter Tryd.func85, Tryd.ntmps85
  go_wp2_with fail
  refine (page_clone' (h.all F0) ok).mono ?_
  rintro e w1 ⟨A1, c1, rfl, o1, f1⟩
  obtain ⟨p0, p1, p2, p3, p4, pz⟩ := blk5 ((f1.block w.heap.size (by simp; omega) trivial).trans (heap_a3 _ _ _ _).1)
  obtain ⟨r0, r1, r2, r3, r4, r5, r6, r7, r8, r9, rz⟩ := blk10 ((f1.block (w.heap.size + 1) (by simp) trivial).trans (heap_a3 _ _ _ _).2.1)
  obtain ⟨s0, s1, s2, s3, s4, sz⟩ := blk5 ((f1.block (w.heap.size + 1 + 1) (by simp) trivial).trans (heap_a3 _ _ _ _).2.2)
  have FF := F0.then_all f1
  have hsz := f1.size
  simp only [World.size_alloc] at hsz o1
  dsimp only
  go_wp2_with fail
  rw [en] at hmin hn hil
  refine wp_name ?_
  intro W hW
  have p0' : W.cell? ⟨w.heap.size, 0, none⟩ = some (.int .i64 p.id) := by rw [hW]; go_simp
  have p1' : W.cell? ⟨w.heap.size, 1, none⟩ = some (.int .i64 lsn) := by rw [hW]; refine World.cell?_setCell_same _ _ _ (u := .int .i64 p.lsn) ?_; go_simp
  have p2' : W.cell? ⟨w.heap.size, 2, none⟩ = some (.int .i64 p.level) := by rw [hW]; go_simp
  have p3' : W.cell? ⟨w.heap.size, 3, none⟩ = some (.int .i64 p.next) := by rw [hW]; go_simp
  have p4' : W.cell? ⟨w.heap.size, 4, none⟩ = some (.slice A1 n c1) := by rw [hW]; go_simp
  have pz' : ∀ j, W.frozen? ⟨w.heap.size, j, none⟩ = false := by intro j; rw [hW]; go_simp
  have r5' : W.cell? ⟨w.heap.size + 1, 5, none⟩ = some (.int .i64 2) := by rw [hW]; go_simp
  have r6' : W.cell? ⟨w.heap.size + 1, 6, none⟩ = some (.int .i64 slot) := by rw [hW]; go_simp
  have r7' : W.cell? ⟨w.heap.size + 1, 7, none⟩ = some (.slice K0 k0 j0) := by rw [hW]; go_simp
  have r8' : W.cell? ⟨w.heap.size + 1, 8, none⟩ = some (.slice K1 k1 j1) := by rw [hW]; go_simp
  have s0' : W.cell? ⟨w.heap.size + 1 + 1, 0, none⟩ = some (.int .i64 0) := by rw [hW]; go_simp
  have s1' : W.cell? ⟨w.heap.size + 1 + 1, 1, none⟩ = some (.int .i64 0) := by rw [hW]; go_simp
  have s2' : W.cell? ⟨w.heap.size + 1 + 1, 2, none⟩ = some (.int .i64 0) := by rw [hW]; go_simp
  have s3' : W.cell? ⟨w.heap.size + 1 + 1, 3, none⟩ = some (.int .i64 0) := by rw [hW]; go_simp
  have s4' : W.cell? ⟨w.heap.size + 1 + 1, 4, none⟩ = some (.slice none 0 0) := by rw [hW]; go_simp
  have sz' : ∀ j, W.frozen? ⟨w.heap.size + 1 + 1, j, none⟩ = false := by intro j; rw [hW]; go_simp
  have FW : Fr All w W := by
    rw [hW]
    repeat (first | (with_reducible exact FF) | with_reducible refine Fr.setNew ?_ (by dsimp only; omega) _)
  have oW : Own kEnt 70 (w.heap.size + 1 + 1 + 1) (From (w.heap.size + 1 + 1 + 1)) W (.slice A1 n c1) p.ents := by
    rw [hW, ← en]
    refine o1.past (B := w.heap.size + 3) ?_ (by omega)
    repeat (first | (with_reducible exact Fr.refl _ _) | with_reducible refine Fr.setCell ?_ (fun m hm => by unfold From at hm; dsimp only; omega) _)
  have hszW : w.heap.size + 1 + 1 + 1 ≤ W.heap.size := by rw [hW]; simp only [World.size_setCell]; exact hsz
  clear hW p0 p1 p2 p3 p4 pz r0 r1 r2 r3 r4 r5 r6 r7 r8 r9 rz s0 s1 s2 s3 s4 sz FF hsz o1 f1
  have hkb : w.heap.size + 1 < W.heap.size := by omega
  have hpb : w.heap.size < W.heap.size := by omega
  have hkW := hkv.all FW
  have hvW := hvv.all FW
  have hKl := hkv.len
  have hVl := hvv.len
  refine wp_region_last (S := fun w' => w'.cell? ⟨w.heap.size, 4, none⟩ = some (.slice A1 n c1) ∧ w'.cell? ⟨w.heap.size + 1, 6, none⟩ = some (.int .i64 slot) ∧ w'.cell? ⟨w.heap.size + 1, 7, none⟩ = some (.slice K0 k0 j0) ∧ w'.cell? ⟨w.heap.size + 1, 8, none⟩ = some (.slice K1 k1 j1)) 16 (by kernel_rfl) rfl (by kernel_rfl) ⟨p4', r6', r7', r8'⟩ (fun hHeld => ?_)
  simp only [List.take_succ_cons, List.take_zero]
  refine wpAnyH_take (i := 0) (v := ?_) rfl (by kernel_rfl) (by kernel_rfl) (by kernel_rfl) (fun _ _ _ h => h) (Or.inl ⟨by rfl, ?_⟩) (by assumption) ?_
  rotate_left
  · (intro w hSw; (try dsimp only at hSw); go_simp; try with_reducible rfl)
  try simp only [Act.put]
  try simp only [List.setIfInBounds_toArray]
  try simp only [List.set_cons_succ]
  try simp only [List.set_cons_zero]
  refine wpAnyH_take (i := 1) (v := ?_) rfl (by kernel_rfl) (by kernel_rfl) (by kernel_rfl) (fun _ _ _ h => h) (Or.inl ⟨by rfl, ?_⟩) (by assumption) ?_
  rotate_left
  · (intro w hSw; (try dsimp only at hSw); go_simp; try with_reducible rfl)
  try simp only [Act.put]
  try simp only [List.setIfInBounds_toArray]
  try simp only [List.set_cons_succ]
  try simp only [List.set_cons_zero]
  refine wpAnyH_take (i := 2) (v := ?_) rfl (by kernel_rfl) (by kernel_rfl) (by kernel_rfl) (fun _ _ _ h => h) (Or.inl ⟨by rfl, ?_⟩) (by assumption) ?_
  rotate_left
  · (intro w hSw; (try dsimp only at hSw); go_simp; try with_reducible rfl)
  try simp only [Act.put]
  try simp only [List.setIfInBounds_toArray]
  try simp only [List.set_cons_succ]
  try simp only [List.set_cons_zero]
  refine wpAnyH_take (i := 3) (v := ?_) rfl (by kernel_rfl) (by kernel_rfl) (by kernel_rfl) (fun _ _ _ h => h) (Or.inl ⟨by rfl, ?_⟩) (by assumption) ?_
  rotate_left
  · (intro w hSw; (try dsimp only at hSw); go_simp; try with_reducible rfl)
  try simp only [Act.put]
  try simp only [List.setIfInBounds_toArray]
  try simp only [List.set_cons_succ]
  try simp only [List.set_cons_zero]
  refine wpAnyH_take (i := 4) (v := ?_) rfl (by kernel_rfl) (by kernel_rfl) (by kernel_rfl) (fun _ _ _ h => h) (Or.inl ⟨by rfl, ?_⟩) (by assumption) ?_
  rotate_left
  · (intro w hSw; (try dsimp only at hSw); go_simp; try with_reducible rfl)
  try simp only [Act.put]
  try simp only [List.setIfInBounds_toArray]
  try simp only [List.set_cons_succ]
  try simp only [List.set_cons_zero]
  refine wpAnyH_take (i := 5) (v := ?_) rfl (by kernel_rfl) (by kernel_rfl) (by kernel_rfl) (fun _ _ _ h => h) (Or.inl ⟨by rfl, ?_⟩) (by assumption) ?_
  rotate_left
  · (intro w hSw; (try dsimp only at hSw); go_simp; try with_reducible rfl)
  try simp only [Act.put]
  try simp only [List.setIfInBounds_toArray]
  try simp only [List.set_cons_succ]
  try simp only [List.set_cons_zero]
  refine wpAnyH_take (i := 6) (v := ?_) rfl (by kernel_rfl) (by kernel_rfl) (by kernel_rfl) (fun _ _ _ h => h) (Or.inl ⟨by rfl, ?_⟩) (by assumption) ?_
  rotate_left
  · (intro w hSw; (try dsimp only at hSw); go_simp; try with_reducible rfl)
  try simp only [Act.put]
  try simp only [List.setIfInBounds_toArray]
  try simp only [List.set_cons_succ]
  try simp only [List.set_cons_zero]
  refine wpAnyH_take (i := 7) (v := ?_) rfl (by kernel_rfl) (by kernel_rfl) (by kernel_rfl) (fun _ _ _ h => h) (Or.inl ⟨by rfl, ?_⟩) (by assumption) ?_
  rotate_left
  · (intro w hSw; (try dsimp only at hSw); go_simp; try with_reducible rfl)
  try simp only [Act.put]
  try simp only [List.setIfInBounds_toArray]
  try simp only [List.set_cons_succ]
  try simp only [List.set_cons_zero]
  refine wpAnyH_take (i := 9) (v := ?_) rfl (by kernel_rfl) (by kernel_rfl) (by kernel_rfl) (fun _ _ _ h => h) (Or.inl ⟨by rfl, ?_⟩) (by assumption) ?_
  rotate_left
  · (intro w hSw; (try dsimp only at hSw); go_simp; try with_reducible rfl)
  try simp only [Act.put]
  try simp only [List.setIfInBounds_toArray]
  try simp only [List.set_cons_succ]
  try simp only [List.set_cons_zero]
  refine wpAnyH_take (i := 10) (v := ?_) rfl (by kernel_rfl) (by kernel_rfl) (by kernel_rfl) (fun _ _ _ h => h) (Or.inl ⟨by rfl, ?_⟩) (by assumption) ?_
  rotate_left
  · (intro w hSw; (try dsimp only at hSw); go_simp; try with_reducible rfl)
  try simp only [Act.put]
  try simp only [List.setIfInBounds_toArray]
  try simp only [List.set_cons_succ]
  try simp only [List.set_cons_zero]
  refine wpAnyH_ready (rs := [8]) (by kernel_rfl) (by simp) (AllReadyH.cons rfl (fun K hK => ?_) AllReadyH.nil)
  go_simp
  refine (clone_bytes (hkW.all (Fr.refl All W).drew) (by omega)).mono ?_
  rintro e w2 ⟨A2, n2, rfl, o2, f2⟩
  go_simp
  refine hK.out _ _ ⟨f2.cell trivial p4', f2.cell trivial r6', f2.cell trivial r7', f2.cell trivial r8'⟩ (fun hHeld => ?_)
  clear hK K
  try simp only [Act.put]
  try simp only [List.setIfInBounds_toArray]
  try simp only [List.set_cons_succ]
  try simp only [List.set_cons_zero]
  refine wpAnyH_ready (rs := [11]) (by kernel_rfl) (by simp) (AllReadyH.cons rfl (fun K hK => ?_) AllReadyH.nil)
  go_simp
  refine (clone_bytes ((hvW.all (Fr.refl All W).drew).all f2) (by omega)).mono ?_
  rintro e w3 ⟨A3, n3, rfl, o3, f3⟩
  go_simp
  refine hK.out _ _ ⟨(f2.then_all f3).cell trivial p4', (f2.then_all f3).cell trivial r6', (f2.then_all f3).cell trivial r7', (f2.then_all f3).cell trivial r8'⟩ (fun hHeld => ?_)
  clear hK K
  try simp only [Act.put]
  try simp only [List.setIfInBounds_toArray]
  try simp only [List.set_cons_succ]
  try simp only [List.set_cons_zero]
  refine wpAnyH_take (i := 12) (v := ?_) rfl (by kernel_rfl) (by kernel_rfl) (by kernel_rfl) (fun _ _ _ h => h) (Or.inl ⟨by rfl, ?_⟩) (by assumption) ?_
  rotate_left
  · (intro w hSw; (try dsimp only at hSw); go_simp; try with_reducible rfl)
  try simp only [Act.put]
  try simp only [List.setIfInBounds_toArray]
  try simp only [List.set_cons_succ]
  try simp only [List.set_cons_zero]
  refine wpAnyH_ready (rs := [13]) (by kernel_rfl) (by simp) (AllReadyH.cons rfl (fun K hK => ?_) AllReadyH.nil)
  go_simp
  have F4 : Fr All W (w3.alloc (.cells #[.slice A2 k0 n2, .slice A3 k1 n3] 70)) := ((((Fr.refl All W).drew.then_all f2).then_all f3).alloc _)
  refine hK.out _ _ ⟨F4.cell trivial p4', F4.cell trivial r6', F4.cell trivial r7', F4.cell trivial r8'⟩ (fun hHeld => ?_)
  clear hK K
  try simp only [Act.put]
  try simp only [List.setIfInBounds_toArray]
  try simp only [List.set_cons_succ]
  try simp only [List.set_cons_zero]
  refine wpAnyH_ready (rs := [14]) (by kernel_rfl) (by simp) (AllReadyH.cons rfl (fun K hK => ?_) AllReadyH.nil)
  go_simp
  have hown := own_lt oW
  have hd2 : W.heap.size ≤ w2.heap.size := f2.size
  have hd3 : w2.heap.size ≤ w3.heap.size := f3.size
  have hnew : ∀ m, W.heap.size ≤ m → ∀ b, m ≤ b → ∀ z : Nat, b < z → From (w.heap.size + 1 + 1 + 1) b ∧ some b ≠ (Value.slice A1 n c1).ownBlock := fun m hm b hb z hz => ⟨by unfold From; omega, fun hh => by have := (hown b hh.symm).2; omega⟩
  rw [hKl] at o2
  rw [hVl] at o3
  have s1 : Sl kByte (fun b => From (w.heap.size + 1 + 1 + 1) b ∧ some b ≠ (Value.slice A1 n c1).ownBlock) (w3.alloc (.cells #[.slice A2 k0 n2, .slice A3 k1 n3] 70)) (.slice A2 k0 n2) key := ((o2.all f3).plain_in (fun b hb hl => hnew _ (Nat.le_refl _) b hb _ hl)).all ((Fr.refl All w3).alloc _)
  have s2 : Sl kByte (fun b => From (w.heap.size + 1 + 1 + 1) b ∧ some b ≠ (Value.slice A1 n c1).ownBlock) (w3.alloc (.cells #[.slice A2 k0 n2, .slice A3 k1 n3] 70)) (.slice A3 k1 n3) val := (o3.plain_in (fun b hb hl => hnew _ hd2 b hb _ hl)).all ((Fr.refl All w3).alloc _)
  have hbox : (w3.alloc (.cells #[.slice A2 k0 n2, .slice A3 k1 n3] 70)).heap[w3.heap.size]? = some (.cells #[.slice A2 k0 n2, .slice A3 k1 n3] 70 (0, 0)) := heap_alloc_new _ _
  refine (insertEnt (x := ⟨key, val⟩) (oW.all F4) (by rw [en]; exact hil) (kEnt_mk s1 s2) (fun b hb hl => hb) hbox (fun hh => by have := (hown _ hh.symm).2; omega) (Nat.le_trans hszW F4.size) (by omega)).mono ?_
  rw [en]
  rintro e w5 ⟨A5, c5, rfl, o5, f5, hob⟩
  go_simp
  have hbut : ∀ m, m < w.heap.size + 1 + 1 + 1 → But (Value.slice A1 n c1).ownBlock m := fun m hm hh => by have := (hown m hh.symm).1; omega
  have g0 : w5.cell? ⟨w.heap.size, 0, none⟩ = _ := f5.cell (hbut _ (by dsimp only; omega)) (F4.cell trivial p0')
  have g1 : w5.cell? ⟨w.heap.size, 1, none⟩ = _ := f5.cell (hbut _ (by dsimp only; omega)) (F4.cell trivial p1')
  have g2 : w5.cell? ⟨w.heap.size, 2, none⟩ = _ := f5.cell (hbut _ (by dsimp only; omega)) (F4.cell trivial p2')
  have g3 : w5.cell? ⟨w.heap.size, 3, none⟩ = _ := f5.cell (hbut _ (by dsimp only; omega)) (F4.cell trivial p3')
  have g4 : w5.cell? ⟨w.heap.size, 4, none⟩ = _ := f5.cell (hbut _ (by dsimp only; omega)) (F4.cell trivial p4')
  refine hK.out _ _ ⟨g4, f5.cell (hbut _ (by dsimp only; omega)) (F4.cell trivial r6'), f5.cell (hbut _ (by dsimp only; omega)) (F4.cell trivial r7'), f5.cell (hbut _ (by dsimp only; omega)) (F4.cell trivial r8')⟩ (fun hHeld => ?_)
  clear hK K
  try simp only [Act.put]
  try simp only [List.setIfInBounds_toArray]
  try simp only [List.set_cons_succ]
  try simp only [List.set_cons_zero]
  refine wpAnyH_take (i := 15) (v := ?_) rfl (by kernel_rfl) (by kernel_rfl) (by kernel_rfl) (fun _ _ _ h => h) (Or.inl ⟨by rfl, ?_⟩) (by assumption) ?_
  rotate_left
  · (intro w hSw; (try dsimp only at hSw); go_simp; try with_reducible rfl)
  try simp only [Act.put]
  try simp only [List.setIfInBounds_toArray]
  try simp only [List.set_cons_succ]
  try simp only [List.set_cons_zero]
  have q0 : w5.cell? ⟨w.heap.size + 1 + 1, 0, none⟩ = _ := f5.cell (hbut _ (by dsimp only; omega)) (F4.cell trivial s0')
  have q1 : w5.cell? ⟨w.heap.size + 1 + 1, 1, none⟩ = _ := f5.cell (hbut _ (by dsimp only; omega)) (F4.cell trivial s1')
  have q2 : w5.cell? ⟨w.heap.size + 1 + 1, 2, none⟩ = _ := f5.cell (hbut _ (by dsimp only; omega)) (F4.cell trivial s2')
  have q3 : w5.cell? ⟨w.heap.size + 1 + 1, 3, none⟩ = _ := f5.cell (hbut _ (by dsimp only; omega)) (F4.cell trivial s3')
  have q4 : w5.cell? ⟨w.heap.size + 1 + 1, 4, none⟩ = _ := f5.cell (hbut _ (by dsimp only; omega)) (F4.cell trivial s4')
  have hpb2 : w.heap.size + 1 + 1 < W.heap.size := by omega
  have gz : ∀ j, w5.frozen? ⟨w.heap.size, j, none⟩ = false := fun j => (World.frozen?_of_block (a := ⟨w.heap.size, j, none⟩) ((f5.block _ (Nat.lt_of_lt_of_le hpb F4.size) (hbut _ (by omega))).trans (F4.block _ hpb trivial))).trans (pz' j)
  have qz : ∀ j, w5.frozen? ⟨w.heap.size + 1 + 1, j, none⟩ = false := fun j => (World.frozen?_of_block (a := ⟨w.heap.size + 1 + 1, j, none⟩) ((f5.block _ (Nat.lt_of_lt_of_le hpb2 F4.size) (hbut _ (by omega))).trans (F4.block _ hpb2 trivial))).trans (sz' j)
  have F5 : Fr All w w5 := (FW.trans F4).row f5.grown fun m hm => by have := (hown m hm).1; omega
  have hs5 : w.heap.size + 1 + 1 + 1 ≤ w5.heap.size := Nat.le_trans hszW (Nat.le_trans F4.size f5.size)
  clear r5' hHeld f2 f3 f5 F4 s1 s2 hbox hnew hbut o2 o3 hown hob p0' p1' p2' p3' p4' pz' r6' r7' r8' s0' s1' s2' s3' s4' sz' oW FW hkW hvW hmin
  refine wpAnyH_done (by kernel_rfl) ?_ _
  show wpList _ _ _ _ _ _
  go_wp2_with fail
  have hlen : (p.ents.take i ++ (⟨key, val⟩ :: p.ents.drop i : List Ent)).length = n + 1 := by simp only [List.length_append, List.length_take, List.length_cons, List.length_drop]; omega
  refine bodyPost_ret (v := .agg #[.int .i64 p.id, .int .i64 lsn, .int .i64 p.level, .int .i64 p.next, .slice A5 (n + 1) c5]) ?_ rfl ⟨A5, c5, ?_, ?_, ?_⟩
  · simp [results, Tryd.results85, go_sem, q0, q1, q2, q3, q4]
  · rw [hlen]
  · rw [hlen]
    refine (o5.past (B := w.heap.size + 3) ?_ (by omega)).widen (by omega)
    repeat (first | (with_reducible exact Fr.refl _ _) | with_reducible refine Fr.setCell ?_ (fun m hm => by unfold From at hm; dsimp only; omega) _)
  · repeat (first | (with_reducible exact F5) | with_reducible refine Fr.setNew ?_ (by dsimp only; omega) _)
end Go.Proofs.YtalidmlomfobdaaDoor
