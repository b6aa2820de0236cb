/- page.Apply: a page with a record. page.Apply: the records that call nothing more. page.Apply: the records that remove or change an entry. page.Apply, whatever the record is. -/
import Derived.Test.YtppjpfgjophgkaaDoorPClone
import Derived.Test.YtppjpfgjophgkaaDoorDeleteEnt
import Derived.Test.YtppjpfgjophgkaaDoorLast3
import Derived.Deep.Cut
namespace Go.Proofs.YtppjpfgjophgkaaDoor
open Go.RowKit

/-- What page.Apply answers. -/
def Applied (w : World) (q : Page) (e : Ending) (w' : World) : Prop :=
  ∃ A c, e = .returned (.agg #[.int .i64 q.id, .int .i64 q.lsn, .int .i64 q.level, .int .i64 q.next, .slice A q.ents.length c]) ∧ Own kEnt 65 w.heap.size (From w.heap.size) w' (.slice A q.ents.length c) q.ents ∧ Fr All w w'

set_option maxRecDepth 100000 in
set_option maxHeartbeats 400000 in
theorem apply_skip {p : Page} {v kv vv : Value} {lsn back epoch group page kind slot : Int} {last : Bool} {S : Nat → Prop} {w : World} (h : Sl kEnt S w v p.ents) (ok : EntsOk p.ents) (kk : ∃ A n c, kv = .slice A n c) (vk : ∃ A n c, vv = .slice A n c) (hs : page ≠ p.id ∨ lsn ≤ p.lsn) :
    Calls Tryd.prog 38 #[.agg #[.int .i64 p.id, .int .i64 p.lsn, .int .i64 p.level, .int .i64 p.next, v], .agg #[.int .i64 lsn, .int .i64 back, .int .i64 epoch, .int .i64 group, .int .i64 page, .int .i64 kind, .int .i64 slot, kv, vv, .bool last]] w (Applied w p) := by
  by_cases hp : page = p.id
  · have h1 : (page != p.id) = false := by rw [bne_eq_false_iff_eq]; exact hp
    have h1' : (page == p.id) = true := by rw [beq_iff_eq]; exact hp
    have h2 : decide (lsn ≤ p.lsn) = true := by rw [decide_eq_true_eq]; exact hs.resolve_left (fun h => h hp)
    clear hp hs
    obtain ⟨A, n, c, rfl, en, _⟩ := h.open_
    obtain ⟨K0, k0, j0, rfl⟩ := kk
    obtain ⟨K1, k1, j1, rfl⟩ := vk
    have F0 := (((Fr.refl All w).alloc (.cells #[.int .i64 p.id, .int .i64 p.lsn, .int .i64 p.level, .int .i64 p.next, .slice A n c] 30)).alloc (.cells #[.int .i64 lsn, .int .i64 back, .int .i64 epoch, .int .i64 group, .int .i64 page, .int .i64 kind, .int .i64 slot, .slice K0 k0 j0, .slice K1 k1 j1, .bool last] 33)).alloc (.cells #[.int .i64 0, .int .i64 0, .int .i64 0, .int .i64 0, .slice none 0 0] 30)
    go_enter Tryd.func38, Tryd.ntmps38
    go_wp2_with fail
    refine (page_clone' (h.all F0) ok).mono ?_
    rintro e w1 ⟨A1, c1, rfl, o1, f1⟩
    obtain ⟨p0, p1, p2, p3, p4, pz⟩ := blk5 ((f1.block w.heap.size (by simp; omega) trivial).trans (heap_a3 _ _ _ _).1)
    obtain ⟨r0, r1, r2, r3, r4, r5, r6, r7, r8, r9, rz⟩ := blk10 ((f1.block (w.heap.size + 1) (by simp) trivial).trans (heap_a3 _ _ _ _).2.1)
    obtain ⟨s0, s1, s2, s3, s4, sz⟩ := blk5 ((f1.block (w.heap.size + 1 + 1) (by simp) trivial).trans (heap_a3 _ _ _ _).2.2)
    have FF := F0.then_all f1
    have hsz := f1.size
    simp only [World.size_alloc] at hsz o1
    dsimp only
    go_wp2_with fail
    refine bodyPost_ret (v := .agg #[.int .i64 p.id, .int .i64 p.lsn, .int .i64 p.level, .int .i64 p.next, .slice A1 p.ents.length c1]) ?_ rfl ⟨A1, c1, rfl, ?_, ?_⟩
    · simp [results, Tryd.results38, go_sem, s0, s1, s2, s3, s4, en]
    · refine (o1.past (B := w.heap.size + 3) ?_ (by omega)).widen (by omega)
      repeat (first | (with_reducible exact Fr.refl _ _) | with_reducible refine Fr.setCell ?_ (fun m hm => by unfold From at hm; dsimp only; omega) _)
    · skip
      repeat (first | (with_reducible exact FF) | with_reducible refine Fr.setNew ?_ (by dsimp only; omega) _)
  · have h1 : (page != p.id) = true := by rw [bne_iff_ne]; exact hp
    have h1' : (page == p.id) = false := by rw [beq_eq_false_iff_ne]; exact hp
    clear hp hs
    obtain ⟨A, n, c, rfl, en, _⟩ := h.open_
    obtain ⟨K0, k0, j0, rfl⟩ := kk
    obtain ⟨K1, k1, j1, rfl⟩ := vk
    have F0 := (((Fr.refl All w).alloc (.cells #[.int .i64 p.id, .int .i64 p.lsn, .int .i64 p.level, .int .i64 p.next, .slice A n c] 30)).alloc (.cells #[.int .i64 lsn, .int .i64 back, .int .i64 epoch, .int .i64 group, .int .i64 page, .int .i64 kind, .int .i64 slot, .slice K0 k0 j0, .slice K1 k1 j1, .bool last] 33)).alloc (.cells #[.int .i64 0, .int .i64 0, .int .i64 0, .int .i64 0, .slice none 0 0] 30)
    go_enter Tryd.func38, Tryd.ntmps38
    go_wp2_with fail
    refine (page_clone' (h.all F0) ok).mono ?_
    rintro e w1 ⟨A1, c1, rfl, o1, f1⟩
    obtain ⟨p0, p1, p2, p3, p4, pz⟩ := blk5 ((f1.block w.heap.size (by simp; omega) trivial).trans (heap_a3 _ _ _ _).1)
    obtain ⟨r0, r1, r2, r3, r4, r5, r6, r7, r8, r9, rz⟩ := blk10 ((f1.block (w.heap.size + 1) (by simp) trivial).trans (heap_a3 _ _ _ _).2.1)
    obtain ⟨s0, s1, s2, s3, s4, sz⟩ := blk5 ((f1.block (w.heap.size + 1 + 1) (by simp) trivial).trans (heap_a3 _ _ _ _).2.2)
    have FF := F0.then_all f1
    have hsz := f1.size
    simp only [World.size_alloc] at hsz o1
    dsimp only
    go_wp2_with fail
    refine bodyPost_ret (v := .agg #[.int .i64 p.id, .int .i64 p.lsn, .int .i64 p.level, .int .i64 p.next, .slice A1 p.ents.length c1]) ?_ rfl ⟨A1, c1, rfl, ?_, ?_⟩
    · simp [results, Tryd.results38, go_sem, s0, s1, s2, s3, s4, en]
    · refine (o1.past (B := w.heap.size + 3) ?_ (by omega)).widen (by omega)
      repeat (first | (with_reducible exact Fr.refl _ _) | with_reducible refine Fr.setCell ?_ (fun m hm => by unfold From at hm; dsimp only; omega) _)
    · skip
      repeat (first | (with_reducible exact FF) | with_reducible refine Fr.setNew ?_ (by dsimp only; omega) _)

set_option maxRecDepth 100000 in
set_option maxHeartbeats 1000000 in
theorem apply_insert {p : Page} {v kv vv : Value} {lsn back epoch group page slot : Int} {last : Bool} {S : Nat → Prop} {w : World} (h : Sl kEnt S w v p.ents) (ok : EntsOk p.ents) (kk : ∃ A n c, kv = .slice A n c) (vk : ∃ A n c, vv = .slice A n c) {key val : List UInt8} {T : Nat → Prop} (hkv : Sl kByte T w kv key) (hvv : Sl kByte T w vv val) (hkl : key.length ≤ 1000000) (hvl : val.length ≤ 1000000) (hp : page = p.id) (hs : p.lsn < lsn) (h0 : 0 ≤ slot) (hn : p.ents.length < 8) :
    Calls Tryd.prog 38 #[.agg #[.int .i64 p.id, .int .i64 p.lsn, .int .i64 p.level, .int .i64 p.next, v], .agg #[.int .i64 lsn, .int .i64 back, .int .i64 epoch, .int .i64 group, .int .i64 page, .int .i64 2, .int .i64 slot, kv, vv, .bool last]] w (Applied w { p with lsn := lsn, ents := p.ents.take (min slot.toNat p.ents.length) ++ (⟨key, val⟩ :: p.ents.drop (min slot.toNat p.ents.length)) }) := by
  obtain ⟨i, hi⟩ : ∃ i : Nat, i = min slot.toNat p.ents.length := ⟨_, rfl⟩
  have hmin : (if (p.ents.length : Int) < slot then (p.ents.length : Int) else slot) = (i : Int) := by rw [hi]; split <;> omega
  have hil : i ≤ p.ents.length := by omega
  rw [← hi]
  clear hi
  have h1 : (page != p.id) = false := by rw [bne_eq_false_iff_eq]; exact hp
  have h1' : (page == p.id) = true := by rw [beq_iff_eq]; exact hp
  have h2 : decide (lsn ≤ p.lsn) = false := by rw [decide_eq_false_iff_not]; omega
  clear hp hs
  obtain ⟨A, n, c, rfl, en, _⟩ := h.open_
  obtain ⟨K0, k0, j0, rfl⟩ := kk
  obtain ⟨K1, k1, j1, rfl⟩ := vk
  have F0 := (((Fr.refl All w).alloc (.cells #[.int .i64 p.id, .int .i64 p.lsn, .int .i64 p.level, .int .i64 p.next, .slice A n c] 30)).alloc (.cells #[.int .i64 lsn, .int .i64 back, .int .i64 epoch, .int .i64 group, .int .i64 page, .int .i64 2, .int .i64 slot, .slice K0 k0 j0, .slice K1 k1 j1, .bool last] 33)).alloc (.cells #[.int .i64 0, .int .i64 0, .int .i64 0, .int .i64 0, .slice none 0 0] 30)
  go_enter Tryd.func38, Tryd.ntmps38
  go_wp2_with fail
  refine (page_clone' (h.all F0) ok).mono ?_
  rintro e w1 ⟨A1, c1, rfl, o1, f1⟩
  obtain ⟨p0, p1, p2, p3, p4, pz⟩ := blk5 ((f1.block w.heap.size (by simp; omega) trivial).trans (heap_a3 _ _ _ _).1)
  obtain ⟨r0, r1, r2, r3, r4, r5, r6, r7, r8, r9, rz⟩ := blk10 ((f1.block (w.heap.size + 1) (by simp) trivial).trans (heap_a3 _ _ _ _).2.1)
  obtain ⟨s0, s1, s2, s3, s4, sz⟩ := blk5 ((f1.block (w.heap.size + 1 + 1) (by simp) trivial).trans (heap_a3 _ _ _ _).2.2)
  have FF := F0.then_all f1
  have hsz := f1.size
  simp only [World.size_alloc] at hsz o1
  dsimp only
  go_wp2_with fail
  rw [en] at hmin hn hil
  refine wp_name ?_
  intro W hW
  have p0' : W.cell? ⟨w.heap.size, 0, none⟩ = some (.int .i64 p.id) := by rw [hW]; go_simp
  have p1' : W.cell? ⟨w.heap.size, 1, none⟩ = some (.int .i64 lsn) := by rw [hW]; refine World.cell?_setCell_same _ _ _ (u := .int .i64 p.lsn) ?_; go_simp
  have p2' : W.cell? ⟨w.heap.size, 2, none⟩ = some (.int .i64 p.level) := by rw [hW]; go_simp
  have p3' : W.cell? ⟨w.heap.size, 3, none⟩ = some (.int .i64 p.next) := by rw [hW]; go_simp
  have p4' : W.cell? ⟨w.heap.size, 4, none⟩ = some (.slice A1 n c1) := by rw [hW]; go_simp
  have pz' : ∀ j, W.frozen? ⟨w.heap.size, j, none⟩ = false := by intro j; rw [hW]; go_simp
  have r5' : W.cell? ⟨w.heap.size + 1, 5, none⟩ = some (.int .i64 2) := by rw [hW]; go_simp
  have r6' : W.cell? ⟨w.heap.size + 1, 6, none⟩ = some (.int .i64 slot) := by rw [hW]; go_simp
  have r7' : W.cell? ⟨w.heap.size + 1, 7, none⟩ = some (.slice K0 k0 j0) := by rw [hW]; go_simp
  have r8' : W.cell? ⟨w.heap.size + 1, 8, none⟩ = some (.slice K1 k1 j1) := by rw [hW]; go_simp
  have s0' : W.cell? ⟨w.heap.size + 1 + 1, 0, none⟩ = some (.int .i64 0) := by rw [hW]; go_simp
  have s1' : W.cell? ⟨w.heap.size + 1 + 1, 1, none⟩ = some (.int .i64 0) := by rw [hW]; go_simp
  have s2' : W.cell? ⟨w.heap.size + 1 + 1, 2, none⟩ = some (.int .i64 0) := by rw [hW]; go_simp
  have s3' : W.cell? ⟨w.heap.size + 1 + 1, 3, none⟩ = some (.int .i64 0) := by rw [hW]; go_simp
  have s4' : W.cell? ⟨w.heap.size + 1 + 1, 4, none⟩ = some (.slice none 0 0) := by rw [hW]; go_simp
  have sz' : ∀ j, W.frozen? ⟨w.heap.size + 1 + 1, j, none⟩ = false := by intro j; rw [hW]; go_simp
  have FW : Fr All w W := by
    rw [hW]
    repeat (first | (with_reducible exact FF) | with_reducible refine Fr.setNew ?_ (by dsimp only; omega) _)
  have oW : Own kEnt 65 (w.heap.size + 1 + 1 + 1) (From (w.heap.size + 1 + 1 + 1)) W (.slice A1 n c1) p.ents := by
    rw [hW, ← en]
    refine o1.past (B := w.heap.size + 3) ?_ (by omega)
    repeat (first | (with_reducible exact Fr.refl _ _) | with_reducible refine Fr.setCell ?_ (fun m hm => by unfold From at hm; dsimp only; omega) _)
  have hszW : w.heap.size + 1 + 1 + 1 ≤ W.heap.size := by rw [hW]; simp only [World.size_setCell]; exact hsz
  clear hW p0 p1 p2 p3 p4 pz r0 r1 r2 r3 r4 r5 r6 r7 r8 r9 rz s0 s1 s2 s3 s4 sz FF hsz o1 f1
  have hkb : w.heap.size + 1 < W.heap.size := by omega
  have hpb : w.heap.size < W.heap.size := by omega
  have hkW := hkv.all FW
  have hvW := hvv.all FW
  have hKl := hkv.len
  have hVl := hvv.len
  refine wp_region_last (S := fun w' => w'.cell? ⟨w.heap.size, 4, none⟩ = some (.slice A1 n c1) ∧ w'.cell? ⟨w.heap.size + 1, 6, none⟩ = some (.int .i64 slot) ∧ w'.cell? ⟨w.heap.size + 1, 7, none⟩ = some (.slice K0 k0 j0) ∧ w'.cell? ⟨w.heap.size + 1, 8, none⟩ = some (.slice K1 k1 j1)) 16 (by kernel_rfl) rfl (by kernel_rfl) ⟨p4', r6', r7', r8'⟩ (fun hHeld => ?_)
  simp only [List.take_succ_cons, List.take_zero]
  refine wpAnyH_take (i := 0) (v := ?_) rfl (by kernel_rfl) (by kernel_rfl) (by kernel_rfl) (fun _ _ _ h => h) (Or.inl ⟨by rfl, ?_⟩) (by assumption) ?_
  rotate_left
  · (intro w hSw; (try dsimp only at hSw); go_simp; try with_reducible rfl)
  try simp only [Act.put]
  try simp only [List.setIfInBounds_toArray]
  try simp only [List.set_cons_succ]
  try simp only [List.set_cons_zero]
  refine wpAnyH_take (i := 1) (v := ?_) rfl (by kernel_rfl) (by kernel_rfl) (by kernel_rfl) (fun _ _ _ h => h) (Or.inl ⟨by rfl, ?_⟩) (by assumption) ?_
  rotate_left
  · (intro w hSw; (try dsimp only at hSw); go_simp; try with_reducible rfl)
  try simp only [Act.put]
  try simp only [List.setIfInBounds_toArray]
  try simp only [List.set_cons_succ]
  try simp only [List.set_cons_zero]
  refine wpAnyH_take (i := 2) (v := ?_) rfl (by kernel_rfl) (by kernel_rfl) (by kernel_rfl) (fun _ _ _ h => h) (Or.inl ⟨by rfl, ?_⟩) (by assumption) ?_
  rotate_left
  · (intro w hSw; (try dsimp only at hSw); go_simp; try with_reducible rfl)
  try simp only [Act.put]
  try simp only [List.setIfInBounds_toArray]
  try simp only [List.set_cons_succ]
  try simp only [List.set_cons_zero]
  refine wpAnyH_take (i := 3) (v := ?_) rfl (by kernel_rfl) (by kernel_rfl) (by kernel_rfl) (fun _ _ _ h => h) (Or.inl ⟨by rfl, ?_⟩) (by assumption) ?_
  rotate_left
  · (intro w hSw; (try dsimp only at hSw); go_simp; try with_reducible rfl)
  try simp only [Act.put]
  try simp only [List.setIfInBounds_toArray]
  try simp only [List.set_cons_succ]
  try simp only [List.set_cons_zero]
  refine wpAnyH_take (i := 4) (v := ?_) rfl (by kernel_rfl) (by kernel_rfl) (by kernel_rfl) (fun _ _ _ h => h) (Or.inl ⟨by rfl, ?_⟩) (by assumption) ?_
  rotate_left
  · (intro w hSw; (try dsimp only at hSw); go_simp; try with_reducible rfl)
  try simp only [Act.put]
  try simp only [List.setIfInBounds_toArray]
  try simp only [List.set_cons_succ]
  try simp only [List.set_cons_zero]
  refine wpAnyH_take (i := 5) (v := ?_) rfl (by kernel_rfl) (by kernel_rfl) (by kernel_rfl) (fun _ _ _ h => h) (Or.inl ⟨by rfl, ?_⟩) (by assumption) ?_
  rotate_left
  · (intro w hSw; (try dsimp only at hSw); go_simp; try with_reducible rfl)
  try simp only [Act.put]
  try simp only [List.setIfInBounds_toArray]
  try simp only [List.set_cons_succ]
  try simp only [List.set_cons_zero]
  refine wpAnyH_take (i := 6) (v := ?_) rfl (by kernel_rfl) (by kernel_rfl) (by kernel_rfl) (fun _ _ _ h => h) (Or.inl ⟨by rfl, ?_⟩) (by assumption) ?_
  rotate_left
  · (intro w hSw; (try dsimp only at hSw); go_simp; try with_reducible rfl)
  try simp only [Act.put]
  try simp only [List.setIfInBounds_toArray]
  try simp only [List.set_cons_succ]
  try simp only [List.set_cons_zero]
  refine wpAnyH_take (i := 7) (v := ?_) rfl (by kernel_rfl) (by kernel_rfl) (by kernel_rfl) (fun _ _ _ h => h) (Or.inl ⟨by rfl, ?_⟩) (by assumption) ?_
  rotate_left
  · (intro w hSw; (try dsimp only at hSw); go_simp; try with_reducible rfl)
  try simp only [Act.put]
  try simp only [List.setIfInBounds_toArray]
  try simp only [List.set_cons_succ]
  try simp only [List.set_cons_zero]
  refine wpAnyH_take (i := 9) (v := ?_) rfl (by kernel_rfl) (by kernel_rfl) (by kernel_rfl) (fun _ _ _ h => h) (Or.inl ⟨by rfl, ?_⟩) (by assumption) ?_
  rotate_left
  · (intro w hSw; (try dsimp only at hSw); go_simp; try with_reducible rfl)
  try simp only [Act.put]
  try simp only [List.setIfInBounds_toArray]
  try simp only [List.set_cons_succ]
  try simp only [List.set_cons_zero]
  refine wpAnyH_take (i := 10) (v := ?_) rfl (by kernel_rfl) (by kernel_rfl) (by kernel_rfl) (fun _ _ _ h => h) (Or.inl ⟨by rfl, ?_⟩) (by assumption) ?_
  rotate_left
  · (intro w hSw; (try dsimp only at hSw); go_simp; try with_reducible rfl)
  try simp only [Act.put]
  try simp only [List.setIfInBounds_toArray]
  try simp only [List.set_cons_succ]
  try simp only [List.set_cons_zero]
  refine wpAnyH_ready (rs := [8]) (by kernel_rfl) (by simp) (AllReadyH.cons rfl (fun K hK => ?_) AllReadyH.nil)
  go_simp
  refine (clone_bytes (hkW.all (Fr.refl All W).drew) (by omega)).mono ?_
  rintro e w2 ⟨A2, n2, rfl, o2, f2⟩
  go_simp
  refine hK.out _ _ ⟨f2.cell trivial p4', f2.cell trivial r6', f2.cell trivial r7', f2.cell trivial r8'⟩ (fun hHeld => ?_)
  clear hK K
  try simp only [Act.put]
  try simp only [List.setIfInBounds_toArray]
  try simp only [List.set_cons_succ]
  try simp only [List.set_cons_zero]
  refine wpAnyH_ready (rs := [11]) (by kernel_rfl) (by simp) (AllReadyH.cons rfl (fun K hK => ?_) AllReadyH.nil)
  go_simp
  refine (clone_bytes ((hvW.all (Fr.refl All W).drew).all f2) (by omega)).mono ?_
  rintro e w3 ⟨A3, n3, rfl, o3, f3⟩
  go_simp
  refine hK.out _ _ ⟨(f2.then_all f3).cell trivial p4', (f2.then_all f3).cell trivial r6', (f2.then_all f3).cell trivial r7', (f2.then_all f3).cell trivial r8'⟩ (fun hHeld => ?_)
  clear hK K
  try simp only [Act.put]
  try simp only [List.setIfInBounds_toArray]
  try simp only [List.set_cons_succ]
  try simp only [List.set_cons_zero]
  refine wpAnyH_take (i := 12) (v := ?_) rfl (by kernel_rfl) (by kernel_rfl) (by kernel_rfl) (fun _ _ _ h => h) (Or.inl ⟨by rfl, ?_⟩) (by assumption) ?_
  rotate_left
  · (intro w hSw; (try dsimp only at hSw); go_simp; try with_reducible rfl)
  try simp only [Act.put]
  try simp only [List.setIfInBounds_toArray]
  try simp only [List.set_cons_succ]
  try simp only [List.set_cons_zero]
  refine wpAnyH_ready (rs := [13]) (by kernel_rfl) (by simp) (AllReadyH.cons rfl (fun K hK => ?_) AllReadyH.nil)
  go_simp
  have F4 : Fr All W (w3.alloc (.cells #[.slice A2 k0 n2, .slice A3 k1 n3] 65)) := ((((Fr.refl All W).drew.then_all f2).then_all f3).alloc _)
  refine hK.out _ _ ⟨F4.cell trivial p4', F4.cell trivial r6', F4.cell trivial r7', F4.cell trivial r8'⟩ (fun hHeld => ?_)
  clear hK K
  try simp only [Act.put]
  try simp only [List.setIfInBounds_toArray]
  try simp only [List.set_cons_succ]
  try simp only [List.set_cons_zero]
  refine wpAnyH_ready (rs := [14]) (by kernel_rfl) (by simp) (AllReadyH.cons rfl (fun K hK => ?_) AllReadyH.nil)
  go_simp
  have hown := own_lt oW
  have hd2 : W.heap.size ≤ w2.heap.size := f2.size
  have hd3 : w2.heap.size ≤ w3.heap.size := f3.size
  have hnew : ∀ m, W.heap.size ≤ m → ∀ b, m ≤ b → ∀ z : Nat, b < z → From (w.heap.size + 1 + 1 + 1) b ∧ some b ≠ (Value.slice A1 n c1).ownBlock := fun m hm b hb z hz => ⟨by unfold From; omega, fun hh => by have := (hown b hh.symm).2; omega⟩
  rw [hKl] at o2
  rw [hVl] at o3
  have s1 : Sl kByte (fun b => From (w.heap.size + 1 + 1 + 1) b ∧ some b ≠ (Value.slice A1 n c1).ownBlock) (w3.alloc (.cells #[.slice A2 k0 n2, .slice A3 k1 n3] 65)) (.slice A2 k0 n2) key := ((o2.all f3).plain_in (fun b hb hl => hnew _ (Nat.le_refl _) b hb _ hl)).all ((Fr.refl All w3).alloc _)
  have s2 : Sl kByte (fun b => From (w.heap.size + 1 + 1 + 1) b ∧ some b ≠ (Value.slice A1 n c1).ownBlock) (w3.alloc (.cells #[.slice A2 k0 n2, .slice A3 k1 n3] 65)) (.slice A3 k1 n3) val := (o3.plain_in (fun b hb hl => hnew _ hd2 b hb _ hl)).all ((Fr.refl All w3).alloc _)
  have hbox : (w3.alloc (.cells #[.slice A2 k0 n2, .slice A3 k1 n3] 65)).heap[w3.heap.size]? = some (.cells #[.slice A2 k0 n2, .slice A3 k1 n3] 65 (0, 0)) := heap_alloc_new _ _
  refine (insertEnt (x := ⟨key, val⟩) (oW.all F4) (by rw [en]; exact hil) (kEnt_mk s1 s2) (fun b hb hl => hb) hbox (fun hh => by have := (hown _ hh.symm).2; omega) (Nat.le_trans hszW F4.size) (by omega)).mono ?_
  rw [en]
  rintro e w5 ⟨A5, c5, rfl, o5, f5, hob⟩
  go_simp
  have hbut : ∀ m, m < w.heap.size + 1 + 1 + 1 → But (Value.slice A1 n c1).ownBlock m := fun m hm hh => by have := (hown m hh.symm).1; omega
  have g0 : w5.cell? ⟨w.heap.size, 0, none⟩ = _ := f5.cell (hbut _ (by dsimp only; omega)) (F4.cell trivial p0')
  have g1 : w5.cell? ⟨w.heap.size, 1, none⟩ = _ := f5.cell (hbut _ (by dsimp only; omega)) (F4.cell trivial p1')
  have g2 : w5.cell? ⟨w.heap.size, 2, none⟩ = _ := f5.cell (hbut _ (by dsimp only; omega)) (F4.cell trivial p2')
  have g3 : w5.cell? ⟨w.heap.size, 3, none⟩ = _ := f5.cell (hbut _ (by dsimp only; omega)) (F4.cell trivial p3')
  have g4 : w5.cell? ⟨w.heap.size, 4, none⟩ = _ := f5.cell (hbut _ (by dsimp only; omega)) (F4.cell trivial p4')
  refine hK.out _ _ ⟨g4, f5.cell (hbut _ (by dsimp only; omega)) (F4.cell trivial r6'), f5.cell (hbut _ (by dsimp only; omega)) (F4.cell trivial r7'), f5.cell (hbut _ (by dsimp only; omega)) (F4.cell trivial r8')⟩ (fun hHeld => ?_)
  clear hK K
  try simp only [Act.put]
  try simp only [List.setIfInBounds_toArray]
  try simp only [List.set_cons_succ]
  try simp only [List.set_cons_zero]
  refine wpAnyH_take (i := 15) (v := ?_) rfl (by kernel_rfl) (by kernel_rfl) (by kernel_rfl) (fun _ _ _ h => h) (Or.inl ⟨by rfl, ?_⟩) (by assumption) ?_
  rotate_left
  · (intro w hSw; (try dsimp only at hSw); go_simp; try with_reducible rfl)
  try simp only [Act.put]
  try simp only [List.setIfInBounds_toArray]
  try simp only [List.set_cons_succ]
  try simp only [List.set_cons_zero]
  have q0 : w5.cell? ⟨w.heap.size + 1 + 1, 0, none⟩ = _ := f5.cell (hbut _ (by dsimp only; omega)) (F4.cell trivial s0')
  have q1 : w5.cell? ⟨w.heap.size + 1 + 1, 1, none⟩ = _ := f5.cell (hbut _ (by dsimp only; omega)) (F4.cell trivial s1')
  have q2 : w5.cell? ⟨w.heap.size + 1 + 1, 2, none⟩ = _ := f5.cell (hbut _ (by dsimp only; omega)) (F4.cell trivial s2')
  have q3 : w5.cell? ⟨w.heap.size + 1 + 1, 3, none⟩ = _ := f5.cell (hbut _ (by dsimp only; omega)) (F4.cell trivial s3')
  have q4 : w5.cell? ⟨w.heap.size + 1 + 1, 4, none⟩ = _ := f5.cell (hbut _ (by dsimp only; omega)) (F4.cell trivial s4')
  have hpb2 : w.heap.size + 1 + 1 < W.heap.size := by omega
  have gz : ∀ j, w5.frozen? ⟨w.heap.size, j, none⟩ = false := fun j => (World.frozen?_of_block (a := ⟨w.heap.size, j, none⟩) ((f5.block _ (Nat.lt_of_lt_of_le hpb F4.size) (hbut _ (by omega))).trans (F4.block _ hpb trivial))).trans (pz' j)
  have qz : ∀ j, w5.frozen? ⟨w.heap.size + 1 + 1, j, none⟩ = false := fun j => (World.frozen?_of_block (a := ⟨w.heap.size + 1 + 1, j, none⟩) ((f5.block _ (Nat.lt_of_lt_of_le hpb2 F4.size) (hbut _ (by omega))).trans (F4.block _ hpb2 trivial))).trans (sz' j)
  have F5 : Fr All w w5 := (FW.trans F4).row f5.grown fun m hm => by have := (hown m hm).1; omega
  have hs5 : w.heap.size + 1 + 1 + 1 ≤ w5.heap.size := Nat.le_trans hszW (Nat.le_trans F4.size f5.size)
  clear r5' hHeld f2 f3 f5 F4 s1 s2 hbox hnew hbut o2 o3 hown hob p0' p1' p2' p3' p4' pz' r6' r7' r8' s0' s1' s2' s3' s4' sz' oW FW hkW hvW hmin
  refine wpAnyH_done (by kernel_rfl) ?_ _
  show wpList _ _ _ _ _ _
  go_wp2_with fail
  have hlen : (p.ents.take i ++ (⟨key, val⟩ :: p.ents.drop i : List Ent)).length = n + 1 := by simp only [List.length_append, List.length_take, List.length_cons, List.length_drop]; omega
  refine bodyPost_ret (v := .agg #[.int .i64 p.id, .int .i64 lsn, .int .i64 p.level, .int .i64 p.next, .slice A5 (n + 1) c5]) ?_ rfl ⟨A5, c5, ?_, ?_, ?_⟩
  · simp [results, Tryd.results38, go_sem, q0, q1, q2, q3, q4]
  · rw [hlen]
  · rw [hlen]
    refine (o5.past (B := w.heap.size + 3) ?_ (by omega)).widen (by omega)
    repeat (first | (with_reducible exact Fr.refl _ _) | with_reducible refine Fr.setCell ?_ (fun m hm => by unfold From at hm; dsimp only; omega) _)
  · repeat (first | (with_reducible exact F5) | with_reducible refine Fr.setNew ?_ (by dsimp only; omega) _)
end Go.Proofs.YtppjpfgjophgkaaDoor
namespace Go.Proofs.YtppjpfgjophgkaaDoor
open Go.RowKit
set_option maxRecDepth 100000 in
set_option maxHeartbeats 1000000 in
theorem apply_format
    {p : Page} {v kv vv : Value} {lsn back epoch group page slot : Int} {last : Bool} {S : Nat → Prop} {w : World} (h : Sl kEnt S w v p.ents) (ok : EntsOk p.ents) (kk : ∃ A n c, kv = .slice A n c) (vk : ∃ A n c, vv = .slice A n c) (hp : page = p.id) (hs : p.lsn < lsn)
    :
    Calls Tryd.prog 38 #[.agg #[.int .i64 p.id, .int .i64 p.lsn, .int .i64 p.level, .int .i64 p.next, v], .agg #[.int .i64 lsn, .int .i64 back, .int .i64 epoch, .int .i64 group, .int .i64 page, .int .i64 1, .int .i64 slot, kv, vv, .bool last]] w
      (Applied w { p with lsn := lsn, level := if 16 < slot then 16 else slot, next := -1, ents := [] }) := by
  obtain ⟨lv, hlv⟩ : ∃ lv : Int, (if 16 < slot then 16 else slot) = lv := ⟨_, rfl⟩
  rw [hlv]
  have h1 : (page != p.id) = false := by rw [bne_eq_false_iff_eq]; exact hp
  have h1' : (page == p.id) = true := by rw [beq_iff_eq]; exact hp
  have h2 : decide (lsn ≤ p.lsn) = false := by rw [decide_eq_false_iff_not]; omega
  clear hp hs
  obtain ⟨A, n, c, rfl, en, _⟩ := h.open_
  obtain ⟨K0, k0, j0, rfl⟩ := kk
  obtain ⟨K1, k1, j1, rfl⟩ := vk
  have F0 := (((Fr.refl All w).alloc (.cells #[.int .i64 p.id, .int .i64 p.lsn, .int .i64 p.level, .int .i64 p.next, .slice A n c] 30)).alloc (.cells #[.int .i64 lsn, .int .i64 back, .int .i64 epoch, .int .i64 group, .int .i64 page, .int .i64 1, .int .i64 slot, .slice K0 k0 j0, .slice K1 k1 j1, .bool last] 33)).alloc (.cells #[.int .i64 0, .int .i64 0, .int .i64 0, .int .i64 0, .slice none 0 0] 30)
  go_enter Tryd.func38, Tryd.ntmps38
  go_wp2_with fail
  refine (page_clone' (h.all F0) ok).mono ?_
  rintro e w1 ⟨A1, c1, rfl, o1, f1⟩
  obtain ⟨p0, p1, p2, p3, p4, pz⟩ := blk5 ((f1.block w.heap.size (by simp; omega) trivial).trans (heap_a3 _ _ _ _).1)
  obtain ⟨r0, r1, r2, r3, r4, r5, r6, r7, r8, r9, rz⟩ := blk10 ((f1.block (w.heap.size + 1) (by simp) trivial).trans (heap_a3 _ _ _ _).2.1)
  obtain ⟨s0, s1, s2, s3, s4, sz⟩ := blk5 ((f1.block (w.heap.size + 1 + 1) (by simp) trivial).trans (heap_a3 _ _ _ _).2.2)
  have FF := F0.then_all f1
  have hsz := f1.size
  simp only [World.size_alloc] at hsz o1
  dsimp only
  go_upto_region 6 with (fail)
  refine wp_name ?_
  intro W hW
  have p0' : W.cell? ⟨w.heap.size, 0, none⟩ = some (.int .i64 p.id) := by rw [hW]; go_simp
  have p1' : W.cell? ⟨w.heap.size, 1, none⟩ = some (.int .i64 lsn) := by rw [hW]; refine World.cell?_setCell_same _ _ _ (u := .int .i64 p.lsn) ?_; go_simp
  have p2' : W.cell? ⟨w.heap.size, 2, none⟩ = some (.int .i64 p.level) := by rw [hW]; go_simp
  have p3' : W.cell? ⟨w.heap.size, 3, none⟩ = some (.int .i64 p.next) := by rw [hW]; go_simp
  have p4' : W.cell? ⟨w.heap.size, 4, none⟩ = some (.slice A1 n c1) := by rw [hW]; go_simp
  have pz' : ∀ j, W.frozen? ⟨w.heap.size, j, none⟩ = false := by intro j; rw [hW]; go_simp
  have r5' : W.cell? ⟨w.heap.size + 1, 5, none⟩ = some (.int .i64 1) := by rw [hW]; go_simp
  have r6' : W.cell? ⟨w.heap.size + 1, 6, none⟩ = some (.int .i64 slot) := by rw [hW]; go_simp
  have r7' : W.cell? ⟨w.heap.size + 1, 7, none⟩ = some (.slice K0 k0 j0) := by rw [hW]; go_simp
  have r8' : W.cell? ⟨w.heap.size + 1, 8, none⟩ = some (.slice K1 k1 j1) := by rw [hW]; go_simp
  have s0' : W.cell? ⟨w.heap.size + 1 + 1, 0, none⟩ = some (.int .i64 0) := by rw [hW]; go_simp
  have s1' : W.cell? ⟨w.heap.size + 1 + 1, 1, none⟩ = some (.int .i64 0) := by rw [hW]; go_simp
  have s2' : W.cell? ⟨w.heap.size + 1 + 1, 2, none⟩ = some (.int .i64 0) := by rw [hW]; go_simp
  have s3' : W.cell? ⟨w.heap.size + 1 + 1, 3, none⟩ = some (.int .i64 0) := by rw [hW]; go_simp
  have s4' : W.cell? ⟨w.heap.size + 1 + 1, 4, none⟩ = some (.slice none 0 0) := by rw [hW]; go_simp
  have sz' : ∀ j, W.frozen? ⟨w.heap.size + 1 + 1, j, none⟩ = false := by intro j; rw [hW]; go_simp
  have FW : Fr All w W := by
    rw [hW]
    repeat (first | (with_reducible exact FF) | with_reducible refine Fr.setNew ?_ (by dsimp only; omega) _)
  have oW : Own kEnt 65 (w.heap.size + 1 + 1 + 1) (From (w.heap.size + 1 + 1 + 1)) W (.slice A1 n c1) p.ents := by
    rw [hW, ← en]
    refine o1.past (B := w.heap.size + 3) ?_ (by omega)
    repeat (first | (with_reducible exact Fr.refl _ _) | with_reducible refine Fr.setCell ?_ (fun m hm => by unfold From at hm; dsimp only; omega) _)
  have hszW : w.heap.size + 1 + 1 + 1 ≤ W.heap.size := by rw [hW]; simp only [World.size_setCell]; exact hsz
  clear hW p0 p1 p2 p3 p4 pz r0 r1 r2 r3 r4 r5 r6 r7 r8 r9 rz s0 s1 s2 s3 s4 sz FF hsz o1 f1
  go_wp2_with fail
  refine bodyPost_ret (v := .agg #[.int .i64 p.id, .int .i64 lsn, .int .i64 lv, .int .i64 (-1), .slice none 0 0]) ?_ rfl ⟨none, 0, rfl, Own.nil_ _ _ _ _ _, ?_⟩
  · simp [results, Tryd.results38, go_sem, s0', s1', s2', s3', s4']
  · skip
    repeat (first | (with_reducible exact FW) | with_reducible refine Fr.setNew ?_ (by dsimp only; omega) _)

set_option maxRecDepth 100000 in
set_option maxHeartbeats 1000000 in
theorem apply_full
    {p : Page} {v kv vv : Value} {lsn back epoch group page slot : Int} {last : Bool} {S : Nat → Prop} {w : World} (h : Sl kEnt S w v p.ents) (ok : EntsOk p.ents) (kk : ∃ A n c, kv = .slice A n c) (vk : ∃ A n c, vv = .slice A n c) (hp : page = p.id) (hs : p.lsn < lsn)
    (hn : 8 ≤ p.ents.length) :
    Calls Tryd.prog 38 #[.agg #[.int .i64 p.id, .int .i64 p.lsn, .int .i64 p.level, .int .i64 p.next, v], .agg #[.int .i64 lsn, .int .i64 back, .int .i64 epoch, .int .i64 group, .int .i64 page, .int .i64 2, .int .i64 slot, kv, vv, .bool last]] w
      (Applied w { p with lsn := lsn }) := by
  have h1 : (page != p.id) = false := by rw [bne_eq_false_iff_eq]; exact hp
  have h1' : (page == p.id) = true := by rw [beq_iff_eq]; exact hp
  have h2 : decide (lsn ≤ p.lsn) = false := by rw [decide_eq_false_iff_not]; omega
  clear hp hs
  obtain ⟨A, n, c, rfl, en, _⟩ := h.open_
  obtain ⟨K0, k0, j0, rfl⟩ := kk
  obtain ⟨K1, k1, j1, rfl⟩ := vk
  have F0 := (((Fr.refl All w).alloc (.cells #[.int .i64 p.id, .int .i64 p.lsn, .int .i64 p.level, .int .i64 p.next, .slice A n c] 30)).alloc (.cells #[.int .i64 lsn, .int .i64 back, .int .i64 epoch, .int .i64 group, .int .i64 page, .int .i64 2, .int .i64 slot, .slice K0 k0 j0, .slice K1 k1 j1, .bool last] 33)).alloc (.cells #[.int .i64 0, .int .i64 0, .int .i64 0, .int .i64 0, .slice none 0 0] 30)
  go_enter Tryd.func38, Tryd.ntmps38
  go_wp2_with fail
  refine (page_clone' (h.all F0) ok).mono ?_
  rintro e w1 ⟨A1, c1, rfl, o1, f1⟩
  obtain ⟨p0, p1, p2, p3, p4, pz⟩ := blk5 ((f1.block w.heap.size (by simp; omega) trivial).trans (heap_a3 _ _ _ _).1)
  obtain ⟨r0, r1, r2, r3, r4, r5, r6, r7, r8, r9, rz⟩ := blk10 ((f1.block (w.heap.size + 1) (by simp) trivial).trans (heap_a3 _ _ _ _).2.1)
  obtain ⟨s0, s1, s2, s3, s4, sz⟩ := blk5 ((f1.block (w.heap.size + 1 + 1) (by simp) trivial).trans (heap_a3 _ _ _ _).2.2)
  have FF := F0.then_all f1
  have hsz := f1.size
  simp only [World.size_alloc] at hsz o1
  dsimp only
  go_upto_region 6 with (fail)
  refine wp_name ?_
  intro W hW
  have p0' : W.cell? ⟨w.heap.size, 0, none⟩ = some (.int .i64 p.id) := by rw [hW]; go_simp
  have p1' : W.cell? ⟨w.heap.size, 1, none⟩ = some (.int .i64 lsn) := by rw [hW]; refine World.cell?_setCell_same _ _ _ (u := .int .i64 p.lsn) ?_; go_simp
  have p2' : W.cell? ⟨w.heap.size, 2, none⟩ = some (.int .i64 p.level) := by rw [hW]; go_simp
  have p3' : W.cell? ⟨w.heap.size, 3, none⟩ = some (.int .i64 p.next) := by rw [hW]; go_simp
  have p4' : W.cell? ⟨w.heap.size, 4, none⟩ = some (.slice A1 n c1) := by rw [hW]; go_simp
  have pz' : ∀ j, W.frozen? ⟨w.heap.size, j, none⟩ = false := by intro j; rw [hW]; go_simp
  have r5' : W.cell? ⟨w.heap.size + 1, 5, none⟩ = some (.int .i64 2) := by rw [hW]; go_simp
  have r6' : W.cell? ⟨w.heap.size + 1, 6, none⟩ = some (.int .i64 slot) := by rw [hW]; go_simp
  have r7' : W.cell? ⟨w.heap.size + 1, 7, none⟩ = some (.slice K0 k0 j0) := by rw [hW]; go_simp
  have r8' : W.cell? ⟨w.heap.size + 1, 8, none⟩ = some (.slice K1 k1 j1) := by rw [hW]; go_simp
  have s0' : W.cell? ⟨w.heap.size + 1 + 1, 0, none⟩ = some (.int .i64 0) := by rw [hW]; go_simp
  have s1' : W.cell? ⟨w.heap.size + 1 + 1, 1, none⟩ = some (.int .i64 0) := by rw [hW]; go_simp
  have s2' : W.cell? ⟨w.heap.size + 1 + 1, 2, none⟩ = some (.int .i64 0) := by rw [hW]; go_simp
  have s3' : W.cell? ⟨w.heap.size + 1 + 1, 3, none⟩ = some (.int .i64 0) := by rw [hW]; go_simp
  have s4' : W.cell? ⟨w.heap.size + 1 + 1, 4, none⟩ = some (.slice none 0 0) := by rw [hW]; go_simp
  have sz' : ∀ j, W.frozen? ⟨w.heap.size + 1 + 1, j, none⟩ = false := by intro j; rw [hW]; go_simp
  have FW : Fr All w W := by
    rw [hW]
    repeat (first | (with_reducible exact FF) | with_reducible refine Fr.setNew ?_ (by dsimp only; omega) _)
  have oW : Own kEnt 65 (w.heap.size + 1 + 1 + 1) (From (w.heap.size + 1 + 1 + 1)) W (.slice A1 n c1) p.ents := by
    rw [hW, ← en]
    refine o1.past (B := w.heap.size + 3) ?_ (by omega)
    repeat (first | (with_reducible exact Fr.refl _ _) | with_reducible refine Fr.setCell ?_ (fun m hm => by unfold From at hm; dsimp only; omega) _)
  have hszW : w.heap.size + 1 + 1 + 1 ≤ W.heap.size := by rw [hW]; simp only [World.size_setCell]; exact hsz
  clear hW p0 p1 p2 p3 p4 pz r0 r1 r2 r3 r4 r5 r6 r7 r8 r9 rz s0 s1 s2 s3 s4 sz FF hsz o1 f1
  go_wp2_with fail
  refine bodyPost_ret (v := .agg #[.int .i64 p.id, .int .i64 lsn, .int .i64 p.level, .int .i64 p.next, .slice A1 n c1]) ?_ rfl ⟨A1, c1, by dsimp only; rw [en], ?_, ?_⟩
  · simp [results, Tryd.results38, go_sem, s0', s1', s2', s3', s4']
  · dsimp only
    rw [en]
    refine (oW.past (B := w.heap.size + 3) ?_ (by omega)).widen (by omega)
    repeat (first | (with_reducible exact Fr.refl _ _) | with_reducible refine Fr.setCell ?_ (fun m hm => by unfold From at hm; dsimp only; omega) _)
  · skip
    repeat (first | (with_reducible exact FW) | with_reducible refine Fr.setNew ?_ (by dsimp only; omega) _)

set_option maxRecDepth 100000 in
set_option maxHeartbeats 1000000 in
theorem apply_remove_past
    {p : Page} {v kv vv : Value} {lsn back epoch group page slot : Int} {last : Bool} {S : Nat → Prop} {w : World} (h : Sl kEnt S w v p.ents) (ok : EntsOk p.ents) (kk : ∃ A n c, kv = .slice A n c) (vk : ∃ A n c, vv = .slice A n c) (hp : page = p.id) (hs : p.lsn < lsn)
    (hn : (p.ents.length : Int) ≤ slot) :
    Calls Tryd.prog 38 #[.agg #[.int .i64 p.id, .int .i64 p.lsn, .int .i64 p.level, .int .i64 p.next, v], .agg #[.int .i64 lsn, .int .i64 back, .int .i64 epoch, .int .i64 group, .int .i64 page, .int .i64 3, .int .i64 slot, kv, vv, .bool last]] w
      (Applied w { p with lsn := lsn }) := by
  have h1 : (page != p.id) = false := by rw [bne_eq_false_iff_eq]; exact hp
  have h1' : (page == p.id) = true := by rw [beq_iff_eq]; exact hp
  have h2 : decide (lsn ≤ p.lsn) = false := by rw [decide_eq_false_iff_not]; omega
  clear hp hs
  obtain ⟨A, n, c, rfl, en, _⟩ := h.open_
  obtain ⟨K0, k0, j0, rfl⟩ := kk
  obtain ⟨K1, k1, j1, rfl⟩ := vk
  have F0 := (((Fr.refl All w).alloc (.cells #[.int .i64 p.id, .int .i64 p.lsn, .int .i64 p.level, .int .i64 p.next, .slice A n c] 30)).alloc (.cells #[.int .i64 lsn, .int .i64 back, .int .i64 epoch, .int .i64 group, .int .i64 page, .int .i64 3, .int .i64 slot, .slice K0 k0 j0, .slice K1 k1 j1, .bool last] 33)).alloc (.cells #[.int .i64 0, .int .i64 0, .int .i64 0, .int .i64 0, .slice none 0 0] 30)
  go_enter Tryd.func38, Tryd.ntmps38
  go_wp2_with fail
  refine (page_clone' (h.all F0) ok).mono ?_
  rintro e w1 ⟨A1, c1, rfl, o1, f1⟩
  obtain ⟨p0, p1, p2, p3, p4, pz⟩ := blk5 ((f1.block w.heap.size (by simp; omega) trivial).trans (heap_a3 _ _ _ _).1)
  obtain ⟨r0, r1, r2, r3, r4, r5, r6, r7, r8, r9, rz⟩ := blk10 ((f1.block (w.heap.size + 1) (by simp) trivial).trans (heap_a3 _ _ _ _).2.1)
  obtain ⟨s0, s1, s2, s3, s4, sz⟩ := blk5 ((f1.block (w.heap.size + 1 + 1) (by simp) trivial).trans (heap_a3 _ _ _ _).2.2)
  have FF := F0.then_all f1
  have hsz := f1.size
  simp only [World.size_alloc] at hsz o1
  dsimp only
  go_upto_region 6 with (fail)
  refine wp_name ?_
  intro W hW
  have p0' : W.cell? ⟨w.heap.size, 0, none⟩ = some (.int .i64 p.id) := by rw [hW]; go_simp
  have p1' : W.cell? ⟨w.heap.size, 1, none⟩ = some (.int .i64 lsn) := by rw [hW]; refine World.cell?_setCell_same _ _ _ (u := .int .i64 p.lsn) ?_; go_simp
  have p2' : W.cell? ⟨w.heap.size, 2, none⟩ = some (.int .i64 p.level) := by rw [hW]; go_simp
  have p3' : W.cell? ⟨w.heap.size, 3, none⟩ = some (.int .i64 p.next) := by rw [hW]; go_simp
  have p4' : W.cell? ⟨w.heap.size, 4, none⟩ = some (.slice A1 n c1) := by rw [hW]; go_simp
  have pz' : ∀ j, W.frozen? ⟨w.heap.size, j, none⟩ = false := by intro j; rw [hW]; go_simp
  have r5' : W.cell? ⟨w.heap.size + 1, 5, none⟩ = some (.int .i64 3) := by rw [hW]; go_simp
  have r6' : W.cell? ⟨w.heap.size + 1, 6, none⟩ = some (.int .i64 slot) := by rw [hW]; go_simp
  have r7' : W.cell? ⟨w.heap.size + 1, 7, none⟩ = some (.slice K0 k0 j0) := by rw [hW]; go_simp
  have r8' : W.cell? ⟨w.heap.size + 1, 8, none⟩ = some (.slice K1 k1 j1) := by rw [hW]; go_simp
  have s0' : W.cell? ⟨w.heap.size + 1 + 1, 0, none⟩ = some (.int .i64 0) := by rw [hW]; go_simp
  have s1' : W.cell? ⟨w.heap.size + 1 + 1, 1, none⟩ = some (.int .i64 0) := by rw [hW]; go_simp
  have s2' : W.cell? ⟨w.heap.size + 1 + 1, 2, none⟩ = some (.int .i64 0) := by rw [hW]; go_simp
  have s3' : W.cell? ⟨w.heap.size + 1 + 1, 3, none⟩ = some (.int .i64 0) := by rw [hW]; go_simp
  have s4' : W.cell? ⟨w.heap.size + 1 + 1, 4, none⟩ = some (.slice none 0 0) := by rw [hW]; go_simp
  have sz' : ∀ j, W.frozen? ⟨w.heap.size + 1 + 1, j, none⟩ = false := by intro j; rw [hW]; go_simp
  have FW : Fr All w W := by
    rw [hW]
    repeat (first | (with_reducible exact FF) | with_reducible refine Fr.setNew ?_ (by dsimp only; omega) _)
  have oW : Own kEnt 65 (w.heap.size + 1 + 1 + 1) (From (w.heap.size + 1 + 1 + 1)) W (.slice A1 n c1) p.ents := by
    rw [hW, ← en]
    refine o1.past (B := w.heap.size + 3) ?_ (by omega)
    repeat (first | (with_reducible exact Fr.refl _ _) | with_reducible refine Fr.setCell ?_ (fun m hm => by unfold From at hm; dsimp only; omega) _)
  have hszW : w.heap.size + 1 + 1 + 1 ≤ W.heap.size := by rw [hW]; simp only [World.size_setCell]; exact hsz
  clear hW p0 p1 p2 p3 p4 pz r0 r1 r2 r3 r4 r5 r6 r7 r8 r9 rz s0 s1 s2 s3 s4 sz FF hsz o1 f1
  go_wp2_with fail
  refine bodyPost_ret (v := .agg #[.int .i64 p.id, .int .i64 lsn, .int .i64 p.level, .int .i64 p.next, .slice A1 n c1]) ?_ rfl ⟨A1, c1, by dsimp only; rw [en], ?_, ?_⟩
  · simp [results, Tryd.results38, go_sem, s0', s1', s2', s3', s4']
  · dsimp only
    rw [en]
    refine (oW.past (B := w.heap.size + 3) ?_ (by omega)).widen (by omega)
    repeat (first | (with_reducible exact Fr.refl _ _) | with_reducible refine Fr.setCell ?_ (fun m hm => by unfold From at hm; dsimp only; omega) _)
  · skip
    repeat (first | (with_reducible exact FW) | with_reducible refine Fr.setNew ?_ (by dsimp only; omega) _)

set_option maxRecDepth 100000 in
set_option maxHeartbeats 1000000 in
theorem apply_change_past
    {p : Page} {v kv vv : Value} {lsn back epoch group page slot : Int} {last : Bool} {S : Nat → Prop} {w : World} (h : Sl kEnt S w v p.ents) (ok : EntsOk p.ents) (kk : ∃ A n c, kv = .slice A n c) (vk : ∃ A n c, vv = .slice A n c) (hp : page = p.id) (hs : p.lsn < lsn)
    (hn : (p.ents.length : Int) ≤ slot) :
    Calls Tryd.prog 38 #[.agg #[.int .i64 p.id, .int .i64 p.lsn, .int .i64 p.level, .int .i64 p.next, v], .agg #[.int .i64 lsn, .int .i64 back, .int .i64 epoch, .int .i64 group, .int .i64 page, .int .i64 4, .int .i64 slot, kv, vv, .bool last]] w
      (Applied w { p with lsn := lsn }) := by
  have h1 : (page != p.id) = false := by rw [bne_eq_false_iff_eq]; exact hp
  have h1' : (page == p.id) = true := by rw [beq_iff_eq]; exact hp
  have h2 : decide (lsn ≤ p.lsn) = false := by rw [decide_eq_false_iff_not]; omega
  clear hp hs
  obtain ⟨A, n, c, rfl, en, _⟩ := h.open_
  obtain ⟨K0, k0, j0, rfl⟩ := kk
  obtain ⟨K1, k1, j1, rfl⟩ := vk
  have F0 := (((Fr.refl All w).alloc (.cells #[.int .i64 p.id, .int .i64 p.lsn, .int .i64 p.level, .int .i64 p.next, .slice A n c] 30)).alloc (.cells #[.int .i64 lsn, .int .i64 back, .int .i64 epoch, .int .i64 group, .int .i64 page, .int .i64 4, .int .i64 slot, .slice K0 k0 j0, .slice K1 k1 j1, .bool last] 33)).alloc (.cells #[.int .i64 0, .int .i64 0, .int .i64 0, .int .i64 0, .slice none 0 0] 30)
  go_enter Tryd.func38, Tryd.ntmps38
  go_wp2_with fail
  refine (page_clone' (h.all F0) ok).mono ?_
  rintro e w1 ⟨A1, c1, rfl, o1, f1⟩
  obtain ⟨p0, p1, p2, p3, p4, pz⟩ := blk5 ((f1.block w.heap.size (by simp; omega) trivial).trans (heap_a3 _ _ _ _).1)
  obtain ⟨r0, r1, r2, r3, r4, r5, r6, r7, r8, r9, rz⟩ := blk10 ((f1.block (w.heap.size + 1) (by simp) trivial).trans (heap_a3 _ _ _ _).2.1)
  obtain ⟨s0, s1, s2, s3, s4, sz⟩ := blk5 ((f1.block (w.heap.size + 1 + 1) (by simp) trivial).trans (heap_a3 _ _ _ _).2.2)
  have FF := F0.then_all f1
  have hsz := f1.size
  simp only [World.size_alloc] at hsz o1
  dsimp only
  go_upto_region 6 with (fail)
  refine wp_name ?_
  intro W hW
  have p0' : W.cell? ⟨w.heap.size, 0, none⟩ = some (.int .i64 p.id) := by rw [hW]; go_simp
  have p1' : W.cell? ⟨w.heap.size, 1, none⟩ = some (.int .i64 lsn) := by rw [hW]; refine World.cell?_setCell_same _ _ _ (u := .int .i64 p.lsn) ?_; go_simp
  have p2' : W.cell? ⟨w.heap.size, 2, none⟩ = some (.int .i64 p.level) := by rw [hW]; go_simp
  have p3' : W.cell? ⟨w.heap.size, 3, none⟩ = some (.int .i64 p.next) := by rw [hW]; go_simp
  have p4' : W.cell? ⟨w.heap.size, 4, none⟩ = some (.slice A1 n c1) := by rw [hW]; go_simp
  have pz' : ∀ j, W.frozen? ⟨w.heap.size, j, none⟩ = false := by intro j; rw [hW]; go_simp
  have r5' : W.cell? ⟨w.heap.size + 1, 5, none⟩ = some (.int .i64 4) := by rw [hW]; go_simp
  have r6' : W.cell? ⟨w.heap.size + 1, 6, none⟩ = some (.int .i64 slot) := by rw [hW]; go_simp
  have r7' : W.cell? ⟨w.heap.size + 1, 7, none⟩ = some (.slice K0 k0 j0) := by rw [hW]; go_simp
  have r8' : W.cell? ⟨w.heap.size + 1, 8, none⟩ = some (.slice K1 k1 j1) := by rw [hW]; go_simp
  have s0' : W.cell? ⟨w.heap.size + 1 + 1, 0, none⟩ = some (.int .i64 0) := by rw [hW]; go_simp
  have s1' : W.cell? ⟨w.heap.size + 1 + 1, 1, none⟩ = some (.int .i64 0) := by rw [hW]; go_simp
  have s2' : W.cell? ⟨w.heap.size + 1 + 1, 2, none⟩ = some (.int .i64 0) := by rw [hW]; go_simp
  have s3' : W.cell? ⟨w.heap.size + 1 + 1, 3, none⟩ = some (.int .i64 0) := by rw [hW]; go_simp
  have s4' : W.cell? ⟨w.heap.size + 1 + 1, 4, none⟩ = some (.slice none 0 0) := by rw [hW]; go_simp
  have sz' : ∀ j, W.frozen? ⟨w.heap.size + 1 + 1, j, none⟩ = false := by intro j; rw [hW]; go_simp
  have FW : Fr All w W := by
    rw [hW]
    repeat (first | (with_reducible exact FF) | with_reducible refine Fr.setNew ?_ (by dsimp only; omega) _)
  have oW : Own kEnt 65 (w.heap.size + 1 + 1 + 1) (From (w.heap.size + 1 + 1 + 1)) W (.slice A1 n c1) p.ents := by
    rw [hW, ← en]
    refine o1.past (B := w.heap.size + 3) ?_ (by omega)
    repeat (first | (with_reducible exact Fr.refl _ _) | with_reducible refine Fr.setCell ?_ (fun m hm => by unfold From at hm; dsimp only; omega) _)
  have hszW : w.heap.size + 1 + 1 + 1 ≤ W.heap.size := by rw [hW]; simp only [World.size_setCell]; exact hsz
  clear hW p0 p1 p2 p3 p4 pz r0 r1 r2 r3 r4 r5 r6 r7 r8 r9 rz s0 s1 s2 s3 s4 sz FF hsz o1 f1
  go_wp2_with fail
  refine bodyPost_ret (v := .agg #[.int .i64 p.id, .int .i64 lsn, .int .i64 p.level, .int .i64 p.next, .slice A1 n c1]) ?_ rfl ⟨A1, c1, by dsimp only; rw [en], ?_, ?_⟩
  · simp [results, Tryd.results38, go_sem, s0', s1', s2', s3', s4']
  · dsimp only
    rw [en]
    refine (oW.past (B := w.heap.size + 3) ?_ (by omega)).widen (by omega)
    repeat (first | (with_reducible exact Fr.refl _ _) | with_reducible refine Fr.setCell ?_ (fun m hm => by unfold From at hm; dsimp only; omega) _)
  · skip
    repeat (first | (with_reducible exact FW) | with_reducible refine Fr.setNew ?_ (by dsimp only; omega) _)

set_option maxRecDepth 100000 in
set_option maxHeartbeats 1000000 in
theorem apply_link
    {p : Page} {v kv vv : Value} {lsn back epoch group page slot : Int} {last : Bool} {S : Nat → Prop} {w : World} (h : Sl kEnt S w v p.ents) (ok : EntsOk p.ents) (kk : ∃ A n c, kv = .slice A n c) (vk : ∃ A n c, vv = .slice A n c) (hp : page = p.id) (hs : p.lsn < lsn)
    (hn : slot < 256) :
    Calls Tryd.prog 38 #[.agg #[.int .i64 p.id, .int .i64 p.lsn, .int .i64 p.level, .int .i64 p.next, v], .agg #[.int .i64 lsn, .int .i64 back, .int .i64 epoch, .int .i64 group, .int .i64 page, .int .i64 5, .int .i64 slot, kv, vv, .bool last]] w
      (Applied w { p with lsn := lsn, next := slot }) := by
  have h1 : (page != p.id) = false := by rw [bne_eq_false_iff_eq]; exact hp
  have h1' : (page == p.id) = true := by rw [beq_iff_eq]; exact hp
  have h2 : decide (lsn ≤ p.lsn) = false := by rw [decide_eq_false_iff_not]; omega
  clear hp hs
  obtain ⟨A, n, c, rfl, en, _⟩ := h.open_
  obtain ⟨K0, k0, j0, rfl⟩ := kk
  obtain ⟨K1, k1, j1, rfl⟩ := vk
  have F0 := (((Fr.refl All w).alloc (.cells #[.int .i64 p.id, .int .i64 p.lsn, .int .i64 p.level, .int .i64 p.next, .slice A n c] 30)).alloc (.cells #[.int .i64 lsn, .int .i64 back, .int .i64 epoch, .int .i64 group, .int .i64 page, .int .i64 5, .int .i64 slot, .slice K0 k0 j0, .slice K1 k1 j1, .bool last] 33)).alloc (.cells #[.int .i64 0, .int .i64 0, .int .i64 0, .int .i64 0, .slice none 0 0] 30)
  go_enter Tryd.func38, Tryd.ntmps38
  go_wp2_with fail
  refine (page_clone' (h.all F0) ok).mono ?_
  rintro e w1 ⟨A1, c1, rfl, o1, f1⟩
  obtain ⟨p0, p1, p2, p3, p4, pz⟩ := blk5 ((f1.block w.heap.size (by simp; omega) trivial).trans (heap_a3 _ _ _ _).1)
  obtain ⟨r0, r1, r2, r3, r4, r5, r6, r7, r8, r9, rz⟩ := blk10 ((f1.block (w.heap.size + 1) (by simp) trivial).trans (heap_a3 _ _ _ _).2.1)
  obtain ⟨s0, s1, s2, s3, s4, sz⟩ := blk5 ((f1.block (w.heap.size + 1 + 1) (by simp) trivial).trans (heap_a3 _ _ _ _).2.2)
  have FF := F0.then_all f1
  have hsz := f1.size
  simp only [World.size_alloc] at hsz o1
  dsimp only
  go_upto_region 6 with (fail)
  refine wp_name ?_
  intro W hW
  have p0' : W.cell? ⟨w.heap.size, 0, none⟩ = some (.int .i64 p.id) := by rw [hW]; go_simp
  have p1' : W.cell? ⟨w.heap.size, 1, none⟩ = some (.int .i64 lsn) := by rw [hW]; refine World.cell?_setCell_same _ _ _ (u := .int .i64 p.lsn) ?_; go_simp
  have p2' : W.cell? ⟨w.heap.size, 2, none⟩ = some (.int .i64 p.level) := by rw [hW]; go_simp
  have p3' : W.cell? ⟨w.heap.size, 3, none⟩ = some (.int .i64 p.next) := by rw [hW]; go_simp
  have p4' : W.cell? ⟨w.heap.size, 4, none⟩ = some (.slice A1 n c1) := by rw [hW]; go_simp
  have pz' : ∀ j, W.frozen? ⟨w.heap.size, j, none⟩ = false := by intro j; rw [hW]; go_simp
  have r5' : W.cell? ⟨w.heap.size + 1, 5, none⟩ = some (.int .i64 5) := by rw [hW]; go_simp
  have r6' : W.cell? ⟨w.heap.size + 1, 6, none⟩ = some (.int .i64 slot) := by rw [hW]; go_simp
  have r7' : W.cell? ⟨w.heap.size + 1, 7, none⟩ = some (.slice K0 k0 j0) := by rw [hW]; go_simp
  have r8' : W.cell? ⟨w.heap.size + 1, 8, none⟩ = some (.slice K1 k1 j1) := by rw [hW]; go_simp
  have s0' : W.cell? ⟨w.heap.size + 1 + 1, 0, none⟩ = some (.int .i64 0) := by rw [hW]; go_simp
  have s1' : W.cell? ⟨w.heap.size + 1 + 1, 1, none⟩ = some (.int .i64 0) := by rw [hW]; go_simp
  have s2' : W.cell? ⟨w.heap.size + 1 + 1, 2, none⟩ = some (.int .i64 0) := by rw [hW]; go_simp
  have s3' : W.cell? ⟨w.heap.size + 1 + 1, 3, none⟩ = some (.int .i64 0) := by rw [hW]; go_simp
  have s4' : W.cell? ⟨w.heap.size + 1 + 1, 4, none⟩ = some (.slice none 0 0) := by rw [hW]; go_simp
  have sz' : ∀ j, W.frozen? ⟨w.heap.size + 1 + 1, j, none⟩ = false := by intro j; rw [hW]; go_simp
  have FW : Fr All w W := by
    rw [hW]
    repeat (first | (with_reducible exact FF) | with_reducible refine Fr.setNew ?_ (by dsimp only; omega) _)
  have oW : Own kEnt 65 (w.heap.size + 1 + 1 + 1) (From (w.heap.size + 1 + 1 + 1)) W (.slice A1 n c1) p.ents := by
    rw [hW, ← en]
    refine o1.past (B := w.heap.size + 3) ?_ (by omega)
    repeat (first | (with_reducible exact Fr.refl _ _) | with_reducible refine Fr.setCell ?_ (fun m hm => by unfold From at hm; dsimp only; omega) _)
  have hszW : w.heap.size + 1 + 1 + 1 ≤ W.heap.size := by rw [hW]; simp only [World.size_setCell]; exact hsz
  clear hW p0 p1 p2 p3 p4 pz r0 r1 r2 r3 r4 r5 r6 r7 r8 r9 rz s0 s1 s2 s3 s4 sz FF hsz o1 f1
  go_wp2_with fail
  refine bodyPost_ret (v := .agg #[.int .i64 p.id, .int .i64 lsn, .int .i64 p.level, .int .i64 slot, .slice A1 n c1]) ?_ rfl ⟨A1, c1, by dsimp only; rw [en], ?_, ?_⟩
  · simp [results, Tryd.results38, go_sem, s0', s1', s2', s3', s4']
  · dsimp only
    rw [en]
    refine (oW.past (B := w.heap.size + 3) ?_ (by omega)).widen (by omega)
    repeat (first | (with_reducible exact Fr.refl _ _) | with_reducible refine Fr.setCell ?_ (fun m hm => by unfold From at hm; dsimp only; omega) _)
  · skip
    repeat (first | (with_reducible exact FW) | with_reducible refine Fr.setNew ?_ (by dsimp only; omega) _)

set_option maxRecDepth 100000 in
set_option maxHeartbeats 1000000 in
theorem apply_link_none
    {p : Page} {v kv vv : Value} {lsn back epoch group page slot : Int} {last : Bool} {S : Nat → Prop} {w : World} (h : Sl kEnt S w v p.ents) (ok : EntsOk p.ents) (kk : ∃ A n c, kv = .slice A n c) (vk : ∃ A n c, vv = .slice A n c) (hp : page = p.id) (hs : p.lsn < lsn)
    (hn : 256 ≤ slot) :
    Calls Tryd.prog 38 #[.agg #[.int .i64 p.id, .int .i64 p.lsn, .int .i64 p.level, .int .i64 p.next, v], .agg #[.int .i64 lsn, .int .i64 back, .int .i64 epoch, .int .i64 group, .int .i64 page, .int .i64 5, .int .i64 slot, kv, vv, .bool last]] w
      (Applied w { p with lsn := lsn, next := -1 }) := by
  have h1 : (page != p.id) = false := by rw [bne_eq_false_iff_eq]; exact hp
  have h1' : (page == p.id) = true := by rw [beq_iff_eq]; exact hp
  have h2 : decide (lsn ≤ p.lsn) = false := by rw [decide_eq_false_iff_not]; omega
  clear hp hs
  obtain ⟨A, n, c, rfl, en, _⟩ := h.open_
  obtain ⟨K0, k0, j0, rfl⟩ := kk
  obtain ⟨K1, k1, j1, rfl⟩ := vk
  have F0 := (((Fr.refl All w).alloc (.cells #[.int .i64 p.id, .int .i64 p.lsn, .int .i64 p.level, .int .i64 p.next, .slice A n c] 30)).alloc (.cells #[.int .i64 lsn, .int .i64 back, .int .i64 epoch, .int .i64 group, .int .i64 page, .int .i64 5, .int .i64 slot, .slice K0 k0 j0, .slice K1 k1 j1, .bool last] 33)).alloc (.cells #[.int .i64 0, .int .i64 0, .int .i64 0, .int .i64 0, .slice none 0 0] 30)
  go_enter Tryd.func38, Tryd.ntmps38
  go_wp2_with fail
  refine (page_clone' (h.all F0) ok).mono ?_
  rintro e w1 ⟨A1, c1, rfl, o1, f1⟩
  obtain ⟨p0, p1, p2, p3, p4, pz⟩ := blk5 ((f1.block w.heap.size (by simp; omega) trivial).trans (heap_a3 _ _ _ _).1)
  obtain ⟨r0, r1, r2, r3, r4, r5, r6, r7, r8, r9, rz⟩ := blk10 ((f1.block (w.heap.size + 1) (by simp) trivial).trans (heap_a3 _ _ _ _).2.1)
  obtain ⟨s0, s1, s2, s3, s4, sz⟩ := blk5 ((f1.block (w.heap.size + 1 + 1) (by simp) trivial).trans (heap_a3 _ _ _ _).2.2)
  have FF := F0.then_all f1
  have hsz := f1.size
  simp only [World.size_alloc] at hsz o1
  dsimp only
  go_upto_region 6 with (fail)
  refine wp_name ?_
  intro W hW
  have p0' : W.cell? ⟨w.heap.size, 0, none⟩ = some (.int .i64 p.id) := by rw [hW]; go_simp
  have p1' : W.cell? ⟨w.heap.size, 1, none⟩ = some (.int .i64 lsn) := by rw [hW]; refine World.cell?_setCell_same _ _ _ (u := .int .i64 p.lsn) ?_; go_simp
  have p2' : W.cell? ⟨w.heap.size, 2, none⟩ = some (.int .i64 p.level) := by rw [hW]; go_simp
  have p3' : W.cell? ⟨w.heap.size, 3, none⟩ = some (.int .i64 p.next) := by rw [hW]; go_simp
  have p4' : W.cell? ⟨w.heap.size, 4, none⟩ = some (.slice A1 n c1) := by rw [hW]; go_simp
  have pz' : ∀ j, W.frozen? ⟨w.heap.size, j, none⟩ = false := by intro j; rw [hW]; go_simp
  have r5' : W.cell? ⟨w.heap.size + 1, 5, none⟩ = some (.int .i64 5) := by rw [hW]; go_simp
  have r6' : W.cell? ⟨w.heap.size + 1, 6, none⟩ = some (.int .i64 slot) := by rw [hW]; go_simp
  have r7' : W.cell? ⟨w.heap.size + 1, 7, none⟩ = some (.slice K0 k0 j0) := by rw [hW]; go_simp
  have r8' : W.cell? ⟨w.heap.size + 1, 8, none⟩ = some (.slice K1 k1 j1) := by rw [hW]; go_simp
  have s0' : W.cell? ⟨w.heap.size + 1 + 1, 0, none⟩ = some (.int .i64 0) := by rw [hW]; go_simp
  have s1' : W.cell? ⟨w.heap.size + 1 + 1, 1, none⟩ = some (.int .i64 0) := by rw [hW]; go_simp
  have s2' : W.cell? ⟨w.heap.size + 1 + 1, 2, none⟩ = some (.int .i64 0) := by rw [hW]; go_simp
  have s3' : W.cell? ⟨w.heap.size + 1 + 1, 3, none⟩ = some (.int .i64 0) := by rw [hW]; go_simp
  have s4' : W.cell? ⟨w.heap.size + 1 + 1, 4, none⟩ = some (.slice none 0 0) := by rw [hW]; go_simp
  have sz' : ∀ j, W.frozen? ⟨w.heap.size + 1 + 1, j, none⟩ = false := by intro j; rw [hW]; go_simp
  have FW : Fr All w W := by
    rw [hW]
    repeat (first | (with_reducible exact FF) | with_reducible refine Fr.setNew ?_ (by dsimp only; omega) _)
  have oW : Own kEnt 65 (w.heap.size + 1 + 1 + 1) (From (w.heap.size + 1 + 1 + 1)) W (.slice A1 n c1) p.ents := by
    rw [hW, ← en]
    refine o1.past (B := w.heap.size + 3) ?_ (by omega)
    repeat (first | (with_reducible exact Fr.refl _ _) | with_reducible refine Fr.setCell ?_ (fun m hm => by unfold From at hm; dsimp only; omega) _)
  have hszW : w.heap.size + 1 + 1 + 1 ≤ W.heap.size := by rw [hW]; simp only [World.size_setCell]; exact hsz
  clear hW p0 p1 p2 p3 p4 pz r0 r1 r2 r3 r4 r5 r6 r7 r8 r9 rz s0 s1 s2 s3 s4 sz FF hsz o1 f1
  go_wp2_with fail
  refine bodyPost_ret (v := .agg #[.int .i64 p.id, .int .i64 lsn, .int .i64 p.level, .int .i64 (-1), .slice A1 n c1]) ?_ rfl ⟨A1, c1, by dsimp only; rw [en], ?_, ?_⟩
  · simp [results, Tryd.results38, go_sem, s0', s1', s2', s3', s4']
  · dsimp only
    rw [en]
    refine (oW.past (B := w.heap.size + 3) ?_ (by omega)).widen (by omega)
    repeat (first | (with_reducible exact Fr.refl _ _) | with_reducible refine Fr.setCell ?_ (fun m hm => by unfold From at hm; dsimp only; omega) _)
  · skip
    repeat (first | (with_reducible exact FW) | with_reducible refine Fr.setNew ?_ (by dsimp only; omega) _)

set_option maxRecDepth 100000 in
set_option maxHeartbeats 1000000 in
theorem apply_cut
    {p : Page} {v kv vv : Value} {lsn back epoch group page slot : Int} {last : Bool} {S : Nat → Prop} {w : World} (h : Sl kEnt S w v p.ents) (ok : EntsOk p.ents) (kk : ∃ A n c, kv = .slice A n c) (vk : ∃ A n c, vv = .slice A n c) (hp : page = p.id) (hs : p.lsn < lsn)
    (h0 : 0 ≤ slot) :
    Calls Tryd.prog 38 #[.agg #[.int .i64 p.id, .int .i64 p.lsn, .int .i64 p.level, .int .i64 p.next, v], .agg #[.int .i64 lsn, .int .i64 back, .int .i64 epoch, .int .i64 group, .int .i64 page, .int .i64 6, .int .i64 slot, kv, vv, .bool last]] w
      (Applied w { p with lsn := lsn, ents := p.ents.take (min slot.toNat p.ents.length) }) := by
  obtain ⟨i, hi⟩ : ∃ i : Nat, i = min slot.toNat p.ents.length := ⟨_, rfl⟩
  have hmin : (if (p.ents.length : Int) < slot then (p.ents.length : Int) else slot) = (i : Int) := by rw [hi]; split <;> omega
  have hil : i ≤ p.ents.length := by omega
  rw [← hi]
  clear hi
  have h1 : (page != p.id) = false := by rw [bne_eq_false_iff_eq]; exact hp
  have h1' : (page == p.id) = true := by rw [beq_iff_eq]; exact hp
  have h2 : decide (lsn ≤ p.lsn) = false := by rw [decide_eq_false_iff_not]; omega
  clear hp hs
  obtain ⟨A, n, c, rfl, en, _⟩ := h.open_
  obtain ⟨K0, k0, j0, rfl⟩ := kk
  obtain ⟨K1, k1, j1, rfl⟩ := vk
  have F0 := (((Fr.refl All w).alloc (.cells #[.int .i64 p.id, .int .i64 p.lsn, .int .i64 p.level, .int .i64 p.next, .slice A n c] 30)).alloc (.cells #[.int .i64 lsn, .int .i64 back, .int .i64 epoch, .int .i64 group, .int .i64 page, .int .i64 6, .int .i64 slot, .slice K0 k0 j0, .slice K1 k1 j1, .bool last] 33)).alloc (.cells #[.int .i64 0, .int .i64 0, .int .i64 0, .int .i64 0, .slice none 0 0] 30)
  go_enter Tryd.func38, Tryd.ntmps38
  go_wp2_with fail
  refine (page_clone' (h.all F0) ok).mono ?_
  rintro e w1 ⟨A1, c1, rfl, o1, f1⟩
  obtain ⟨p0, p1, p2, p3, p4, pz⟩ := blk5 ((f1.block w.heap.size (by simp; omega) trivial).trans (heap_a3 _ _ _ _).1)
  obtain ⟨r0, r1, r2, r3, r4, r5, r6, r7, r8, r9, rz⟩ := blk10 ((f1.block (w.heap.size + 1) (by simp) trivial).trans (heap_a3 _ _ _ _).2.1)
  obtain ⟨s0, s1, s2, s3, s4, sz⟩ := blk5 ((f1.block (w.heap.size + 1 + 1) (by simp) trivial).trans (heap_a3 _ _ _ _).2.2)
  have FF := F0.then_all f1
  have hsz := f1.size
  simp only [World.size_alloc] at hsz o1
  dsimp only
  rw [en] at hmin hil
  go_upto_region 6 with (fail)
  refine wp_name ?_
  intro W hW
  have p0' : W.cell? ⟨w.heap.size, 0, none⟩ = some (.int .i64 p.id) := by rw [hW]; go_simp
  have p1' : W.cell? ⟨w.heap.size, 1, none⟩ = some (.int .i64 lsn) := by rw [hW]; refine World.cell?_setCell_same _ _ _ (u := .int .i64 p.lsn) ?_; go_simp
  have p2' : W.cell? ⟨w.heap.size, 2, none⟩ = some (.int .i64 p.level) := by rw [hW]; go_simp
  have p3' : W.cell? ⟨w.heap.size, 3, none⟩ = some (.int .i64 p.next) := by rw [hW]; go_simp
  have p4' : W.cell? ⟨w.heap.size, 4, none⟩ = some (.slice A1 n c1) := by rw [hW]; go_simp
  have pz' : ∀ j, W.frozen? ⟨w.heap.size, j, none⟩ = false := by intro j; rw [hW]; go_simp
  have r5' : W.cell? ⟨w.heap.size + 1, 5, none⟩ = some (.int .i64 6) := by rw [hW]; go_simp
  have r6' : W.cell? ⟨w.heap.size + 1, 6, none⟩ = some (.int .i64 slot) := by rw [hW]; go_simp
  have r7' : W.cell? ⟨w.heap.size + 1, 7, none⟩ = some (.slice K0 k0 j0) := by rw [hW]; go_simp
  have r8' : W.cell? ⟨w.heap.size + 1, 8, none⟩ = some (.slice K1 k1 j1) := by rw [hW]; go_simp
  have s0' : W.cell? ⟨w.heap.size + 1 + 1, 0, none⟩ = some (.int .i64 0) := by rw [hW]; go_simp
  have s1' : W.cell? ⟨w.heap.size + 1 + 1, 1, none⟩ = some (.int .i64 0) := by rw [hW]; go_simp
  have s2' : W.cell? ⟨w.heap.size + 1 + 1, 2, none⟩ = some (.int .i64 0) := by rw [hW]; go_simp
  have s3' : W.cell? ⟨w.heap.size + 1 + 1, 3, none⟩ = some (.int .i64 0) := by rw [hW]; go_simp
  have s4' : W.cell? ⟨w.heap.size + 1 + 1, 4, none⟩ = some (.slice none 0 0) := by rw [hW]; go_simp
  have sz' : ∀ j, W.frozen? ⟨w.heap.size + 1 + 1, j, none⟩ = false := by intro j; rw [hW]; go_simp
  have FW : Fr All w W := by
    rw [hW]
    repeat (first | (with_reducible exact FF) | with_reducible refine Fr.setNew ?_ (by dsimp only; omega) _)
  have oW : Own kEnt 65 (w.heap.size + 1 + 1 + 1) (From (w.heap.size + 1 + 1 + 1)) W (.slice A1 n c1) p.ents := by
    rw [hW, ← en]
    refine o1.past (B := w.heap.size + 3) ?_ (by omega)
    repeat (first | (with_reducible exact Fr.refl _ _) | with_reducible refine Fr.setCell ?_ (fun m hm => by unfold From at hm; dsimp only; omega) _)
  have hszW : w.heap.size + 1 + 1 + 1 ≤ W.heap.size := by rw [hW]; simp only [World.size_setCell]; exact hsz
  clear hW p0 p1 p2 p3 p4 pz r0 r1 r2 r3 r4 r5 r6 r7 r8 r9 rz s0 s1 s2 s3 s4 sz FF hsz o1 f1
  have hc1 : n ≤ c1 := by
    obtain ⟨A', n', c', he, z1, z2, _⟩ := oW.sl.open_
    injection he with _ z3 z4
    omega
  have hic : i ≤ c1 := by omega
  go_wp2_with fail
  have hlen : (p.ents.take i).length = i := by rw [List.length_take]; omega
  refine bodyPost_ret (v := .agg #[.int .i64 p.id, .int .i64 lsn, .int .i64 p.level, .int .i64 p.next, .slice A1 i c1]) ?_ rfl ⟨A1, c1, by dsimp only; rw [hlen], ?_, ?_⟩
  · simp [results, Tryd.results38, go_sem, s0', s1', s2', s3', s4']
  · dsimp only
    rw [hlen]
    refine ((oW.take hil).past (B := w.heap.size + 3) ?_ (by omega)).widen (by omega)
    repeat (first | (with_reducible exact Fr.refl _ _) | with_reducible refine Fr.setCell ?_ (fun m hm => by unfold From at hm; dsimp only; omega) _)
  · skip
    repeat (first | (with_reducible exact FW) | with_reducible refine Fr.setNew ?_ (by dsimp only; omega) _)

set_option maxRecDepth 100000 in
set_option maxHeartbeats 1000000 in
theorem apply_other {kind : Int}
    {p : Page} {v kv vv : Value} {lsn back epoch group page slot : Int} {last : Bool} {S : Nat → Prop} {w : World} (h : Sl kEnt S w v p.ents) (ok : EntsOk p.ents) (kk : ∃ A n c, kv = .slice A n c) (vk : ∃ A n c, vv = .slice A n c) (hp : page = p.id) (hs : p.lsn < lsn)
    (k1 : kind ≠ 1) (k2 : kind ≠ 2) (k3 : kind ≠ 3) (k4 : kind ≠ 4) (k5 : kind ≠ 5) (k6 : kind ≠ 6) :
    Calls Tryd.prog 38 #[.agg #[.int .i64 p.id, .int .i64 p.lsn, .int .i64 p.level, .int .i64 p.next, v], .agg #[.int .i64 lsn, .int .i64 back, .int .i64 epoch, .int .i64 group, .int .i64 page, .int .i64 kind, .int .i64 slot, kv, vv, .bool last]] w
      (Applied w { p with lsn := lsn }) := by
  have e1 : (kind == 1) = false := by rw [beq_eq_false_iff_ne]; exact k1
  have e2 : (kind == 2) = false := by rw [beq_eq_false_iff_ne]; exact k2
  have e3 : (kind == 3) = false := by rw [beq_eq_false_iff_ne]; exact k3
  have e4 : (kind == 4) = false := by rw [beq_eq_false_iff_ne]; exact k4
  have e5 : (kind == 5) = false := by rw [beq_eq_false_iff_ne]; exact k5
  have e6 : (kind == 6) = false := by rw [beq_eq_false_iff_ne]; exact k6
  clear k1 k2 k3 k4 k5 k6
  have h1 : (page != p.id) = false := by rw [bne_eq_false_iff_eq]; exact hp
  have h1' : (page == p.id) = true := by rw [beq_iff_eq]; exact hp
  have h2 : decide (lsn ≤ p.lsn) = false := by rw [decide_eq_false_iff_not]; omega
  clear hp hs
  obtain ⟨A, n, c, rfl, en, _⟩ := h.open_
  obtain ⟨K0, k0, j0, rfl⟩ := kk
  obtain ⟨K1, k1, j1, rfl⟩ := vk
  have F0 := (((Fr.refl All w).alloc (.cells #[.int .i64 p.id, .int .i64 p.lsn, .int .i64 p.level, .int .i64 p.next, .slice A n c] 30)).alloc (.cells #[.int .i64 lsn, .int .i64 back, .int .i64 epoch, .int .i64 group, .int .i64 page, .int .i64 kind, .int .i64 slot, .slice K0 k0 j0, .slice K1 k1 j1, .bool last] 33)).alloc (.cells #[.int .i64 0, .int .i64 0, .int .i64 0, .int .i64 0, .slice none 0 0] 30)
  go_enter Tryd.func38, Tryd.ntmps38
  go_wp2_with fail
  refine (page_clone' (h.all F0) ok).mono ?_
  rintro e w1 ⟨A1, c1, rfl, o1, f1⟩
  obtain ⟨p0, p1, p2, p3, p4, pz⟩ := blk5 ((f1.block w.heap.size (by simp; omega) trivial).trans (heap_a3 _ _ _ _).1)
  obtain ⟨r0, r1, r2, r3, r4, r5, r6, r7, r8, r9, rz⟩ := blk10 ((f1.block (w.heap.size + 1) (by simp) trivial).trans (heap_a3 _ _ _ _).2.1)
  obtain ⟨s0, s1, s2, s3, s4, sz⟩ := blk5 ((f1.block (w.heap.size + 1 + 1) (by simp) trivial).trans (heap_a3 _ _ _ _).2.2)
  have FF := F0.then_all f1
  have hsz := f1.size
  simp only [World.size_alloc] at hsz o1
  dsimp only
  go_upto_region 6 with (fail)
  refine wp_name ?_
  intro W hW
  have p0' : W.cell? ⟨w.heap.size, 0, none⟩ = some (.int .i64 p.id) := by rw [hW]; go_simp
  have p1' : W.cell? ⟨w.heap.size, 1, none⟩ = some (.int .i64 lsn) := by rw [hW]; refine World.cell?_setCell_same _ _ _ (u := .int .i64 p.lsn) ?_; go_simp
  have p2' : W.cell? ⟨w.heap.size, 2, none⟩ = some (.int .i64 p.level) := by rw [hW]; go_simp
  have p3' : W.cell? ⟨w.heap.size, 3, none⟩ = some (.int .i64 p.next) := by rw [hW]; go_simp
  have p4' : W.cell? ⟨w.heap.size, 4, none⟩ = some (.slice A1 n c1) := by rw [hW]; go_simp
  have pz' : ∀ j, W.frozen? ⟨w.heap.size, j, none⟩ = false := by intro j; rw [hW]; go_simp
  have r5' : W.cell? ⟨w.heap.size + 1, 5, none⟩ = some (.int .i64 kind) := by rw [hW]; go_simp
  have r6' : W.cell? ⟨w.heap.size + 1, 6, none⟩ = some (.int .i64 slot) := by rw [hW]; go_simp
  have r7' : W.cell? ⟨w.heap.size + 1, 7, none⟩ = some (.slice K0 k0 j0) := by rw [hW]; go_simp
  have r8' : W.cell? ⟨w.heap.size + 1, 8, none⟩ = some (.slice K1 k1 j1) := by rw [hW]; go_simp
  have s0' : W.cell? ⟨w.heap.size + 1 + 1, 0, none⟩ = some (.int .i64 0) := by rw [hW]; go_simp
  have s1' : W.cell? ⟨w.heap.size + 1 + 1, 1, none⟩ = some (.int .i64 0) := by rw [hW]; go_simp
  have s2' : W.cell? ⟨w.heap.size + 1 + 1, 2, none⟩ = some (.int .i64 0) := by rw [hW]; go_simp
  have s3' : W.cell? ⟨w.heap.size + 1 + 1, 3, none⟩ = some (.int .i64 0) := by rw [hW]; go_simp
  have s4' : W.cell? ⟨w.heap.size + 1 + 1, 4, none⟩ = some (.slice none 0 0) := by rw [hW]; go_simp
  have sz' : ∀ j, W.frozen? ⟨w.heap.size + 1 + 1, j, none⟩ = false := by intro j; rw [hW]; go_simp
  have FW : Fr All w W := by
    rw [hW]
    repeat (first | (with_reducible exact FF) | with_reducible refine Fr.setNew ?_ (by dsimp only; omega) _)
  have oW : Own kEnt 65 (w.heap.size + 1 + 1 + 1) (From (w.heap.size + 1 + 1 + 1)) W (.slice A1 n c1) p.ents := by
    rw [hW, ← en]
    refine o1.past (B := w.heap.size + 3) ?_ (by omega)
    repeat (first | (with_reducible exact Fr.refl _ _) | with_reducible refine Fr.setCell ?_ (fun m hm => by unfold From at hm; dsimp only; omega) _)
  have hszW : w.heap.size + 1 + 1 + 1 ≤ W.heap.size := by rw [hW]; simp only [World.size_setCell]; exact hsz
  clear hW p0 p1 p2 p3 p4 pz r0 r1 r2 r3 r4 r5 r6 r7 r8 r9 rz s0 s1 s2 s3 s4 sz FF hsz o1 f1
  go_wp2_with fail
  refine bodyPost_ret (v := .agg #[.int .i64 p.id, .int .i64 lsn, .int .i64 p.level, .int .i64 p.next, .slice A1 n c1]) ?_ rfl ⟨A1, c1, by dsimp only; rw [en], ?_, ?_⟩
  · simp [results, Tryd.results38, go_sem, s0', s1', s2', s3', s4']
  · dsimp only
    rw [en]
    refine (oW.past (B := w.heap.size + 3) ?_ (by omega)).widen (by omega)
    repeat (first | (with_reducible exact Fr.refl _ _) | with_reducible refine Fr.setCell ?_ (fun m hm => by unfold From at hm; dsimp only; omega) _)
  · skip
    repeat (first | (with_reducible exact FW) | with_reducible refine Fr.setNew ?_ (by dsimp only; omega) _)
end Go.Proofs.YtppjpfgjophgkaaDoor
namespace Go.Proofs.YtppjpfgjophgkaaDoor
open Go.RowKit

set_option maxRecDepth 100000 in
set_option maxHeartbeats 1000000 in
theorem apply_remove
    {p : Page} {v kv vv : Value} {lsn back epoch group page slot : Int} {last : Bool} {S : Nat → Prop} {w : World} (h : Sl kEnt S w v p.ents) (ok : EntsOk p.ents) (kk : ∃ A n c, kv = .slice A n c) (vk : ∃ A n c, vv = .slice A n c) (hp : page = p.id) (hs : p.lsn < lsn)
    {i : Nat} (hsl : slot = i) (hi : i < p.ents.length) :
    Calls Tryd.prog 38 #[.agg #[.int .i64 p.id, .int .i64 p.lsn, .int .i64 p.level, .int .i64 p.next, v], .agg #[.int .i64 lsn, .int .i64 back, .int .i64 epoch, .int .i64 group, .int .i64 page, .int .i64 3, .int .i64 slot, kv, vv, .bool last]] w
      (Applied w { p with lsn := lsn, ents := p.ents.take i ++ p.ents.drop (i + 1) }) := by
  have Hsl := Lib.hid hsl
  clear hsl
  have hw1 : IntKind.i64.wrap ((i : Int) + 1) = (i : Int) + 1 := by have := ok.1; rw [IntKind.wrap_i64]; omega
  have h1 : (page != p.id) = false := by rw [bne_eq_false_iff_eq]; exact hp
  have h1' : (page == p.id) = true := by rw [beq_iff_eq]; exact hp
  have h2 : decide (lsn ≤ p.lsn) = false := by rw [decide_eq_false_iff_not]; omega
  clear hp hs
  obtain ⟨A, n, c, rfl, en, _⟩ := h.open_
  obtain ⟨K0, k0, j0, rfl⟩ := kk
  obtain ⟨K1, k1, j1, rfl⟩ := vk
  have F0 := (((Fr.refl All w).alloc (.cells #[.int .i64 p.id, .int .i64 p.lsn, .int .i64 p.level, .int .i64 p.next, .slice A n c] 30)).alloc (.cells #[.int .i64 lsn, .int .i64 back, .int .i64 epoch, .int .i64 group, .int .i64 page, .int .i64 3, .int .i64 slot, .slice K0 k0 j0, .slice K1 k1 j1, .bool last] 33)).alloc (.cells #[.int .i64 0, .int .i64 0, .int .i64 0, .int .i64 0, .slice none 0 0] 30)
  go_enter Tryd.func38, Tryd.ntmps38
  go_wp2_with fail
  refine (page_clone' (h.all F0) ok).mono ?_
  rintro e w1 ⟨A1, c1, rfl, o1, f1⟩
  obtain ⟨p0, p1, p2, p3, p4, pz⟩ := blk5 ((f1.block w.heap.size (by simp; omega) trivial).trans (heap_a3 _ _ _ _).1)
  obtain ⟨r0, r1, r2, r3, r4, r5, r6, r7, r8, r9, rz⟩ := blk10 ((f1.block (w.heap.size + 1) (by simp) trivial).trans (heap_a3 _ _ _ _).2.1)
  obtain ⟨s0, s1, s2, s3, s4, sz⟩ := blk5 ((f1.block (w.heap.size + 1 + 1) (by simp) trivial).trans (heap_a3 _ _ _ _).2.2)
  have FF := F0.then_all f1
  have hsz := f1.size
  simp only [World.size_alloc] at hsz o1
  dsimp only
  rw [en] at hi
  have hi' : decide ((i : Int) < (n : Int)) = true := by rw [decide_eq_true_eq]; omega
  go_upto_region 6 with (fail)
  refine wp_name ?_
  intro W hW
  have p0' : W.cell? ⟨w.heap.size, 0, none⟩ = some (.int .i64 p.id) := by rw [hW]; go_simp
  have p1' : W.cell? ⟨w.heap.size, 1, none⟩ = some (.int .i64 lsn) := by rw [hW]; refine World.cell?_setCell_same _ _ _ (u := .int .i64 p.lsn) ?_; go_simp
  have p2' : W.cell? ⟨w.heap.size, 2, none⟩ = some (.int .i64 p.level) := by rw [hW]; go_simp
  have p3' : W.cell? ⟨w.heap.size, 3, none⟩ = some (.int .i64 p.next) := by rw [hW]; go_simp
  have p4' : W.cell? ⟨w.heap.size, 4, none⟩ = some (.slice A1 n c1) := by rw [hW]; go_simp
  have pz' : ∀ j, W.frozen? ⟨w.heap.size, j, none⟩ = false := by intro j; rw [hW]; go_simp
  have r5' : W.cell? ⟨w.heap.size + 1, 5, none⟩ = some (.int .i64 3) := by rw [hW]; go_simp
  have r6' : W.cell? ⟨w.heap.size + 1, 6, none⟩ = some (.int .i64 slot) := by rw [hW]; go_simp
  have r7' : W.cell? ⟨w.heap.size + 1, 7, none⟩ = some (.slice K0 k0 j0) := by rw [hW]; go_simp
  have r8' : W.cell? ⟨w.heap.size + 1, 8, none⟩ = some (.slice K1 k1 j1) := by rw [hW]; go_simp
  have s0' : W.cell? ⟨w.heap.size + 1 + 1, 0, none⟩ = some (.int .i64 0) := by rw [hW]; go_simp
  have s1' : W.cell? ⟨w.heap.size + 1 + 1, 1, none⟩ = some (.int .i64 0) := by rw [hW]; go_simp
  have s2' : W.cell? ⟨w.heap.size + 1 + 1, 2, none⟩ = some (.int .i64 0) := by rw [hW]; go_simp
  have s3' : W.cell? ⟨w.heap.size + 1 + 1, 3, none⟩ = some (.int .i64 0) := by rw [hW]; go_simp
  have s4' : W.cell? ⟨w.heap.size + 1 + 1, 4, none⟩ = some (.slice none 0 0) := by rw [hW]; go_simp
  have sz' : ∀ j, W.frozen? ⟨w.heap.size + 1 + 1, j, none⟩ = false := by intro j; rw [hW]; go_simp
  have FW : Fr All w W := by
    rw [hW]
    repeat (first | (with_reducible exact FF) | with_reducible refine Fr.setNew ?_ (by dsimp only; omega) _)
  have oW : Own kEnt 65 (w.heap.size + 1 + 1 + 1) (From (w.heap.size + 1 + 1 + 1)) W (.slice A1 n c1) p.ents := by
    rw [hW, ← en]
    refine o1.past (B := w.heap.size + 3) ?_ (by omega)
    repeat (first | (with_reducible exact Fr.refl _ _) | with_reducible refine Fr.setCell ?_ (fun m hm => by unfold From at hm; dsimp only; omega) _)
  have hszW : w.heap.size + 1 + 1 + 1 ≤ W.heap.size := by rw [hW]; simp only [World.size_setCell]; exact hsz
  clear hW p0 p1 p2 p3 p4 pz r0 r1 r2 r3 r4 r5 r6 r7 r8 r9 rz s0 s1 s2 s3 s4 sz FF hsz o1 f1
  rw [Hsl.out] at r6'
  go_wp2_with fail
  refine (deleteEnt oW (by rw [en]; exact hi)).mono ?_
  rw [en]
  rintro e w5 ⟨A5, c5, rfl, o5, f5, hob⟩
  have hown := own_lt oW
  have hbut : ∀ m, m < w.heap.size + 1 + 1 + 1 → But (Value.slice A1 n c1).ownBlock m := fun m hm hh => by have := (hown m hh.symm).1; omega
  have hpb : w.heap.size < W.heap.size := by omega
  have hpb2 : w.heap.size + 1 + 1 < W.heap.size := by omega
  have g0 : w5.cell? ⟨w.heap.size, 0, none⟩ = _ := f5.cell (hbut _ (by dsimp only; omega)) p0'
  have g1 : w5.cell? ⟨w.heap.size, 1, none⟩ = _ := f5.cell (hbut _ (by dsimp only; omega)) p1'
  have g2 : w5.cell? ⟨w.heap.size, 2, none⟩ = _ := f5.cell (hbut _ (by dsimp only; omega)) p2'
  have g3 : w5.cell? ⟨w.heap.size, 3, none⟩ = _ := f5.cell (hbut _ (by dsimp only; omega)) p3'
  have g4 : w5.cell? ⟨w.heap.size, 4, none⟩ = _ := f5.cell (hbut _ (by dsimp only; omega)) p4'
  have q0 : w5.cell? ⟨w.heap.size + 1 + 1, 0, none⟩ = _ := f5.cell (hbut _ (by dsimp only; omega)) s0'
  have q1 : w5.cell? ⟨w.heap.size + 1 + 1, 1, none⟩ = _ := f5.cell (hbut _ (by dsimp only; omega)) s1'
  have q2 : w5.cell? ⟨w.heap.size + 1 + 1, 2, none⟩ = _ := f5.cell (hbut _ (by dsimp only; omega)) s2'
  have q3 : w5.cell? ⟨w.heap.size + 1 + 1, 3, none⟩ = _ := f5.cell (hbut _ (by dsimp only; omega)) s3'
  have q4 : w5.cell? ⟨w.heap.size + 1 + 1, 4, none⟩ = _ := f5.cell (hbut _ (by dsimp only; omega)) s4'
  have gz : ∀ j, w5.frozen? ⟨w.heap.size, j, none⟩ = false := fun j => (World.frozen?_of_block (a := ⟨w.heap.size, j, none⟩) (f5.block _ hpb (hbut _ (by dsimp only; omega)))).trans (pz' j)
  have qz : ∀ j, w5.frozen? ⟨w.heap.size + 1 + 1, j, none⟩ = false := fun j => (World.frozen?_of_block (a := ⟨w.heap.size + 1 + 1, j, none⟩) (f5.block _ hpb2 (hbut _ (by dsimp only; omega)))).trans (sz' j)
  have F5 : Fr All w w5 := FW.row f5.grown fun m hm => by have := (hown m hm).1; omega
  have hs5 : w.heap.size + 1 + 1 + 1 ≤ w5.heap.size := Nat.le_trans hszW f5.size
  clear f5 hbut hown hob p0' p1' p2' p3' p4' pz' r5' r6' r7' r8' s0' s1' s2' s3' s4' sz' oW FW hw1 hi'
  go_wp2_with fail
  have hlen : (p.ents.take i ++ p.ents.drop (i + 1)).length = n - 1 := by simp only [List.length_append, List.length_take, List.length_drop]; omega
  refine bodyPost_ret (v := .agg #[.int .i64 p.id, .int .i64 lsn, .int .i64 p.level, .int .i64 p.next, .slice A5 (n - 1) c5]) ?_ rfl ⟨A5, c5, by dsimp only; rw [hlen], ?_, ?_⟩
  · simp [results, Tryd.results38, go_sem, q0, q1, q2, q3, q4]
  · dsimp only
    rw [hlen]
    refine (o5.past (B := w.heap.size + 3) ?_ (by omega)).widen (by omega)
    repeat (first | (with_reducible exact Fr.refl _ _) | with_reducible refine Fr.setCell ?_ (fun m hm => by unfold From at hm; dsimp only; omega) _)
  · repeat (first | (with_reducible exact F5) | with_reducible refine Fr.setNew ?_ (by dsimp only; omega) _)

/-- A value of an entry of one's own row is written. -/
theorem Own.setVal {base g n c i : Nat} {S : Nat → Prop} {w : World} {xs : List Ent} {x : Ent} {val : List UInt8} {A : Option Addr} {m k : Nat} (h : Own kEnt 65 base S w (.slice (some ⟨g, 0, none⟩) n c) xs) (hi : xs[i]? = some x) (hu : Sl kByte (fun b => S b ∧ b ≠ g) w (.slice A m k) val) :
    Own kEnt 65 base S (w.setCell ⟨g, i * 2 + 1, none⟩ (.slice A m k)) (.slice (some ⟨g, 0, none⟩) n c) (xs.set i ⟨x.key, val⟩) := by
  have hil : i < xs.length := (List.getElem?_eq_some_iff.1 hi).1
  obtain ⟨g', cur, cs, he, hb, hg, hnc, hc, hcs, ht, hxl, hcl, hr⟩ := own_open h (by have := h.sl.len; omega)
  obtain rfl : g = g' := by
    injection he with he
    injection he
  obtain ⟨el, hk, hel⟩ := hr.get hi
  obtain ⟨v0, v1, rfl, k0, k1⟩ := kEnt_open hk
  have hF : Fr (fun b => b ≠ g) w (w.setCell ⟨g, i * 2 + 1, none⟩ (.slice A m k)) := (Fr.refl _ w).setCell (p := ⟨g, i * 2 + 1, none⟩) (fun b hb => hb) _
  have hnew : kEnt.K (fun b => S b ∧ b ≠ g) w ⟨x.key, val⟩ [v0, .slice A m k] := kEnt_mk k0 hu
  have e0 : cs[i * 2]? = some v0 := hel 0 v0 rfl
  have hR : Reps kEnt (fun b => S b ∧ b ≠ g) w (xs.set i ⟨x.key, val⟩) (cs.set (i * 2 + 1) (.slice A m k)) := by
    have h1 := ((hr.take i).append (Reps.single hnew)).append (hr.drop (i + 1))
    have h2 : xs.take i ++ [⟨x.key, val⟩] ++ xs.drop (i + 1) = xs.set i ⟨x.key, val⟩ := by rw [List.set_eq_take_append_cons_drop, if_pos hil]; simp
    have h3 : cs.take (i * kEnt.sz) ++ [v0, .slice A m k] ++ cs.drop ((i + 1) * kEnt.sz) = cs.set (i * 2 + 1) (.slice A m k) := by
      have hsz : kEnt.sz = 2 := rfl
      rw [hsz] at hcl ⊢
      have hlt : i * 2 + 1 < cs.length := by rw [hcl]; omega
      rw [List.set_eq_take_append_cons_drop, if_pos hlt]
      have h4 : cs.take (i * 2 + 1) = cs.take (i * 2) ++ [v0] := by
        rw [List.take_add_one, e0]
        rfl
      rw [h4, show (i + 1) * 2 = i * 2 + 1 + 1 by omega]
      simp
    rwa [h2, h3] at h1
  have hlen : (xs.set i ⟨x.key, val⟩).length = n := by rw [List.length_set]; exact hxl
  have hgs : (w.setCell ⟨g, i * 2 + 1, none⟩ (.slice A m k)).heap[g]? = some (.cells (cur.setIfInBounds (i * 2 + 1) (.slice A m k)) 65 (0, 0)) := by
    simp [World.setCell, Array.getElem?_modify, hg]
  refine ⟨_, ⟨hR.len, .inr ⟨g, c, cur.setIfInBounds (i * 2 + 1) (.slice A m k), by rw [hlen], hb, hgs, by rw [hlen]; exact hnc, hc, by rw [Array.size_setIfInBounds]; exact hcs, ?_⟩⟩, ?_⟩
  · rw [hlen, Array.toList_setIfInBounds, List.take_set, ht]
  · exact (hR.move' hF fun b hb _ => hb.2).mono fun b hb _ => ⟨hb.1, fun hh => hb.2 (Option.some.inj hh)⟩

set_option maxRecDepth 100000 in
set_option maxHeartbeats 1000000 in
theorem apply_change
    {p : Page} {v kv vv : Value} {lsn back epoch group page slot : Int} {last : Bool} {S : Nat → Prop} {w : World} (h : Sl kEnt S w v p.ents) (ok : EntsOk p.ents) (kk : ∃ A n c, kv = .slice A n c) (vk : ∃ A n c, vv = .slice A n c) (hp : page = p.id) (hs : p.lsn < lsn)
    {val : List UInt8} {T : Nat → Prop} (hvv : Sl kByte T w vv val) (hvl : val.length ≤ 1000000)
    {i : Nat} {x : Ent} (hsl : slot = i) (hi : p.ents[i]? = some x) :
    Calls Tryd.prog 38 #[.agg #[.int .i64 p.id, .int .i64 p.lsn, .int .i64 p.level, .int .i64 p.next, v], .agg #[.int .i64 lsn, .int .i64 back, .int .i64 epoch, .int .i64 group, .int .i64 page, .int .i64 4, .int .i64 slot, kv, vv, .bool last]] w
      (Applied w { p with lsn := lsn, ents := p.ents.set i ⟨x.key, val⟩ }) := by
  have Hsl := Lib.hid hsl
  have Hi := Lib.hid hi
  have hil : i < p.ents.length := (List.getElem?_eq_some_iff.1 hi).1
  clear hsl hi
  have h1 : (page != p.id) = false := by rw [bne_eq_false_iff_eq]; exact hp
  have h1' : (page == p.id) = true := by rw [beq_iff_eq]; exact hp
  have h2 : decide (lsn ≤ p.lsn) = false := by rw [decide_eq_false_iff_not]; omega
  clear hp hs
  obtain ⟨A, n, c, rfl, en, _⟩ := h.open_
  obtain ⟨K0, k0, j0, rfl⟩ := kk
  obtain ⟨K1, k1, j1, rfl⟩ := vk
  have F0 := (((Fr.refl All w).alloc (.cells #[.int .i64 p.id, .int .i64 p.lsn, .int .i64 p.level, .int .i64 p.next, .slice A n c] 30)).alloc (.cells #[.int .i64 lsn, .int .i64 back, .int .i64 epoch, .int .i64 group, .int .i64 page, .int .i64 4, .int .i64 slot, .slice K0 k0 j0, .slice K1 k1 j1, .bool last] 33)).alloc (.cells #[.int .i64 0, .int .i64 0, .int .i64 0, .int .i64 0, .slice none 0 0] 30)
  go_enter Tryd.func38, Tryd.ntmps38
  go_wp2_with fail
  refine (page_clone' (h.all F0) ok).mono ?_
  rintro e w1 ⟨A1, c1, rfl, o1, f1⟩
  obtain ⟨p0, p1, p2, p3, p4, pz⟩ := blk5 ((f1.block w.heap.size (by simp; omega) trivial).trans (heap_a3 _ _ _ _).1)
  obtain ⟨r0, r1, r2, r3, r4, r5, r6, r7, r8, r9, rz⟩ := blk10 ((f1.block (w.heap.size + 1) (by simp) trivial).trans (heap_a3 _ _ _ _).2.1)
  obtain ⟨s0, s1, s2, s3, s4, sz⟩ := blk5 ((f1.block (w.heap.size + 1 + 1) (by simp) trivial).trans (heap_a3 _ _ _ _).2.2)
  have FF := F0.then_all f1
  have hsz := f1.size
  simp only [World.size_alloc] at hsz o1
  dsimp only
  rw [en] at hil
  have hi' : decide ((i : Int) < (n : Int)) = true := by rw [decide_eq_true_eq]; omega
  go_upto_region 6 with (fail)
  refine wp_name ?_
  intro W hW
  have p0' : W.cell? ⟨w.heap.size, 0, none⟩ = some (.int .i64 p.id) := by rw [hW]; go_simp
  have p1' : W.cell? ⟨w.heap.size, 1, none⟩ = some (.int .i64 lsn) := by rw [hW]; refine World.cell?_setCell_same _ _ _ (u := .int .i64 p.lsn) ?_; go_simp
  have p2' : W.cell? ⟨w.heap.size, 2, none⟩ = some (.int .i64 p.level) := by rw [hW]; go_simp
  have p3' : W.cell? ⟨w.heap.size, 3, none⟩ = some (.int .i64 p.next) := by rw [hW]; go_simp
  have p4' : W.cell? ⟨w.heap.size, 4, none⟩ = some (.slice A1 n c1) := by rw [hW]; go_simp
  have pz' : ∀ j, W.frozen? ⟨w.heap.size, j, none⟩ = false := by intro j; rw [hW]; go_simp
  have r5' : W.cell? ⟨w.heap.size + 1, 5, none⟩ = some (.int .i64 4) := by rw [hW]; go_simp
  have r6' : W.cell? ⟨w.heap.size + 1, 6, none⟩ = some (.int .i64 slot) := by rw [hW]; go_simp
  have r7' : W.cell? ⟨w.heap.size + 1, 7, none⟩ = some (.slice K0 k0 j0) := by rw [hW]; go_simp
  have r8' : W.cell? ⟨w.heap.size + 1, 8, none⟩ = some (.slice K1 k1 j1) := by rw [hW]; go_simp
  have s0' : W.cell? ⟨w.heap.size + 1 + 1, 0, none⟩ = some (.int .i64 0) := by rw [hW]; go_simp
  have s1' : W.cell? ⟨w.heap.size + 1 + 1, 1, none⟩ = some (.int .i64 0) := by rw [hW]; go_simp
  have s2' : W.cell? ⟨w.heap.size + 1 + 1, 2, none⟩ = some (.int .i64 0) := by rw [hW]; go_simp
  have s3' : W.cell? ⟨w.heap.size + 1 + 1, 3, none⟩ = some (.int .i64 0) := by rw [hW]; go_simp
  have s4' : W.cell? ⟨w.heap.size + 1 + 1, 4, none⟩ = some (.slice none 0 0) := by rw [hW]; go_simp
  have sz' : ∀ j, W.frozen? ⟨w.heap.size + 1 + 1, j, none⟩ = false := by intro j; rw [hW]; go_simp
  have FW : Fr All w W := by
    rw [hW]
    repeat (first | (with_reducible exact FF) | with_reducible refine Fr.setNew ?_ (by dsimp only; omega) _)
  have oW : Own kEnt 65 (w.heap.size + 1 + 1 + 1) (From (w.heap.size + 1 + 1 + 1)) W (.slice A1 n c1) p.ents := by
    rw [hW, ← en]
    refine o1.past (B := w.heap.size + 3) ?_ (by omega)
    repeat (first | (with_reducible exact Fr.refl _ _) | with_reducible refine Fr.setCell ?_ (fun m hm => by unfold From at hm; dsimp only; omega) _)
  have hszW : w.heap.size + 1 + 1 + 1 ≤ W.heap.size := by rw [hW]; simp only [World.size_setCell]; exact hsz
  clear hW p0 p1 p2 p3 p4 pz r0 r1 r2 r3 r4 r5 r6 r7 r8 r9 rz s0 s1 s2 s3 s4 sz FF hsz o1 f1
  rw [Hsl.out] at r6'
  obtain ⟨g, cur, cs, hA1, hbg, hg, hnc, hc, hcs, ht, hxl, hcl, hr⟩ := own_open oW (by omega)
  subst hA1
  have hglt := (Array.getElem?_eq_some_iff.1 hg).1
  have hcell : ∃ u0, W.cell? ⟨g, i * 2 + 1, none⟩ = some u0 := by
    obtain ⟨el, hk, hel⟩ := hr.get Hi.out
    obtain ⟨v0, v1, rfl, _, _⟩ := kEnt_open hk
    have h1 : cs[i * 2 + 1]? = some v1 := hel 1 v1 rfl
    rw [← ht, List.getElem?_take] at h1
    split at h1
    · exact ⟨v1, ((blk_cells hg).1 _).trans (by simpa using h1)⟩
    · cases h1
  obtain ⟨u0, hu0⟩ := hcell
  have hgz : W.frozen? ⟨g, i * 2 + 1, none⟩ = false := (blk_cells hg).2 _
  clear hr hg hcs ht hxl hcl
  go_upto_region 17 with (fail)
  have hkb : w.heap.size + 1 < W.heap.size := by omega
  have hpb : w.heap.size < W.heap.size := by omega
  have hvW := hvv.all FW
  have hVl := hvv.len
  have bi0 : (0 : Int) ≤ (i : Int) := by omega
  have bi1 : (i : Int) < (n : Int) := by omega
  refine wp_region_last (S := fun w' => w'.cell? ⟨w.heap.size, 4, none⟩ = some (.slice (some ⟨g, 0, none⟩) n c1) ∧ w'.cell? ⟨w.heap.size + 1, 6, none⟩ = some (.int .i64 i) ∧ w'.cell? ⟨w.heap.size + 1, 8, none⟩ = some (.slice K1 k1 j1)) 9 (by kernel_rfl) rfl (by kernel_rfl) ⟨p4', r6', r8'⟩ (fun hHeld => ?_)
  simp only [List.take_succ_cons, List.take_zero]
  refine wpAnyH_take (i := 0) (v := ?_) rfl (by kernel_rfl) (by kernel_rfl) (by kernel_rfl) (fun _ _ _ h => h) (Or.inl ⟨by rfl, ?_⟩) (by assumption) ?_
  rotate_left
  · (intro w hSw; (try dsimp only at hSw); go_simp; try with_reducible rfl)
  try simp only [Act.put]
  try simp only [List.setIfInBounds_toArray]
  try simp only [List.set_cons_succ]
  try simp only [List.set_cons_zero]
  refine wpAnyH_take (i := 1) (v := ?_) rfl (by kernel_rfl) (by kernel_rfl) (by kernel_rfl) (fun _ _ _ h => h) (Or.inl ⟨by rfl, ?_⟩) (by assumption) ?_
  rotate_left
  · (intro w hSw; (try dsimp only at hSw); go_simp; try with_reducible rfl)
  try simp only [Act.put]
  try simp only [List.setIfInBounds_toArray]
  try simp only [List.set_cons_succ]
  try simp only [List.set_cons_zero]
  refine wpAnyH_take (i := 2) (v := ?_) rfl (by kernel_rfl) (by kernel_rfl) (by kernel_rfl) (fun _ _ _ h => h) (Or.inl ⟨by rfl, ?_⟩) (by assumption) ?_
  rotate_left
  · (intro w hSw; (try dsimp only at hSw); go_simp; try with_reducible rfl)
  try simp only [Act.put]
  try simp only [List.setIfInBounds_toArray]
  try simp only [List.set_cons_succ]
  try simp only [List.set_cons_zero]
  refine wpAnyH_take (i := 3) (v := ?_) rfl (by kernel_rfl) (by kernel_rfl) (by kernel_rfl) (fun _ _ _ h => h) (Or.inl ⟨by rfl, ?_⟩) (by assumption) ?_
  rotate_left
  · (intro w hSw; (try dsimp only at hSw); go_simp; try with_reducible rfl)
  try simp only [Act.put]
  try simp only [List.setIfInBounds_toArray]
  try simp only [List.set_cons_succ]
  try simp only [List.set_cons_zero]
  refine wpAnyH_take (i := 4) (v := ?_) rfl (by kernel_rfl) (by kernel_rfl) (by kernel_rfl) (fun _ _ _ h => h) (Or.inl ⟨by rfl, ?_⟩) (by assumption) ?_
  rotate_left
  · (intro w hSw; (try dsimp only at hSw); go_simp; try with_reducible rfl)
  try simp only [Act.put]
  try simp only [List.setIfInBounds_toArray]
  try simp only [List.set_cons_succ]
  try simp only [List.set_cons_zero]
  refine wpAnyH_take (i := 5) (v := ?_) rfl (by kernel_rfl) (by kernel_rfl) (by kernel_rfl) (fun _ _ _ h => h) (Or.inl ⟨by rfl, ?_⟩) (by assumption) ?_
  rotate_left
  · (intro w hSw; (try dsimp only at hSw); go_simp; try with_reducible rfl)
  try simp only [Act.put]
  try simp only [List.setIfInBounds_toArray]
  try simp only [List.set_cons_succ]
  try simp only [List.set_cons_zero]
  refine wpAnyH_ready (rs := [6]) (by kernel_rfl) (by simp) (AllReadyH.cons rfl (fun K hK => ?_) AllReadyH.nil)
  go_simp
  refine (clone_bytes (hvW.all (Fr.refl All W).drew) (by omega)).mono ?_
  rintro e w5 ⟨A5, n5, rfl, o5, f5⟩
  go_simp
  have F4 : Fr All W w5 := (Fr.refl All W).drew.then_all f5
  refine hK.out _ _ ⟨F4.cell trivial p4', F4.cell trivial r6', F4.cell trivial r8'⟩ (fun hHeld => ?_)
  clear hK K
  try simp only [Act.put]
  try simp only [List.setIfInBounds_toArray]
  try simp only [List.set_cons_succ]
  try simp only [List.set_cons_zero]
  refine wpAnyH_take (i := 7) (v := ?_) rfl (by kernel_rfl) (by kernel_rfl) (by kernel_rfl) (fun _ _ _ h => h) (Or.inl ⟨by rfl, ?_⟩) (by assumption) ?_
  rotate_left
  · (intro w hSw; (try dsimp only at hSw); go_simp; try with_reducible rfl)
  try simp only [Act.put]
  try simp only [List.setIfInBounds_toArray]
  try simp only [List.set_cons_succ]
  try simp only [List.set_cons_zero]
  refine wpAnyH_take (i := 8) (v := ?_) rfl (by kernel_rfl) (by kernel_rfl) (by kernel_rfl) (fun _ _ _ h => h) (Or.inl ⟨by rfl, ?_⟩) (by assumption) ?_
  rotate_left
  · (intro w hSw; (try dsimp only at hSw); go_simp; try with_reducible rfl)
  try simp only [Act.put]
  try simp only [List.setIfInBounds_toArray]
  try simp only [List.set_cons_succ]
  try simp only [List.set_cons_zero]
  have g0 : w5.cell? ⟨w.heap.size, 0, none⟩ = _ := F4.cell trivial p0'
  have g1 : w5.cell? ⟨w.heap.size, 1, none⟩ = _ := F4.cell trivial p1'
  have g2 : w5.cell? ⟨w.heap.size, 2, none⟩ = _ := F4.cell trivial p2'
  have g3 : w5.cell? ⟨w.heap.size, 3, none⟩ = _ := F4.cell trivial p3'
  have g4 : w5.cell? ⟨w.heap.size, 4, none⟩ = _ := F4.cell trivial p4'
  have q0 : w5.cell? ⟨w.heap.size + 1 + 1, 0, none⟩ = _ := F4.cell trivial s0'
  have q1 : w5.cell? ⟨w.heap.size + 1 + 1, 1, none⟩ = _ := F4.cell trivial s1'
  have q2 : w5.cell? ⟨w.heap.size + 1 + 1, 2, none⟩ = _ := F4.cell trivial s2'
  have q3 : w5.cell? ⟨w.heap.size + 1 + 1, 3, none⟩ = _ := F4.cell trivial s3'
  have q4 : w5.cell? ⟨w.heap.size + 1 + 1, 4, none⟩ = _ := F4.cell trivial s4'
  have hpb2 : w.heap.size + 1 + 1 < W.heap.size := by omega
  have qz : ∀ j, w5.frozen? ⟨w.heap.size + 1 + 1, j, none⟩ = false := fun j => (World.frozen?_of_block (a := ⟨w.heap.size + 1 + 1, j, none⟩) (F4.block _ hpb2 trivial)).trans (sz' j)
  have gu : w5.cell? ⟨g, i * 2 + 1, none⟩ = some u0 := F4.cell trivial hu0
  have guz : w5.frozen? ⟨g, i * 2 + 1, none⟩ = false := (World.frozen?_of_block (a := ⟨g, i * 2 + 1, none⟩) (F4.block _ hglt trivial)).trans hgz
  have F5 : Fr All w w5 := FW.then_all F4
  have hs5 : w.heap.size + 1 + 1 + 1 ≤ w5.heap.size := Nat.le_trans hszW F4.size
  rw [hVl] at o5
  have ho : Own kEnt 65 (w.heap.size + 1 + 1 + 1) (From (w.heap.size + 1 + 1 + 1)) (w5.setCell ⟨g, i * 2 + 1, none⟩ (.slice A5 k1 n5)) (.slice (some ⟨g, 0, none⟩) n c1) (p.ents.set i ⟨x.key, val⟩) :=
    (oW.all F4).setVal Hi.out (o5.plain_in (fun b hb hl => ⟨by have : W.drew.heap.size = W.heap.size := rfl; unfold From; omega, by have : W.drew.heap.size = W.heap.size := rfl; omega⟩))
  have hgp : w.heap.size + 1 + 1 < g := by omega
  clear hHeld f5 F4 o5 p0' p1' p2' p3' p4' pz' r5' r6' r7' r8' s0' s1' s2' s3' s4' sz' oW FW hvW
  refine wpAnyH_done (by kernel_rfl) ?_ _
  show wpList _ _ _ _ _ _
  go_wp2_with fail
  have hlen : (p.ents.set i ⟨x.key, val⟩).length = n := by rw [List.length_set]; exact en
  refine bodyPost_ret (v := .agg #[.int .i64 p.id, .int .i64 lsn, .int .i64 p.level, .int .i64 p.next, .slice (some ⟨g, 0, none⟩) n c1]) ?_ rfl ⟨some ⟨g, 0, none⟩, c1, by dsimp only; rw [hlen], ?_, ?_⟩
  · simp [results, Tryd.results38, go_sem, q0, q1, q2, q3, q4]
  · dsimp only
    rw [hlen]
    refine (ho.past (B := w.heap.size + 3) ?_ (by omega)).widen (by omega)
    repeat (first | (with_reducible exact Fr.refl _ _) | with_reducible refine Fr.setCell ?_ (fun m hm => by unfold From at hm; dsimp only; omega) _)
  · repeat (first | (with_reducible exact F5) | with_reducible refine Fr.setNew ?_ (by dsimp only; omega) _)
end Go.Proofs.YtppjpfgjophgkaaDoor
namespace Go.Proofs.YtppjpfgjophgkaaDoor
open Go.RowKit

/-- A page with a record whose Slot is not negative. -/
def papply (p : Page) (r : Redo) : Page :=
  if r.page ≠ p.id ∨ r.lsn ≤ p.lsn then p
  else if r.kind = 1 then { p with lsn := r.lsn, level := if 16 < r.slot then 16 else r.slot, next := -1, ents := [] }
  else if r.kind = 2 then
    if p.ents.length < 8 then { p with lsn := r.lsn, ents := p.ents.take (min r.slot.toNat p.ents.length) ++ (⟨r.key, r.val⟩ :: p.ents.drop (min r.slot.toNat p.ents.length)) } else { p with lsn := r.lsn }
  else if r.kind = 3 then
    if r.slot.toNat < p.ents.length then { p with lsn := r.lsn, ents := p.ents.take r.slot.toNat ++ p.ents.drop (r.slot.toNat + 1) } else { p with lsn := r.lsn }
  else if r.kind = 4 then
    match p.ents[r.slot.toNat]? with
    | some x => { p with lsn := r.lsn, ents := p.ents.set r.slot.toNat ⟨x.key, r.val⟩ }
    | none => { p with lsn := r.lsn }
  else if r.kind = 5 then { p with lsn := r.lsn, next := if 256 ≤ r.slot then -1 else r.slot }
  else if r.kind = 6 then { p with lsn := r.lsn, ents := p.ents.take (min r.slot.toNat p.ents.length) }
  else { p with lsn := r.lsn }

theorem papply_skip {p : Page} {r : Redo} (h : r.page ≠ p.id ∨ r.lsn ≤ p.lsn) : papply p r = p := if_pos h
theorem papply_goes {p : Page} {r : Redo} (h : ¬(r.page ≠ p.id ∨ r.lsn ≤ p.lsn)) : (papply p r).lsn = r.lsn ∧ (papply p r).id = p.id := by
  unfold papply
  rw [if_neg h]
  repeat' split
  all_goals exact ⟨rfl, rfl⟩

theorem EntsOk.take {l : List Ent} (h : EntsOk l) (n : Nat) : EntsOk (l.take n) := ⟨Nat.le_trans (by rw [List.length_take]; omega) h.1, fun e he => h.2 e (List.mem_of_mem_take he)⟩

theorem page_apply {p : Page} {r : Redo} {v kv vv : Value} {S T U : Nat → Prop} {w : World} (h : Sl kEnt S w v p.ents) (ok : EntsOk p.ents) (hkv : Sl kByte T w kv r.key) (hvv : Sl kByte U w vv r.val) (hkl : r.key.length ≤ 1000000) (hvl : r.val.length ≤ 1000000) (h0 : 0 ≤ r.slot) :
    Calls Tryd.prog 38 #[.agg #[.int .i64 p.id, .int .i64 p.lsn, .int .i64 p.level, .int .i64 p.next, v], .agg #[.int .i64 r.lsn, .int .i64 r.back, .int .i64 r.epoch, .int .i64 r.group, .int .i64 r.page, .int .i64 r.kind, .int .i64 r.slot, kv, vv, .bool r.last]] w (Applied w (papply p r)) := by
  obtain ⟨lsn, back, epoch, group, page, kind, slot, key, val, last⟩ := r
  have kk : ∃ A n c, kv = .slice A n c := by obtain ⟨A, n, c, he, _⟩ := hkv.open_; exact ⟨A, n, c, he⟩
  have vk : ∃ A n c, vv = .slice A n c := by obtain ⟨A, n, c, he, _⟩ := hvv.open_; exact ⟨A, n, c, he⟩
  dsimp only at hkv hvv hkl hvl h0 ⊢
  by_cases hs : page ≠ p.id ∨ lsn ≤ p.lsn
  · rw [papply_skip hs]
    exact apply_skip h ok kk vk hs
  · have hp : page = p.id := Decidable.byContradiction fun hh => hs (.inl hh)
    have hl : p.lsn < lsn := by omega
    unfold papply
    rw [if_neg hs]
    by_cases k1 : kind = 1
    · subst k1
      exact apply_format h ok kk vk hp hl
    rw [if_neg k1]
    by_cases k2 : kind = 2
    · subst k2
      rw [if_pos rfl]
      by_cases hn : p.ents.length < 8
      · rw [if_pos hn]
        exact apply_insert (T := All) h ok kk vk (hkv.mono fun _ _ _ => trivial) (hvv.mono fun _ _ _ => trivial) hkl hvl hp hl h0 hn
      · rw [if_neg hn]
        exact apply_full h ok kk vk hp hl (by omega)
    rw [if_neg k2]
    by_cases k3 : kind = 3
    · subst k3
      rw [if_pos rfl]
      by_cases hn : slot.toNat < p.ents.length
      · rw [if_pos hn]
        exact apply_remove h ok kk vk hp hl (by show slot = (slot.toNat : Int); omega) hn
      · rw [if_neg hn]
        exact apply_remove_past h ok kk vk hp hl (by show (p.ents.length : Int) ≤ slot; have : ¬slot.toNat < p.ents.length := hn; omega)
    rw [if_neg k3]
    by_cases k4 : kind = 4
    · subst k4
      rw [if_pos rfl]
      dsimp only
      cases hx : p.ents[slot.toNat]? with
      | some x => exact apply_change h ok kk vk hp hl hvv hvl (by show slot = (slot.toNat : Int); omega) hx
      | none =>
        have := List.getElem?_eq_none_iff.1 hx
        exact apply_change_past h ok kk vk hp hl (by show (p.ents.length : Int) ≤ slot; omega)
    rw [if_neg k4]
    by_cases k5 : kind = 5
    · subst k5
      rw [if_pos rfl]
      by_cases hn : 256 ≤ slot
      · dsimp only
        rw [if_pos hn]
        exact apply_link_none h ok kk vk hp hl hn
      · dsimp only
        rw [if_neg hn]
        exact apply_link h ok kk vk hp hl (by show slot < 256; omega)
    rw [if_neg k5]
    by_cases k6 : kind = 6
    · subst k6
      exact apply_cut h ok kk vk hp hl h0
    · rw [if_neg k6]
      exact apply_other h ok kk vk hp hl k1 k2 k3 k4 k5 k6
end Go.Proofs.YtppjpfgjophgkaaDoor
