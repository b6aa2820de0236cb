/- page.Apply: the records that remove or change an entry. -/
import Derived.Test.YtalidmlomfobdaaDoorApply2
namespace Go.Proofs.YtalidmlomfobdaaDoor
open Go.RowKit

set_option maxRecDepth 100000 in
set_option maxHeartbeats 1000000 in
theorem apply_remove
    {p : Page} {v kv vv : Value} {lsn back epoch group page slot : Int} {last : Bool} {S : Nat → Prop} {w : World} (h : Sl kEnt S w v p.ents) (ok : EntsOk p.ents) (kk : ∃ A n c, kv = .slice A n c) (vk : ∃ A n c, vv = .slice A n c) (hp : page = p.id) (hs : p.lsn < lsn)
    {i : Nat} (hsl : slot = i) (hi : i < p.ents.length) :
    Calls Tryd.prog 85 #[.agg #[.int .i64 p.id, .int .i64 p.lsn, .int .i64 p.level, .int .i64 p.next, v], .agg #[.int .i64 lsn, .int .i64 back, .int .i64 epoch, .int .i64 group, .int .i64 page, .int .i64 3, .int .i64 slot, kv, vv, .bool last]] w
      (Applied w { p with lsn := lsn, ents := p.ents.take i ++ p.ents.drop (i + 1) }) := by
  have Hsl := Lib.hid hsl
  clear hsl
  have hw1 : IntKind.i64.wrap ((i : Int) + 1) = (i : Int) + 1 := by have := ok.1; rw [IntKind.wrap_i64]; omega
  have h1 : (page != p.id) = false := by rw [bne_eq_false_iff_eq]; exact hp
  have h1' : (page == p.id) = true := by rw [beq_iff_eq]; exact hp
  have h2 : decide (lsn ≤ p.lsn) = false := by rw [decide_eq_false_iff_not]; omega
  clear hp hs
  obtain ⟨A, n, c, rfl, en, _⟩ := h.open_
  obtain ⟨K0, k0, j0, rfl⟩ := kk
  obtain ⟨K1, k1, j1, rfl⟩ := vk
  have F0 := (((Fr.refl All w).alloc (.cells #[.int .i64 p.id, .int .i64 p.lsn, .int .i64 p.level, .int .i64 p.next, .slice A n c] 66)).alloc (.cells #[.int .i64 lsn, .int .i64 back, .int .i64 epoch, .int .i64 group, .int .i64 page, .int .i64 3, .int .i64 slot, .slice K0 k0 j0, .slice K1 k1 j1, .bool last] 34)).alloc (.cells #[.int .i64 0, .int .i64 0, .int .i64 0, .int .i64 0, .slice none 0 0] 66)
  go_enter Tryd.func85, Tryd.ntmps85
  go_wp2_with fail
  refine (page_clone' (h.all F0) ok).mono ?_
  rintro e w1 ⟨A1, c1, rfl, o1, f1⟩
  obtain ⟨p0, p1, p2, p3, p4, pz⟩ := blk5 ((f1.block w.heap.size (by simp; omega) trivial).trans (heap_a3 _ _ _ _).1)
  obtain ⟨r0, r1, r2, r3, r4, r5, r6, r7, r8, r9, rz⟩ := blk10 ((f1.block (w.heap.size + 1) (by simp) trivial).trans (heap_a3 _ _ _ _).2.1)
  obtain ⟨s0, s1, s2, s3, s4, sz⟩ := blk5 ((f1.block (w.heap.size + 1 + 1) (by simp) trivial).trans (heap_a3 _ _ _ _).2.2)
  have FF := F0.then_all f1
  have hsz := f1.size
  simp only [World.size_alloc] at hsz o1
  dsimp only
  rw [en] at hi
  have hi' : decide ((i : Int) < (n : Int)) = true := by rw [decide_eq_true_eq]; omega
  go_upto_region 6 with (fail)
  refine wp_name ?_
  intro W hW
  have p0' : W.cell? ⟨w.heap.size, 0, none⟩ = some (.int .i64 p.id) := by rw [hW]; go_simp
  have p1' : W.cell? ⟨w.heap.size, 1, none⟩ = some (.int .i64 lsn) := by rw [hW]; refine World.cell?_setCell_same _ _ _ (u := .int .i64 p.lsn) ?_; go_simp
  have p2' : W.cell? ⟨w.heap.size, 2, none⟩ = some (.int .i64 p.level) := by rw [hW]; go_simp
  have p3' : W.cell? ⟨w.heap.size, 3, none⟩ = some (.int .i64 p.next) := by rw [hW]; go_simp
  have p4' : W.cell? ⟨w.heap.size, 4, none⟩ = some (.slice A1 n c1) := by rw [hW]; go_simp
  have pz' : ∀ j, W.frozen? ⟨w.heap.size, j, none⟩ = false := by intro j; rw [hW]; go_simp
  have r5' : W.cell? ⟨w.heap.size + 1, 5, none⟩ = some (.int .i64 3) := by rw [hW]; go_simp
  have r6' : W.cell? ⟨w.heap.size + 1, 6, none⟩ = some (.int .i64 slot) := by rw [hW]; go_simp
  have r7' : W.cell? ⟨w.heap.size + 1, 7, none⟩ = some (.slice K0 k0 j0) := by rw [hW]; go_simp
  have r8' : W.cell? ⟨w.heap.size + 1, 8, none⟩ = some (.slice K1 k1 j1) := by rw [hW]; go_simp
  have s0' : W.cell? ⟨w.heap.size + 1 + 1, 0, none⟩ = some (.int .i64 0) := by rw [hW]; go_simp
  have s1' : W.cell? ⟨w.heap.size + 1 + 1, 1, none⟩ = some (.int .i64 0) := by rw [hW]; go_simp
  have s2' : W.cell? ⟨w.heap.size + 1 + 1, 2, none⟩ = some (.int .i64 0) := by rw [hW]; go_simp
  have s3' : W.cell? ⟨w.heap.size + 1 + 1, 3, none⟩ = some (.int .i64 0) := by rw [hW]; go_simp
  have s4' : W.cell? ⟨w.heap.size + 1 + 1, 4, none⟩ = some (.slice none 0 0) := by rw [hW]; go_simp
  have sz' : ∀ j, W.frozen? ⟨w.heap.size + 1 + 1, j, none⟩ = false := by intro j; rw [hW]; go_simp
  have FW : Fr All w W := by
    rw [hW]
    repeat (first | (with_reducible exact FF) | with_reducible refine Fr.setNew ?_ (by dsimp only; omega) _)
  have oW : Own kEnt 70 (w.heap.size + 1 + 1 + 1) (From (w.heap.size + 1 + 1 + 1)) W (.slice A1 n c1) p.ents := by
    rw [hW, ← en]
    refine o1.past (B := w.heap.size + 3) ?_ (by omega)
    repeat (first | (with_reducible exact Fr.refl _ _) | with_reducible refine Fr.setCell ?_ (fun m hm => by unfold From at hm; dsimp only; omega) _)
  have hszW : w.heap.size + 1 + 1 + 1 ≤ W.heap.size := by rw [hW]; simp only [World.size_setCell]; exact hsz
  clear hW p0 p1 p2 p3 p4 pz r0 r1 r2 r3 r4 r5 r6 r7 r8 r9 rz s0 s1 s2 s3 s4 sz FF hsz o1 f1
  rw [Hsl.out] at r6'
  go_wp2_with fail
  refine (deleteEnt oW (by rw [en]; exact hi)).mono ?_
  rw [en]
  rintro e w5 ⟨A5, c5, rfl, o5, f5, hob⟩
  have hown := own_lt oW
  have hbut : ∀ m, m < w.heap.size + 1 + 1 + 1 → But (Value.slice A1 n c1).ownBlock m := fun m hm hh => by have := (hown m hh.symm).1; omega
  have hpb : w.heap.size < W.heap.size := by omega
  have hpb2 : w.heap.size + 1 + 1 < W.heap.size := by omega
  have g0 : w5.cell? ⟨w.heap.size, 0, none⟩ = _ := f5.cell (hbut _ (by dsimp only; omega)) p0'
  have g1 : w5.cell? ⟨w.heap.size, 1, none⟩ = _ := f5.cell (hbut _ (by dsimp only; omega)) p1'
  have g2 : w5.cell? ⟨w.heap.size, 2, none⟩ = _ := f5.cell (hbut _ (by dsimp only; omega)) p2'
  have g3 : w5.cell? ⟨w.heap.size, 3, none⟩ = _ := f5.cell (hbut _ (by dsimp only; omega)) p3'
  have g4 : w5.cell? ⟨w.heap.size, 4, none⟩ = _ := f5.cell (hbut _ (by dsimp only; omega)) p4'
  have q0 : w5.cell? ⟨w.heap.size + 1 + 1, 0, none⟩ = _ := f5.cell (hbut _ (by dsimp only; omega)) s0'
  have q1 : w5.cell? ⟨w.heap.size + 1 + 1, 1, none⟩ = _ := f5.cell (hbut _ (by dsimp only; omega)) s1'
  have q2 : w5.cell? ⟨w.heap.size + 1 + 1, 2, none⟩ = _ := f5.cell (hbut _ (by dsimp only; omega)) s2'
  have q3 : w5.cell? ⟨w.heap.size + 1 + 1, 3, none⟩ = _ := f5.cell (hbut _ (by dsimp only; omega)) s3'
  have q4 : w5.cell? ⟨w.heap.size + 1 + 1, 4, none⟩ = _ := f5.cell (hbut _ (by dsimp only; omega)) s4'
  have gz : ∀ j, w5.frozen? ⟨w.heap.size, j, none⟩ = false := fun j => (World.frozen?_of_block (a := ⟨w.heap.size, j, none⟩) (f5.block _ hpb (hbut _ (by dsimp only; omega)))).trans (pz' j)
  have qz : ∀ j, w5.frozen? ⟨w.heap.size + 1 + 1, j, none⟩ = false := fun j => (World.frozen?_of_block (a := ⟨w.heap.size + 1 + 1, j, none⟩) (f5.block _ hpb2 (hbut _ (by dsimp only; omega)))).trans (sz' j)
  have F5 : Fr All w w5 := FW.row f5.grown fun m hm => by have := (hown m hm).1; omega
  have hs5 : w.heap.size + 1 + 1 + 1 ≤ w5.heap.size := Nat.le_trans hszW f5.size
  clear f5 hbut hown hob p0' p1' p2' p3' p4' pz' r5' r6' r7' r8' s0' s1' s2' s3' s4' sz' oW FW hw1 hi'
  go_wp2_with fail
  have hlen : (p.ents.take i ++ p.ents.drop (i + 1)).length = n - 1 := by simp only [List.length_append, List.length_take, List.length_drop]; omega
  refine bodyPost_ret (v := .agg #[.int .i64 p.id, .int .i64 lsn, .int .i64 p.level, .int .i64 p.next, .slice A5 (n - 1) c5]) ?_ rfl ⟨A5, c5, by dsimp only; rw [hlen], ?_, ?_⟩
  · simp [results, Tryd.results85, go_sem, q0, q1, q2, q3, q4]
  · dsimp only
    rw [hlen]
    refine (o5.past (B := w.heap.size + 3) ?_ (by omega)).widen (by omega)
    repeat (first | (with_reducible exact Fr.refl _ _) | with_reducible refine Fr.setCell ?_ (fun m hm => by unfold From at hm; dsimp only; omega) _)
  · repeat (first | (with_reducible exact F5) | with_reducible refine Fr.setNew ?_ (by dsimp only; omega) _)

/-- A value of an entry of one's own row is written. -/
theorem Own.setVal {base g n c i : Nat} {S : Nat → Prop} {w : World} {xs : List Ent} {x : Ent} {val : List UInt8} {A : Option Addr} {m k : Nat} (h : Own kEnt 70 base S w (.slice (some ⟨g, 0, none⟩) n c) xs) (hi : xs[i]? = some x) (hu : Sl kByte (fun b => S b ∧ b ≠ g) w (.slice A m k) val) :
    Own kEnt 70 base S (w.setCell ⟨g, i * 2 + 1, none⟩ (.slice A m k)) (.slice (some ⟨g, 0, none⟩) n c) (xs.set i ⟨x.key, val⟩) := by
  have hil : i < xs.length := (List.getElem?_eq_some_iff.1 hi).1
  obtain ⟨g', cur, cs, he, hb, hg, hnc, hc, hcs, ht, hxl, hcl, hr⟩ := own_open h (by have := h.sl.len; omega)
  obtain rfl : g = g' := by
    injection he with he
    injection he
  obtain ⟨el, hk, hel⟩ := hr.get hi
  obtain ⟨v0, v1, rfl, k0, k1⟩ := kEnt_open hk
  have hF : Fr (fun b => b ≠ g) w (w.setCell ⟨g, i * 2 + 1, none⟩ (.slice A m k)) := (Fr.refl _ w).setCell (p := ⟨g, i * 2 + 1, none⟩) (fun b hb => hb) _
  have hnew : kEnt.K (fun b => S b ∧ b ≠ g) w ⟨x.key, val⟩ [v0, .slice A m k] := kEnt_mk k0 hu
  have e0 : cs[i * 2]? = some v0 := hel 0 v0 rfl
  have hR : Reps kEnt (fun b => S b ∧ b ≠ g) w (xs.set i ⟨x.key, val⟩) (cs.set (i * 2 + 1) (.slice A m k)) := by
    have h1 := ((hr.take i).append (Reps.single hnew)).append (hr.drop (i + 1))
    have h2 : xs.take i ++ [⟨x.key, val⟩] ++ xs.drop (i + 1) = xs.set i ⟨x.key, val⟩ := by rw [List.set_eq_take_append_cons_drop, if_pos hil]; simp
    have h3 : cs.take (i * kEnt.sz) ++ [v0, .slice A m k] ++ cs.drop ((i + 1) * kEnt.sz) = cs.set (i * 2 + 1) (.slice A m k) := by
      have hsz : kEnt.sz = 2 := rfl
      rw [hsz] at hcl ⊢
      have hlt : i * 2 + 1 < cs.length := by rw [hcl]; omega
      rw [List.set_eq_take_append_cons_drop, if_pos hlt]
      have h4 : cs.take (i * 2 + 1) = cs.take (i * 2) ++ [v0] := by
        rw [List.take_add_one, e0]
        rfl
      rw [h4, show (i + 1) * 2 = i * 2 + 1 + 1 by omega]
      simp
    rwa [h2, h3] at h1
  have hlen : (xs.set i ⟨x.key, val⟩).length = n := by rw [List.length_set]; exact hxl
  have hgs : (w.setCell ⟨g, i * 2 + 1, none⟩ (.slice A m k)).heap[g]? = some (.cells (cur.setIfInBounds (i * 2 + 1) (.slice A m k)) 70 (0, 0)) := by
    simp [World.setCell, Array.getElem?_modify, hg]
  refine ⟨_, ⟨hR.len, .inr ⟨g, c, cur.setIfInBounds (i * 2 + 1) (.slice A m k), by rw [hlen], hb, hgs, by rw [hlen]; exact hnc, hc, by rw [Array.size_setIfInBounds]; exact hcs, ?_⟩⟩, ?_⟩
  · rw [hlen, Array.toList_setIfInBounds, List.take_set, ht]
  · exact (hR.move' hF fun b hb _ => hb.2).mono fun b hb _ => ⟨hb.1, fun hh => hb.2 (Option.some.inj hh)⟩

set_option maxRecDepth 100000 in
set_option maxHeartbeats 1000000 in
theorem apply_change
    {p : Page} {v kv vv : Value} {lsn back epoch group page slot : Int} {last : Bool} {S : Nat → Prop} {w : World} (h : Sl kEnt S w v p.ents) (ok : EntsOk p.ents) (kk : ∃ A n c, kv = .slice A n c) (vk : ∃ A n c, vv = .slice A n c) (hp : page = p.id) (hs : p.lsn < lsn)
    {val : List UInt8} {T : Nat → Prop} (hvv : Sl kByte T w vv val) (hvl : val.length ≤ 1000000)
    {i : Nat} {x : Ent} (hsl : slot = i) (hi : p.ents[i]? = some x) :
    Calls Tryd.prog 85 #[.agg #[.int .i64 p.id, .int .i64 p.lsn, .int .i64 p.level, .int .i64 p.next, v], .agg #[.int .i64 lsn, .int .i64 back, .int .i64 epoch, .int .i64 group, .int .i64 page, .int .i64 4, .int .i64 slot, kv, vv, .bool last]] w
      (Applied w { p with lsn := lsn, ents := p.ents.set i ⟨x.key, val⟩ }) := by
  have Hsl := Lib.hid hsl
  have Hi := Lib.hid hi
  have hil : i < p.ents.length := (List.getElem?_eq_some_iff.1 hi).1
  clear hsl hi
  have h1 : (page != p.id) = false := by rw [bne_eq_false_iff_eq]; exact hp
  have h1' : (page == p.id) = true := by rw [beq_iff_eq]; exact hp
  have h2 : decide (lsn ≤ p.lsn) = false := by rw [decide_eq_false_iff_not]; omega
  clear hp hs
  obtain ⟨A, n, c, rfl, en, _⟩ := h.open_
  obtain ⟨K0, k0, j0, rfl⟩ := kk
  obtain ⟨K1, k1, j1, rfl⟩ := vk
  have F0 := (((Fr.refl All w).alloc (.cells #[.int .i64 p.id, .int .i64 p.lsn, .int .i64 p.level, .int .i64 p.next, .slice A n c] 66)).alloc (.cells #[.int .i64 lsn, .int .i64 back, .int .i64 epoch, .int .i64 group, .int .i64 page, .int .i64 4, .int .i64 slot, .slice K0 k0 j0, .slice K1 k1 j1, .bool last] 34)).alloc (.cells #[.int .i64 0, .int .i64 0, .int .i64 0, .int .i64 0, .slice none 0 0] 66)
  go_enter Tryd.func85, Tryd.ntmps85
  go_wp2_with fail
  refine (page_clone' (h.all F0) ok).mono ?_
  rintro e w1 ⟨A1, c1, rfl, o1, f1⟩
  obtain ⟨p0, p1, p2, p3, p4, pz⟩ := blk5 ((f1.block w.heap.size (by simp; omega) trivial).trans (heap_a3 _ _ _ _).1)
  obtain ⟨r0, r1, r2, r3, r4, r5, r6, r7, r8, r9, rz⟩ := blk10 ((f1.block (w.heap.size + 1) (by simp) trivial).trans (heap_a3 _ _ _ _).2.1)
  obtain ⟨s0, s1, s2, s3, s4, sz⟩ := blk5 ((f1.block (w.heap.size + 1 + 1) (by simp) trivial).trans (heap_a3 _ _ _ _).2.2)
  have FF := F0.then_all f1
  have hsz := f1.size
  simp only [World.size_alloc] at hsz o1
  dsimp only
  rw [en] at hil
  have hi' : decide ((i : Int) < (n : Int)) = true := by rw [decide_eq_true_eq]; omega
  go_upto_region 6 with (fail)
  refine wp_name ?_
  intro W hW
  have p0' : W.cell? ⟨w.heap.size, 0, none⟩ = some (.int .i64 p.id) := by rw [hW]; go_simp
  have p1' : W.cell? ⟨w.heap.size, 1, none⟩ = some (.int .i64 lsn) := by rw [hW]; refine World.cell?_setCell_same _ _ _ (u := .int .i64 p.lsn) ?_; go_simp
  have p2' : W.cell? ⟨w.heap.size, 2, none⟩ = some (.int .i64 p.level) := by rw [hW]; go_simp
  have p3' : W.cell? ⟨w.heap.size, 3, none⟩ = some (.int .i64 p.next) := by rw [hW]; go_simp
  have p4' : W.cell? ⟨w.heap.size, 4, none⟩ = some (.slice A1 n c1) := by rw [hW]; go_simp
  have pz' : ∀ j, W.frozen? ⟨w.heap.size, j, none⟩ = false := by intro j; rw [hW]; go_simp
  have r5' : W.cell? ⟨w.heap.size + 1, 5, none⟩ = some (.int .i64 4) := by rw [hW]; go_simp
  have r6' : W.cell? ⟨w.heap.size + 1, 6, none⟩ = some (.int .i64 slot) := by rw [hW]; go_simp
  have r7' : W.cell? ⟨w.heap.size + 1, 7, none⟩ = some (.slice K0 k0 j0) := by rw [hW]; go_simp
  have r8' : W.cell? ⟨w.heap.size + 1, 8, none⟩ = some (.slice K1 k1 j1) := by rw [hW]; go_simp
  have s0' : W.cell? ⟨w.heap.size + 1 + 1, 0, none⟩ = some (.int .i64 0) := by rw [hW]; go_simp
  have s1' : W.cell? ⟨w.heap.size + 1 + 1, 1, none⟩ = some (.int .i64 0) := by rw [hW]; go_simp
  have s2' : W.cell? ⟨w.heap.size + 1 + 1, 2, none⟩ = some (.int .i64 0) := by rw [hW]; go_simp
  have s3' : W.cell? ⟨w.heap.size + 1 + 1, 3, none⟩ = some (.int .i64 0) := by rw [hW]; go_simp
  have s4' : W.cell? ⟨w.heap.size + 1 + 1, 4, none⟩ = some (.slice none 0 0) := by rw [hW]; go_simp
  have sz' : ∀ j, W.frozen? ⟨w.heap.size + 1 + 1, j, none⟩ = false := by intro j; rw [hW]; go_simp
  have FW : Fr All w W := by
    rw [hW]
    repeat (first | (with_reducible exact FF) | with_reducible refine Fr.setNew ?_ (by dsimp only; omega) _)
  have oW : Own kEnt 70 (w.heap.size + 1 + 1 + 1) (From (w.heap.size + 1 + 1 + 1)) W (.slice A1 n c1) p.ents := by
    rw [hW, ← en]
    refine o1.past (B := w.heap.size + 3) ?_ (by omega)
    repeat (first | (with_reducible exact Fr.refl _ _) | with_reducible refine Fr.setCell ?_ (fun m hm => by unfold From at hm; dsimp only; omega) _)
  have hszW : w.heap.size + 1 + 1 + 1 ≤ W.heap.size := by rw [hW]; simp only [World.size_setCell]; exact hsz
  clear hW p0 p1 p2 p3 p4 pz r0 r1 r2 r3 r4 r5 r6 r7 r8 r9 rz s0 s1 s2 s3 s4 sz FF hsz o1 f1
  rw [Hsl.out] at r6'
  obtain ⟨g, cur, cs, hA1, hbg, hg, hnc, hc, hcs, ht, hxl, hcl, hr⟩ := own_open oW (by omega)
  subst hA1
  have hglt := (Array.getElem?_eq_some_iff.1 hg).1
  have hcell : ∃ u0, W.cell? ⟨g, i * 2 + 1, none⟩ = some u0 := by
    obtain ⟨el, hk, hel⟩ := hr.get Hi.out
    obtain ⟨v0, v1, rfl, _, _⟩ := kEnt_open hk
    have h1 : cs[i * 2 + 1]? = some v1 := hel 1 v1 rfl
    rw [← ht, List.getElem?_take] at h1
    split at h1
    · exact ⟨v1, ((blk_cells hg).1 _).trans (by simpa using h1)⟩
    · cases h1
  obtain ⟨u0, hu0⟩ := hcell
  have hgz : W.frozen? ⟨g, i * 2 + 1, none⟩ = false := (blk_cells hg).2 _
  clear hr hg hcs ht hxl hcl
  go_upto_region 17 with (fail)
  have hkb : w.heap.size + 1 < W.heap.size := by omega
  have hpb : w.heap.size < W.heap.size := by omega
  have hvW := hvv.all FW
  have hVl := hvv.len
  have bi0 : (0 : Int) ≤ (i : Int) := by omega
  have bi1 : (i : Int) < (n : Int) := by omega
  refine wp_region_last (S := fun w' => w'.cell? ⟨w.heap.size, 4, none⟩ = some (.slice (some ⟨g, 0, none⟩) n c1) ∧ w'.cell? ⟨w.heap.size + 1, 6, none⟩ = some (.int .i64 i) ∧ w'.cell? ⟨w.heap.size + 1, 8, none⟩ = some (.slice K1 k1 j1)) 9 (by kernel_rfl) rfl (by kernel_rfl) ⟨p4', r6', r8'⟩ (fun hHeld => ?_)
  simp only [List.take_succ_cons, List.take_zero]
  refine wpAnyH_take (i := 0) (v := ?_) rfl (by kernel_rfl) (by kernel_rfl) (by kernel_rfl) (fun _ _ _ h => h) (Or.inl ⟨by rfl, ?_⟩) (by assumption) ?_
  rotate_left
  · (intro w hSw; (try dsimp only at hSw); go_simp; try with_reducible rfl)
  try simp only [Act.put]
  try simp only [List.setIfInBounds_toArray]
  try simp only [List.set_cons_succ]
  try simp only [List.set_cons_zero]
  refine wpAnyH_take (i := 1) (v := ?_) rfl (by kernel_rfl) (by kernel_rfl) (by kernel_rfl) (fun _ _ _ h => h) (Or.inl ⟨by rfl, ?_⟩) (by assumption) ?_
  rotate_left
  · (intro w hSw; (try dsimp only at hSw); go_simp; try with_reducible rfl)
  try simp only [Act.put]
  try simp only [List.setIfInBounds_toArray]
  try simp only [List.set_cons_succ]
  try simp only [List.set_cons_zero]
  refine wpAnyH_take (i := 2) (v := ?_) rfl (by kernel_rfl) (by kernel_rfl) (by kernel_rfl) (fun _ _ _ h => h) (Or.inl ⟨by rfl, ?_⟩) (by assumption) ?_
  rotate_left
  · (intro w hSw; (try dsimp only at hSw); go_simp; try with_reducible rfl)
  try simp only [Act.put]
  try simp only [List.setIfInBounds_toArray]
  try simp only [List.set_cons_succ]
  try simp only [List.set_cons_zero]
  refine wpAnyH_take (i := 3) (v := ?_) rfl (by kernel_rfl) (by kernel_rfl) (by kernel_rfl) (fun _ _ _ h => h) (Or.inl ⟨by rfl, ?_⟩) (by assumption) ?_
  rotate_left
  · (intro w hSw; (try dsimp only at hSw); go_simp; try with_reducible rfl)
  try simp only [Act.put]
  try simp only [List.setIfInBounds_toArray]
  try simp only [List.set_cons_succ]
  try simp only [List.set_cons_zero]
  refine wpAnyH_take (i := 4) (v := ?_) rfl (by kernel_rfl) (by kernel_rfl) (by kernel_rfl) (fun _ _ _ h => h) (Or.inl ⟨by rfl, ?_⟩) (by assumption) ?_
  rotate_left
  · (intro w hSw; (try dsimp only at hSw); go_simp; try with_reducible rfl)
  try simp only [Act.put]
  try simp only [List.setIfInBounds_toArray]
  try simp only [List.set_cons_succ]
  try simp only [List.set_cons_zero]
  refine wpAnyH_take (i := 5) (v := ?_) rfl (by kernel_rfl) (by kernel_rfl) (by kernel_rfl) (fun _ _ _ h => h) (Or.inl ⟨by rfl, ?_⟩) (by assumption) ?_
  rotate_left
  · (intro w hSw; (try dsimp only at hSw); go_simp; try with_reducible rfl)
  try simp only [Act.put]
  try simp only [List.setIfInBounds_toArray]
  try simp only [List.set_cons_succ]
  try simp only [List.set_cons_zero]
  refine wpAnyH_ready (rs := [6]) (by kernel_rfl) (by simp) (AllReadyH.cons rfl (fun K hK => ?_) AllReadyH.nil)
  go_simp
  refine (clone_bytes (hvW.all (Fr.refl All W).drew) (by omega)).mono ?_
  rintro e w5 ⟨A5, n5, rfl, o5, f5⟩
  go_simp
  have F4 : Fr All W w5 := (Fr.refl All W).drew.then_all f5
  refine hK.out _ _ ⟨F4.cell trivial p4', F4.cell trivial r6', F4.cell trivial r8'⟩ (fun hHeld => ?_)
  clear hK K
  try simp only [Act.put]
  try simp only [List.setIfInBounds_toArray]
  try simp only [List.set_cons_succ]
  try simp only [List.set_cons_zero]
  refine wpAnyH_take (i := 7) (v := ?_) rfl (by kernel_rfl) (by kernel_rfl) (by kernel_rfl) (fun _ _ _ h => h) (Or.inl ⟨by rfl, ?_⟩) (by assumption) ?_
  rotate_left
  · (intro w hSw; (try dsimp only at hSw); go_simp; try with_reducible rfl)
  try simp only [Act.put]
  try simp only [List.setIfInBounds_toArray]
  try simp only [List.set_cons_succ]
  try simp only [List.set_cons_zero]
  refine wpAnyH_take (i := 8) (v := ?_) rfl (by kernel_rfl) (by kernel_rfl) (by kernel_rfl) (fun _ _ _ h => h) (Or.inl ⟨by rfl, ?_⟩) (by assumption) ?_
  rotate_left
  · (intro w hSw; (try dsimp only at hSw); go_simp; try with_reducible rfl)
  try simp only [Act.put]
  try simp only [List.setIfInBounds_toArray]
  try simp only [List.set_cons_succ]
  try simp only [List.set_cons_zero]
  have g0 : w5.cell? ⟨w.heap.size, 0, none⟩ = _ := F4.cell trivial p0'
  have g1 : w5.cell? ⟨w.heap.size, 1, none⟩ = _ := F4.cell trivial p1'
  have g2 : w5.cell? ⟨w.heap.size, 2, none⟩ = _ := F4.cell trivial p2'
  have g3 : w5.cell? ⟨w.heap.size, 3, none⟩ = _ := F4.cell trivial p3'
  have g4 : w5.cell? ⟨w.heap.size, 4, none⟩ = _ := F4.cell trivial p4'
  have q0 : w5.cell? ⟨w.heap.size + 1 + 1, 0, none⟩ = _ := F4.cell trivial s0'
  have q1 : w5.cell? ⟨w.heap.size + 1 + 1, 1, none⟩ = _ := F4.cell trivial s1'
  have q2 : w5.cell? ⟨w.heap.size + 1 + 1, 2, none⟩ = _ := F4.cell trivial s2'
  have q3 : w5.cell? ⟨w.heap.size + 1 + 1, 3, none⟩ = _ := F4.cell trivial s3'
  have q4 : w5.cell? ⟨w.heap.size + 1 + 1, 4, none⟩ = _ := F4.cell trivial s4'
  have hpb2 : w.heap.size + 1 + 1 < W.heap.size := by omega
  have qz : ∀ j, w5.frozen? ⟨w.heap.size + 1 + 1, j, none⟩ = false := fun j => (World.frozen?_of_block (a := ⟨w.heap.size + 1 + 1, j, none⟩) (F4.block _ hpb2 trivial)).trans (sz' j)
  have gu : w5.cell? ⟨g, i * 2 + 1, none⟩ = some u0 := F4.cell trivial hu0
  have guz : w5.frozen? ⟨g, i * 2 + 1, none⟩ = false := (World.frozen?_of_block (a := ⟨g, i * 2 + 1, none⟩) (F4.block _ hglt trivial)).trans hgz
  have F5 : Fr All w w5 := FW.then_all F4
  have hs5 : w.heap.size + 1 + 1 + 1 ≤ w5.heap.size := Nat.le_trans hszW F4.size
  rw [hVl] at o5
  have ho : Own kEnt 70 (w.heap.size + 1 + 1 + 1) (From (w.heap.size + 1 + 1 + 1)) (w5.setCell ⟨g, i * 2 + 1, none⟩ (.slice A5 k1 n5)) (.slice (some ⟨g, 0, none⟩) n c1) (p.ents.set i ⟨x.key, val⟩) :=
    (oW.all F4).setVal Hi.out (o5.plain_in (fun b hb hl => ⟨by have : W.drew.heap.size = W.heap.size := rfl; unfold From; omega, by have : W.drew.heap.size = W.heap.size := rfl; omega⟩))
  have hgp : w.heap.size + 1 + 1 < g := by omega
  clear hHeld f5 F4 o5 p0' p1' p2' p3' p4' pz' r5' r6' r7' r8' s0' s1' s2' s3' s4' sz' oW FW hvW
  refine wpAnyH_done (by kernel_rfl) ?_ _
  show wpList _ _ _ _ _ _
  go_wp2_with fail
  have hlen : (p.ents.set i ⟨x.key, val⟩).length = n := by rw [List.length_set]; exact en
  refine bodyPost_ret (v := .agg #[.int .i64 p.id, .int .i64 lsn, .int .i64 p.level, .int .i64 p.next, .slice (some ⟨g, 0, none⟩) n c1]) ?_ rfl ⟨some ⟨g, 0, none⟩, c1, by dsimp only; rw [hlen], ?_, ?_⟩
  · simp [results, Tryd.results85, go_sem, q0, q1, q2, q3, q4]
  · dsimp only
    rw [hlen]
    refine (ho.past (B := w.heap.size + 3) ?_ (by omega)).widen (by omega)
    repeat (first | (with_reducible exact Fr.refl _ _) | with_reducible refine Fr.setCell ?_ (fun m hm => by unfold From at hm; dsimp only; omega) _)
  · repeat (first | (with_reducible exact F5) | with_reducible refine Fr.setNew ?_ (by dsimp only; omega) _)
end Go.Proofs.YtalidmlomfobdaaDoor
