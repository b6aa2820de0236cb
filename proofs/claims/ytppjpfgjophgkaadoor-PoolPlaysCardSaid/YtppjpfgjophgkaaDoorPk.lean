/- A pool as a walk reads it; New, Get, Wants, Len. -/
import Derived.Test.YtppjpfgjophgkaaDoorMk
import Derived.Test.YtppjpfgjophgkaaDoorPClone
import Derived.Deep.Cut
namespace Go.Proofs.YtppjpfgjophgkaaDoor
open Go.RowKit Go.Maps

def Off (B bs bp : Nat) (x : Nat) : Prop := x ≠ B ∧ x ≠ bs ∧ x ≠ bp
def elPage : El Page where
  R := fun S w v p => ∃ A c, v = .agg #[.int .i64 p.id, .int .i64 p.lsn, .int .i64 p.level, .int .i64 p.next, .slice A p.ents.length c] ∧ Sl kEnt S w (.slice A p.ents.length c) p.ents
  move := fun h hf hs => by obtain ⟨A, c, rfl, h2⟩ := h; exact ⟨A, c, rfl, h2.move' hf hs⟩
  mono := fun h hs => by obtain ⟨A, c, rfl, h2⟩ := h; exact ⟨A, c, rfl, h2.mono hs⟩
def elTrue : El Unit where
  R := fun _ _ v _ => v = .bool true
  move := fun h _ _ => h
  mono := fun h _ => h

structure PSt where
  have_ : Int → Option Page
  nh : Nat
  wants : Int → Option Unit
  nw : Nat
/-- Nor in what is guarded. -/
def OffG (G : Nat → Prop) (B bs bp : Nat) (x : Nat) : Prop := Off B bs bp x ∧ ¬ G x
structure Pk (G : Nat → Prop) (w : World) (B l t : Nat) (s : PSt) : Prop where
  c0 : w.cell? ⟨B, 0, none⟩ = some (.map (some l))
  c1 : w.cell? ⟨B, 1, none⟩ = some (.map (some t))
  hv : GMap elPage Tryd.prog 3 (OffG G B l t) w l s.have_ s.nh
  tv : GMap elTrue Tryd.prog 3 (Off B l t) w t s.wants s.nw
  n1 : B ≠ l
  n2 : B ≠ t
  n3 : l ≠ t
  gg : ∀ x, G x → x < w.heap.size
theorem Pk.lt {G : Nat → Prop} {w : World} {B l t : Nat} {s : PSt} (h : Pk G w B l t s) : B < w.heap.size := World.block_lt_of_cell? w ⟨B, 0, none⟩ h.c0
theorem Pk.all {G : Nat → Prop} {w w' : World} {B l t : Nat} {s : PSt} (h : Pk G w B l t s) (f : Fr All w w') : Pk G w' B l t s :=
  ⟨f.cell (p := ⟨B, 0, none⟩) trivial h.c0, f.cell (p := ⟨B, 1, none⟩) trivial h.c1, h.hv.all f, h.tv.all f, h.n1, h.n2, h.n3, fun x hx => Nat.lt_of_lt_of_le (h.gg x hx) f.size⟩
/-- Another block turns. -/
theorem Pk.stays {G : Nat → Prop} {w w' : World} {B l t : Nat} {s s' : PSt} (h : Pk G w B l t s) {b : Nat} (f : Fr (fun x => x ≠ b) w w') (hb : B ≠ b) (h1 : GMap elPage Tryd.prog 3 (OffG G B l t) w' l s'.have_ s'.nh) (h2 : GMap elTrue Tryd.prog 3 (Off B l t) w' t s'.wants s'.nw) : Pk G w' B l t s' :=
  ⟨f.cell (p := ⟨B, 0, none⟩) hb h.c0, f.cell (p := ⟨B, 1, none⟩) hb h.c1, h1, h2, h.n1, h.n2, h.n3, fun x hx => Nat.lt_of_lt_of_le (h.gg x hx) f.size⟩

/-- Marks lie nowhere. -/
theorem GMap.free {P : Program} {K : TypeId} {S S' : Nat → Prop} {w : World} {b n : Nat} {m : Int → Option Unit} (h : GMap elTrue P K S w b m n) : GMap elTrue P K S' w b m n := by
  obtain ⟨D, h1, h2, h3⟩ := h
  refine ⟨D, h1, h2, fun k hk => ?_⟩
  have h4 := h3 k hk
  cases hm : m k with
  | none => rw [hm] at h4; exact h4
  | some xs =>
    rw [hm] at h4
    exact h4
/-- Behind a Get of a page that isn't at hand. -/
def PSt.want (s : PSt) (i : Int) : PSt := { s with wants := gput s.wants i (), nw := (if (s.wants i).isSome then s.nw else s.nw + 1) }

theorem zeroPage (w : World) : (zeroValue 30).run Tryd.prog w = .ok (.agg #[.int .i64 0, .int .i64 0, .int .i64 0, .int .i64 0, .slice none 0 0]) w := by kernel_rfl
theorem zeroTrue (w : World) : (zeroValue 4).run Tryd.prog w = .ok (.bool false) w := by kernel_rfl

set_option maxRecDepth 100000 in
theorem pool_new' (w : World) : Calls Tryd.prog 5 #[] w fun e w' => ∃ B l t, e = .returned (.pointer (some ⟨B, 0, none⟩)) ∧ w.heap.size ≤ B ∧ w.heap.size ≤ l ∧ w.heap.size ≤ t ∧ Pk (fun _ => False) w' B l t ⟨fun _ => none, 0, fun _ => none, 0⟩ ∧ w'.heap[B]? = some (.cells #[.map (some l), .map (some t)] 63 (0, 0)) ∧ Fr All w w' := by
  have hmm := @run_makeMap Tryd.prog
  go_enter Tryd.func5, Tryd.ntmps5
  go_wp2_with fail
  go_ret
  have e1 : (w.alloc (.map #[] 0)).heap.size = w.heap.size + 1 := by simp
  have e2 : ((w.alloc (.map #[] 0)).alloc (.map #[] 0)).heap.size = w.heap.size + 1 + 1 := by simp
  have B := heap_alloc_new ((w.alloc (.map #[] 0)).alloc (.map #[] 0)) (.cells #[.map (some w.heap.size), .map (some (w.heap.size + 1))] 63)
  rw [e2] at B
  obtain ⟨b0, b1, bz⟩ := blk2 B
  have f2 := (Fr.refl All ((w.alloc (.map #[] 0)).alloc (.map #[] 0))).alloc (.cells #[.map (some w.heap.size), .map (some (w.heap.size + 1))] 63)
  have m1 := ((GMap.made (P := Tryd.prog) (K := 3) elPage w (OffG (fun _ => False) (w.heap.size + 1 + 1) w.heap.size (w.heap.size + 1))).all ((Fr.refl All _).alloc (.map #[] 0))).all f2
  have m2 := (GMap.made (P := Tryd.prog) (K := 3) elTrue (w.alloc (.map #[] 0)) (Off (w.heap.size + 1 + 1) w.heap.size (w.heap.size + 1))).all f2
  rw [e1] at m2
  exact ⟨w.heap.size + 1 + 1, w.heap.size, w.heap.size + 1, rfl, by omega, Nat.le_refl _, by omega, ⟨b0, b1, m1, m2, by omega, by omega, by omega, fun _ hx => hx.elim⟩, B, (((Fr.refl All w).alloc _).alloc _).alloc _⟩

theorem pool_new (w : World) : Calls Tryd.prog 5 #[] w fun e w' => ∃ B l t, e = .returned (.pointer (some ⟨B, 0, none⟩)) ∧ w.heap.size ≤ B ∧ w.heap.size ≤ l ∧ w.heap.size ≤ t ∧ Pk (fun _ => False) w' B l t ⟨fun _ => none, 0, fun _ => none, 0⟩ ∧ Fr All w w' :=
  (pool_new' w).mono fun _ _ ⟨B, l, t, h1, h2, h3, h4, h5, _, h6⟩ => ⟨B, l, t, h1, h2, h3, h4, h5, h6⟩

theorem pool_len {G : Nat → Prop} {w : World} {B l t : Nat} {s : PSt} (h : Pk G w B l t s) : Calls Tryd.prog 9 #[.pointer (some ⟨B, 0, none⟩)] w fun e w' => e = .returned (.int .i64 (s.nh : Int)) ∧ w' = w := by
  have c := h.c0
  have hl := h.hv.len Tryd.underlying60 3
  clear h
  go_enter Tryd.func9, Tryd.ntmps9
  go_wp2_with fail
  go_ret
  exact ⟨rfl, rfl⟩
set_option maxRecDepth 100000 in
theorem pool_wants {G : Nat → Prop} {w : World} {B l t : Nat} {s : PSt} (h : Pk G w B l t s) (hn : s.nw ≤ 1000000) : Calls Tryd.prog 25 #[.pointer (some ⟨B, 0, none⟩)] w fun e w' => ∃ A c ks, e = .returned (.slice A s.nw c) ∧ ks.length = s.nw ∧ ks.Pairwise (· < ·) ∧ (∀ k, k ∈ ks ↔ In64 k ∧ (s.wants k).isSome) ∧ Sl kInt All w' (.slice A s.nw c) ks ∧ Fr All w w' := by
  have H := Lib.hid h
  have q1 := h.c1
  clear h
  go_enter Tryd.func25, Tryd.ntmps25
  go_wp2_with fail
  refine (keysb_call _ _).mono ?_
  rintro e W ⟨rfl, hW⟩
  have F0 := (Fr.refl All w).alloc (.cells #[.map (some t)] 61)
  have B0 := heap_alloc_new w (.cells #[.map (some t)] 61)
  rw [← hW] at F0 B0
  clear hW
  obtain ⟨b0, _⟩ := blk1 B0
  go_wp2_with fail
  refine (sortedb_map (H.out.tv.all F0) b0 hn).mono ?_
  rintro e w1 ⟨A, c, ks, rfl, hkl, hrise, hmem, ho, f1⟩
  have HK := Lib.hid hkl
  have HR := Lib.hid hrise
  have HM := Lib.hid hmem
  have HO := Lib.hid ho.sl
  clear hkl hrise hmem ho b0 B0
  go_wp2_with fail
  go_ret
  exact ⟨A, c, ks, rfl, HK.out, HR.out, HM.out, HO.out.mono fun _ _ _ => trivial, F0.trans f1⟩

set_option maxRecDepth 100000 in
set_option maxHeartbeats 1000000 in
theorem pool_get_none {G : Nat → Prop} {w : World} {B l t : Nat} {s : PSt} (h : Pk G w B l t s) {i : Int} (h0 : 0 ≤ i) (h1 : i < 256) (hm : s.have_ i = none) (hn : s.nw ≤ 100000) :
    Calls Tryd.prog 16 #[.pointer (some ⟨B, 0, none⟩), .int .i64 i] w fun e w' => e = .returned (.tuple #[.agg #[.int .i64 0, .int .i64 0, .int .i64 0, .int .i64 0, .slice none 0 0], .bool false]) ∧ Pk G w' B l t (s.want i) ∧ Fr (Off B l t) w w' := by
  have hi : In64 i := in64_of (by omega) (by omega)
  have d1 : decide (i ≥ 0) = true := decide_eq_true (by omega)
  have d2 : decide (i < 256) = true := decide_eq_true h1
  have F0 := (Fr.refl All w).alloc (.cells #[.int .i64 0, .int .i64 0, .int .i64 0, .int .i64 0, .slice none 0 0] 30)
  have hw : ∀ W, Fr All w W → (Instr.lookup 60 (.map (some l)) (.int .i64 i) true).run Tryd.prog W = .ok (.tuple #[.agg #[.int .i64 0, .int .i64 0, .int .i64 0, .int .i64 0, .slice none 0 0], .bool false]) W := fun W f => (h.hv.all f).look_none Tryd.underlying3 Tryd.underlying60 zeroPage hi hm
  have F1 := F0.alloc (.cells #[.int .i64 0, .int .i64 0, .int .i64 0, .int .i64 0, .slice none 0 0] 30)
  have hr := hw _ F0
  have HB := Lib.hid (heap_alloc_new w (.cells #[.int .i64 0, .int .i64 0, .int .i64 0, .int .i64 0, .slice none 0 0] 30))
  have q0 := h.c0
  have q1 := h.c1
  have hlt := h.lt
  have H := Lib.hid h
  clear hw h h0 h1 hm
  go_enter Tryd.func16, Tryd.ntmps16
  go_upto_region 4 with (fail)
  refine wp_name ?_
  intro W hW
  rw [← hW] at F1
  have B1 : W.heap[w.heap.size]? = some (.cells #[.int .i64 0, .int .i64 0, .int .i64 0, .int .i64 0, .slice none 0 0] 30 (0, 0)) := by
    rw [hW]
    exact heap_alloc2_old w _ _
  clear hW F0 hr
  have q1' := F1.cell (p := ⟨B, 1, none⟩) trivial q1
  obtain ⟨w3, hr3, m3, f3⟩ := (H.out.all F1).tv.put Tryd.underlying3 Tryd.underlying61 hi (by omega) (v := .bool true) (x := ()) rfl (fun x hx => hx.2.2)
  have hlt2 := H.out.tv.lt
  have B3 := (f3.block _ (blk_lt B1) (show w.heap.size ≠ t by omega)).trans B1
  obtain ⟨e0, e1, e2, e3, e4, ez⟩ := blk5 B3
  have M3 := Lib.hid m3
  clear m3 q0 q1
  go_wp2_with fail
  have hsz := f3.size
  have hs1 := blk_lt B1
  have F5 : Fr (fun x => x ≠ w.heap.size) w3 (((((w3.setCell ⟨w.heap.size, 0, none⟩ (.int .i64 0)).setCell ⟨w.heap.size, 1, none⟩ (.int .i64 0)).setCell ⟨w.heap.size, 2, none⟩ (.int .i64 0)).setCell ⟨w.heap.size, 3, none⟩ (.int .i64 0)).setCell ⟨w.heap.size, 4, none⟩ (.slice none 0 0)) := by
    repeat (first | (with_reducible exact Fr.refl _ _) | with_reducible refine Fr.setCell ?_ (fun m hm => by exact hm) _)
  have FF : Fr (fun x => x ≠ t) w (((((w3.setCell ⟨w.heap.size, 0, none⟩ (.int .i64 0)).setCell ⟨w.heap.size, 1, none⟩ (.int .i64 0)).setCell ⟨w.heap.size, 2, none⟩ (.int .i64 0)).setCell ⟨w.heap.size, 3, none⟩ (.int .i64 0)).setCell ⟨w.heap.size, 4, none⟩ (.slice none 0 0)) := by
    have FF0 : Fr (fun x => x ≠ t) w w3 := (F1.mono fun _ _ => trivial).trans f3
    repeat (first | (with_reducible exact FF0) | with_reducible refine Fr.setNew ?_ (by dsimp only; omega) _)
  refine bodyPost_ret (v := .tuple #[.agg #[.int .i64 0, .int .i64 0, .int .i64 0, .int .i64 0, .slice none 0 0], .bool false]) ?_ rfl ⟨rfl, ?_, FF.mono fun x (hx : Off B l t x) => hx.2.2⟩
  · simp [results, Tryd.results16, go_sem, e0, e1, e2, e3, e4]
  · exact ⟨FF.cell (p := ⟨B, 0, none⟩) H.out.n2 H.out.c0, FF.cell (p := ⟨B, 1, none⟩) H.out.n2 H.out.c1, H.out.hv.move FF H.out.n3 (fun _ hx _ => hx.1.2.2), ((M3.out.free (S' := Nowhere)).move F5 (show t ≠ w.heap.size by omega) (fun _ hx _ => hx.elim)).free, H.out.n1, H.out.n2, H.out.n3, fun x hx => Nat.lt_of_lt_of_le (H.out.gg x hx) FF.size⟩

set_option maxRecDepth 100000 in
set_option maxHeartbeats 1000000 in
theorem pool_get_some {G : Nat → Prop} {w : World} {B l t : Nat} {s : PSt} {p : Page} (h : Pk G w B l t s) {i : Int} (hi : In64 i) (hm : s.have_ i = some p) (ok : EntsOk p.ents) :
    Calls Tryd.prog 16 #[.pointer (some ⟨B, 0, none⟩), .int .i64 i] w fun e w' => ∃ A c, e = .returned (.tuple #[.agg #[.int .i64 p.id, .int .i64 p.lsn, .int .i64 p.level, .int .i64 p.next, .slice A p.ents.length c], .bool true]) ∧ Sl kEnt All w' (.slice A p.ents.length c) p.ents ∧ Pk G w' B l t s ∧ Fr All w w' := by
  have F0 := (Fr.refl All w).alloc (.cells #[.int .i64 0, .int .i64 0, .int .i64 0, .int .i64 0, .slice none 0 0] 30)
  obtain ⟨v, hr, A, c, rfl, hs⟩ := (h.hv.all F0).look_some Tryd.underlying3 Tryd.underlying60 zeroPage hi hm
  have q0 := h.c0
  have hlt := h.lt
  have H := Lib.hid h
  have HS := Lib.hid hs
  obtain ⟨pid, lsn, level, next, ents⟩ := p
  dsimp only at hr HS ok ⊢
  obtain ⟨n, hn⟩ : ∃ n, ents.length = n := ⟨_, rfl⟩
  rw [hn] at hr HS
  have HN := Lib.hid hn
  clear h hm hs hn
  go_enter Tryd.func16, Tryd.ntmps16
  go_wp2_with fail
  refine (page_clone' (p := ⟨pid, lsn, level, next, ents⟩) (HS.out.all ((Fr.refl All _).alloc (.cells #[.int .i64 pid, .int .i64 lsn, .int .i64 level, .int .i64 next, .slice A n c] 30))) ok).mono ?_
  rintro e w3 ⟨A3, c3, rfl, o3, f3⟩
  dsimp only
  have B3 := (f3.block w.heap.size (by simp; omega) trivial).trans (heap_alloc2_old w (.cells #[.int .i64 0, .int .i64 0, .int .i64 0, .int .i64 0, .slice none 0 0] 30) (.cells #[.int .i64 pid, .int .i64 lsn, .int .i64 level, .int .i64 next, .slice A n c] 30))
  obtain ⟨e0, e1, e2, e3, e4, ez⟩ := blk5 B3
  have F3 : Fr All w w3 := (F0.alloc (.cells #[.int .i64 pid, .int .i64 lsn, .int .i64 level, .int .i64 next, .slice A n c] 30)).trans f3
  have hsz := f3.size
  have O3 := Lib.hid (o3.sl.mono (T := fun b => w.heap.size + 2 ≤ b) (fun b hb _ => by
    have hs2 : ((w.alloc (.cells #[.int .i64 0, .int .i64 0, .int .i64 0, .int .i64 0, .slice none 0 0] 30)).alloc (.cells #[.int .i64 pid, .int .i64 lsn, .int .i64 level, .int .i64 next, .slice A n c] 30)).heap.size = w.heap.size + 2 := by simp
    rcases hb with hb | hb
    · unfold From at hb; omega
    · have := own_lt o3 b hb.symm; omega))
  simp only [World.size_alloc] at hsz
  clear o3 hr f3 B3 q0
  go_wp2_with fail
  have FF : Fr All w (((((w3.setCell ⟨w.heap.size, 0, none⟩ (.int .i64 pid)).setCell ⟨w.heap.size, 1, none⟩ (.int .i64 lsn)).setCell ⟨w.heap.size, 2, none⟩ (.int .i64 level)).setCell ⟨w.heap.size, 3, none⟩ (.int .i64 next)).setCell ⟨w.heap.size, 4, none⟩ (.slice A3 ents.length c3)) := by
    repeat (first | (with_reducible exact F3) | with_reducible refine Fr.setNew ?_ (by dsimp only; omega) _)
  have FU : Fr (fun b => b ≠ w.heap.size) w3 (((((w3.setCell ⟨w.heap.size, 0, none⟩ (.int .i64 pid)).setCell ⟨w.heap.size, 1, none⟩ (.int .i64 lsn)).setCell ⟨w.heap.size, 2, none⟩ (.int .i64 level)).setCell ⟨w.heap.size, 3, none⟩ (.int .i64 next)).setCell ⟨w.heap.size, 4, none⟩ (.slice A3 ents.length c3)) := by
    repeat (first | (with_reducible exact Fr.refl _ _) | with_reducible refine Fr.setCell ?_ (fun m hm => by exact hm) _)
  refine bodyPost_ret (v := .tuple #[.agg #[.int .i64 pid, .int .i64 lsn, .int .i64 level, .int .i64 next, .slice A3 ents.length c3], .bool true]) ?_ rfl ⟨A3, c3, rfl, (O3.out.move' FU (fun b hb _ => by omega)).mono (fun _ _ _ => trivial), H.out.all FF, FF⟩
  simp [results, Tryd.results16, go_sem, e0, e1, e2, e3, e4]
/-- A Get of no page's number. -/
theorem pool_get_no {G : Nat → Prop} {w : World} {B l t : Nat} {s : PSt} (h : Pk G w B l t s) {i : Int} (hi : In64 i) (hout : ¬ (0 ≤ i ∧ i < 256)) (hm : s.have_ i = none) :
    Calls Tryd.prog 16 #[.pointer (some ⟨B, 0, none⟩), .int .i64 i] w fun e w' => e = .returned (.tuple #[.agg #[.int .i64 0, .int .i64 0, .int .i64 0, .int .i64 0, .slice none 0 0], .bool false]) ∧ Pk G w' B l t s ∧ Fr All w w' := by
  have F0 := (Fr.refl All w).alloc (.cells #[.int .i64 0, .int .i64 0, .int .i64 0, .int .i64 0, .slice none 0 0] 30)
  have hw : ∀ W, Fr All w W → (Instr.lookup 60 (.map (some l)) (.int .i64 i) true).run Tryd.prog W = .ok (.tuple #[.agg #[.int .i64 0, .int .i64 0, .int .i64 0, .int .i64 0, .slice none 0 0], .bool false]) W := fun W f => (h.hv.all f).look_none Tryd.underlying3 Tryd.underlying60 zeroPage hi hm
  have F1 := F0.alloc (.cells #[.int .i64 0, .int .i64 0, .int .i64 0, .int .i64 0, .slice none 0 0] 30)
  have hr := hw _ F0
  have B1 := heap_alloc2_old w (.cells #[.int .i64 0, .int .i64 0, .int .i64 0, .int .i64 0, .slice none 0 0] 30) (.cells #[.int .i64 0, .int .i64 0, .int .i64 0, .int .i64 0, .slice none 0 0] 30)
  have q0 := h.c0
  have hlt := h.lt
  have H := Lib.hid h
  obtain ⟨e0, e1, e2, e3, e4, ez⟩ := blk5 B1
  have hcases : decide (i ≥ 0) = false ∨ (decide (i ≥ 0) = true ∧ decide (i < 256) = false) := by
    by_cases h0 : 0 ≤ i
    · exact .inr ⟨decide_eq_true h0, decide_eq_false (by omega)⟩
    · exact .inl (decide_eq_false (by omega))
  clear hw h hm B1 hout
  rcases hcases with d1 | ⟨d1, d2⟩
  · go_enter Tryd.func16, Tryd.ntmps16
    go_wp2_with fail
    refine bodyPost_ret (v := .tuple #[.agg #[.int .i64 0, .int .i64 0, .int .i64 0, .int .i64 0, .slice none 0 0], .bool false]) ?_ rfl ⟨rfl, H.out.all F1, F1⟩
    simp [results, Tryd.results16, go_sem, e0, e1, e2, e3, e4]
  · go_enter Tryd.func16, Tryd.ntmps16
    go_wp2_with fail
    refine bodyPost_ret (v := .tuple #[.agg #[.int .i64 0, .int .i64 0, .int .i64 0, .int .i64 0, .slice none 0 0], .bool false]) ?_ rfl ⟨rfl, H.out.all F1, F1⟩
    simp [results, Tryd.results16, go_sem, e0, e1, e2, e3, e4]
/-- Another guard, for what has come since, or was guarded. -/
theorem Pk.grow {G G' S : Nat → Prop} {w w' : World} {B l t : Nat} {s : PSt} (h : Pk G w B l t s) (f : Fr S w w') (hB : S B) (hl : S l) (ht : S t) (hS : ∀ x, Off B l t x → ¬ G x → x < w.heap.size → S x) (hG : ∀ x, G' x → x < w.heap.size → G x) (hgg : ∀ x, G' x → x < w'.heap.size) : Pk G' w' B l t s := by
  have m1 := (h.hv.mono (S' := fun x => OffG G B l t x ∧ x < w.heap.size) fun x hx hx2 => ⟨hx, hx2⟩).move f hl (fun x hx _ => hS x hx.1.1 hx.1.2 hx.2)
  exact ⟨f.cell (p := ⟨B, 0, none⟩) hB h.c0, f.cell (p := ⟨B, 1, none⟩) hB h.c1, m1.mono fun x hx _ => ⟨hx.1.1, fun hg => hx.1.2 (hG x hg hx.2)⟩, (h.tv.free (S' := Nowhere)).move f ht (fun _ hx _ => hx.elim) |>.free, h.n1, h.n2, h.n3, hgg⟩
end Go.Proofs.YtppjpfgjophgkaaDoor
