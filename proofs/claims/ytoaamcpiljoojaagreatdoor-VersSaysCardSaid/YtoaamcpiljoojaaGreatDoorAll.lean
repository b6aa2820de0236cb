/- page.All with at most twenty records. -/
import Derived.Test.YtoaamcpiljoojaaGreatDoorRClones
import Derived.Test.YtoaamcpiljoojaaGreatDoorWorld
import Derived.Test.YtoaamcpiljoojaaGreatDoorApply4
import Derived.Test.YtoaamcpiljoojaaGreatDoorPNew
namespace Go.Proofs.YtoaamcpiljoojaaGreatDoor
open Go.RowKit

theorem papply_small {p : Page} {r : Redo} (h : p.ents.length ≤ 8 ∧ ∀ e ∈ p.ents, e.key.length ≤ 32 ∧ e.val.length ≤ 64) (hk : r.key.length ≤ 32) (hv : r.val.length ≤ 64) :
    (papply p r).ents.length ≤ 8 ∧ ∀ e ∈ (papply p r).ents, e.key.length ≤ 32 ∧ e.val.length ≤ 64 := by
  obtain ⟨h1, h2⟩ := h
  unfold papply
  split
  · exact ⟨h1, h2⟩
  split
  · exact ⟨by simp, fun e he => by simp at he⟩
  split
  · split
    · refine ⟨?_, fun e he => ?_⟩
      · simp only [List.length_append, List.length_take, List.length_cons, List.length_drop]
        omega
      · rcases List.mem_append.1 he with he | he
        · exact h2 e (List.mem_of_mem_take he)
        · rcases List.mem_cons.1 he with rfl | he
          · exact ⟨hk, hv⟩
          · exact h2 e (List.mem_of_mem_drop he)
    · exact ⟨h1, h2⟩
  split
  · split
    · refine ⟨?_, fun e he => ?_⟩
      · simp only [List.length_append, List.length_take, List.length_drop]
        omega
      · rcases List.mem_append.1 he with he | he
        · exact h2 e (List.mem_of_mem_take he)
        · exact h2 e (List.mem_of_mem_drop he)
    · exact ⟨h1, h2⟩
  split
  · split
    · rename_i x hx
      refine ⟨by rw [List.length_set]; exact h1, fun e he => ?_⟩
      rcases List.mem_or_eq_of_mem_set he with he | rfl
      · exact h2 e he
      · exact ⟨(h2 x (List.mem_of_getElem? hx)).1, hv⟩
    · exact ⟨h1, h2⟩
  split
  · exact ⟨h1, h2⟩
  split
  · exact ⟨by rw [List.length_take]; omega, fun e he => h2 e (List.mem_of_mem_take he)⟩
  · exact ⟨h1, h2⟩

def SmallP (p : Page) : Prop := p.ents.length ≤ 8 ∧ ∀ e ∈ p.ents, e.key.length ≤ 32 ∧ e.val.length ≤ 64
theorem SmallP.ok {p : Page} (h : SmallP p) : EntsOk p.ents := ⟨by have := h.1; omega, fun e he => by have := h.2 e he; omega⟩
/-- Right records: short, with a slot that is no less than none. -/
def RightL (l : List Redo) : Prop := ∀ r ∈ l, validIx r = none
theorem RightL.short {l : List Redo} (h : RightL l) {r : Redo} (hr : r ∈ l) : r.key.length ≤ 32 ∧ r.val.length ≤ 64 ∧ 0 ≤ r.slot := by
  have := validIx_none (h r hr)
  omega
def pall (p : Page) (l : List Redo) : Page := l.foldl papply p
theorem pall_snoc (p : Page) (l : List Redo) (r : Redo) : pall p (l ++ [r]) = papply (pall p l) r := by simp [pall]
theorem pall_small {p : Page} (h : SmallP p) : ∀ {l : List Redo}, RightL l → SmallP (pall p l) := fun {l} hl => by
  induction l generalizing p with
  | nil => exact h
  | cons r l ih => exact ih (papply_small h (hl.short List.mem_cons_self).1 (hl.short List.mem_cons_self).2.1) fun x hx => hl x (List.mem_cons_of_mem _ hx)

set_option maxRecDepth 100000 in
set_option maxHeartbeats 2000000 in
theorem page_all {p : Page} {v u : Value} {l : List Redo} {S T : Nat → Prop} {w : World} (h : Sl kEnt S w v p.ents) (hp : SmallP p) (k : Sl kRedo T w u l) (hl : Sorts l) (hr : RightL l) :
    Calls Tryz.prog 67 #[.agg #[.int .i64 p.id, .int .i64 p.lsn, .int .i64 p.level, .int .i64 p.next, v], u] w fun e w' => ∃ l' q A c, PermR l' l ∧ q = pall p l' ∧ e = .returned (.agg #[.int .i64 q.id, .int .i64 q.lsn, .int .i64 q.level, .int .i64 q.next, .slice A q.ents.length c]) ∧ Sl kEnt (fun b => w.heap.size + 2 ≤ b) w' (.slice A q.ents.length c) q.ents ∧ Fr All w w' := by
  obtain ⟨A, n, c, rfl, en, _⟩ := h.open_
  obtain ⟨B, m, d, rfl, em, _⟩ := k.open_
  have P := heap_alloc2_old w (.cells #[.int .i64 p.id, .int .i64 p.lsn, .int .i64 p.level, .int .i64 p.next, .slice A n c] 67) (.cells #[.int .i64 0, .int .i64 0, .int .i64 0, .int .i64 0, .slice none 0 0] 67)
  have Q := heap_alloc2_new w (.cells #[.int .i64 p.id, .int .i64 p.lsn, .int .i64 p.level, .int .i64 p.next, .slice A n c] 67) (.cells #[.int .i64 0, .int .i64 0, .int .i64 0, .int .i64 0, .slice none 0 0] 67)
  have F0 := ((Fr.refl All w).alloc (.cells #[.int .i64 p.id, .int .i64 p.lsn, .int .i64 p.level, .int .i64 p.next, .slice A n c] 67)).alloc (.cells #[.int .i64 0, .int .i64 0, .int .i64 0, .int .i64 0, .slice none 0 0] 67)
  clear en em
  go_enter Tryz.func67, Tryz.ntmps67
  go_wp2_with fail
  refine (page_clone' (h.all F0) hp.ok).mono ?_
  rintro e w1 ⟨A1, c1, rfl, o1, f1⟩
  have F1 := F0.trans f1
  have P1 := (f1.block _ (blk_lt P) trivial).trans P
  have Q1 := (f1.block _ (blk_lt Q) trivial).trans Q
  obtain ⟨p0, p1, p2, p3, p4, pz⟩ := blk5 P1
  obtain ⟨q0, q1, q2, q3, q4, qz⟩ := blk5 Q1
  have hsz : w.heap.size + 2 ≤ w1.heap.size := by have := f1.size; simp only [World.size_alloc] at this; omega
  have hE : Sl kEnt (fun b => w.heap.size + 2 ≤ b) w1 (.slice A1 p.ents.length c1) p.ents := o1.sl_in (fun b hb _ => by simp only [World.size_alloc] at hb; unfold From at hb; omega) (fun b hb _ => by simp only [World.size_alloc] at hb; omega)
  go_upto_region 2 with (fail)
  refine wp_name ?_
  intro W hW
  have a0 : W.cell? ⟨w.heap.size, 0, none⟩ = some (.int .i64 p.id) := by rw [hW]; go_simp
  have a1 : W.cell? ⟨w.heap.size, 1, none⟩ = some (.int .i64 p.lsn) := by rw [hW]; go_simp
  have a2 : W.cell? ⟨w.heap.size, 2, none⟩ = some (.int .i64 p.level) := by rw [hW]; go_simp
  have a3 : W.cell? ⟨w.heap.size, 3, none⟩ = some (.int .i64 p.next) := by rw [hW]; go_simp
  have a4 : W.cell? ⟨w.heap.size, 4, none⟩ = some (.slice A1 p.ents.length c1) := by rw [hW]; go_simp
  have az : ∀ j, W.frozen? ⟨w.heap.size, j, none⟩ = false := by intro j; rw [hW]; go_simp
  have FW : Fr (fun b => b ≠ w.heap.size) w1 W := by
    rw [hW]
    repeat (first | (with_reducible exact Fr.refl _ _) | with_reducible refine Fr.setCell ?_ (fun m hm => by exact hm) _)
  have HFW : Fr All w W := by
    rw [hW]
    repeat (first | (with_reducible exact F1) | with_reducible refine Fr.setNew ?_ (by dsimp only; omega) _)
  have b0 : W.cell? ⟨w.heap.size + 1, 0, none⟩ = some (.int .i64 0) := FW.cell (p := ⟨w.heap.size + 1, 0, none⟩) (by dsimp only; omega) q0
  have b1 : W.cell? ⟨w.heap.size + 1, 1, none⟩ = some (.int .i64 0) := FW.cell (p := ⟨w.heap.size + 1, 1, none⟩) (by dsimp only; omega) q1
  have b2 : W.cell? ⟨w.heap.size + 1, 2, none⟩ = some (.int .i64 0) := FW.cell (p := ⟨w.heap.size + 1, 2, none⟩) (by dsimp only; omega) q2
  have b3 : W.cell? ⟨w.heap.size + 1, 3, none⟩ = some (.int .i64 0) := FW.cell (p := ⟨w.heap.size + 1, 3, none⟩) (by dsimp only; omega) q3
  have b4 : W.cell? ⟨w.heap.size + 1, 4, none⟩ = some (.slice none 0 0) := FW.cell (p := ⟨w.heap.size + 1, 4, none⟩) (by dsimp only; omega) q4
  have bz : ∀ j, W.frozen? ⟨w.heap.size + 1, j, none⟩ = false := fun j => (World.frozen?_of_block (a := ⟨w.heap.size + 1, j, none⟩) (FW.block _ (blk_lt Q1) (by dsimp only; omega))).trans (qz j)
  have HE := hE.move (FW.mono fun b hb => by omega)
  have hzW : w.heap.size + 2 ≤ W.heap.size := Nat.le_trans hsz FW.size
  clear hW p0 p1 p2 p3 p4 pz q0 q1 q2 q3 q4 qz FW F1 P1 Q1 P Q F0 f1 o1 hE h hsz
  go_wp2_with fail
  refine (redo_sort (k.all HFW) hl ⟨by rcases hl with hl | hl <;> omega, fun r h => by have := hr.short h; omega⟩).mono ?_
  rintro e w2 ⟨A2, n2, c2, l2, rfl, p2, s2, f2⟩
  have en2 := s2.len
  have hn2 : n2 ≤ 16384 := by rw [← en2, p2.length_eq]; rcases hl with hl | hl <;> omega
  have hr2 : RightL l2 := fun r h => hr r (p2.mem_iff.1 h)
  have S2 : Sl kRedo (fun b => b ≠ w.heap.size) w2 (.slice A2 n2 c2) l2 := s2.mono fun b hb _ => by unfold From at hb; omega
  have d0 := f2.cell trivial a0
  have d1 := f2.cell trivial a1
  have d2 := f2.cell trivial a2
  have d3 := f2.cell trivial a3
  have d4 := f2.cell trivial a4
  have dz : ∀ j, w2.frozen? ⟨w.heap.size, j, none⟩ = false := fun j => (World.frozen?_of_block (a := ⟨w.heap.size, j, none⟩) (f2.block _ (by dsimp only; omega) trivial)).trans (az j)
  have g0 := f2.cell trivial b0
  have g1 := f2.cell trivial b1
  have g2 := f2.cell trivial b2
  have g3 := f2.cell trivial b3
  have g4 := f2.cell trivial b4
  have gz : ∀ j, w2.frozen? ⟨w.heap.size + 1, j, none⟩ = false := fun j => (World.frozen?_of_block (a := ⟨w.heap.size + 1, j, none⟩) (f2.block _ (by dsimp only; omega) trivial)).trans (bz j)
  have HE2 := HE.all f2
  have F2 := HFW.trans f2
  have hz2 : w.heap.size + 2 ≤ w2.heap.size := Nat.le_trans hzW f2.size
  have En := Lib.hid en2
  have Hp2 := Lib.hid p2
  have Hr2 := Lib.hid hr2
  have Hr := Lib.hid hr
  have Hl := Lib.hid hl
  clear a0 a1 a2 a3 a4 az b0 b1 b2 b3 b4 bz HE HFW f2 s2 k hzW en2 p2 hr2 hr hl
  go_wp2_with fail
  go_loopw [12] (fun i wr => ∃ (j : Nat) (q : Page) (A' : Option Addr) (c' : Nat), j ≤ n2 ∧ i = .int .i64 j ∧ Hid (q = pall p (l2.take j)) ∧ Hid (SmallP q) ∧ wr.cell? ⟨w.heap.size, 0, none⟩ = some (.int .i64 q.id) ∧ wr.cell? ⟨w.heap.size, 1, none⟩ = some (.int .i64 q.lsn) ∧ wr.cell? ⟨w.heap.size, 2, none⟩ = some (.int .i64 q.level) ∧ wr.cell? ⟨w.heap.size, 3, none⟩ = some (.int .i64 q.next) ∧ wr.cell? ⟨w.heap.size, 4, none⟩ = some (.slice A' q.ents.length c') ∧
      (∀ j, wr.frozen? ⟨w.heap.size, j, none⟩ = false) ∧ Sl kEnt (fun b => w.heap.size + 2 ≤ b) wr (.slice A' q.ents.length c') q.ents ∧ Fr (fun b => b ≠ w.heap.size) w2 wr ∧ Fr All w wr) (fun i _ => n2 - (intOf i).toNat)
  case atStart => exact ⟨0, p, A1, c1, Nat.zero_le _, rfl, (rfl : p = pall p (l2.take 0)), hp, d0, d1, d2, d3, d4, dz, HE2, Fr.refl _ _, F2⟩
  case round =>
    clear d0 d1 d2 d3 d4 dz HE2
    obtain ⟨j, q, A', c', hj, rfl, HQ, HS, a0, a1, a2, a3, a4, az, HE, HF, HG⟩ := hrel
    by_cases hlt : j < n2
    · obtain ⟨x, hx, hmem⟩ := get_of (l := l2) (k := j) (by rw [En.out]; exact hlt)
      obtain ⟨b, o, A0, n0, c0, A3, n3, c3, rfl, r0, r1, r2, r3, r4, r5, r6, r7, r8, r9, t0, t1⟩ := redo_at (S2.move HF) hx
      have Hx := Lib.hid hx
      have hxs := Hr2.out.short hmem
      have b0 : (0 : Int) ≤ (j : Int) := by omega
      have b1 : (j : Int) < (n2 : Int) := by omega
      have hzr : w.heap.size + 2 ≤ wr.heap.size := Nat.le_trans hz2 HF.size
      have hpl : w.heap.size < wr.heap.size := by omega
      clear hx hmem g0 g1 g2 g3 g4 gz
      have F3 := (Fr.refl All wr).alloc (.cells #[.int .i64 x.lsn, .int .i64 x.back, .int .i64 x.epoch, .int .i64 x.group, .int .i64 x.page, .int .i64 x.kind, .int .i64 x.slot, .slice A0 n0 c0, .slice A3 n3 c3, .bool x.last] 33)
      have HS' := HS.out
      go_wp2_with fail
      refine (page_apply (p := q) (r := x) (HE.all F3) HS'.ok (t0.all F3) (t1.all F3) (by omega) (by omega) hxs.2.2).mono ?_
      rintro e w3 ⟨A4, c4, rfl, o4, f4⟩
      obtain ⟨q', hq'⟩ : ∃ q', papply q x = q' := ⟨_, rfl⟩
      have HS2 : SmallP q' := by rw [← hq']; exact papply_small HS' hxs.1 hxs.2.1
      rw [hq'] at o4 ⊢
      have Hq' := Lib.hid hq'
      have F4 := F3.trans f4
      have d0 := F4.cell trivial a0
      have d1 := F4.cell trivial a1
      have d2 := F4.cell trivial a2
      have d3 := F4.cell trivial a3
      have d4 := F4.cell trivial a4
      have dz : ∀ j, w3.frozen? ⟨w.heap.size, j, none⟩ = false := fun j => (World.frozen?_of_block (a := ⟨w.heap.size, j, none⟩) (F4.block _ hpl trivial)).trans (az j)
      have E4 : Sl kEnt (fun b => w.heap.size + 2 ≤ b) w3 (.slice A4 q'.ents.length c4) q'.ents := by
        have h1 : w.heap.size + 1 < (wr.alloc (.cells #[.int .i64 x.lsn, .int .i64 x.back, .int .i64 x.epoch, .int .i64 x.group, .int .i64 x.page, .int .i64 x.kind, .int .i64 x.slot, .slice A0 n0 c0, .slice A3 n3 c3, .bool x.last] 33)).heap.size := by rw [World.size_alloc]; omega
        exact o4.sl_in (fun b hb _ => by unfold From at hb; omega) (fun b hb _ => by omega)
      have G4 := HF.trans (F4.mono fun _ _ => trivial)
      have K4 := HG.trans F4
      clear a0 a1 a2 a3 a4 az r0 r1 r2 r3 r4 r5 r6 r7 r8 r9 t0 t1 o4 f4 F3 F4 hq' HS' HE HF HG HS
      go_wp2_with fail
      go_roundw
      case rel =>
        refine ⟨j + 1, q', A4, c4, by omega, by go_num, (?_ : q' = pall p (l2.take (j + 1))), HS2, ?_, ?_, ?_, ?_, ?_, ?_, ?_, ?_, ?_⟩
        · rw [take_snoc Hx.out, pall_snoc, ← HQ.out, Hq'.out]
        · go_simp
        · go_simp
        · go_simp
        · go_simp
        · go_simp
        · intro k; go_simp
        · refine E4.move ?_
          repeat (first | (with_reducible exact Fr.refl _ _) | with_reducible refine Fr.setCell ?_ (fun m hm => by dsimp only; omega) _)
        · repeat (first | (with_reducible exact G4) | with_reducible refine Fr.setCell ?_ (fun m hm => by exact hm) _)
        · repeat (first | (with_reducible exact K4) | with_reducible refine Fr.setNew ?_ (by dsimp only; omega) _)
      case measure => simp [intOf]; omega
    · obtain rfl : j = n2 := by omega
      have e0 := HF.cell (p := ⟨w.heap.size + 1, 0, none⟩) (by dsimp only; omega) g0
      have e1 := HF.cell (p := ⟨w.heap.size + 1, 1, none⟩) (by dsimp only; omega) g1
      have e2 := HF.cell (p := ⟨w.heap.size + 1, 2, none⟩) (by dsimp only; omega) g2
      have e3 := HF.cell (p := ⟨w.heap.size + 1, 3, none⟩) (by dsimp only; omega) g3
      have e4 := HF.cell (p := ⟨w.heap.size + 1, 4, none⟩) (by dsimp only; omega) g4
      have ez : ∀ k, wr.frozen? ⟨w.heap.size + 1, k, none⟩ = false := fun k => (World.frozen?_of_block (a := ⟨w.heap.size + 1, k, none⟩) (HF.block _ (by dsimp only; omega) (by dsimp only; omega))).trans (gz k)
      clear g0 g1 g2 g3 g4 gz
      go_wp2_with fail
      refine bodyPost_ret (v := .agg #[.int .i64 q.id, .int .i64 q.lsn, .int .i64 q.level, .int .i64 q.next, .slice A' q.ents.length c']) ?_ rfl ⟨l2, q, A', c', Hp2.out, ?_, rfl, ?_, ?_⟩
      · simp [results, Tryz.results67, go_sem, e0, e1, e2, e3, e4]
      · have h1 := HQ.out
        rwa [List.take_of_length_le (by rw [En.out]; exact Nat.le_refl _)] at h1
      · refine HE.move ?_
        repeat (first | (with_reducible exact Fr.refl _ _) | with_reducible refine Fr.setCell ?_ (fun m hm => by dsimp only; omega) _)
      · repeat (first | (with_reducible exact HG) | with_reducible refine Fr.setNew ?_ (by dsimp only; omega) _)
end Go.Proofs.YtoaamcpiljoojaaGreatDoor
