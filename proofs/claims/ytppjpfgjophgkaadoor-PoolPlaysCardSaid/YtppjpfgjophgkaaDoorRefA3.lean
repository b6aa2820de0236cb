/- The document's Apply of a right record. The document's Apply: what removes, what inserts. The document's Apply: what inserts. -/
import Derived.Test.YtppjpfgjophgkaaDoorRefP
import Derived.Lib.MinMax
import Derived.Test.YtppjpfgjophgkaaDoorApply4
import Derived.Test.YtppjpfgjophgkaaDoorSml
import Derived.Test.YtppjpfgjophgkaaDoorCutting
import Derived.Test.YtppjpfgjophgkaaDoorRAll
namespace Go.Proofs.YtppjpfgjophgkaaDoor
open Go.RowKit

/-- What an Apply gives. -/
def RAppl (w : World) (q : Page) (e : Ending) (w' : World) : Prop := ∃ A c, e = .returned (.agg #[.int .i64 q.id, .int .i64 q.lsn, .int .i64 q.level, .int .i64 q.next, .slice A q.ents.length c]) ∧ Sl kEnt (From w.heap.size) w' (.slice A q.ents.length c) q.ents ∧ Fr All w w'
set_option hygiene false in
set_option maxRecDepth 100000 in
set_option maxHeartbeats 4000000 in
theorem ref_apply_no {p : Page} {r : Redo} {v v0 v1 : Value} {S S0 S1 : Nat → Prop} {w : World} (h : Sl kEnt S w v p.ents) (hsm : SmallP p) (k0 : Sl kByte S0 w v0 r.key) (k1 : Sl kByte S1 w v1 r.val) (hno : r.page ≠ p.id ∨ r.lsn ≤ p.lsn) :
    Calls Tryd.prog 22 #[.agg #[.int .i64 p.id, .int .i64 p.lsn, .int .i64 p.level, .int .i64 p.next, v], .agg #[.int .i64 r.lsn, .int .i64 r.back, .int .i64 r.epoch, .int .i64 r.group, .int .i64 r.page, .int .i64 r.kind, .int .i64 r.slot, v0, v1, .bool r.last]] w (RAppl w p) := by
  obtain ⟨A, n, c, rfl, en, _⟩ := h.open_
  obtain ⟨A0, n0, c0, rfl, ek0⟩ := k0.open_
  obtain ⟨A9, n9, c9, rfl, ek1⟩ := k1.open_
  clear ek0 ek1
  obtain ⟨P, R, Z⟩ := heap_a3 w (.cells #[.int .i64 p.id, .int .i64 p.lsn, .int .i64 p.level, .int .i64 p.next, .slice A n c] 30) (.cells #[.int .i64 r.lsn, .int .i64 r.back, .int .i64 r.epoch, .int .i64 r.group, .int .i64 r.page, .int .i64 r.kind, .int .i64 r.slot, .slice A0 n0 c0, .slice A9 n9 c9, .bool r.last] 33) (.cells #[.int .i64 0, .int .i64 0, .int .i64 0, .int .i64 0, .slice none 0 0] 30)
  have F0 := (((Fr.refl All w).alloc (.cells #[.int .i64 p.id, .int .i64 p.lsn, .int .i64 p.level, .int .i64 p.next, .slice A n c] 30)).alloc (.cells #[.int .i64 r.lsn, .int .i64 r.back, .int .i64 r.epoch, .int .i64 r.group, .int .i64 r.page, .int .i64 r.kind, .int .i64 r.slot, .slice A0 n0 c0, .slice A9 n9 c9, .bool r.last] 33)).alloc (.cells #[.int .i64 0, .int .i64 0, .int .i64 0, .int .i64 0, .slice none 0 0] 30)
  have hz : (((w.alloc (.cells #[.int .i64 p.id, .int .i64 p.lsn, .int .i64 p.level, .int .i64 p.next, .slice A n c] 30)).alloc (.cells #[.int .i64 r.lsn, .int .i64 r.back, .int .i64 r.epoch, .int .i64 r.group, .int .i64 r.page, .int .i64 r.kind, .int .i64 r.slot, .slice A0 n0 c0, .slice A9 n9 c9, .bool r.last] 33)).alloc (.cells #[.int .i64 0, .int .i64 0, .int .i64 0, .int .i64 0, .slice none 0 0] 30)).heap.size = w.heap.size + 3 := by simp
  obtain ⟨W, hW⟩ : ∃ W, ((w.alloc (.cells #[.int .i64 p.id, .int .i64 p.lsn, .int .i64 p.level, .int .i64 p.next, .slice A n c] 30)).alloc (.cells #[.int .i64 r.lsn, .int .i64 r.back, .int .i64 r.epoch, .int .i64 r.group, .int .i64 r.page, .int .i64 r.kind, .int .i64 r.slot, .slice A0 n0 c0, .slice A9 n9 c9, .bool r.last] 33)).alloc (.cells #[.int .i64 0, .int .i64 0, .int .i64 0, .int .i64 0, .slice none 0 0] 30) = W := ⟨_, rfl⟩
  rw [hW] at P R Z F0 hz
  obtain ⟨p0, p1, p2, p3, p4, pz⟩ := blk5 P
  have HP := Lib.hid P
  have HR := Lib.hid R
  have HZ := Lib.hid Z
  have HF0 := Lib.hid F0
  have HS := Lib.hid (h.all F0)
  have HK0 := Lib.hid ((k0.mono (T := fun b => b < w.heap.size) fun b _ hl => hl).all F0)
  have HK1 := Lib.hid ((k1.mono (T := fun b => b < w.heap.size) fun b _ hl => hl).all F0)
  have En := Lib.hid en
  clear h k0 k1 en P R Z F0
  go_enter Tryd.func22, Tryd.ntmps22
  go_wp2_with fail
  clear hW
  refine (ref_page (p := p) HS.out hsm.ok).mono ?_
  rintro e w1 ⟨A1, c1, rfl, o1, f1⟩
  rw [En.out] at o1 ⊢
  have FO := (Fr.refl All w1).alloc (.cells #[.int .i64 p.id, .int .i64 p.lsn, .int .i64 p.level, .int .i64 p.next, .slice A1 n c1] 30)
  have hz1 : W.heap.size ≤ w1.heap.size := f1.size
  obtain ⟨Bo, hBo⟩ : ∃ Bo, w1.heap.size = Bo := ⟨_, rfl⟩
  have HO1 := Lib.hid ((o1.mono (T := fun b => W.heap.size + 2 ≤ b ∧ b ≠ Bo) fun b hb hl => ⟨hb, by omega⟩).all FO)
  have BO := heap_alloc_new w1 (.cells #[.int .i64 p.id, .int .i64 p.lsn, .int .i64 p.level, .int .i64 p.next, .slice A1 n c1] 30)
  obtain ⟨W1, hW1⟩ : ∃ W1, w1.alloc (.cells #[.int .i64 p.id, .int .i64 p.lsn, .int .i64 p.level, .int .i64 p.next, .slice A1 n c1] 30) = W1 := ⟨_, rfl⟩
  rw [hW1] at FO HO1 BO
  rw [hBo] at BO
  have hoB : ∀ j, (Value.slice A1 n c1).ownBlock = some j → W.heap.size + 2 ≤ j ∧ j < Bo := fun j hj => by have := own_lt o1 j hj; omega
  have HOB := Lib.hid hoB
  have FW1 := Lib.hid (f1.trans FO)
  have HBO := Lib.hid BO
  clear p0 p1 p2 p3 p4 pz o1 f1 FO BO hoB
  obtain ⟨r0, r1, r2, r3, r4, r5, r6, r7, r8, r9, rz⟩ := blk10 ((FW1.out.block _ (blk_lt HR.out) trivial).trans HR.out)
  obtain ⟨p0, p1, p2, p3, p4, pz⟩ := blk5 ((FW1.out.block _ (blk_lt HP.out) trivial).trans HP.out)
  obtain ⟨z0, z1, z2, z3, z4, zz⟩ := blk5 ((FW1.out.block _ (blk_lt HZ.out) trivial).trans HZ.out)
  obtain ⟨u0, u1, u2, u3, u4, uz⟩ := blk5 HBO.out
  try simp only [hBo]
  have HNO := Lib.hid hno
  clear hno
  have hfin : ∀ W', Fr (fun b => b ≠ w.heap.size + 2) W1 W' → Fr All w W' → Sl kEnt (From w.heap.size) W' (.slice A1 n c1) p.ents := fun W' f _ => (HO1.out.sl.move' f (fun b hb hl => by
    rcases hb with hb | hb
    · omega
    · have := HOB.out b hb.symm; omega)).mono fun b hb _ => by
      unfold From
      rcases hb with hb | hb
      · omega
      · have := HOB.out b hb.symm; omega
  by_cases hp : r.page = p.id
  · have d1 : (r.page != p.id) = false := by rw [bne_eq_false_iff_eq]; exact hp
    have d2 : decide (r.lsn ≤ p.lsn) = true := decide_eq_true (by have := HNO.out; omega)
    clear hp
    go_wp2_with fail
    refine bodyPost_ret (v := .agg #[.int .i64 p.id, .int .i64 p.lsn, .int .i64 p.level, .int .i64 p.next, .slice A1 n c1]) ?_ rfl ⟨A1, c1, by rw [En.out], ?_, ?_⟩
    · simp [results, Tryd.results22, go_sem, z0, z1, z2, z3, z4]
    · rw [En.out]
      refine hfin _ ?_ ?_
      · repeat (first | (with_reducible exact Fr.refl _ _) | with_reducible refine Fr.drew ?_ | with_reducible refine Fr.setCell ?_ (fun m hm => by exact hm) _)
      · have FF := HF0.out.trans FW1.out
        repeat (first | (with_reducible exact FF) | with_reducible refine Fr.drew ?_ | with_reducible refine Fr.setNew ?_ (by dsimp only; omega) _)
    · have FF := HF0.out.trans FW1.out
      repeat (first | (with_reducible exact FF) | with_reducible refine Fr.drew ?_ | with_reducible refine Fr.setNew ?_ (by dsimp only; omega) _)
  · have d1 : (r.page != p.id) = true := by rw [bne_iff_ne]; exact hp
    clear hp
    go_wp2_with fail
    refine bodyPost_ret (v := .agg #[.int .i64 p.id, .int .i64 p.lsn, .int .i64 p.level, .int .i64 p.next, .slice A1 n c1]) ?_ rfl ⟨A1, c1, by rw [En.out], ?_, ?_⟩
    · simp [results, Tryd.results22, go_sem, z0, z1, z2, z3, z4]
    · rw [En.out]
      refine hfin _ ?_ ?_
      · repeat (first | (with_reducible exact Fr.refl _ _) | with_reducible refine Fr.drew ?_ | with_reducible refine Fr.setCell ?_ (fun m hm => by exact hm) _)
      · have FF := HF0.out.trans FW1.out
        repeat (first | (with_reducible exact FF) | with_reducible refine Fr.drew ?_ | with_reducible refine Fr.setNew ?_ (by dsimp only; omega) _)
    · have FF := HF0.out.trans FW1.out
      repeat (first | (with_reducible exact FF) | with_reducible refine Fr.drew ?_ | with_reducible refine Fr.setNew ?_ (by dsimp only; omega) _)
theorem Own.srcDrop {α : Type} {d : Kd α} {e : TypeId} {base g n c s : Nat} {S : Nat → Prop} {w : World} {xs : List α} (h : Own d e base S w (.slice (some ⟨g, 0, none⟩) n c) xs) (hs : s ≤ n) (h0 : 0 < n) :
    Src d (fun b => S b ∧ b ≠ g) w (.slice (if c = s then some ⟨g, 0, none⟩ else (some ⟨g, 0, none⟩ : Option Addr).map fun a => a.add (s * d.sz)) (n - s) (c - s)) (xs.drop s) := by
  obtain ⟨g', cur, cs, he, hb, hg, hnc, hc, hcs, ht, hxl, hcl, hr⟩ := own_open h h0
  obtain rfl : g = g' := by
    injection he with he
    injection he
  have hl : (xs.drop s).length = n - s := by rw [List.length_drop, hxl]
  rw [← hl]
  refine ⟨_, _, cs.drop (s * d.sz), rfl, hr.drop s, fun hp => ?_⟩
  have hne : c ≠ s := by omega
  refine ⟨g, s * d.sz, by rw [if_neg hne]; simp only [Option.map_some, addr_lit, Nat.zero_add], fun j u hu => ?_⟩
  rw [List.getElem?_drop] at hu
  rw [(blk_cells hg).1, ← Array.getElem?_toList]
  rw [← ht, List.getElem?_take] at hu
  split at hu
  · exact hu
  · cases hu
theorem sl_fin {w W' WX : World} {b0 Bo : Nat} {v : Value} {xs : List Ent} (o : Own kEnt 65 b0 (fun b => b0 ≤ b ∧ b ≠ Bo) WX v xs) (hob : v.ownBlock ≠ some Bo) (hb0 : w.heap.size + 3 ≤ b0) (f : Fr (fun b => b ≠ Bo ∧ b ≠ w.heap.size + 2) WX W') : Sl kEnt (From w.heap.size) W' v xs :=
  (o.sl.move' f fun b hb hl => by
    rcases hb with hb | hb
    · exact ⟨hb.2, by omega⟩
    · have := (own_lt o b hb.symm).1
      exact ⟨fun e => hob (by rw [← e]; exact hb.symm), by omega⟩).mono fun b hb _ => by
    unfold From
    rcases hb with hb | hb
    · omega
    · have := (own_lt o b hb.symm).1; omega
set_option hygiene false in
set_option maxRecDepth 100000 in
set_option maxHeartbeats 8000000 in
theorem ref_apply_format {p : Page} {r : Redo} {v v0 v1 : Value} {S S0 S1 : Nat → Prop} {w : World} (h : Sl kEnt S w v p.ents) (hsm : SmallP p) (k0 : Sl kByte S0 w v0 r.key) (k1 : Sl kByte S1 w v1 r.val) (hv : validIx r = none) (hyes : r.page = p.id ∧ p.lsn < r.lsn) (hk : r.kind = 1) :
    Calls Tryd.prog 22 #[.agg #[.int .i64 p.id, .int .i64 p.lsn, .int .i64 p.level, .int .i64 p.next, v], .agg #[.int .i64 r.lsn, .int .i64 r.back, .int .i64 r.epoch, .int .i64 r.group, .int .i64 r.page, .int .i64 r.kind, .int .i64 r.slot, v0, v1, .bool r.last]] w (RAppl w (papply p r)) := by
  have hpa : ¬(r.page ≠ p.id ∨ r.lsn ≤ p.lsn) := by
    rintro (h | h)
    · exact h hyes.1
    · omega
  have hq : papply p r = { p with lsn := r.lsn, level := min r.slot 16, next := -1, ents := [] } := by
    unfold papply
    rw [if_neg hpa, if_pos hk, show (if 16 < r.slot then (16 : Int) else r.slot) = min r.slot 16 by split <;> omega]
  rw [hq]
  clear hpa hq
  have HYS := Lib.hid hyes
  have HKK := Lib.hid hk
  have HVV := Lib.hid hv
  clear hyes hk hv
  obtain ⟨A, n, c, rfl, en, _⟩ := h.open_
  obtain ⟨A0, n0, c0, rfl, ek0⟩ := k0.open_
  obtain ⟨A9, n9, c9, rfl, ek1⟩ := k1.open_
  clear ek0 ek1
  obtain ⟨P, R, Z⟩ := heap_a3 w (.cells #[.int .i64 p.id, .int .i64 p.lsn, .int .i64 p.level, .int .i64 p.next, .slice A n c] 30) (.cells #[.int .i64 r.lsn, .int .i64 r.back, .int .i64 r.epoch, .int .i64 r.group, .int .i64 r.page, .int .i64 r.kind, .int .i64 r.slot, .slice A0 n0 c0, .slice A9 n9 c9, .bool r.last] 33) (.cells #[.int .i64 0, .int .i64 0, .int .i64 0, .int .i64 0, .slice none 0 0] 30)
  have F0 := (((Fr.refl All w).alloc (.cells #[.int .i64 p.id, .int .i64 p.lsn, .int .i64 p.level, .int .i64 p.next, .slice A n c] 30)).alloc (.cells #[.int .i64 r.lsn, .int .i64 r.back, .int .i64 r.epoch, .int .i64 r.group, .int .i64 r.page, .int .i64 r.kind, .int .i64 r.slot, .slice A0 n0 c0, .slice A9 n9 c9, .bool r.last] 33)).alloc (.cells #[.int .i64 0, .int .i64 0, .int .i64 0, .int .i64 0, .slice none 0 0] 30)
  have hz : (((w.alloc (.cells #[.int .i64 p.id, .int .i64 p.lsn, .int .i64 p.level, .int .i64 p.next, .slice A n c] 30)).alloc (.cells #[.int .i64 r.lsn, .int .i64 r.back, .int .i64 r.epoch, .int .i64 r.group, .int .i64 r.page, .int .i64 r.kind, .int .i64 r.slot, .slice A0 n0 c0, .slice A9 n9 c9, .bool r.last] 33)).alloc (.cells #[.int .i64 0, .int .i64 0, .int .i64 0, .int .i64 0, .slice none 0 0] 30)).heap.size = w.heap.size + 3 := by simp
  obtain ⟨W, hW⟩ : ∃ W, ((w.alloc (.cells #[.int .i64 p.id, .int .i64 p.lsn, .int .i64 p.level, .int .i64 p.next, .slice A n c] 30)).alloc (.cells #[.int .i64 r.lsn, .int .i64 r.back, .int .i64 r.epoch, .int .i64 r.group, .int .i64 r.page, .int .i64 r.kind, .int .i64 r.slot, .slice A0 n0 c0, .slice A9 n9 c9, .bool r.last] 33)).alloc (.cells #[.int .i64 0, .int .i64 0, .int .i64 0, .int .i64 0, .slice none 0 0] 30) = W := ⟨_, rfl⟩
  rw [hW] at P R Z F0 hz
  obtain ⟨p0, p1, p2, p3, p4, pz⟩ := blk5 P
  have HP := Lib.hid P
  have HR := Lib.hid R
  have HZ := Lib.hid Z
  have HF0 := Lib.hid F0
  have HS := Lib.hid (h.all F0)
  have HK0 := Lib.hid ((k0.mono (T := fun b => b < w.heap.size) fun b _ hl => hl).all F0)
  have HK1 := Lib.hid ((k1.mono (T := fun b => b < w.heap.size) fun b _ hl => hl).all F0)
  have En := Lib.hid en
  clear h k0 k1 en P R Z F0
  go_enter Tryd.func22, Tryd.ntmps22
  go_wp2_with fail
  clear hW
  refine (ref_page (p := p) HS.out hsm.ok).mono ?_
  rintro e w1 ⟨A1, c1, rfl, o1, f1⟩
  rw [En.out] at o1 ⊢
  have FO := (Fr.refl All w1).alloc (.cells #[.int .i64 p.id, .int .i64 p.lsn, .int .i64 p.level, .int .i64 p.next, .slice A1 n c1] 30)
  have hz1 : W.heap.size ≤ w1.heap.size := f1.size
  obtain ⟨Bo, hBo⟩ : ∃ Bo, w1.heap.size = Bo := ⟨_, rfl⟩
  have HO1 := Lib.hid ((o1.mono (T := fun b => W.heap.size + 2 ≤ b ∧ b ≠ Bo) fun b hb hl => ⟨hb, by omega⟩).all FO)
  have BO := heap_alloc_new w1 (.cells #[.int .i64 p.id, .int .i64 p.lsn, .int .i64 p.level, .int .i64 p.next, .slice A1 n c1] 30)
  obtain ⟨W1, hW1⟩ : ∃ W1, w1.alloc (.cells #[.int .i64 p.id, .int .i64 p.lsn, .int .i64 p.level, .int .i64 p.next, .slice A1 n c1] 30) = W1 := ⟨_, rfl⟩
  rw [hW1] at FO HO1 BO
  rw [hBo] at BO
  have hoB : ∀ j, (Value.slice A1 n c1).ownBlock = some j → W.heap.size + 2 ≤ j ∧ j < Bo := fun j hj => by have := own_lt o1 j hj; omega
  have HOB := Lib.hid hoB
  have FW1 := Lib.hid (f1.trans FO)
  have HBO := Lib.hid BO
  clear p0 p1 p2 p3 p4 pz o1 f1 FO BO hoB
  obtain ⟨r0, r1, r2, r3, r4, r5, r6, r7, r8, r9, rz⟩ := blk10 ((FW1.out.block _ (blk_lt HR.out) trivial).trans HR.out)
  obtain ⟨p0, p1, p2, p3, p4, pz⟩ := blk5 ((FW1.out.block _ (blk_lt HP.out) trivial).trans HP.out)
  obtain ⟨z0, z1, z2, z3, z4, zz⟩ := blk5 ((FW1.out.block _ (blk_lt HZ.out) trivial).trans HZ.out)
  obtain ⟨u0, u1, u2, u3, u4, uz⟩ := blk5 HBO.out
  try simp only [hBo]
  have hyes := HYS.out
  have hv := HVV.out
  have d1 : (r.page != p.id) = false := by rw [bne_eq_false_iff_eq]; exact hyes.1
  have d2 : decide (r.lsn ≤ p.lsn) = false := decide_eq_false (by omega)
  have HY := Lib.hid hyes
  clear hyes
  go_wp2_with fail
  clear hW1 d1 d2
  have FS1 : Fr (fun b => b ≠ Bo) W1 (W1.setCell ⟨Bo, 1, none⟩ (.int .i64 r.lsn)) := (Fr.refl _ _).setCell (p := ⟨Bo, 1, none⟩) (fun b hb => hb) _
  have BO2 : (W1.setCell ⟨Bo, 1, none⟩ (.int .i64 r.lsn)).heap[Bo]? = some (.cells #[.int .i64 p.id, .int .i64 r.lsn, .int .i64 p.level, .int .i64 p.next, .slice A1 n c1] 30 (0, 0)) := heap_setCell_same _ Bo 1 _ _ _ HBO.out
  obtain ⟨W2, hW2⟩ : ∃ W2, W1.setCell ⟨Bo, 1, none⟩ (.int .i64 r.lsn) = W2 := ⟨_, rfl⟩
  rw [hW2] at FS1 BO2 ⊢
  clear hW2
  have hv' := validIx_none hv
  have HV := Lib.hid hv'
  have hvk : r.key.length ≤ 1000000 := by omega
  have hvv : r.val.length ≤ 1000000 := by omega
  clear hv hv'
  refine (ref_entry (x := ⟨r.key, r.val⟩) ((HK0.out.all FW1.out).move' FS1 (fun b hb _ => by omega)) ((HK1.out.all FW1.out).move' FS1 (fun b hb _ => by omega)) hvk hvv).mono ?_
  rintro e w3 ⟨A7, c7, A8, c8, rfl, s7, s8, f3⟩
  dsimp only at s7 s8 ⊢
  have FB := (Fr.refl All w3).alloc (.cells #[.slice A7 r.key.length c7, .slice A8 r.val.length c8] 65)
  have FX : Fr All W2 (w3.alloc (.cells #[.slice A7 r.key.length c7, .slice A8 r.val.length c8] 65)) := f3.trans FB
  have BX := heap_alloc_new w3 (.cells #[.slice A7 r.key.length c7, .slice A8 r.val.length c8] 65)
  have S7 := s7.all FB
  have S8 := s8.all FB
  obtain ⟨Bx, hBx⟩ : ∃ Bx, w3.heap.size = Bx := ⟨_, rfl⟩
  have hz3 : W2.heap.size ≤ Bx := by rw [← hBx]; exact f3.size
  obtain ⟨W3, hW3⟩ : ∃ W3, w3.alloc (.cells #[.slice A7 r.key.length c7, .slice A8 r.val.length c8] 65) = W3 := ⟨_, rfl⟩
  rw [hW3] at FX BX S7 S8
  rw [hBx] at BX
  have hz2 : W1.heap.size ≤ W2.heap.size := FS1.size
  have hoW := blk_lt HBO.out
  have FW3 : Hid (Fr (fun b => b ≠ Bo) W1 W3) := Lib.hid (FS1.then_all FX)
  have FA3 : Hid (Fr All w W3) := Lib.hid (by
    have a0 := HF0.out.trans FW1.out
    have hh := FW3.out
    exact ⟨hh.os.trans a0.os, hh.tape.trans a0.tape, hh.output.trans a0.output, Nat.le_trans a0.size hh.size, fun b hb _ => (hh.block b (Nat.lt_of_lt_of_le hb a0.size) (by omega)).trans (a0.block b hb trivial)⟩)
  have HO3 := Lib.hid (HO1.out.move FW3.out (fun b hb _ => hb.2) fun j hj => by have := HOB.out j hj; omega)
  have HU := Lib.hid ((FX.block Bo (by omega) trivial).trans BO2)
  have HX := Lib.hid BX
  have HS7 := Lib.hid S7
  have HS8 := Lib.hid S8
  clear r0 r1 r2 r3 r4 r5 r6 r7 r8 r9 rz p0 p1 p2 p3 p4 pz z0 z1 z2 z3 z4 zz u0 u1 u2 u3 u4 uz s7 s8 f3 S7 S8 FB FX BX BO2 FS1
  obtain ⟨r0, r1, r2, r3, r4, r5, r6, r7, r8, r9, rz⟩ := blk10 ((FW3.out.block _ (blk_lt ((FW1.out.block _ (blk_lt HR.out) trivial).trans HR.out)) (by omega)).trans ((FW1.out.block _ (blk_lt HR.out) trivial).trans HR.out))
  obtain ⟨z0, z1, z2, z3, z4, zz⟩ := blk5 ((FW3.out.block _ (blk_lt ((FW1.out.block _ (blk_lt HZ.out) trivial).trans HZ.out)) (by omega)).trans ((FW1.out.block _ (blk_lt HZ.out) trivial).trans HZ.out))
  obtain ⟨u0, u1, u2, u3, u4, uz⟩ := blk5 HU.out
  obtain ⟨y0, y1, yz⟩ := blk2 HX.out
  clear r0 r1 r2 r3 r4 r6 r7 r8 r9 rz
  try simp only [hBx]
  have hk := HKK.out
  have e1 : (r.kind == 1) = true := by rw [beq_iff_eq]; exact hk
  have e2 : (r.kind == 2) = false := by rw [beq_eq_false_iff_ne]; rw [hk]; decide
  have e3 : (r.kind == 3) = false := by rw [beq_eq_false_iff_ne]; rw [hk]; decide
  have e4 : (r.kind == 4) = false := by rw [beq_eq_false_iff_ne]; rw [hk]; decide
  have e5 : (r.kind == 5) = false := by rw [beq_eq_false_iff_ne]; rw [hk]; decide
  have e6 : (r.kind == 6) = false := by rw [beq_eq_false_iff_ne]; rw [hk]; decide
  clear hk
  obtain ⟨lv, hlv⟩ : ∃ lv, min r.slot 16 = lv := ⟨_, rfl⟩
  go_wp2_with fail
  refine bodyPost_ret (v := .agg #[.int .i64 p.id, .int .i64 r.lsn, .int .i64 lv, .int .i64 (-1), .slice none 0 0]) ?_ rfl ⟨none, 0, by rw [hlv]; rfl, Sl.nil_ _ _ _, ?_⟩
  · simp [results, Tryd.results22, go_sem, z0, z1, z2, z3, z4]
  · have FF := FA3.out
    repeat (first | (with_reducible exact FF) | with_reducible refine Fr.drew ?_ | with_reducible refine Fr.setNew ?_ (by dsimp only; omega) _)
set_option hygiene false in
set_option maxRecDepth 100000 in
set_option maxHeartbeats 8000000 in
theorem ref_apply_link {p : Page} {r : Redo} {v v0 v1 : Value} {S S0 S1 : Nat → Prop} {w : World} (h : Sl kEnt S w v p.ents) (hsm : SmallP p) (k0 : Sl kByte S0 w v0 r.key) (k1 : Sl kByte S1 w v1 r.val) (hv : validIx r = none) (hyes : r.page = p.id ∧ p.lsn < r.lsn) (hk : r.kind = 5) :
    Calls Tryd.prog 22 #[.agg #[.int .i64 p.id, .int .i64 p.lsn, .int .i64 p.level, .int .i64 p.next, v], .agg #[.int .i64 r.lsn, .int .i64 r.back, .int .i64 r.epoch, .int .i64 r.group, .int .i64 r.page, .int .i64 r.kind, .int .i64 r.slot, v0, v1, .bool r.last]] w (RAppl w (papply p r)) := by
  have hpa : ¬(r.page ≠ p.id ∨ r.lsn ≤ p.lsn) := by
    rintro (h | h)
    · exact h hyes.1
    · omega
  have hq : papply p r = { p with lsn := r.lsn, next := if 256 ≤ r.slot then -1 else r.slot } := by
    unfold papply
    rw [if_neg hpa, if_neg (by rw [hk]; decide), if_neg (by rw [hk]; decide), if_neg (by rw [hk]; decide), if_neg (by rw [hk]; decide), if_pos hk]
  rw [hq]
  clear hpa hq
  by_cases hs : 256 ≤ r.slot
  · rw [if_pos hs]
    have HD := Lib.hid (decide_eq_true (show r.slot ≥ 256 from hs))
    clear hs
    have HYS := Lib.hid hyes
    have HKK := Lib.hid hk
    have HVV := Lib.hid hv
    clear hyes hk hv
    obtain ⟨A, n, c, rfl, en, _⟩ := h.open_
    obtain ⟨A0, n0, c0, rfl, ek0⟩ := k0.open_
    obtain ⟨A9, n9, c9, rfl, ek1⟩ := k1.open_
    clear ek0 ek1
    obtain ⟨P, R, Z⟩ := heap_a3 w (.cells #[.int .i64 p.id, .int .i64 p.lsn, .int .i64 p.level, .int .i64 p.next, .slice A n c] 30) (.cells #[.int .i64 r.lsn, .int .i64 r.back, .int .i64 r.epoch, .int .i64 r.group, .int .i64 r.page, .int .i64 r.kind, .int .i64 r.slot, .slice A0 n0 c0, .slice A9 n9 c9, .bool r.last] 33) (.cells #[.int .i64 0, .int .i64 0, .int .i64 0, .int .i64 0, .slice none 0 0] 30)
    have F0 := (((Fr.refl All w).alloc (.cells #[.int .i64 p.id, .int .i64 p.lsn, .int .i64 p.level, .int .i64 p.next, .slice A n c] 30)).alloc (.cells #[.int .i64 r.lsn, .int .i64 r.back, .int .i64 r.epoch, .int .i64 r.group, .int .i64 r.page, .int .i64 r.kind, .int .i64 r.slot, .slice A0 n0 c0, .slice A9 n9 c9, .bool r.last] 33)).alloc (.cells #[.int .i64 0, .int .i64 0, .int .i64 0, .int .i64 0, .slice none 0 0] 30)
    have hz : (((w.alloc (.cells #[.int .i64 p.id, .int .i64 p.lsn, .int .i64 p.level, .int .i64 p.next, .slice A n c] 30)).alloc (.cells #[.int .i64 r.lsn, .int .i64 r.back, .int .i64 r.epoch, .int .i64 r.group, .int .i64 r.page, .int .i64 r.kind, .int .i64 r.slot, .slice A0 n0 c0, .slice A9 n9 c9, .bool r.last] 33)).alloc (.cells #[.int .i64 0, .int .i64 0, .int .i64 0, .int .i64 0, .slice none 0 0] 30)).heap.size = w.heap.size + 3 := by simp
    obtain ⟨W, hW⟩ : ∃ W, ((w.alloc (.cells #[.int .i64 p.id, .int .i64 p.lsn, .int .i64 p.level, .int .i64 p.next, .slice A n c] 30)).alloc (.cells #[.int .i64 r.lsn, .int .i64 r.back, .int .i64 r.epoch, .int .i64 r.group, .int .i64 r.page, .int .i64 r.kind, .int .i64 r.slot, .slice A0 n0 c0, .slice A9 n9 c9, .bool r.last] 33)).alloc (.cells #[.int .i64 0, .int .i64 0, .int .i64 0, .int .i64 0, .slice none 0 0] 30) = W := ⟨_, rfl⟩
    rw [hW] at P R Z F0 hz
    obtain ⟨p0, p1, p2, p3, p4, pz⟩ := blk5 P
    have HP := Lib.hid P
    have HR := Lib.hid R
    have HZ := Lib.hid Z
    have HF0 := Lib.hid F0
    have HS := Lib.hid (h.all F0)
    have HK0 := Lib.hid ((k0.mono (T := fun b => b < w.heap.size) fun b _ hl => hl).all F0)
    have HK1 := Lib.hid ((k1.mono (T := fun b => b < w.heap.size) fun b _ hl => hl).all F0)
    have En := Lib.hid en
    clear h k0 k1 en P R Z F0
    go_enter Tryd.func22, Tryd.ntmps22
    go_wp2_with fail
    clear hW
    refine (ref_page (p := p) HS.out hsm.ok).mono ?_
    rintro e w1 ⟨A1, c1, rfl, o1, f1⟩
    rw [En.out] at o1 ⊢
    have FO := (Fr.refl All w1).alloc (.cells #[.int .i64 p.id, .int .i64 p.lsn, .int .i64 p.level, .int .i64 p.next, .slice A1 n c1] 30)
    have hz1 : W.heap.size ≤ w1.heap.size := f1.size
    obtain ⟨Bo, hBo⟩ : ∃ Bo, w1.heap.size = Bo := ⟨_, rfl⟩
    have HO1 := Lib.hid ((o1.mono (T := fun b => W.heap.size + 2 ≤ b ∧ b ≠ Bo) fun b hb hl => ⟨hb, by omega⟩).all FO)
    have BO := heap_alloc_new w1 (.cells #[.int .i64 p.id, .int .i64 p.lsn, .int .i64 p.level, .int .i64 p.next, .slice A1 n c1] 30)
    obtain ⟨W1, hW1⟩ : ∃ W1, w1.alloc (.cells #[.int .i64 p.id, .int .i64 p.lsn, .int .i64 p.level, .int .i64 p.next, .slice A1 n c1] 30) = W1 := ⟨_, rfl⟩
    rw [hW1] at FO HO1 BO
    rw [hBo] at BO
    have hoB : ∀ j, (Value.slice A1 n c1).ownBlock = some j → W.heap.size + 2 ≤ j ∧ j < Bo := fun j hj => by have := own_lt o1 j hj; omega
    have HOB := Lib.hid hoB
    have FW1 := Lib.hid (f1.trans FO)
    have HBO := Lib.hid BO
    clear p0 p1 p2 p3 p4 pz o1 f1 FO BO hoB
    obtain ⟨r0, r1, r2, r3, r4, r5, r6, r7, r8, r9, rz⟩ := blk10 ((FW1.out.block _ (blk_lt HR.out) trivial).trans HR.out)
    obtain ⟨p0, p1, p2, p3, p4, pz⟩ := blk5 ((FW1.out.block _ (blk_lt HP.out) trivial).trans HP.out)
    obtain ⟨z0, z1, z2, z3, z4, zz⟩ := blk5 ((FW1.out.block _ (blk_lt HZ.out) trivial).trans HZ.out)
    obtain ⟨u0, u1, u2, u3, u4, uz⟩ := blk5 HBO.out
    try simp only [hBo]
    have hyes := HYS.out
    have hv := HVV.out
    have d1 : (r.page != p.id) = false := by rw [bne_eq_false_iff_eq]; exact hyes.1
    have d2 : decide (r.lsn ≤ p.lsn) = false := decide_eq_false (by omega)
    have HY := Lib.hid hyes
    clear hyes
    go_wp2_with fail
    clear hW1 d1 d2
    have FS1 : Fr (fun b => b ≠ Bo) W1 (W1.setCell ⟨Bo, 1, none⟩ (.int .i64 r.lsn)) := (Fr.refl _ _).setCell (p := ⟨Bo, 1, none⟩) (fun b hb => hb) _
    have BO2 : (W1.setCell ⟨Bo, 1, none⟩ (.int .i64 r.lsn)).heap[Bo]? = some (.cells #[.int .i64 p.id, .int .i64 r.lsn, .int .i64 p.level, .int .i64 p.next, .slice A1 n c1] 30 (0, 0)) := heap_setCell_same _ Bo 1 _ _ _ HBO.out
    obtain ⟨W2, hW2⟩ : ∃ W2, W1.setCell ⟨Bo, 1, none⟩ (.int .i64 r.lsn) = W2 := ⟨_, rfl⟩
    rw [hW2] at FS1 BO2 ⊢
    clear hW2
    have hv' := validIx_none hv
    have HV := Lib.hid hv'
    have hvk : r.key.length ≤ 1000000 := by omega
    have hvv : r.val.length ≤ 1000000 := by omega
    clear hv hv'
    refine (ref_entry (x := ⟨r.key, r.val⟩) ((HK0.out.all FW1.out).move' FS1 (fun b hb _ => by omega)) ((HK1.out.all FW1.out).move' FS1 (fun b hb _ => by omega)) hvk hvv).mono ?_
    rintro e w3 ⟨A7, c7, A8, c8, rfl, s7, s8, f3⟩
    dsimp only at s7 s8 ⊢
    have FB := (Fr.refl All w3).alloc (.cells #[.slice A7 r.key.length c7, .slice A8 r.val.length c8] 65)
    have FX : Fr All W2 (w3.alloc (.cells #[.slice A7 r.key.length c7, .slice A8 r.val.length c8] 65)) := f3.trans FB
    have BX := heap_alloc_new w3 (.cells #[.slice A7 r.key.length c7, .slice A8 r.val.length c8] 65)
    have S7 := s7.all FB
    have S8 := s8.all FB
    obtain ⟨Bx, hBx⟩ : ∃ Bx, w3.heap.size = Bx := ⟨_, rfl⟩
    have hz3 : W2.heap.size ≤ Bx := by rw [← hBx]; exact f3.size
    obtain ⟨W3, hW3⟩ : ∃ W3, w3.alloc (.cells #[.slice A7 r.key.length c7, .slice A8 r.val.length c8] 65) = W3 := ⟨_, rfl⟩
    rw [hW3] at FX BX S7 S8
    rw [hBx] at BX
    have hz2 : W1.heap.size ≤ W2.heap.size := FS1.size
    have hoW := blk_lt HBO.out
    have FW3 : Hid (Fr (fun b => b ≠ Bo) W1 W3) := Lib.hid (FS1.then_all FX)
    have FA3 : Hid (Fr All w W3) := Lib.hid (by
      have a0 := HF0.out.trans FW1.out
      have hh := FW3.out
      exact ⟨hh.os.trans a0.os, hh.tape.trans a0.tape, hh.output.trans a0.output, Nat.le_trans a0.size hh.size, fun b hb _ => (hh.block b (Nat.lt_of_lt_of_le hb a0.size) (by omega)).trans (a0.block b hb trivial)⟩)
    have HO3 := Lib.hid (HO1.out.move FW3.out (fun b hb _ => hb.2) fun j hj => by have := HOB.out j hj; omega)
    have HU := Lib.hid ((FX.block Bo (by omega) trivial).trans BO2)
    have HX := Lib.hid BX
    have HS7 := Lib.hid S7
    have HS8 := Lib.hid S8
    clear r0 r1 r2 r3 r4 r5 r6 r7 r8 r9 rz p0 p1 p2 p3 p4 pz z0 z1 z2 z3 z4 zz u0 u1 u2 u3 u4 uz s7 s8 f3 S7 S8 FB FX BX BO2 FS1
    obtain ⟨r0, r1, r2, r3, r4, r5, r6, r7, r8, r9, rz⟩ := blk10 ((FW3.out.block _ (blk_lt ((FW1.out.block _ (blk_lt HR.out) trivial).trans HR.out)) (by omega)).trans ((FW1.out.block _ (blk_lt HR.out) trivial).trans HR.out))
    obtain ⟨z0, z1, z2, z3, z4, zz⟩ := blk5 ((FW3.out.block _ (blk_lt ((FW1.out.block _ (blk_lt HZ.out) trivial).trans HZ.out)) (by omega)).trans ((FW1.out.block _ (blk_lt HZ.out) trivial).trans HZ.out))
    obtain ⟨u0, u1, u2, u3, u4, uz⟩ := blk5 HU.out
    obtain ⟨y0, y1, yz⟩ := blk2 HX.out
    clear r0 r1 r2 r3 r4 r6 r7 r8 r9 rz
    try simp only [hBx]
    have hk := HKK.out
    have e1 : (r.kind == 1) = false := by rw [beq_eq_false_iff_ne]; rw [hk]; decide
    have e2 : (r.kind == 2) = false := by rw [beq_eq_false_iff_ne]; rw [hk]; decide
    have e3 : (r.kind == 3) = false := by rw [beq_eq_false_iff_ne]; rw [hk]; decide
    have e4 : (r.kind == 4) = false := by rw [beq_eq_false_iff_ne]; rw [hk]; decide
    have e5 : (r.kind == 5) = true := by rw [beq_iff_eq]; exact hk
    have e6 : (r.kind == 6) = false := by rw [beq_eq_false_iff_ne]; rw [hk]; decide
    clear hk
    have hob : (Value.slice A1 n c1).ownBlock ≠ some Bo := fun e => by have := HOB.out Bo e; omega
    have hd : decide (r.slot ≥ 256) = true := HD.out
    go_wp2_with fail
    refine bodyPost_ret (v := .agg #[.int .i64 p.id, .int .i64 r.lsn, .int .i64 p.level, .int .i64 (-1), .slice A1 n c1]) ?_ rfl ⟨A1, c1, by rw [En.out], ?_, ?_⟩
    · simp [results, Tryd.results22, go_sem, z0, z1, z2, z3, z4]
    · rw [En.out]
      refine sl_fin HO3.out hob (by omega) ?_
      repeat (first | (with_reducible exact Fr.refl _ _) | with_reducible refine Fr.drew ?_ | with_reducible refine Fr.drewN ?_ _ | with_reducible refine Fr.setCell ?_ (fun m hm => by first | exact hm.1 | exact hm.2) _)
    · have FF := FA3.out
      repeat (first | (with_reducible exact FF) | with_reducible refine Fr.drew ?_ | with_reducible refine Fr.setNew ?_ (by dsimp only; omega) _)
  · rw [if_neg hs]
    have HD := Lib.hid (decide_eq_false (show ¬ r.slot ≥ 256 from hs))
    clear hs
    have HYS := Lib.hid hyes
    have HKK := Lib.hid hk
    have HVV := Lib.hid hv
    clear hyes hk hv
    obtain ⟨A, n, c, rfl, en, _⟩ := h.open_
    obtain ⟨A0, n0, c0, rfl, ek0⟩ := k0.open_
    obtain ⟨A9, n9, c9, rfl, ek1⟩ := k1.open_
    clear ek0 ek1
    obtain ⟨P, R, Z⟩ := heap_a3 w (.cells #[.int .i64 p.id, .int .i64 p.lsn, .int .i64 p.level, .int .i64 p.next, .slice A n c] 30) (.cells #[.int .i64 r.lsn, .int .i64 r.back, .int .i64 r.epoch, .int .i64 r.group, .int .i64 r.page, .int .i64 r.kind, .int .i64 r.slot, .slice A0 n0 c0, .slice A9 n9 c9, .bool r.last] 33) (.cells #[.int .i64 0, .int .i64 0, .int .i64 0, .int .i64 0, .slice none 0 0] 30)
    have F0 := (((Fr.refl All w).alloc (.cells #[.int .i64 p.id, .int .i64 p.lsn, .int .i64 p.level, .int .i64 p.next, .slice A n c] 30)).alloc (.cells #[.int .i64 r.lsn, .int .i64 r.back, .int .i64 r.epoch, .int .i64 r.group, .int .i64 r.page, .int .i64 r.kind, .int .i64 r.slot, .slice A0 n0 c0, .slice A9 n9 c9, .bool r.last] 33)).alloc (.cells #[.int .i64 0, .int .i64 0, .int .i64 0, .int .i64 0, .slice none 0 0] 30)
    have hz : (((w.alloc (.cells #[.int .i64 p.id, .int .i64 p.lsn, .int .i64 p.level, .int .i64 p.next, .slice A n c] 30)).alloc (.cells #[.int .i64 r.lsn, .int .i64 r.back, .int .i64 r.epoch, .int .i64 r.group, .int .i64 r.page, .int .i64 r.kind, .int .i64 r.slot, .slice A0 n0 c0, .slice A9 n9 c9, .bool r.last] 33)).alloc (.cells #[.int .i64 0, .int .i64 0, .int .i64 0, .int .i64 0, .slice none 0 0] 30)).heap.size = w.heap.size + 3 := by simp
    obtain ⟨W, hW⟩ : ∃ W, ((w.alloc (.cells #[.int .i64 p.id, .int .i64 p.lsn, .int .i64 p.level, .int .i64 p.next, .slice A n c] 30)).alloc (.cells #[.int .i64 r.lsn, .int .i64 r.back, .int .i64 r.epoch, .int .i64 r.group, .int .i64 r.page, .int .i64 r.kind, .int .i64 r.slot, .slice A0 n0 c0, .slice A9 n9 c9, .bool r.last] 33)).alloc (.cells #[.int .i64 0, .int .i64 0, .int .i64 0, .int .i64 0, .slice none 0 0] 30) = W := ⟨_, rfl⟩
    rw [hW] at P R Z F0 hz
    obtain ⟨p0, p1, p2, p3, p4, pz⟩ := blk5 P
    have HP := Lib.hid P
    have HR := Lib.hid R
    have HZ := Lib.hid Z
    have HF0 := Lib.hid F0
    have HS := Lib.hid (h.all F0)
    have HK0 := Lib.hid ((k0.mono (T := fun b => b < w.heap.size) fun b _ hl => hl).all F0)
    have HK1 := Lib.hid ((k1.mono (T := fun b => b < w.heap.size) fun b _ hl => hl).all F0)
    have En := Lib.hid en
    clear h k0 k1 en P R Z F0
    go_enter Tryd.func22, Tryd.ntmps22
    go_wp2_with fail
    clear hW
    refine (ref_page (p := p) HS.out hsm.ok).mono ?_
    rintro e w1 ⟨A1, c1, rfl, o1, f1⟩
    rw [En.out] at o1 ⊢
    have FO := (Fr.refl All w1).alloc (.cells #[.int .i64 p.id, .int .i64 p.lsn, .int .i64 p.level, .int .i64 p.next, .slice A1 n c1] 30)
    have hz1 : W.heap.size ≤ w1.heap.size := f1.size
    obtain ⟨Bo, hBo⟩ : ∃ Bo, w1.heap.size = Bo := ⟨_, rfl⟩
    have HO1 := Lib.hid ((o1.mono (T := fun b => W.heap.size + 2 ≤ b ∧ b ≠ Bo) fun b hb hl => ⟨hb, by omega⟩).all FO)
    have BO := heap_alloc_new w1 (.cells #[.int .i64 p.id, .int .i64 p.lsn, .int .i64 p.level, .int .i64 p.next, .slice A1 n c1] 30)
    obtain ⟨W1, hW1⟩ : ∃ W1, w1.alloc (.cells #[.int .i64 p.id, .int .i64 p.lsn, .int .i64 p.level, .int .i64 p.next, .slice A1 n c1] 30) = W1 := ⟨_, rfl⟩
    rw [hW1] at FO HO1 BO
    rw [hBo] at BO
    have hoB : ∀ j, (Value.slice A1 n c1).ownBlock = some j → W.heap.size + 2 ≤ j ∧ j < Bo := fun j hj => by have := own_lt o1 j hj; omega
    have HOB := Lib.hid hoB
    have FW1 := Lib.hid (f1.trans FO)
    have HBO := Lib.hid BO
    clear p0 p1 p2 p3 p4 pz o1 f1 FO BO hoB
    obtain ⟨r0, r1, r2, r3, r4, r5, r6, r7, r8, r9, rz⟩ := blk10 ((FW1.out.block _ (blk_lt HR.out) trivial).trans HR.out)
    obtain ⟨p0, p1, p2, p3, p4, pz⟩ := blk5 ((FW1.out.block _ (blk_lt HP.out) trivial).trans HP.out)
    obtain ⟨z0, z1, z2, z3, z4, zz⟩ := blk5 ((FW1.out.block _ (blk_lt HZ.out) trivial).trans HZ.out)
    obtain ⟨u0, u1, u2, u3, u4, uz⟩ := blk5 HBO.out
    try simp only [hBo]
    have hyes := HYS.out
    have hv := HVV.out
    have d1 : (r.page != p.id) = false := by rw [bne_eq_false_iff_eq]; exact hyes.1
    have d2 : decide (r.lsn ≤ p.lsn) = false := decide_eq_false (by omega)
    have HY := Lib.hid hyes
    clear hyes
    go_wp2_with fail
    clear hW1 d1 d2
    have FS1 : Fr (fun b => b ≠ Bo) W1 (W1.setCell ⟨Bo, 1, none⟩ (.int .i64 r.lsn)) := (Fr.refl _ _).setCell (p := ⟨Bo, 1, none⟩) (fun b hb => hb) _
    have BO2 : (W1.setCell ⟨Bo, 1, none⟩ (.int .i64 r.lsn)).heap[Bo]? = some (.cells #[.int .i64 p.id, .int .i64 r.lsn, .int .i64 p.level, .int .i64 p.next, .slice A1 n c1] 30 (0, 0)) := heap_setCell_same _ Bo 1 _ _ _ HBO.out
    obtain ⟨W2, hW2⟩ : ∃ W2, W1.setCell ⟨Bo, 1, none⟩ (.int .i64 r.lsn) = W2 := ⟨_, rfl⟩
    rw [hW2] at FS1 BO2 ⊢
    clear hW2
    have hv' := validIx_none hv
    have HV := Lib.hid hv'
    have hvk : r.key.length ≤ 1000000 := by omega
    have hvv : r.val.length ≤ 1000000 := by omega
    clear hv hv'
    refine (ref_entry (x := ⟨r.key, r.val⟩) ((HK0.out.all FW1.out).move' FS1 (fun b hb _ => by omega)) ((HK1.out.all FW1.out).move' FS1 (fun b hb _ => by omega)) hvk hvv).mono ?_
    rintro e w3 ⟨A7, c7, A8, c8, rfl, s7, s8, f3⟩
    dsimp only at s7 s8 ⊢
    have FB := (Fr.refl All w3).alloc (.cells #[.slice A7 r.key.length c7, .slice A8 r.val.length c8] 65)
    have FX : Fr All W2 (w3.alloc (.cells #[.slice A7 r.key.length c7, .slice A8 r.val.length c8] 65)) := f3.trans FB
    have BX := heap_alloc_new w3 (.cells #[.slice A7 r.key.length c7, .slice A8 r.val.length c8] 65)
    have S7 := s7.all FB
    have S8 := s8.all FB
    obtain ⟨Bx, hBx⟩ : ∃ Bx, w3.heap.size = Bx := ⟨_, rfl⟩
    have hz3 : W2.heap.size ≤ Bx := by rw [← hBx]; exact f3.size
    obtain ⟨W3, hW3⟩ : ∃ W3, w3.alloc (.cells #[.slice A7 r.key.length c7, .slice A8 r.val.length c8] 65) = W3 := ⟨_, rfl⟩
    rw [hW3] at FX BX S7 S8
    rw [hBx] at BX
    have hz2 : W1.heap.size ≤ W2.heap.size := FS1.size
    have hoW := blk_lt HBO.out
    have FW3 : Hid (Fr (fun b => b ≠ Bo) W1 W3) := Lib.hid (FS1.then_all FX)
    have FA3 : Hid (Fr All w W3) := Lib.hid (by
      have a0 := HF0.out.trans FW1.out
      have hh := FW3.out
      exact ⟨hh.os.trans a0.os, hh.tape.trans a0.tape, hh.output.trans a0.output, Nat.le_trans a0.size hh.size, fun b hb _ => (hh.block b (Nat.lt_of_lt_of_le hb a0.size) (by omega)).trans (a0.block b hb trivial)⟩)
    have HO3 := Lib.hid (HO1.out.move FW3.out (fun b hb _ => hb.2) fun j hj => by have := HOB.out j hj; omega)
    have HU := Lib.hid ((FX.block Bo (by omega) trivial).trans BO2)
    have HX := Lib.hid BX
    have HS7 := Lib.hid S7
    have HS8 := Lib.hid S8
    clear r0 r1 r2 r3 r4 r5 r6 r7 r8 r9 rz p0 p1 p2 p3 p4 pz z0 z1 z2 z3 z4 zz u0 u1 u2 u3 u4 uz s7 s8 f3 S7 S8 FB FX BX BO2 FS1
    obtain ⟨r0, r1, r2, r3, r4, r5, r6, r7, r8, r9, rz⟩ := blk10 ((FW3.out.block _ (blk_lt ((FW1.out.block _ (blk_lt HR.out) trivial).trans HR.out)) (by omega)).trans ((FW1.out.block _ (blk_lt HR.out) trivial).trans HR.out))
    obtain ⟨z0, z1, z2, z3, z4, zz⟩ := blk5 ((FW3.out.block _ (blk_lt ((FW1.out.block _ (blk_lt HZ.out) trivial).trans HZ.out)) (by omega)).trans ((FW1.out.block _ (blk_lt HZ.out) trivial).trans HZ.out))
    obtain ⟨u0, u1, u2, u3, u4, uz⟩ := blk5 HU.out
    obtain ⟨y0, y1, yz⟩ := blk2 HX.out
    clear r0 r1 r2 r3 r4 r6 r7 r8 r9 rz
    try simp only [hBx]
    have hk := HKK.out
    have e1 : (r.kind == 1) = false := by rw [beq_eq_false_iff_ne]; rw [hk]; decide
    have e2 : (r.kind == 2) = false := by rw [beq_eq_false_iff_ne]; rw [hk]; decide
    have e3 : (r.kind == 3) = false := by rw [beq_eq_false_iff_ne]; rw [hk]; decide
    have e4 : (r.kind == 4) = false := by rw [beq_eq_false_iff_ne]; rw [hk]; decide
    have e5 : (r.kind == 5) = true := by rw [beq_iff_eq]; exact hk
    have e6 : (r.kind == 6) = false := by rw [beq_eq_false_iff_ne]; rw [hk]; decide
    clear hk
    have hob : (Value.slice A1 n c1).ownBlock ≠ some Bo := fun e => by have := HOB.out Bo e; omega
    have hd : decide (r.slot ≥ 256) = false := HD.out
    go_wp2_with fail
    refine bodyPost_ret (v := .agg #[.int .i64 p.id, .int .i64 r.lsn, .int .i64 p.level, .int .i64 r.slot, .slice A1 n c1]) ?_ rfl ⟨A1, c1, by rw [En.out], ?_, ?_⟩
    · simp [results, Tryd.results22, go_sem, z0, z1, z2, z3, z4]
    · rw [En.out]
      refine sl_fin HO3.out hob (by omega) ?_
      repeat (first | (with_reducible exact Fr.refl _ _) | with_reducible refine Fr.drew ?_ | with_reducible refine Fr.drewN ?_ _ | with_reducible refine Fr.setCell ?_ (fun m hm => by first | exact hm.1 | exact hm.2) _)
    · have FF := FA3.out
      repeat (first | (with_reducible exact FF) | with_reducible refine Fr.drew ?_ | with_reducible refine Fr.setNew ?_ (by dsimp only; omega) _)
set_option hygiene false in
set_option maxRecDepth 100000 in
set_option maxHeartbeats 8000000 in
theorem ref_apply_cut {p : Page} {r : Redo} {v v0 v1 : Value} {S S0 S1 : Nat → Prop} {w : World} (h : Sl kEnt S w v p.ents) (hsm : SmallP p) (k0 : Sl kByte S0 w v0 r.key) (k1 : Sl kByte S1 w v1 r.val) (hv : validIx r = none) (hyes : r.page = p.id ∧ p.lsn < r.lsn) (hk : r.kind = 6) :
    Calls Tryd.prog 22 #[.agg #[.int .i64 p.id, .int .i64 p.lsn, .int .i64 p.level, .int .i64 p.next, v], .agg #[.int .i64 r.lsn, .int .i64 r.back, .int .i64 r.epoch, .int .i64 r.group, .int .i64 r.page, .int .i64 r.kind, .int .i64 r.slot, v0, v1, .bool r.last]] w (RAppl w (papply p r)) := by
  have hpa : ¬(r.page ≠ p.id ∨ r.lsn ≤ p.lsn) := by
    rintro (h | h)
    · exact h hyes.1
    · omega
  have hq : papply p r = { p with lsn := r.lsn, ents := p.ents.take (min r.slot.toNat p.ents.length) } := by
    unfold papply
    rw [if_neg hpa, if_neg (by rw [hk]; decide), if_neg (by rw [hk]; decide), if_neg (by rw [hk]; decide), if_neg (by rw [hk]; decide), if_neg (by rw [hk]; decide), if_pos hk]
  rw [hq]
  clear hpa hq
  have HYS := Lib.hid hyes
  have HKK := Lib.hid hk
  have HVV := Lib.hid hv
  clear hyes hk hv
  obtain ⟨A, n, c, rfl, en, _⟩ := h.open_
  obtain ⟨A0, n0, c0, rfl, ek0⟩ := k0.open_
  obtain ⟨A9, n9, c9, rfl, ek1⟩ := k1.open_
  clear ek0 ek1
  obtain ⟨P, R, Z⟩ := heap_a3 w (.cells #[.int .i64 p.id, .int .i64 p.lsn, .int .i64 p.level, .int .i64 p.next, .slice A n c] 30) (.cells #[.int .i64 r.lsn, .int .i64 r.back, .int .i64 r.epoch, .int .i64 r.group, .int .i64 r.page, .int .i64 r.kind, .int .i64 r.slot, .slice A0 n0 c0, .slice A9 n9 c9, .bool r.last] 33) (.cells #[.int .i64 0, .int .i64 0, .int .i64 0, .int .i64 0, .slice none 0 0] 30)
  have F0 := (((Fr.refl All w).alloc (.cells #[.int .i64 p.id, .int .i64 p.lsn, .int .i64 p.level, .int .i64 p.next, .slice A n c] 30)).alloc (.cells #[.int .i64 r.lsn, .int .i64 r.back, .int .i64 r.epoch, .int .i64 r.group, .int .i64 r.page, .int .i64 r.kind, .int .i64 r.slot, .slice A0 n0 c0, .slice A9 n9 c9, .bool r.last] 33)).alloc (.cells #[.int .i64 0, .int .i64 0, .int .i64 0, .int .i64 0, .slice none 0 0] 30)
  have hz : (((w.alloc (.cells #[.int .i64 p.id, .int .i64 p.lsn, .int .i64 p.level, .int .i64 p.next, .slice A n c] 30)).alloc (.cells #[.int .i64 r.lsn, .int .i64 r.back, .int .i64 r.epoch, .int .i64 r.group, .int .i64 r.page, .int .i64 r.kind, .int .i64 r.slot, .slice A0 n0 c0, .slice A9 n9 c9, .bool r.last] 33)).alloc (.cells #[.int .i64 0, .int .i64 0, .int .i64 0, .int .i64 0, .slice none 0 0] 30)).heap.size = w.heap.size + 3 := by simp
  obtain ⟨W, hW⟩ : ∃ W, ((w.alloc (.cells #[.int .i64 p.id, .int .i64 p.lsn, .int .i64 p.level, .int .i64 p.next, .slice A n c] 30)).alloc (.cells #[.int .i64 r.lsn, .int .i64 r.back, .int .i64 r.epoch, .int .i64 r.group, .int .i64 r.page, .int .i64 r.kind, .int .i64 r.slot, .slice A0 n0 c0, .slice A9 n9 c9, .bool r.last] 33)).alloc (.cells #[.int .i64 0, .int .i64 0, .int .i64 0, .int .i64 0, .slice none 0 0] 30) = W := ⟨_, rfl⟩
  rw [hW] at P R Z F0 hz
  obtain ⟨p0, p1, p2, p3, p4, pz⟩ := blk5 P
  have HP := Lib.hid P
  have HR := Lib.hid R
  have HZ := Lib.hid Z
  have HF0 := Lib.hid F0
  have HS := Lib.hid (h.all F0)
  have HK0 := Lib.hid ((k0.mono (T := fun b => b < w.heap.size) fun b _ hl => hl).all F0)
  have HK1 := Lib.hid ((k1.mono (T := fun b => b < w.heap.size) fun b _ hl => hl).all F0)
  have En := Lib.hid en
  clear h k0 k1 en P R Z F0
  go_enter Tryd.func22, Tryd.ntmps22
  go_wp2_with fail
  clear hW
  refine (ref_page (p := p) HS.out hsm.ok).mono ?_
  rintro e w1 ⟨A1, c1, rfl, o1, f1⟩
  rw [En.out] at o1 ⊢
  have FO := (Fr.refl All w1).alloc (.cells #[.int .i64 p.id, .int .i64 p.lsn, .int .i64 p.level, .int .i64 p.next, .slice A1 n c1] 30)
  have hz1 : W.heap.size ≤ w1.heap.size := f1.size
  obtain ⟨Bo, hBo⟩ : ∃ Bo, w1.heap.size = Bo := ⟨_, rfl⟩
  have HO1 := Lib.hid ((o1.mono (T := fun b => W.heap.size + 2 ≤ b ∧ b ≠ Bo) fun b hb hl => ⟨hb, by omega⟩).all FO)
  have BO := heap_alloc_new w1 (.cells #[.int .i64 p.id, .int .i64 p.lsn, .int .i64 p.level, .int .i64 p.next, .slice A1 n c1] 30)
  obtain ⟨W1, hW1⟩ : ∃ W1, w1.alloc (.cells #[.int .i64 p.id, .int .i64 p.lsn, .int .i64 p.level, .int .i64 p.next, .slice A1 n c1] 30) = W1 := ⟨_, rfl⟩
  rw [hW1] at FO HO1 BO
  rw [hBo] at BO
  have hoB : ∀ j, (Value.slice A1 n c1).ownBlock = some j → W.heap.size + 2 ≤ j ∧ j < Bo := fun j hj => by have := own_lt o1 j hj; omega
  have HOB := Lib.hid hoB
  have FW1 := Lib.hid (f1.trans FO)
  have HBO := Lib.hid BO
  clear p0 p1 p2 p3 p4 pz o1 f1 FO BO hoB
  obtain ⟨r0, r1, r2, r3, r4, r5, r6, r7, r8, r9, rz⟩ := blk10 ((FW1.out.block _ (blk_lt HR.out) trivial).trans HR.out)
  obtain ⟨p0, p1, p2, p3, p4, pz⟩ := blk5 ((FW1.out.block _ (blk_lt HP.out) trivial).trans HP.out)
  obtain ⟨z0, z1, z2, z3, z4, zz⟩ := blk5 ((FW1.out.block _ (blk_lt HZ.out) trivial).trans HZ.out)
  obtain ⟨u0, u1, u2, u3, u4, uz⟩ := blk5 HBO.out
  try simp only [hBo]
  have hyes := HYS.out
  have hv := HVV.out
  have d1 : (r.page != p.id) = false := by rw [bne_eq_false_iff_eq]; exact hyes.1
  have d2 : decide (r.lsn ≤ p.lsn) = false := decide_eq_false (by omega)
  have HY := Lib.hid hyes
  clear hyes
  go_wp2_with fail
  clear hW1 d1 d2
  have FS1 : Fr (fun b => b ≠ Bo) W1 (W1.setCell ⟨Bo, 1, none⟩ (.int .i64 r.lsn)) := (Fr.refl _ _).setCell (p := ⟨Bo, 1, none⟩) (fun b hb => hb) _
  have BO2 : (W1.setCell ⟨Bo, 1, none⟩ (.int .i64 r.lsn)).heap[Bo]? = some (.cells #[.int .i64 p.id, .int .i64 r.lsn, .int .i64 p.level, .int .i64 p.next, .slice A1 n c1] 30 (0, 0)) := heap_setCell_same _ Bo 1 _ _ _ HBO.out
  obtain ⟨W2, hW2⟩ : ∃ W2, W1.setCell ⟨Bo, 1, none⟩ (.int .i64 r.lsn) = W2 := ⟨_, rfl⟩
  rw [hW2] at FS1 BO2 ⊢
  clear hW2
  have hv' := validIx_none hv
  have HV := Lib.hid hv'
  have hvk : r.key.length ≤ 1000000 := by omega
  have hvv : r.val.length ≤ 1000000 := by omega
  clear hv hv'
  refine (ref_entry (x := ⟨r.key, r.val⟩) ((HK0.out.all FW1.out).move' FS1 (fun b hb _ => by omega)) ((HK1.out.all FW1.out).move' FS1 (fun b hb _ => by omega)) hvk hvv).mono ?_
  rintro e w3 ⟨A7, c7, A8, c8, rfl, s7, s8, f3⟩
  dsimp only at s7 s8 ⊢
  have FB := (Fr.refl All w3).alloc (.cells #[.slice A7 r.key.length c7, .slice A8 r.val.length c8] 65)
  have FX : Fr All W2 (w3.alloc (.cells #[.slice A7 r.key.length c7, .slice A8 r.val.length c8] 65)) := f3.trans FB
  have BX := heap_alloc_new w3 (.cells #[.slice A7 r.key.length c7, .slice A8 r.val.length c8] 65)
  have S7 := s7.all FB
  have S8 := s8.all FB
  obtain ⟨Bx, hBx⟩ : ∃ Bx, w3.heap.size = Bx := ⟨_, rfl⟩
  have hz3 : W2.heap.size ≤ Bx := by rw [← hBx]; exact f3.size
  obtain ⟨W3, hW3⟩ : ∃ W3, w3.alloc (.cells #[.slice A7 r.key.length c7, .slice A8 r.val.length c8] 65) = W3 := ⟨_, rfl⟩
  rw [hW3] at FX BX S7 S8
  rw [hBx] at BX
  have hz2 : W1.heap.size ≤ W2.heap.size := FS1.size
  have hoW := blk_lt HBO.out
  have FW3 : Hid (Fr (fun b => b ≠ Bo) W1 W3) := Lib.hid (FS1.then_all FX)
  have FA3 : Hid (Fr All w W3) := Lib.hid (by
    have a0 := HF0.out.trans FW1.out
    have hh := FW3.out
    exact ⟨hh.os.trans a0.os, hh.tape.trans a0.tape, hh.output.trans a0.output, Nat.le_trans a0.size hh.size, fun b hb _ => (hh.block b (Nat.lt_of_lt_of_le hb a0.size) (by omega)).trans (a0.block b hb trivial)⟩)
  have HO3 := Lib.hid (HO1.out.move FW3.out (fun b hb _ => hb.2) fun j hj => by have := HOB.out j hj; omega)
  have HU := Lib.hid ((FX.block Bo (by omega) trivial).trans BO2)
  have HX := Lib.hid BX
  have HS7 := Lib.hid S7
  have HS8 := Lib.hid S8
  clear r0 r1 r2 r3 r4 r5 r6 r7 r8 r9 rz p0 p1 p2 p3 p4 pz z0 z1 z2 z3 z4 zz u0 u1 u2 u3 u4 uz s7 s8 f3 S7 S8 FB FX BX BO2 FS1
  obtain ⟨r0, r1, r2, r3, r4, r5, r6, r7, r8, r9, rz⟩ := blk10 ((FW3.out.block _ (blk_lt ((FW1.out.block _ (blk_lt HR.out) trivial).trans HR.out)) (by omega)).trans ((FW1.out.block _ (blk_lt HR.out) trivial).trans HR.out))
  obtain ⟨z0, z1, z2, z3, z4, zz⟩ := blk5 ((FW3.out.block _ (blk_lt ((FW1.out.block _ (blk_lt HZ.out) trivial).trans HZ.out)) (by omega)).trans ((FW1.out.block _ (blk_lt HZ.out) trivial).trans HZ.out))
  obtain ⟨u0, u1, u2, u3, u4, uz⟩ := blk5 HU.out
  obtain ⟨y0, y1, yz⟩ := blk2 HX.out
  clear r0 r1 r2 r3 r4 r6 r7 r8 r9 rz
  try simp only [hBx]
  have hk := HKK.out
  have e1 : (r.kind == 1) = false := by rw [beq_eq_false_iff_ne]; rw [hk]; decide
  have e2 : (r.kind == 2) = false := by rw [beq_eq_false_iff_ne]; rw [hk]; decide
  have e3 : (r.kind == 3) = false := by rw [beq_eq_false_iff_ne]; rw [hk]; decide
  have e4 : (r.kind == 4) = false := by rw [beq_eq_false_iff_ne]; rw [hk]; decide
  have e5 : (r.kind == 5) = false := by rw [beq_eq_false_iff_ne]; rw [hk]; decide
  have e6 : (r.kind == 6) = true := by rw [beq_iff_eq]; exact hk
  clear hk
  have hob : (Value.slice A1 n c1).ownBlock ≠ some Bo := fun e => by have := HOB.out Bo e; omega
  obtain ⟨m, hm⟩ : ∃ m, min r.slot.toNat n = m := ⟨_, rfl⟩
  have hmin : min r.slot (n : Int) = (m : Int) := by have := HV.out; omega
  have hcap : n ≤ c1 := by obtain ⟨_, _, he, h1, _⟩ := HO3.out.sl; have h3 := (Value.slice.inj he).2; have := En.out; omega
  have i0 : (0 : Int) ≤ (m : Int) := by omega
  have i1 : (m : Int) ≤ (c1 : Int) := by omega
  have hmn : m ≤ n := by omega
  have HTK := Lib.hid (HO3.out.take hmn)
  have HM := Lib.hid hm
  clear hm hcap
  go_wp2_with fail
  have heq : min r.slot.toNat p.ents.length = m := by rw [En.out]; exact HM.out
  have hlen : (p.ents.take m).length = m := by rw [List.length_take, En.out]; omega
  refine bodyPost_ret (v := .agg #[.int .i64 p.id, .int .i64 r.lsn, .int .i64 p.level, .int .i64 p.next, .slice A1 m c1]) ?_ rfl ⟨A1, c1, by dsimp only; rw [heq, hlen], ?_, ?_⟩
  · simp [results, Tryd.results22, go_sem, z0, z1, z2, z3, z4]
  · dsimp only
    rw [heq, hlen]
    refine sl_fin HTK.out (by cases A1 <;> exact hob) (by omega) ?_
    repeat (first | (with_reducible exact Fr.refl _ _) | with_reducible refine Fr.drew ?_ | with_reducible refine Fr.drewN ?_ _ | with_reducible refine Fr.setCell ?_ (fun m hm => by first | exact hm.1 | exact hm.2) _)
  · have FF := FA3.out
    repeat (first | (with_reducible exact FF) | with_reducible refine Fr.drew ?_ | with_reducible refine Fr.setNew ?_ (by dsimp only; omega) _)
set_option hygiene false in
set_option maxRecDepth 100000 in
set_option maxHeartbeats 8000000 in
theorem ref_apply_change0 {p : Page} {r : Redo} {v v0 v1 : Value} {S S0 S1 : Nat → Prop} {w : World} (h : Sl kEnt S w v p.ents) (hsm : SmallP p) (k0 : Sl kByte S0 w v0 r.key) (k1 : Sl kByte S1 w v1 r.val) (hv : validIx r = none) (hyes : r.page = p.id ∧ p.lsn < r.lsn) (hk : r.kind = 4) (hs : p.ents.length ≤ r.slot.toNat) :
    Calls Tryd.prog 22 #[.agg #[.int .i64 p.id, .int .i64 p.lsn, .int .i64 p.level, .int .i64 p.next, v], .agg #[.int .i64 r.lsn, .int .i64 r.back, .int .i64 r.epoch, .int .i64 r.group, .int .i64 r.page, .int .i64 r.kind, .int .i64 r.slot, v0, v1, .bool r.last]] w (RAppl w (papply p r)) := by
  have hpa : ¬(r.page ≠ p.id ∨ r.lsn ≤ p.lsn) := by
    rintro (h | h)
    · exact h hyes.1
    · omega
  have hq : papply p r = { p with lsn := r.lsn } := by
    unfold papply
    rw [if_neg hpa, if_neg (by rw [hk]; decide), if_neg (by rw [hk]; decide), if_neg (by rw [hk]; decide), if_pos hk, List.getElem?_eq_none hs]
  rw [hq]
  clear hpa hq
  have HSL := Lib.hid hs
  clear hs
  have HYS := Lib.hid hyes
  have HKK := Lib.hid hk
  have HVV := Lib.hid hv
  clear hyes hk hv
  obtain ⟨A, n, c, rfl, en, _⟩ := h.open_
  obtain ⟨A0, n0, c0, rfl, ek0⟩ := k0.open_
  obtain ⟨A9, n9, c9, rfl, ek1⟩ := k1.open_
  clear ek0 ek1
  obtain ⟨P, R, Z⟩ := heap_a3 w (.cells #[.int .i64 p.id, .int .i64 p.lsn, .int .i64 p.level, .int .i64 p.next, .slice A n c] 30) (.cells #[.int .i64 r.lsn, .int .i64 r.back, .int .i64 r.epoch, .int .i64 r.group, .int .i64 r.page, .int .i64 r.kind, .int .i64 r.slot, .slice A0 n0 c0, .slice A9 n9 c9, .bool r.last] 33) (.cells #[.int .i64 0, .int .i64 0, .int .i64 0, .int .i64 0, .slice none 0 0] 30)
  have F0 := (((Fr.refl All w).alloc (.cells #[.int .i64 p.id, .int .i64 p.lsn, .int .i64 p.level, .int .i64 p.next, .slice A n c] 30)).alloc (.cells #[.int .i64 r.lsn, .int .i64 r.back, .int .i64 r.epoch, .int .i64 r.group, .int .i64 r.page, .int .i64 r.kind, .int .i64 r.slot, .slice A0 n0 c0, .slice A9 n9 c9, .bool r.last] 33)).alloc (.cells #[.int .i64 0, .int .i64 0, .int .i64 0, .int .i64 0, .slice none 0 0] 30)
  have hz : (((w.alloc (.cells #[.int .i64 p.id, .int .i64 p.lsn, .int .i64 p.level, .int .i64 p.next, .slice A n c] 30)).alloc (.cells #[.int .i64 r.lsn, .int .i64 r.back, .int .i64 r.epoch, .int .i64 r.group, .int .i64 r.page, .int .i64 r.kind, .int .i64 r.slot, .slice A0 n0 c0, .slice A9 n9 c9, .bool r.last] 33)).alloc (.cells #[.int .i64 0, .int .i64 0, .int .i64 0, .int .i64 0, .slice none 0 0] 30)).heap.size = w.heap.size + 3 := by simp
  obtain ⟨W, hW⟩ : ∃ W, ((w.alloc (.cells #[.int .i64 p.id, .int .i64 p.lsn, .int .i64 p.level, .int .i64 p.next, .slice A n c] 30)).alloc (.cells #[.int .i64 r.lsn, .int .i64 r.back, .int .i64 r.epoch, .int .i64 r.group, .int .i64 r.page, .int .i64 r.kind, .int .i64 r.slot, .slice A0 n0 c0, .slice A9 n9 c9, .bool r.last] 33)).alloc (.cells #[.int .i64 0, .int .i64 0, .int .i64 0, .int .i64 0, .slice none 0 0] 30) = W := ⟨_, rfl⟩
  rw [hW] at P R Z F0 hz
  obtain ⟨p0, p1, p2, p3, p4, pz⟩ := blk5 P
  have HP := Lib.hid P
  have HR := Lib.hid R
  have HZ := Lib.hid Z
  have HF0 := Lib.hid F0
  have HS := Lib.hid (h.all F0)
  have HK0 := Lib.hid ((k0.mono (T := fun b => b < w.heap.size) fun b _ hl => hl).all F0)
  have HK1 := Lib.hid ((k1.mono (T := fun b => b < w.heap.size) fun b _ hl => hl).all F0)
  have En := Lib.hid en
  clear h k0 k1 en P R Z F0
  go_enter Tryd.func22, Tryd.ntmps22
  go_wp2_with fail
  clear hW
  refine (ref_page (p := p) HS.out hsm.ok).mono ?_
  rintro e w1 ⟨A1, c1, rfl, o1, f1⟩
  rw [En.out] at o1 ⊢
  have FO := (Fr.refl All w1).alloc (.cells #[.int .i64 p.id, .int .i64 p.lsn, .int .i64 p.level, .int .i64 p.next, .slice A1 n c1] 30)
  have hz1 : W.heap.size ≤ w1.heap.size := f1.size
  obtain ⟨Bo, hBo⟩ : ∃ Bo, w1.heap.size = Bo := ⟨_, rfl⟩
  have HO1 := Lib.hid ((o1.mono (T := fun b => W.heap.size + 2 ≤ b ∧ b ≠ Bo) fun b hb hl => ⟨hb, by omega⟩).all FO)
  have BO := heap_alloc_new w1 (.cells #[.int .i64 p.id, .int .i64 p.lsn, .int .i64 p.level, .int .i64 p.next, .slice A1 n c1] 30)
  obtain ⟨W1, hW1⟩ : ∃ W1, w1.alloc (.cells #[.int .i64 p.id, .int .i64 p.lsn, .int .i64 p.level, .int .i64 p.next, .slice A1 n c1] 30) = W1 := ⟨_, rfl⟩
  rw [hW1] at FO HO1 BO
  rw [hBo] at BO
  have hoB : ∀ j, (Value.slice A1 n c1).ownBlock = some j → W.heap.size + 2 ≤ j ∧ j < Bo := fun j hj => by have := own_lt o1 j hj; omega
  have HOB := Lib.hid hoB
  have FW1 := Lib.hid (f1.trans FO)
  have HBO := Lib.hid BO
  clear p0 p1 p2 p3 p4 pz o1 f1 FO BO hoB
  obtain ⟨r0, r1, r2, r3, r4, r5, r6, r7, r8, r9, rz⟩ := blk10 ((FW1.out.block _ (blk_lt HR.out) trivial).trans HR.out)
  obtain ⟨p0, p1, p2, p3, p4, pz⟩ := blk5 ((FW1.out.block _ (blk_lt HP.out) trivial).trans HP.out)
  obtain ⟨z0, z1, z2, z3, z4, zz⟩ := blk5 ((FW1.out.block _ (blk_lt HZ.out) trivial).trans HZ.out)
  obtain ⟨u0, u1, u2, u3, u4, uz⟩ := blk5 HBO.out
  try simp only [hBo]
  have hyes := HYS.out
  have hv := HVV.out
  have d1 : (r.page != p.id) = false := by rw [bne_eq_false_iff_eq]; exact hyes.1
  have d2 : decide (r.lsn ≤ p.lsn) = false := decide_eq_false (by omega)
  have HY := Lib.hid hyes
  clear hyes
  go_wp2_with fail
  clear hW1 d1 d2
  have FS1 : Fr (fun b => b ≠ Bo) W1 (W1.setCell ⟨Bo, 1, none⟩ (.int .i64 r.lsn)) := (Fr.refl _ _).setCell (p := ⟨Bo, 1, none⟩) (fun b hb => hb) _
  have BO2 : (W1.setCell ⟨Bo, 1, none⟩ (.int .i64 r.lsn)).heap[Bo]? = some (.cells #[.int .i64 p.id, .int .i64 r.lsn, .int .i64 p.level, .int .i64 p.next, .slice A1 n c1] 30 (0, 0)) := heap_setCell_same _ Bo 1 _ _ _ HBO.out
  obtain ⟨W2, hW2⟩ : ∃ W2, W1.setCell ⟨Bo, 1, none⟩ (.int .i64 r.lsn) = W2 := ⟨_, rfl⟩
  rw [hW2] at FS1 BO2 ⊢
  clear hW2
  have hv' := validIx_none hv
  have HV := Lib.hid hv'
  have hvk : r.key.length ≤ 1000000 := by omega
  have hvv : r.val.length ≤ 1000000 := by omega
  clear hv hv'
  refine (ref_entry (x := ⟨r.key, r.val⟩) ((HK0.out.all FW1.out).move' FS1 (fun b hb _ => by omega)) ((HK1.out.all FW1.out).move' FS1 (fun b hb _ => by omega)) hvk hvv).mono ?_
  rintro e w3 ⟨A7, c7, A8, c8, rfl, s7, s8, f3⟩
  dsimp only at s7 s8 ⊢
  have FB := (Fr.refl All w3).alloc (.cells #[.slice A7 r.key.length c7, .slice A8 r.val.length c8] 65)
  have FX : Fr All W2 (w3.alloc (.cells #[.slice A7 r.key.length c7, .slice A8 r.val.length c8] 65)) := f3.trans FB
  have BX := heap_alloc_new w3 (.cells #[.slice A7 r.key.length c7, .slice A8 r.val.length c8] 65)
  have S7 := s7.all FB
  have S8 := s8.all FB
  obtain ⟨Bx, hBx⟩ : ∃ Bx, w3.heap.size = Bx := ⟨_, rfl⟩
  have hz3 : W2.heap.size ≤ Bx := by rw [← hBx]; exact f3.size
  obtain ⟨W3, hW3⟩ : ∃ W3, w3.alloc (.cells #[.slice A7 r.key.length c7, .slice A8 r.val.length c8] 65) = W3 := ⟨_, rfl⟩
  rw [hW3] at FX BX S7 S8
  rw [hBx] at BX
  have hz2 : W1.heap.size ≤ W2.heap.size := FS1.size
  have hoW := blk_lt HBO.out
  have FW3 : Hid (Fr (fun b => b ≠ Bo) W1 W3) := Lib.hid (FS1.then_all FX)
  have FA3 : Hid (Fr All w W3) := Lib.hid (by
    have a0 := HF0.out.trans FW1.out
    have hh := FW3.out
    exact ⟨hh.os.trans a0.os, hh.tape.trans a0.tape, hh.output.trans a0.output, Nat.le_trans a0.size hh.size, fun b hb _ => (hh.block b (Nat.lt_of_lt_of_le hb a0.size) (by omega)).trans (a0.block b hb trivial)⟩)
  have HO3 := Lib.hid (HO1.out.move FW3.out (fun b hb _ => hb.2) fun j hj => by have := HOB.out j hj; omega)
  have HU := Lib.hid ((FX.block Bo (by omega) trivial).trans BO2)
  have HX := Lib.hid BX
  have HS7 := Lib.hid S7
  have HS8 := Lib.hid S8
  clear r0 r1 r2 r3 r4 r5 r6 r7 r8 r9 rz p0 p1 p2 p3 p4 pz z0 z1 z2 z3 z4 zz u0 u1 u2 u3 u4 uz s7 s8 f3 S7 S8 FB FX BX BO2 FS1
  obtain ⟨r0, r1, r2, r3, r4, r5, r6, r7, r8, r9, rz⟩ := blk10 ((FW3.out.block _ (blk_lt ((FW1.out.block _ (blk_lt HR.out) trivial).trans HR.out)) (by omega)).trans ((FW1.out.block _ (blk_lt HR.out) trivial).trans HR.out))
  obtain ⟨z0, z1, z2, z3, z4, zz⟩ := blk5 ((FW3.out.block _ (blk_lt ((FW1.out.block _ (blk_lt HZ.out) trivial).trans HZ.out)) (by omega)).trans ((FW1.out.block _ (blk_lt HZ.out) trivial).trans HZ.out))
  obtain ⟨u0, u1, u2, u3, u4, uz⟩ := blk5 HU.out
  obtain ⟨y0, y1, yz⟩ := blk2 HX.out
  clear r0 r1 r2 r3 r4 r6 r7 r8 r9 rz
  try simp only [hBx]
  have hk := HKK.out
  have e1 : (r.kind == 1) = false := by rw [beq_eq_false_iff_ne]; rw [hk]; decide
  have e2 : (r.kind == 2) = false := by rw [beq_eq_false_iff_ne]; rw [hk]; decide
  have e3 : (r.kind == 3) = false := by rw [beq_eq_false_iff_ne]; rw [hk]; decide
  have e4 : (r.kind == 4) = true := by rw [beq_iff_eq]; exact hk
  have e5 : (r.kind == 5) = false := by rw [beq_eq_false_iff_ne]; rw [hk]; decide
  have e6 : (r.kind == 6) = false := by rw [beq_eq_false_iff_ne]; rw [hk]; decide
  clear hk
  have hob : (Value.slice A1 n c1).ownBlock ≠ some Bo := fun e => by have := HOB.out Bo e; omega
  have hd : decide (r.slot < (n : Int)) = false := decide_eq_false (by have := HSL.out; have := HV.out; have := En.out; omega)
  go_wp2_with fail
  refine bodyPost_ret (v := .agg #[.int .i64 p.id, .int .i64 r.lsn, .int .i64 p.level, .int .i64 p.next, .slice A1 n c1]) ?_ rfl ⟨A1, c1, by rw [En.out], ?_, ?_⟩
  · simp [results, Tryd.results22, go_sem, z0, z1, z2, z3, z4]
  · rw [En.out]
    refine sl_fin HO3.out hob (by omega) ?_
    repeat (first | (with_reducible exact Fr.refl _ _) | with_reducible refine Fr.drew ?_ | with_reducible refine Fr.drewN ?_ _ | with_reducible refine Fr.setCell ?_ (fun m hm => by first | exact hm.1 | exact hm.2) _)
  · have FF := FA3.out
    repeat (first | (with_reducible exact FF) | with_reducible refine Fr.drew ?_ | with_reducible refine Fr.setNew ?_ (by dsimp only; omega) _)
set_option hygiene false in
set_option maxRecDepth 100000 in
set_option maxHeartbeats 8000000 in
theorem ref_apply_remove0 {p : Page} {r : Redo} {v v0 v1 : Value} {S S0 S1 : Nat → Prop} {w : World} (h : Sl kEnt S w v p.ents) (hsm : SmallP p) (k0 : Sl kByte S0 w v0 r.key) (k1 : Sl kByte S1 w v1 r.val) (hv : validIx r = none) (hyes : r.page = p.id ∧ p.lsn < r.lsn) (hk : r.kind = 3) (hs : p.ents.length ≤ r.slot.toNat) :
    Calls Tryd.prog 22 #[.agg #[.int .i64 p.id, .int .i64 p.lsn, .int .i64 p.level, .int .i64 p.next, v], .agg #[.int .i64 r.lsn, .int .i64 r.back, .int .i64 r.epoch, .int .i64 r.group, .int .i64 r.page, .int .i64 r.kind, .int .i64 r.slot, v0, v1, .bool r.last]] w (RAppl w (papply p r)) := by
  have hpa : ¬(r.page ≠ p.id ∨ r.lsn ≤ p.lsn) := by
    rintro (h | h)
    · exact h hyes.1
    · omega
  have hq : papply p r = { p with lsn := r.lsn } := by
    unfold papply
    rw [if_neg hpa, if_neg (by rw [hk]; decide), if_neg (by rw [hk]; decide), if_pos hk, if_neg (by omega)]
  rw [hq]
  clear hpa hq
  have HSL := Lib.hid hs
  clear hs
  have HYS := Lib.hid hyes
  have HKK := Lib.hid hk
  have HVV := Lib.hid hv
  clear hyes hk hv
  obtain ⟨A, n, c, rfl, en, _⟩ := h.open_
  obtain ⟨A0, n0, c0, rfl, ek0⟩ := k0.open_
  obtain ⟨A9, n9, c9, rfl, ek1⟩ := k1.open_
  clear ek0 ek1
  obtain ⟨P, R, Z⟩ := heap_a3 w (.cells #[.int .i64 p.id, .int .i64 p.lsn, .int .i64 p.level, .int .i64 p.next, .slice A n c] 30) (.cells #[.int .i64 r.lsn, .int .i64 r.back, .int .i64 r.epoch, .int .i64 r.group, .int .i64 r.page, .int .i64 r.kind, .int .i64 r.slot, .slice A0 n0 c0, .slice A9 n9 c9, .bool r.last] 33) (.cells #[.int .i64 0, .int .i64 0, .int .i64 0, .int .i64 0, .slice none 0 0] 30)
  have F0 := (((Fr.refl All w).alloc (.cells #[.int .i64 p.id, .int .i64 p.lsn, .int .i64 p.level, .int .i64 p.next, .slice A n c] 30)).alloc (.cells #[.int .i64 r.lsn, .int .i64 r.back, .int .i64 r.epoch, .int .i64 r.group, .int .i64 r.page, .int .i64 r.kind, .int .i64 r.slot, .slice A0 n0 c0, .slice A9 n9 c9, .bool r.last] 33)).alloc (.cells #[.int .i64 0, .int .i64 0, .int .i64 0, .int .i64 0, .slice none 0 0] 30)
  have hz : (((w.alloc (.cells #[.int .i64 p.id, .int .i64 p.lsn, .int .i64 p.level, .int .i64 p.next, .slice A n c] 30)).alloc (.cells #[.int .i64 r.lsn, .int .i64 r.back, .int .i64 r.epoch, .int .i64 r.group, .int .i64 r.page, .int .i64 r.kind, .int .i64 r.slot, .slice A0 n0 c0, .slice A9 n9 c9, .bool r.last] 33)).alloc (.cells #[.int .i64 0, .int .i64 0, .int .i64 0, .int .i64 0, .slice none 0 0] 30)).heap.size = w.heap.size + 3 := by simp
  obtain ⟨W, hW⟩ : ∃ W, ((w.alloc (.cells #[.int .i64 p.id, .int .i64 p.lsn, .int .i64 p.level, .int .i64 p.next, .slice A n c] 30)).alloc (.cells #[.int .i64 r.lsn, .int .i64 r.back, .int .i64 r.epoch, .int .i64 r.group, .int .i64 r.page, .int .i64 r.kind, .int .i64 r.slot, .slice A0 n0 c0, .slice A9 n9 c9, .bool r.last] 33)).alloc (.cells #[.int .i64 0, .int .i64 0, .int .i64 0, .int .i64 0, .slice none 0 0] 30) = W := ⟨_, rfl⟩
  rw [hW] at P R Z F0 hz
  obtain ⟨p0, p1, p2, p3, p4, pz⟩ := blk5 P
  have HP := Lib.hid P
  have HR := Lib.hid R
  have HZ := Lib.hid Z
  have HF0 := Lib.hid F0
  have HS := Lib.hid (h.all F0)
  have HK0 := Lib.hid ((k0.mono (T := fun b => b < w.heap.size) fun b _ hl => hl).all F0)
  have HK1 := Lib.hid ((k1.mono (T := fun b => b < w.heap.size) fun b _ hl => hl).all F0)
  have En := Lib.hid en
  clear h k0 k1 en P R Z F0
  go_enter Tryd.func22, Tryd.ntmps22
  go_wp2_with fail
  clear hW
  refine (ref_page (p := p) HS.out hsm.ok).mono ?_
  rintro e w1 ⟨A1, c1, rfl, o1, f1⟩
  rw [En.out] at o1 ⊢
  have FO := (Fr.refl All w1).alloc (.cells #[.int .i64 p.id, .int .i64 p.lsn, .int .i64 p.level, .int .i64 p.next, .slice A1 n c1] 30)
  have hz1 : W.heap.size ≤ w1.heap.size := f1.size
  obtain ⟨Bo, hBo⟩ : ∃ Bo, w1.heap.size = Bo := ⟨_, rfl⟩
  have HO1 := Lib.hid ((o1.mono (T := fun b => W.heap.size + 2 ≤ b ∧ b ≠ Bo) fun b hb hl => ⟨hb, by omega⟩).all FO)
  have BO := heap_alloc_new w1 (.cells #[.int .i64 p.id, .int .i64 p.lsn, .int .i64 p.level, .int .i64 p.next, .slice A1 n c1] 30)
  obtain ⟨W1, hW1⟩ : ∃ W1, w1.alloc (.cells #[.int .i64 p.id, .int .i64 p.lsn, .int .i64 p.level, .int .i64 p.next, .slice A1 n c1] 30) = W1 := ⟨_, rfl⟩
  rw [hW1] at FO HO1 BO
  rw [hBo] at BO
  have hoB : ∀ j, (Value.slice A1 n c1).ownBlock = some j → W.heap.size + 2 ≤ j ∧ j < Bo := fun j hj => by have := own_lt o1 j hj; omega
  have HOB := Lib.hid hoB
  have FW1 := Lib.hid (f1.trans FO)
  have HBO := Lib.hid BO
  clear p0 p1 p2 p3 p4 pz o1 f1 FO BO hoB
  obtain ⟨r0, r1, r2, r3, r4, r5, r6, r7, r8, r9, rz⟩ := blk10 ((FW1.out.block _ (blk_lt HR.out) trivial).trans HR.out)
  obtain ⟨p0, p1, p2, p3, p4, pz⟩ := blk5 ((FW1.out.block _ (blk_lt HP.out) trivial).trans HP.out)
  obtain ⟨z0, z1, z2, z3, z4, zz⟩ := blk5 ((FW1.out.block _ (blk_lt HZ.out) trivial).trans HZ.out)
  obtain ⟨u0, u1, u2, u3, u4, uz⟩ := blk5 HBO.out
  try simp only [hBo]
  have hyes := HYS.out
  have hv := HVV.out
  have d1 : (r.page != p.id) = false := by rw [bne_eq_false_iff_eq]; exact hyes.1
  have d2 : decide (r.lsn ≤ p.lsn) = false := decide_eq_false (by omega)
  have HY := Lib.hid hyes
  clear hyes
  go_wp2_with fail
  clear hW1 d1 d2
  have FS1 : Fr (fun b => b ≠ Bo) W1 (W1.setCell ⟨Bo, 1, none⟩ (.int .i64 r.lsn)) := (Fr.refl _ _).setCell (p := ⟨Bo, 1, none⟩) (fun b hb => hb) _
  have BO2 : (W1.setCell ⟨Bo, 1, none⟩ (.int .i64 r.lsn)).heap[Bo]? = some (.cells #[.int .i64 p.id, .int .i64 r.lsn, .int .i64 p.level, .int .i64 p.next, .slice A1 n c1] 30 (0, 0)) := heap_setCell_same _ Bo 1 _ _ _ HBO.out
  obtain ⟨W2, hW2⟩ : ∃ W2, W1.setCell ⟨Bo, 1, none⟩ (.int .i64 r.lsn) = W2 := ⟨_, rfl⟩
  rw [hW2] at FS1 BO2 ⊢
  clear hW2
  have hv' := validIx_none hv
  have HV := Lib.hid hv'
  have hvk : r.key.length ≤ 1000000 := by omega
  have hvv : r.val.length ≤ 1000000 := by omega
  clear hv hv'
  refine (ref_entry (x := ⟨r.key, r.val⟩) ((HK0.out.all FW1.out).move' FS1 (fun b hb _ => by omega)) ((HK1.out.all FW1.out).move' FS1 (fun b hb _ => by omega)) hvk hvv).mono ?_
  rintro e w3 ⟨A7, c7, A8, c8, rfl, s7, s8, f3⟩
  dsimp only at s7 s8 ⊢
  have FB := (Fr.refl All w3).alloc (.cells #[.slice A7 r.key.length c7, .slice A8 r.val.length c8] 65)
  have FX : Fr All W2 (w3.alloc (.cells #[.slice A7 r.key.length c7, .slice A8 r.val.length c8] 65)) := f3.trans FB
  have BX := heap_alloc_new w3 (.cells #[.slice A7 r.key.length c7, .slice A8 r.val.length c8] 65)
  have S7 := s7.all FB
  have S8 := s8.all FB
  obtain ⟨Bx, hBx⟩ : ∃ Bx, w3.heap.size = Bx := ⟨_, rfl⟩
  have hz3 : W2.heap.size ≤ Bx := by rw [← hBx]; exact f3.size
  obtain ⟨W3, hW3⟩ : ∃ W3, w3.alloc (.cells #[.slice A7 r.key.length c7, .slice A8 r.val.length c8] 65) = W3 := ⟨_, rfl⟩
  rw [hW3] at FX BX S7 S8
  rw [hBx] at BX
  have hz2 : W1.heap.size ≤ W2.heap.size := FS1.size
  have hoW := blk_lt HBO.out
  have FW3 : Hid (Fr (fun b => b ≠ Bo) W1 W3) := Lib.hid (FS1.then_all FX)
  have FA3 : Hid (Fr All w W3) := Lib.hid (by
    have a0 := HF0.out.trans FW1.out
    have hh := FW3.out
    exact ⟨hh.os.trans a0.os, hh.tape.trans a0.tape, hh.output.trans a0.output, Nat.le_trans a0.size hh.size, fun b hb _ => (hh.block b (Nat.lt_of_lt_of_le hb a0.size) (by omega)).trans (a0.block b hb trivial)⟩)
  have HO3 := Lib.hid (HO1.out.move FW3.out (fun b hb _ => hb.2) fun j hj => by have := HOB.out j hj; omega)
  have HU := Lib.hid ((FX.block Bo (by omega) trivial).trans BO2)
  have HX := Lib.hid BX
  have HS7 := Lib.hid S7
  have HS8 := Lib.hid S8
  clear r0 r1 r2 r3 r4 r5 r6 r7 r8 r9 rz p0 p1 p2 p3 p4 pz z0 z1 z2 z3 z4 zz u0 u1 u2 u3 u4 uz s7 s8 f3 S7 S8 FB FX BX BO2 FS1
  obtain ⟨r0, r1, r2, r3, r4, r5, r6, r7, r8, r9, rz⟩ := blk10 ((FW3.out.block _ (blk_lt ((FW1.out.block _ (blk_lt HR.out) trivial).trans HR.out)) (by omega)).trans ((FW1.out.block _ (blk_lt HR.out) trivial).trans HR.out))
  obtain ⟨z0, z1, z2, z3, z4, zz⟩ := blk5 ((FW3.out.block _ (blk_lt ((FW1.out.block _ (blk_lt HZ.out) trivial).trans HZ.out)) (by omega)).trans ((FW1.out.block _ (blk_lt HZ.out) trivial).trans HZ.out))
  obtain ⟨u0, u1, u2, u3, u4, uz⟩ := blk5 HU.out
  obtain ⟨y0, y1, yz⟩ := blk2 HX.out
  clear r0 r1 r2 r3 r4 r6 r7 r8 r9 rz
  try simp only [hBx]
  have hk := HKK.out
  have e1 : (r.kind == 1) = false := by rw [beq_eq_false_iff_ne]; rw [hk]; decide
  have e2 : (r.kind == 2) = false := by rw [beq_eq_false_iff_ne]; rw [hk]; decide
  have e3 : (r.kind == 3) = true := by rw [beq_iff_eq]; exact hk
  have e4 : (r.kind == 4) = false := by rw [beq_eq_false_iff_ne]; rw [hk]; decide
  have e5 : (r.kind == 5) = false := by rw [beq_eq_false_iff_ne]; rw [hk]; decide
  have e6 : (r.kind == 6) = false := by rw [beq_eq_false_iff_ne]; rw [hk]; decide
  clear hk
  have hob : (Value.slice A1 n c1).ownBlock ≠ some Bo := fun e => by have := HOB.out Bo e; omega
  have hd : decide (r.slot < (n : Int)) = false := decide_eq_false (by have := HSL.out; have := HV.out; have := En.out; omega)
  go_wp2_with fail
  refine bodyPost_ret (v := .agg #[.int .i64 p.id, .int .i64 r.lsn, .int .i64 p.level, .int .i64 p.next, .slice A1 n c1]) ?_ rfl ⟨A1, c1, by rw [En.out], ?_, ?_⟩
  · simp [results, Tryd.results22, go_sem, z0, z1, z2, z3, z4]
  · rw [En.out]
    refine sl_fin HO3.out hob (by omega) ?_
    repeat (first | (with_reducible exact Fr.refl _ _) | with_reducible refine Fr.drew ?_ | with_reducible refine Fr.drewN ?_ _ | with_reducible refine Fr.setCell ?_ (fun m hm => by first | exact hm.1 | exact hm.2) _)
  · have FF := FA3.out
    repeat (first | (with_reducible exact FF) | with_reducible refine Fr.drew ?_ | with_reducible refine Fr.setNew ?_ (by dsimp only; omega) _)
set_option hygiene false in
set_option maxRecDepth 100000 in
set_option maxHeartbeats 8000000 in
theorem ref_apply_insert0 {p : Page} {r : Redo} {v v0 v1 : Value} {S S0 S1 : Nat → Prop} {w : World} (h : Sl kEnt S w v p.ents) (hsm : SmallP p) (k0 : Sl kByte S0 w v0 r.key) (k1 : Sl kByte S1 w v1 r.val) (hv : validIx r = none) (hyes : r.page = p.id ∧ p.lsn < r.lsn) (hk : r.kind = 2) (hs : 8 ≤ p.ents.length) :
    Calls Tryd.prog 22 #[.agg #[.int .i64 p.id, .int .i64 p.lsn, .int .i64 p.level, .int .i64 p.next, v], .agg #[.int .i64 r.lsn, .int .i64 r.back, .int .i64 r.epoch, .int .i64 r.group, .int .i64 r.page, .int .i64 r.kind, .int .i64 r.slot, v0, v1, .bool r.last]] w (RAppl w (papply p r)) := by
  have hpa : ¬(r.page ≠ p.id ∨ r.lsn ≤ p.lsn) := by
    rintro (h | h)
    · exact h hyes.1
    · omega
  have hq : papply p r = { p with lsn := r.lsn } := by
    unfold papply
    rw [if_neg hpa, if_neg (by rw [hk]; decide), if_pos hk, if_neg (by omega)]
  rw [hq]
  clear hpa hq
  have HSL := Lib.hid hs
  clear hs
  have HYS := Lib.hid hyes
  have HKK := Lib.hid hk
  have HVV := Lib.hid hv
  clear hyes hk hv
  obtain ⟨A, n, c, rfl, en, _⟩ := h.open_
  obtain ⟨A0, n0, c0, rfl, ek0⟩ := k0.open_
  obtain ⟨A9, n9, c9, rfl, ek1⟩ := k1.open_
  clear ek0 ek1
  obtain ⟨P, R, Z⟩ := heap_a3 w (.cells #[.int .i64 p.id, .int .i64 p.lsn, .int .i64 p.level, .int .i64 p.next, .slice A n c] 30) (.cells #[.int .i64 r.lsn, .int .i64 r.back, .int .i64 r.epoch, .int .i64 r.group, .int .i64 r.page, .int .i64 r.kind, .int .i64 r.slot, .slice A0 n0 c0, .slice A9 n9 c9, .bool r.last] 33) (.cells #[.int .i64 0, .int .i64 0, .int .i64 0, .int .i64 0, .slice none 0 0] 30)
  have F0 := (((Fr.refl All w).alloc (.cells #[.int .i64 p.id, .int .i64 p.lsn, .int .i64 p.level, .int .i64 p.next, .slice A n c] 30)).alloc (.cells #[.int .i64 r.lsn, .int .i64 r.back, .int .i64 r.epoch, .int .i64 r.group, .int .i64 r.page, .int .i64 r.kind, .int .i64 r.slot, .slice A0 n0 c0, .slice A9 n9 c9, .bool r.last] 33)).alloc (.cells #[.int .i64 0, .int .i64 0, .int .i64 0, .int .i64 0, .slice none 0 0] 30)
  have hz : (((w.alloc (.cells #[.int .i64 p.id, .int .i64 p.lsn, .int .i64 p.level, .int .i64 p.next, .slice A n c] 30)).alloc (.cells #[.int .i64 r.lsn, .int .i64 r.back, .int .i64 r.epoch, .int .i64 r.group, .int .i64 r.page, .int .i64 r.kind, .int .i64 r.slot, .slice A0 n0 c0, .slice A9 n9 c9, .bool r.last] 33)).alloc (.cells #[.int .i64 0, .int .i64 0, .int .i64 0, .int .i64 0, .slice none 0 0] 30)).heap.size = w.heap.size + 3 := by simp
  obtain ⟨W, hW⟩ : ∃ W, ((w.alloc (.cells #[.int .i64 p.id, .int .i64 p.lsn, .int .i64 p.level, .int .i64 p.next, .slice A n c] 30)).alloc (.cells #[.int .i64 r.lsn, .int .i64 r.back, .int .i64 r.epoch, .int .i64 r.group, .int .i64 r.page, .int .i64 r.kind, .int .i64 r.slot, .slice A0 n0 c0, .slice A9 n9 c9, .bool r.last] 33)).alloc (.cells #[.int .i64 0, .int .i64 0, .int .i64 0, .int .i64 0, .slice none 0 0] 30) = W := ⟨_, rfl⟩
  rw [hW] at P R Z F0 hz
  obtain ⟨p0, p1, p2, p3, p4, pz⟩ := blk5 P
  have HP := Lib.hid P
  have HR := Lib.hid R
  have HZ := Lib.hid Z
  have HF0 := Lib.hid F0
  have HS := Lib.hid (h.all F0)
  have HK0 := Lib.hid ((k0.mono (T := fun b => b < w.heap.size) fun b _ hl => hl).all F0)
  have HK1 := Lib.hid ((k1.mono (T := fun b => b < w.heap.size) fun b _ hl => hl).all F0)
  have En := Lib.hid en
  clear h k0 k1 en P R Z F0
  go_enter Tryd.func22, Tryd.ntmps22
  go_wp2_with fail
  clear hW
  refine (ref_page (p := p) HS.out hsm.ok).mono ?_
  rintro e w1 ⟨A1, c1, rfl, o1, f1⟩
  rw [En.out] at o1 ⊢
  have FO := (Fr.refl All w1).alloc (.cells #[.int .i64 p.id, .int .i64 p.lsn, .int .i64 p.level, .int .i64 p.next, .slice A1 n c1] 30)
  have hz1 : W.heap.size ≤ w1.heap.size := f1.size
  obtain ⟨Bo, hBo⟩ : ∃ Bo, w1.heap.size = Bo := ⟨_, rfl⟩
  have HO1 := Lib.hid ((o1.mono (T := fun b => W.heap.size + 2 ≤ b ∧ b ≠ Bo) fun b hb hl => ⟨hb, by omega⟩).all FO)
  have BO := heap_alloc_new w1 (.cells #[.int .i64 p.id, .int .i64 p.lsn, .int .i64 p.level, .int .i64 p.next, .slice A1 n c1] 30)
  obtain ⟨W1, hW1⟩ : ∃ W1, w1.alloc (.cells #[.int .i64 p.id, .int .i64 p.lsn, .int .i64 p.level, .int .i64 p.next, .slice A1 n c1] 30) = W1 := ⟨_, rfl⟩
  rw [hW1] at FO HO1 BO
  rw [hBo] at BO
  have hoB : ∀ j, (Value.slice A1 n c1).ownBlock = some j → W.heap.size + 2 ≤ j ∧ j < Bo := fun j hj => by have := own_lt o1 j hj; omega
  have HOB := Lib.hid hoB
  have FW1 := Lib.hid (f1.trans FO)
  have HBO := Lib.hid BO
  clear p0 p1 p2 p3 p4 pz o1 f1 FO BO hoB
  obtain ⟨r0, r1, r2, r3, r4, r5, r6, r7, r8, r9, rz⟩ := blk10 ((FW1.out.block _ (blk_lt HR.out) trivial).trans HR.out)
  obtain ⟨p0, p1, p2, p3, p4, pz⟩ := blk5 ((FW1.out.block _ (blk_lt HP.out) trivial).trans HP.out)
  obtain ⟨z0, z1, z2, z3, z4, zz⟩ := blk5 ((FW1.out.block _ (blk_lt HZ.out) trivial).trans HZ.out)
  obtain ⟨u0, u1, u2, u3, u4, uz⟩ := blk5 HBO.out
  try simp only [hBo]
  have hyes := HYS.out
  have hv := HVV.out
  have d1 : (r.page != p.id) = false := by rw [bne_eq_false_iff_eq]; exact hyes.1
  have d2 : decide (r.lsn ≤ p.lsn) = false := decide_eq_false (by omega)
  have HY := Lib.hid hyes
  clear hyes
  go_wp2_with fail
  clear hW1 d1 d2
  have FS1 : Fr (fun b => b ≠ Bo) W1 (W1.setCell ⟨Bo, 1, none⟩ (.int .i64 r.lsn)) := (Fr.refl _ _).setCell (p := ⟨Bo, 1, none⟩) (fun b hb => hb) _
  have BO2 : (W1.setCell ⟨Bo, 1, none⟩ (.int .i64 r.lsn)).heap[Bo]? = some (.cells #[.int .i64 p.id, .int .i64 r.lsn, .int .i64 p.level, .int .i64 p.next, .slice A1 n c1] 30 (0, 0)) := heap_setCell_same _ Bo 1 _ _ _ HBO.out
  obtain ⟨W2, hW2⟩ : ∃ W2, W1.setCell ⟨Bo, 1, none⟩ (.int .i64 r.lsn) = W2 := ⟨_, rfl⟩
  rw [hW2] at FS1 BO2 ⊢
  clear hW2
  have hv' := validIx_none hv
  have HV := Lib.hid hv'
  have hvk : r.key.length ≤ 1000000 := by omega
  have hvv : r.val.length ≤ 1000000 := by omega
  clear hv hv'
  refine (ref_entry (x := ⟨r.key, r.val⟩) ((HK0.out.all FW1.out).move' FS1 (fun b hb _ => by omega)) ((HK1.out.all FW1.out).move' FS1 (fun b hb _ => by omega)) hvk hvv).mono ?_
  rintro e w3 ⟨A7, c7, A8, c8, rfl, s7, s8, f3⟩
  dsimp only at s7 s8 ⊢
  have FB := (Fr.refl All w3).alloc (.cells #[.slice A7 r.key.length c7, .slice A8 r.val.length c8] 65)
  have FX : Fr All W2 (w3.alloc (.cells #[.slice A7 r.key.length c7, .slice A8 r.val.length c8] 65)) := f3.trans FB
  have BX := heap_alloc_new w3 (.cells #[.slice A7 r.key.length c7, .slice A8 r.val.length c8] 65)
  have S7 := s7.all FB
  have S8 := s8.all FB
  obtain ⟨Bx, hBx⟩ : ∃ Bx, w3.heap.size = Bx := ⟨_, rfl⟩
  have hz3 : W2.heap.size ≤ Bx := by rw [← hBx]; exact f3.size
  obtain ⟨W3, hW3⟩ : ∃ W3, w3.alloc (.cells #[.slice A7 r.key.length c7, .slice A8 r.val.length c8] 65) = W3 := ⟨_, rfl⟩
  rw [hW3] at FX BX S7 S8
  rw [hBx] at BX
  have hz2 : W1.heap.size ≤ W2.heap.size := FS1.size
  have hoW := blk_lt HBO.out
  have FW3 : Hid (Fr (fun b => b ≠ Bo) W1 W3) := Lib.hid (FS1.then_all FX)
  have FA3 : Hid (Fr All w W3) := Lib.hid (by
    have a0 := HF0.out.trans FW1.out
    have hh := FW3.out
    exact ⟨hh.os.trans a0.os, hh.tape.trans a0.tape, hh.output.trans a0.output, Nat.le_trans a0.size hh.size, fun b hb _ => (hh.block b (Nat.lt_of_lt_of_le hb a0.size) (by omega)).trans (a0.block b hb trivial)⟩)
  have HO3 := Lib.hid (HO1.out.move FW3.out (fun b hb _ => hb.2) fun j hj => by have := HOB.out j hj; omega)
  have HU := Lib.hid ((FX.block Bo (by omega) trivial).trans BO2)
  have HX := Lib.hid BX
  have HS7 := Lib.hid S7
  have HS8 := Lib.hid S8
  clear r0 r1 r2 r3 r4 r5 r6 r7 r8 r9 rz p0 p1 p2 p3 p4 pz z0 z1 z2 z3 z4 zz u0 u1 u2 u3 u4 uz s7 s8 f3 S7 S8 FB FX BX BO2 FS1
  obtain ⟨r0, r1, r2, r3, r4, r5, r6, r7, r8, r9, rz⟩ := blk10 ((FW3.out.block _ (blk_lt ((FW1.out.block _ (blk_lt HR.out) trivial).trans HR.out)) (by omega)).trans ((FW1.out.block _ (blk_lt HR.out) trivial).trans HR.out))
  obtain ⟨z0, z1, z2, z3, z4, zz⟩ := blk5 ((FW3.out.block _ (blk_lt ((FW1.out.block _ (blk_lt HZ.out) trivial).trans HZ.out)) (by omega)).trans ((FW1.out.block _ (blk_lt HZ.out) trivial).trans HZ.out))
  obtain ⟨u0, u1, u2, u3, u4, uz⟩ := blk5 HU.out
  obtain ⟨y0, y1, yz⟩ := blk2 HX.out
  clear r0 r1 r2 r3 r4 r6 r7 r8 r9 rz
  try simp only [hBx]
  have hk := HKK.out
  have e1 : (r.kind == 1) = false := by rw [beq_eq_false_iff_ne]; rw [hk]; decide
  have e2 : (r.kind == 2) = true := by rw [beq_iff_eq]; exact hk
  have e3 : (r.kind == 3) = false := by rw [beq_eq_false_iff_ne]; rw [hk]; decide
  have e4 : (r.kind == 4) = false := by rw [beq_eq_false_iff_ne]; rw [hk]; decide
  have e5 : (r.kind == 5) = false := by rw [beq_eq_false_iff_ne]; rw [hk]; decide
  have e6 : (r.kind == 6) = false := by rw [beq_eq_false_iff_ne]; rw [hk]; decide
  clear hk
  have hob : (Value.slice A1 n c1).ownBlock ≠ some Bo := fun e => by have := HOB.out Bo e; omega
  have hd : decide ((n : Int) < 8) = false := decide_eq_false (by have := HSL.out; have := En.out; omega)
  go_wp2_with fail
  refine bodyPost_ret (v := .agg #[.int .i64 p.id, .int .i64 r.lsn, .int .i64 p.level, .int .i64 p.next, .slice A1 n c1]) ?_ rfl ⟨A1, c1, by rw [En.out], ?_, ?_⟩
  · simp [results, Tryd.results22, go_sem, z0, z1, z2, z3, z4]
  · rw [En.out]
    refine sl_fin HO3.out hob (by omega) ?_
    repeat (first | (with_reducible exact Fr.refl _ _) | with_reducible refine Fr.drew ?_ | with_reducible refine Fr.drewN ?_ _ | with_reducible refine Fr.setCell ?_ (fun m hm => by first | exact hm.1 | exact hm.2) _)
  · have FF := FA3.out
    repeat (first | (with_reducible exact FF) | with_reducible refine Fr.drew ?_ | with_reducible refine Fr.setNew ?_ (by dsimp only; omega) _)
set_option hygiene false in
set_option maxRecDepth 100000 in
set_option maxHeartbeats 8000000 in
theorem ref_apply_change1 {p : Page} {r : Redo} {v v0 v1 : Value} {S S0 S1 : Nat → Prop} {w : World} (h : Sl kEnt S w v p.ents) (hsm : SmallP p) (k0 : Sl kByte S0 w v0 r.key) (k1 : Sl kByte S1 w v1 r.val) (hv : validIx r = none) (hyes : r.page = p.id ∧ p.lsn < r.lsn) (hk : r.kind = 4) {x : Ent} (hs : p.ents[r.slot.toNat]? = some x) :
    Calls Tryd.prog 22 #[.agg #[.int .i64 p.id, .int .i64 p.lsn, .int .i64 p.level, .int .i64 p.next, v], .agg #[.int .i64 r.lsn, .int .i64 r.back, .int .i64 r.epoch, .int .i64 r.group, .int .i64 r.page, .int .i64 r.kind, .int .i64 r.slot, v0, v1, .bool r.last]] w (RAppl w (papply p r)) := by
  have hpa : ¬(r.page ≠ p.id ∨ r.lsn ≤ p.lsn) := by
    rintro (h | h)
    · exact h hyes.1
    · omega
  have hq : papply p r = { p with lsn := r.lsn, ents := p.ents.set r.slot.toNat ⟨x.key, r.val⟩ } := by
    unfold papply
    rw [if_neg hpa, if_neg (by rw [hk]; decide), if_neg (by rw [hk]; decide), if_neg (by rw [hk]; decide), if_pos hk, hs]
  rw [hq]
  clear hpa hq
  have HSL := Lib.hid hs
  clear hs
  have HYS := Lib.hid hyes
  have HKK := Lib.hid hk
  have HVV := Lib.hid hv
  clear hyes hk hv
  obtain ⟨A, n, c, rfl, en, _⟩ := h.open_
  obtain ⟨A0, n0, c0, rfl, ek0⟩ := k0.open_
  obtain ⟨A9, n9, c9, rfl, ek1⟩ := k1.open_
  clear ek0 ek1
  obtain ⟨P, R, Z⟩ := heap_a3 w (.cells #[.int .i64 p.id, .int .i64 p.lsn, .int .i64 p.level, .int .i64 p.next, .slice A n c] 30) (.cells #[.int .i64 r.lsn, .int .i64 r.back, .int .i64 r.epoch, .int .i64 r.group, .int .i64 r.page, .int .i64 r.kind, .int .i64 r.slot, .slice A0 n0 c0, .slice A9 n9 c9, .bool r.last] 33) (.cells #[.int .i64 0, .int .i64 0, .int .i64 0, .int .i64 0, .slice none 0 0] 30)
  have F0 := (((Fr.refl All w).alloc (.cells #[.int .i64 p.id, .int .i64 p.lsn, .int .i64 p.level, .int .i64 p.next, .slice A n c] 30)).alloc (.cells #[.int .i64 r.lsn, .int .i64 r.back, .int .i64 r.epoch, .int .i64 r.group, .int .i64 r.page, .int .i64 r.kind, .int .i64 r.slot, .slice A0 n0 c0, .slice A9 n9 c9, .bool r.last] 33)).alloc (.cells #[.int .i64 0, .int .i64 0, .int .i64 0, .int .i64 0, .slice none 0 0] 30)
  have hz : (((w.alloc (.cells #[.int .i64 p.id, .int .i64 p.lsn, .int .i64 p.level, .int .i64 p.next, .slice A n c] 30)).alloc (.cells #[.int .i64 r.lsn, .int .i64 r.back, .int .i64 r.epoch, .int .i64 r.group, .int .i64 r.page, .int .i64 r.kind, .int .i64 r.slot, .slice A0 n0 c0, .slice A9 n9 c9, .bool r.last] 33)).alloc (.cells #[.int .i64 0, .int .i64 0, .int .i64 0, .int .i64 0, .slice none 0 0] 30)).heap.size = w.heap.size + 3 := by simp
  obtain ⟨W, hW⟩ : ∃ W, ((w.alloc (.cells #[.int .i64 p.id, .int .i64 p.lsn, .int .i64 p.level, .int .i64 p.next, .slice A n c] 30)).alloc (.cells #[.int .i64 r.lsn, .int .i64 r.back, .int .i64 r.epoch, .int .i64 r.group, .int .i64 r.page, .int .i64 r.kind, .int .i64 r.slot, .slice A0 n0 c0, .slice A9 n9 c9, .bool r.last] 33)).alloc (.cells #[.int .i64 0, .int .i64 0, .int .i64 0, .int .i64 0, .slice none 0 0] 30) = W := ⟨_, rfl⟩
  rw [hW] at P R Z F0 hz
  obtain ⟨p0, p1, p2, p3, p4, pz⟩ := blk5 P
  have HP := Lib.hid P
  have HR := Lib.hid R
  have HZ := Lib.hid Z
  have HF0 := Lib.hid F0
  have HS := Lib.hid (h.all F0)
  have HK0 := Lib.hid ((k0.mono (T := fun b => b < w.heap.size) fun b _ hl => hl).all F0)
  have HK1 := Lib.hid ((k1.mono (T := fun b => b < w.heap.size) fun b _ hl => hl).all F0)
  have En := Lib.hid en
  clear h k0 k1 en P R Z F0
  go_enter Tryd.func22, Tryd.ntmps22
  go_wp2_with fail
  clear hW
  refine (ref_page (p := p) HS.out hsm.ok).mono ?_
  rintro e w1 ⟨A1, c1, rfl, o1, f1⟩
  rw [En.out] at o1 ⊢
  have FO := (Fr.refl All w1).alloc (.cells #[.int .i64 p.id, .int .i64 p.lsn, .int .i64 p.level, .int .i64 p.next, .slice A1 n c1] 30)
  have hz1 : W.heap.size ≤ w1.heap.size := f1.size
  obtain ⟨Bo, hBo⟩ : ∃ Bo, w1.heap.size = Bo := ⟨_, rfl⟩
  have HO1 := Lib.hid ((o1.mono (T := fun b => W.heap.size + 2 ≤ b ∧ b ≠ Bo) fun b hb hl => ⟨hb, by omega⟩).all FO)
  have BO := heap_alloc_new w1 (.cells #[.int .i64 p.id, .int .i64 p.lsn, .int .i64 p.level, .int .i64 p.next, .slice A1 n c1] 30)
  obtain ⟨W1, hW1⟩ : ∃ W1, w1.alloc (.cells #[.int .i64 p.id, .int .i64 p.lsn, .int .i64 p.level, .int .i64 p.next, .slice A1 n c1] 30) = W1 := ⟨_, rfl⟩
  rw [hW1] at FO HO1 BO
  rw [hBo] at BO
  have hoB : ∀ j, (Value.slice A1 n c1).ownBlock = some j → W.heap.size + 2 ≤ j ∧ j < Bo := fun j hj => by have := own_lt o1 j hj; omega
  have HOB := Lib.hid hoB
  have FW1 := Lib.hid (f1.trans FO)
  have HBO := Lib.hid BO
  clear p0 p1 p2 p3 p4 pz o1 f1 FO BO hoB
  obtain ⟨r0, r1, r2, r3, r4, r5, r6, r7, r8, r9, rz⟩ := blk10 ((FW1.out.block _ (blk_lt HR.out) trivial).trans HR.out)
  obtain ⟨p0, p1, p2, p3, p4, pz⟩ := blk5 ((FW1.out.block _ (blk_lt HP.out) trivial).trans HP.out)
  obtain ⟨z0, z1, z2, z3, z4, zz⟩ := blk5 ((FW1.out.block _ (blk_lt HZ.out) trivial).trans HZ.out)
  obtain ⟨u0, u1, u2, u3, u4, uz⟩ := blk5 HBO.out
  try simp only [hBo]
  have hyes := HYS.out
  have hv := HVV.out
  have d1 : (r.page != p.id) = false := by rw [bne_eq_false_iff_eq]; exact hyes.1
  have d2 : decide (r.lsn ≤ p.lsn) = false := decide_eq_false (by omega)
  have HY := Lib.hid hyes
  clear hyes
  go_wp2_with fail
  clear hW1 d1 d2
  have FS1 : Fr (fun b => b ≠ Bo) W1 (W1.setCell ⟨Bo, 1, none⟩ (.int .i64 r.lsn)) := (Fr.refl _ _).setCell (p := ⟨Bo, 1, none⟩) (fun b hb => hb) _
  have BO2 : (W1.setCell ⟨Bo, 1, none⟩ (.int .i64 r.lsn)).heap[Bo]? = some (.cells #[.int .i64 p.id, .int .i64 r.lsn, .int .i64 p.level, .int .i64 p.next, .slice A1 n c1] 30 (0, 0)) := heap_setCell_same _ Bo 1 _ _ _ HBO.out
  obtain ⟨W2, hW2⟩ : ∃ W2, W1.setCell ⟨Bo, 1, none⟩ (.int .i64 r.lsn) = W2 := ⟨_, rfl⟩
  rw [hW2] at FS1 BO2 ⊢
  clear hW2
  have hv' := validIx_none hv
  have HV := Lib.hid hv'
  have hvk : r.key.length ≤ 1000000 := by omega
  have hvv : r.val.length ≤ 1000000 := by omega
  clear hv hv'
  refine (ref_entry (x := ⟨r.key, r.val⟩) ((HK0.out.all FW1.out).move' FS1 (fun b hb _ => by omega)) ((HK1.out.all FW1.out).move' FS1 (fun b hb _ => by omega)) hvk hvv).mono ?_
  rintro e w3 ⟨A7, c7, A8, c8, rfl, s7, s8, f3⟩
  dsimp only at s7 s8 ⊢
  have FB := (Fr.refl All w3).alloc (.cells #[.slice A7 r.key.length c7, .slice A8 r.val.length c8] 65)
  have FX : Fr All W2 (w3.alloc (.cells #[.slice A7 r.key.length c7, .slice A8 r.val.length c8] 65)) := f3.trans FB
  have BX := heap_alloc_new w3 (.cells #[.slice A7 r.key.length c7, .slice A8 r.val.length c8] 65)
  have S7 := s7.all FB
  have S8 := s8.all FB
  obtain ⟨Bx, hBx⟩ : ∃ Bx, w3.heap.size = Bx := ⟨_, rfl⟩
  have hz3 : W2.heap.size ≤ Bx := by rw [← hBx]; exact f3.size
  obtain ⟨W3, hW3⟩ : ∃ W3, w3.alloc (.cells #[.slice A7 r.key.length c7, .slice A8 r.val.length c8] 65) = W3 := ⟨_, rfl⟩
  rw [hW3] at FX BX S7 S8
  rw [hBx] at BX
  have hz2 : W1.heap.size ≤ W2.heap.size := FS1.size
  have hoW := blk_lt HBO.out
  have FW3 : Hid (Fr (fun b => b ≠ Bo) W1 W3) := Lib.hid (FS1.then_all FX)
  have FA3 : Hid (Fr All w W3) := Lib.hid (by
    have a0 := HF0.out.trans FW1.out
    have hh := FW3.out
    exact ⟨hh.os.trans a0.os, hh.tape.trans a0.tape, hh.output.trans a0.output, Nat.le_trans a0.size hh.size, fun b hb _ => (hh.block b (Nat.lt_of_lt_of_le hb a0.size) (by omega)).trans (a0.block b hb trivial)⟩)
  have HO3 := Lib.hid (HO1.out.move FW3.out (fun b hb _ => hb.2) fun j hj => by have := HOB.out j hj; omega)
  have HU := Lib.hid ((FX.block Bo (by omega) trivial).trans BO2)
  have HX := Lib.hid BX
  have HS7 := Lib.hid S7
  have HS8 := Lib.hid S8
  clear r0 r1 r2 r3 r4 r5 r6 r7 r8 r9 rz p0 p1 p2 p3 p4 pz z0 z1 z2 z3 z4 zz u0 u1 u2 u3 u4 uz s7 s8 f3 S7 S8 FB FX BX BO2 FS1
  obtain ⟨r0, r1, r2, r3, r4, r5, r6, r7, r8, r9, rz⟩ := blk10 ((FW3.out.block _ (blk_lt ((FW1.out.block _ (blk_lt HR.out) trivial).trans HR.out)) (by omega)).trans ((FW1.out.block _ (blk_lt HR.out) trivial).trans HR.out))
  obtain ⟨z0, z1, z2, z3, z4, zz⟩ := blk5 ((FW3.out.block _ (blk_lt ((FW1.out.block _ (blk_lt HZ.out) trivial).trans HZ.out)) (by omega)).trans ((FW1.out.block _ (blk_lt HZ.out) trivial).trans HZ.out))
  obtain ⟨u0, u1, u2, u3, u4, uz⟩ := blk5 HU.out
  obtain ⟨y0, y1, yz⟩ := blk2 HX.out
  clear r0 r1 r2 r3 r4 r6 r7 r8 r9 rz
  try simp only [hBx]
  have hk := HKK.out
  have e1 : (r.kind == 1) = false := by rw [beq_eq_false_iff_ne]; rw [hk]; decide
  have e2 : (r.kind == 2) = false := by rw [beq_eq_false_iff_ne]; rw [hk]; decide
  have e3 : (r.kind == 3) = false := by rw [beq_eq_false_iff_ne]; rw [hk]; decide
  have e4 : (r.kind == 4) = true := by rw [beq_iff_eq]; exact hk
  have e5 : (r.kind == 5) = false := by rw [beq_eq_false_iff_ne]; rw [hk]; decide
  have e6 : (r.kind == 6) = false := by rw [beq_eq_false_iff_ne]; rw [hk]; decide
  clear hk
  have hob : (Value.slice A1 n c1).ownBlock ≠ some Bo := fun e => by have := HOB.out Bo e; omega
  obtain ⟨si, hsi⟩ : ∃ si : Nat, r.slot.toNat = si := ⟨_, rfl⟩
  have hsi2 : r.slot = (si : Int) := by have := HV.out; omega
  have hx : p.ents[si]? = some x := by rw [← hsi]; exact HSL.out
  have hsn : si < n := by rw [← En.out]; exact (List.getElem?_eq_some_iff.1 hx).1
  have HSI := Lib.hid hsi
  have i0 : (0 : Int) ≤ (si : Int) := by omega
  have i1 : (si : Int) < (n : Int) := by omega
  obtain ⟨g, cur, cs, hA1, hgb, hgc, _⟩ := own_open HO3.out (by omega)
  subst hA1
  have gz := (blk_cells hgc).2
  obtain ⟨b, o, E0, m0, d0, E1, m1, d1, hbo, x0, x1, _, _⟩ := ent_at HO3.out.sl hx
  injection hbo with hbo
  injection hbo with hb1 ho1
  subst hb1
  subst ho1
  rw [Nat.zero_add] at x1
  have hgo := (HOB.out g rfl).2
  have HPUT := Lib.hid (HO3.out.setVal hx (HS8.out.mono fun b hb _ => ⟨⟨by unfold From at hb; omega, by unfold From at hb; omega⟩, by unfold From at hb; omega⟩))
  clear hsi hx hgc x0
  go_wp2_with fail
  refine bodyPost_ret (v := .agg #[.int .i64 p.id, .int .i64 r.lsn, .int .i64 p.level, .int .i64 p.next, .slice (some ⟨g, 0, none⟩) n c1]) ?_ rfl ⟨some ⟨g, 0, none⟩, c1, by dsimp only; rw [List.length_set, En.out], ?_, ?_⟩
  · simp [results, Tryd.results22, go_sem, z0, z1, z2, z3, z4]
  · dsimp only
    rw [List.length_set, En.out]
    try rw [HSI.out]
    refine sl_fin HPUT.out hob (by omega) ?_
    repeat (first | (with_reducible exact Fr.refl _ _) | with_reducible refine Fr.drew ?_ | with_reducible refine Fr.drewN ?_ _ | with_reducible refine Fr.setCell ?_ (fun m hm => by first | exact hm.1 | exact hm.2) _)
  · have FF := FA3.out
    repeat (first | (with_reducible exact FF) | with_reducible refine Fr.drew ?_ | with_reducible refine Fr.setNew ?_ (by dsimp only; omega) _)
end Go.Proofs.YtppjpfgjophgkaaDoor
namespace Go.Proofs.YtppjpfgjophgkaaDoor
open Go.RowKit

theorem Own.srcDrop2 {α : Type} {d : Kd α} {e : TypeId} {base g n c s : Nat} {S : Nat → Prop} {w : World} {xs : List α} (h : Own d e base S w (.slice (some ⟨g, 0, none⟩) n c) xs) (hs : s ≤ n) (h0 : 0 < n) :
    Src d (fun b => S b ∧ b ≠ g) w (.slice (if c = s then some ⟨g, 0, none⟩ else some ⟨g, s * d.sz, none⟩) (n - s) (c - s)) (xs.drop s) := by
  have h1 := h.srcDrop hs h0
  simp only [Option.map_some, addr_lit, Nat.zero_add] at h1
  exact h1
set_option hygiene false in
set_option maxRecDepth 100000 in
set_option maxHeartbeats 8000000 in
theorem ref_apply_remove1 {p : Page} {r : Redo} {v v0 v1 : Value} {S S0 S1 : Nat → Prop} {w : World} (h : Sl kEnt S w v p.ents) (hsm : SmallP p) (k0 : Sl kByte S0 w v0 r.key) (k1 : Sl kByte S1 w v1 r.val) (hv : validIx r = none) (hyes : r.page = p.id ∧ p.lsn < r.lsn) (hk : r.kind = 3) (hs : r.slot.toNat < p.ents.length) :
    Calls Tryd.prog 22 #[.agg #[.int .i64 p.id, .int .i64 p.lsn, .int .i64 p.level, .int .i64 p.next, v], .agg #[.int .i64 r.lsn, .int .i64 r.back, .int .i64 r.epoch, .int .i64 r.group, .int .i64 r.page, .int .i64 r.kind, .int .i64 r.slot, v0, v1, .bool r.last]] w (RAppl w (papply p r)) := by
  have hpa : ¬(r.page ≠ p.id ∨ r.lsn ≤ p.lsn) := by
    rintro (h | h)
    · exact h hyes.1
    · omega
  have hq : papply p r = { p with lsn := r.lsn, ents := p.ents.take r.slot.toNat ++ p.ents.drop (r.slot.toNat + 1) } := by
    unfold papply
    rw [if_neg hpa, if_neg (by rw [hk]; decide), if_neg (by rw [hk]; decide), if_pos hk, if_pos hs]
  rw [hq]
  clear hpa hq
  have HSL := Lib.hid hs
  clear hs
  have HYS := Lib.hid hyes
  have HKK := Lib.hid hk
  have HVV := Lib.hid hv
  clear hyes hk hv
  obtain ⟨A, n, c, rfl, en, _⟩ := h.open_
  obtain ⟨A0, n0, c0, rfl, ek0⟩ := k0.open_
  obtain ⟨A9, n9, c9, rfl, ek1⟩ := k1.open_
  clear ek0 ek1
  obtain ⟨P, R, Z⟩ := heap_a3 w (.cells #[.int .i64 p.id, .int .i64 p.lsn, .int .i64 p.level, .int .i64 p.next, .slice A n c] 30) (.cells #[.int .i64 r.lsn, .int .i64 r.back, .int .i64 r.epoch, .int .i64 r.group, .int .i64 r.page, .int .i64 r.kind, .int .i64 r.slot, .slice A0 n0 c0, .slice A9 n9 c9, .bool r.last] 33) (.cells #[.int .i64 0, .int .i64 0, .int .i64 0, .int .i64 0, .slice none 0 0] 30)
  have F0 := (((Fr.refl All w).alloc (.cells #[.int .i64 p.id, .int .i64 p.lsn, .int .i64 p.level, .int .i64 p.next, .slice A n c] 30)).alloc (.cells #[.int .i64 r.lsn, .int .i64 r.back, .int .i64 r.epoch, .int .i64 r.group, .int .i64 r.page, .int .i64 r.kind, .int .i64 r.slot, .slice A0 n0 c0, .slice A9 n9 c9, .bool r.last] 33)).alloc (.cells #[.int .i64 0, .int .i64 0, .int .i64 0, .int .i64 0, .slice none 0 0] 30)
  have hz : (((w.alloc (.cells #[.int .i64 p.id, .int .i64 p.lsn, .int .i64 p.level, .int .i64 p.next, .slice A n c] 30)).alloc (.cells #[.int .i64 r.lsn, .int .i64 r.back, .int .i64 r.epoch, .int .i64 r.group, .int .i64 r.page, .int .i64 r.kind, .int .i64 r.slot, .slice A0 n0 c0, .slice A9 n9 c9, .bool r.last] 33)).alloc (.cells #[.int .i64 0, .int .i64 0, .int .i64 0, .int .i64 0, .slice none 0 0] 30)).heap.size = w.heap.size + 3 := by simp
  obtain ⟨W, hW⟩ : ∃ W, ((w.alloc (.cells #[.int .i64 p.id, .int .i64 p.lsn, .int .i64 p.level, .int .i64 p.next, .slice A n c] 30)).alloc (.cells #[.int .i64 r.lsn, .int .i64 r.back, .int .i64 r.epoch, .int .i64 r.group, .int .i64 r.page, .int .i64 r.kind, .int .i64 r.slot, .slice A0 n0 c0, .slice A9 n9 c9, .bool r.last] 33)).alloc (.cells #[.int .i64 0, .int .i64 0, .int .i64 0, .int .i64 0, .slice none 0 0] 30) = W := ⟨_, rfl⟩
  rw [hW] at P R Z F0 hz
  obtain ⟨p0, p1, p2, p3, p4, pz⟩ := blk5 P
  have HP := Lib.hid P
  have HR := Lib.hid R
  have HZ := Lib.hid Z
  have HF0 := Lib.hid F0
  have HS := Lib.hid (h.all F0)
  have HK0 := Lib.hid ((k0.mono (T := fun b => b < w.heap.size) fun b _ hl => hl).all F0)
  have HK1 := Lib.hid ((k1.mono (T := fun b => b < w.heap.size) fun b _ hl => hl).all F0)
  have En := Lib.hid en
  clear h k0 k1 en P R Z F0
  go_enter Tryd.func22, Tryd.ntmps22
  go_wp2_with fail
  clear hW
  refine (ref_page (p := p) HS.out hsm.ok).mono ?_
  rintro e w1 ⟨A1, c1, rfl, o1, f1⟩
  rw [En.out] at o1 ⊢
  have FO := (Fr.refl All w1).alloc (.cells #[.int .i64 p.id, .int .i64 p.lsn, .int .i64 p.level, .int .i64 p.next, .slice A1 n c1] 30)
  have hz1 : W.heap.size ≤ w1.heap.size := f1.size
  obtain ⟨Bo, hBo⟩ : ∃ Bo, w1.heap.size = Bo := ⟨_, rfl⟩
  have HO1 := Lib.hid ((o1.mono (T := fun b => W.heap.size + 2 ≤ b ∧ b ≠ Bo) fun b hb hl => ⟨hb, by omega⟩).all FO)
  have BO := heap_alloc_new w1 (.cells #[.int .i64 p.id, .int .i64 p.lsn, .int .i64 p.level, .int .i64 p.next, .slice A1 n c1] 30)
  obtain ⟨W1, hW1⟩ : ∃ W1, w1.alloc (.cells #[.int .i64 p.id, .int .i64 p.lsn, .int .i64 p.level, .int .i64 p.next, .slice A1 n c1] 30) = W1 := ⟨_, rfl⟩
  rw [hW1] at FO HO1 BO
  rw [hBo] at BO
  have hoB : ∀ j, (Value.slice A1 n c1).ownBlock = some j → W.heap.size + 2 ≤ j ∧ j < Bo := fun j hj => by have := own_lt o1 j hj; omega
  have HOB := Lib.hid hoB
  have FW1 := Lib.hid (f1.trans FO)
  have HBO := Lib.hid BO
  clear p0 p1 p2 p3 p4 pz o1 f1 FO BO hoB
  obtain ⟨r0, r1, r2, r3, r4, r5, r6, r7, r8, r9, rz⟩ := blk10 ((FW1.out.block _ (blk_lt HR.out) trivial).trans HR.out)
  obtain ⟨p0, p1, p2, p3, p4, pz⟩ := blk5 ((FW1.out.block _ (blk_lt HP.out) trivial).trans HP.out)
  obtain ⟨z0, z1, z2, z3, z4, zz⟩ := blk5 ((FW1.out.block _ (blk_lt HZ.out) trivial).trans HZ.out)
  obtain ⟨u0, u1, u2, u3, u4, uz⟩ := blk5 HBO.out
  try simp only [hBo]
  have hyes := HYS.out
  have hv := HVV.out
  have d1 : (r.page != p.id) = false := by rw [bne_eq_false_iff_eq]; exact hyes.1
  have d2 : decide (r.lsn ≤ p.lsn) = false := decide_eq_false (by omega)
  have HY := Lib.hid hyes
  clear hyes
  go_wp2_with fail
  clear hW1 d1 d2
  have FS1 : Fr (fun b => b ≠ Bo) W1 (W1.setCell ⟨Bo, 1, none⟩ (.int .i64 r.lsn)) := (Fr.refl _ _).setCell (p := ⟨Bo, 1, none⟩) (fun b hb => hb) _
  have BO2 : (W1.setCell ⟨Bo, 1, none⟩ (.int .i64 r.lsn)).heap[Bo]? = some (.cells #[.int .i64 p.id, .int .i64 r.lsn, .int .i64 p.level, .int .i64 p.next, .slice A1 n c1] 30 (0, 0)) := heap_setCell_same _ Bo 1 _ _ _ HBO.out
  obtain ⟨W2, hW2⟩ : ∃ W2, W1.setCell ⟨Bo, 1, none⟩ (.int .i64 r.lsn) = W2 := ⟨_, rfl⟩
  rw [hW2] at FS1 BO2 ⊢
  clear hW2
  have hv' := validIx_none hv
  have HV := Lib.hid hv'
  have hvk : r.key.length ≤ 1000000 := by omega
  have hvv : r.val.length ≤ 1000000 := by omega
  clear hv hv'
  refine (ref_entry (x := ⟨r.key, r.val⟩) ((HK0.out.all FW1.out).move' FS1 (fun b hb _ => by omega)) ((HK1.out.all FW1.out).move' FS1 (fun b hb _ => by omega)) hvk hvv).mono ?_
  rintro e w3 ⟨A7, c7, A8, c8, rfl, s7, s8, f3⟩
  dsimp only at s7 s8 ⊢
  have FB := (Fr.refl All w3).alloc (.cells #[.slice A7 r.key.length c7, .slice A8 r.val.length c8] 65)
  have FX : Fr All W2 (w3.alloc (.cells #[.slice A7 r.key.length c7, .slice A8 r.val.length c8] 65)) := f3.trans FB
  have BX := heap_alloc_new w3 (.cells #[.slice A7 r.key.length c7, .slice A8 r.val.length c8] 65)
  have S7 := s7.all FB
  have S8 := s8.all FB
  obtain ⟨Bx, hBx⟩ : ∃ Bx, w3.heap.size = Bx := ⟨_, rfl⟩
  have hz3 : W2.heap.size ≤ Bx := by rw [← hBx]; exact f3.size
  obtain ⟨W3, hW3⟩ : ∃ W3, w3.alloc (.cells #[.slice A7 r.key.length c7, .slice A8 r.val.length c8] 65) = W3 := ⟨_, rfl⟩
  rw [hW3] at FX BX S7 S8
  rw [hBx] at BX
  have hz2 : W1.heap.size ≤ W2.heap.size := FS1.size
  have hoW := blk_lt HBO.out
  have FW3 : Hid (Fr (fun b => b ≠ Bo) W1 W3) := Lib.hid (FS1.then_all FX)
  have FA3 : Hid (Fr All w W3) := Lib.hid (by
    have a0 := HF0.out.trans FW1.out
    have hh := FW3.out
    exact ⟨hh.os.trans a0.os, hh.tape.trans a0.tape, hh.output.trans a0.output, Nat.le_trans a0.size hh.size, fun b hb _ => (hh.block b (Nat.lt_of_lt_of_le hb a0.size) (by omega)).trans (a0.block b hb trivial)⟩)
  have HO3 := Lib.hid (HO1.out.move FW3.out (fun b hb _ => hb.2) fun j hj => by have := HOB.out j hj; omega)
  have HU := Lib.hid ((FX.block Bo (by omega) trivial).trans BO2)
  have HX := Lib.hid BX
  have HS7 := Lib.hid S7
  have HS8 := Lib.hid S8
  clear r0 r1 r2 r3 r4 r5 r6 r7 r8 r9 rz p0 p1 p2 p3 p4 pz z0 z1 z2 z3 z4 zz u0 u1 u2 u3 u4 uz s7 s8 f3 S7 S8 FB FX BX BO2 FS1
  obtain ⟨r0, r1, r2, r3, r4, r5, r6, r7, r8, r9, rz⟩ := blk10 ((FW3.out.block _ (blk_lt ((FW1.out.block _ (blk_lt HR.out) trivial).trans HR.out)) (by omega)).trans ((FW1.out.block _ (blk_lt HR.out) trivial).trans HR.out))
  obtain ⟨z0, z1, z2, z3, z4, zz⟩ := blk5 ((FW3.out.block _ (blk_lt ((FW1.out.block _ (blk_lt HZ.out) trivial).trans HZ.out)) (by omega)).trans ((FW1.out.block _ (blk_lt HZ.out) trivial).trans HZ.out))
  obtain ⟨u0, u1, u2, u3, u4, uz⟩ := blk5 HU.out
  obtain ⟨y0, y1, yz⟩ := blk2 HX.out
  clear r0 r1 r2 r3 r4 r6 r7 r8 r9 rz
  try simp only [hBx]
  have hk := HKK.out
  have e1 : (r.kind == 1) = false := by rw [beq_eq_false_iff_ne]; rw [hk]; decide
  have e2 : (r.kind == 2) = false := by rw [beq_eq_false_iff_ne]; rw [hk]; decide
  have e3 : (r.kind == 3) = true := by rw [beq_iff_eq]; exact hk
  have e4 : (r.kind == 4) = false := by rw [beq_eq_false_iff_ne]; rw [hk]; decide
  have e5 : (r.kind == 5) = false := by rw [beq_eq_false_iff_ne]; rw [hk]; decide
  have e6 : (r.kind == 6) = false := by rw [beq_eq_false_iff_ne]; rw [hk]; decide
  clear hk
  have hob : (Value.slice A1 n c1).ownBlock ≠ some Bo := fun e => by have := HOB.out Bo e; omega
  obtain ⟨si, hsi⟩ : ∃ si : Nat, r.slot.toNat = si := ⟨_, rfl⟩
  have hsi2 : r.slot = (si : Int) := by have := HV.out; omega
  have hsn : si < n := by have := HSL.out; have := En.out; omega
  have HSI := Lib.hid hsi
  have hn8 : n ≤ 8 := by have := hsm.1; have := En.out; omega
  obtain ⟨g, cur, cs, hA1, hgb, hgc, hnc, hcm, _⟩ := own_open HO3.out (by omega)
  subst hA1
  have hgo := (HOB.out g rfl).2
  have i0 : (0 : Int) ≤ (si : Int) := by omega
  have i1 : (si : Int) < (n : Int) := by omega
  have i2 : (si : Int) ≤ (c1 : Int) := by omega
  have i3 : (si : Int) + 1 ≤ (n : Int) := by omega
  have i4 : (0 : Int) ≤ (si : Int) + 1 := by omega
  obtain ⟨sj, hsj⟩ : ∃ sj, sj = si + 1 := ⟨_, rfl⟩
  have j1 : sj ≤ si + 1 := by omega
  have j2 : si + 1 ≤ sj := by omega
  have hw1 : IntKind.i64.wrap ((si : Int) + 1) = (sj : Int) := by rw [IntKind.wrap_i64]; omega
  have i5 : (0 : Int) ≤ (sj : Int) := by omega
  have i6 : (sj : Int) ≤ (n : Int) := by omega
  clear hsi hsj hgc
  go_upto_region 21 with (fail)
  have HTK := (HO3.out.take (i := si) (by omega)).all (Fr.refl All W3).drew
  have HDR := (HO3.out.all (Fr.refl All W3).drew).srcDrop2 (s := sj) (by omega) (by omega)
  refine wp_region_last (S := fun w' => w'.cell? ⟨Bo, 4, none⟩ = some (.slice (some ⟨g, 0, none⟩) n c1)) 11 (by kernel_rfl) rfl (by kernel_rfl) u4 (fun hHeld => ?_)
  simp only [List.take_succ_cons, List.take_zero]
  refine wpAnyH_take (i := 0) (v := ?_) rfl (by kernel_rfl) (by kernel_rfl) (by kernel_rfl) (fun _ _ _ h => h) (Or.inl ⟨by rfl, ?_⟩) (by assumption) ?_
  rotate_left
  · (intro w hSw; (try dsimp only at hSw); go_simp; try with_reducible rfl)
  try simp only [List.getElem_toArray, List.getElem_cons_succ, List.getElem_cons_zero, Act.put, List.setIfInBounds_toArray, List.set_cons_succ, List.set_cons_zero]
  refine wpAnyH_take (i := 1) (v := ?_) rfl (by kernel_rfl) (by kernel_rfl) (by kernel_rfl) (fun _ _ _ h => h) (Or.inl ⟨by rfl, ?_⟩) (by assumption) ?_
  rotate_left
  · (intro w hSw; (try dsimp only at hSw); go_simp; try with_reducible rfl)
  try simp only [List.getElem_toArray, List.getElem_cons_succ, List.getElem_cons_zero, Act.put, List.setIfInBounds_toArray, List.set_cons_succ, List.set_cons_zero]
  refine wpAnyH_take (i := 2) (v := ?_) rfl (by kernel_rfl) (by kernel_rfl) (by kernel_rfl) (fun _ _ _ h => h) (Or.inl ⟨by rfl, ?_⟩) (by assumption) ?_
  rotate_left
  · (intro w hSw; (try dsimp only at hSw); go_simp; try with_reducible rfl)
  try simp only [List.getElem_toArray, List.getElem_cons_succ, List.getElem_cons_zero, Act.put, List.setIfInBounds_toArray, List.set_cons_succ, List.set_cons_zero]
  refine wpAnyH_take (i := 3) (v := ?_) rfl (by kernel_rfl) (by kernel_rfl) (by kernel_rfl) (fun _ _ _ h => h) (Or.inl ⟨by rfl, ?_⟩) (by assumption) ?_
  rotate_left
  · (intro w hSw; (try dsimp only at hSw); go_simp; try with_reducible rfl)
  try simp only [List.getElem_toArray, List.getElem_cons_succ, List.getElem_cons_zero, Act.put, List.setIfInBounds_toArray, List.set_cons_succ, List.set_cons_zero]
  refine wpAnyH_take (i := 4) (v := ?_) rfl (by kernel_rfl) (by kernel_rfl) (by kernel_rfl) (fun _ _ _ h => h) (Or.inl ⟨by rfl, ?_⟩) (by assumption) ?_
  rotate_left
  · (intro w hSw; (try dsimp only at hSw); go_simp; try with_reducible rfl)
  try simp only [List.getElem_toArray, List.getElem_cons_succ, List.getElem_cons_zero, Act.put, List.setIfInBounds_toArray, List.set_cons_succ, List.set_cons_zero]
  refine wpAnyH_take (i := 5) (v := ?_) rfl (by kernel_rfl) (by kernel_rfl) (by kernel_rfl) (fun _ _ _ h => h) (Or.inl ⟨by rfl, ?_⟩) (by assumption) ?_
  rotate_left
  · (intro w hSw; (try dsimp only at hSw); go_simp; try with_reducible rfl)
  try simp only [List.getElem_toArray, List.getElem_cons_succ, List.getElem_cons_zero, Act.put, List.setIfInBounds_toArray, List.set_cons_succ, List.set_cons_zero]
  refine wpAnyH_take (i := 6) (v := ?_) rfl (by kernel_rfl) (by kernel_rfl) (by kernel_rfl) (fun _ _ _ h => h) (Or.inl ⟨by rfl, ?_⟩) (by assumption) ?_
  rotate_left
  · (intro w hSw; (try dsimp only at hSw); go_simp; try with_reducible rfl)
  try simp only [List.getElem_toArray, List.getElem_cons_succ, List.getElem_cons_zero, Act.put, List.setIfInBounds_toArray, List.set_cons_succ, List.set_cons_zero]
  refine wpAnyH_take (i := 7) (v := ?_) rfl (by kernel_rfl) (by kernel_rfl) (by kernel_rfl) (fun _ _ _ h => h) (Or.inl ⟨by rfl, ?_⟩) (by assumption) ?_
  rotate_left
  · (intro w hSw; (try dsimp only at hSw); go_simp; try with_reducible rfl)
  try simp only [List.getElem_toArray, List.getElem_cons_succ, List.getElem_cons_zero, Act.put, List.setIfInBounds_toArray, List.set_cons_succ, List.set_cons_zero]
  refine wpAnyH_take (i := 8) (v := ?_) rfl (by kernel_rfl) (by kernel_rfl) (by kernel_rfl) (fun _ _ _ h => h) (Or.inl ⟨by rfl, ?_⟩) (by assumption) ?_
  rotate_left
  · (intro w hSw; (try dsimp only at hSw); go_simp; try with_reducible rfl)
  try simp only [List.getElem_toArray, List.getElem_cons_succ, List.getElem_cons_zero, Act.put, List.setIfInBounds_toArray, List.set_cons_succ, List.set_cons_zero]
  refine wpAnyH_ready (rs := [9]) (by kernel_rfl) (by simp) (AllReadyH.cons rfl (fun K hK => ?_) AllReadyH.nil)
  refine wp_app rfl Tryd.underlying28 info_ent rfl (by decide) HTK HDR rfl rfl (fun b hb _ => ⟨hb.1, fun e => hb.2 (Option.some.inj e)⟩) (by rw [List.length_take, List.length_drop]; omega) (by have : W3.drew.heap.size = W3.heap.size := rfl; have := FA3.out.size; have h5 := FW3.out.size; have h6 := FW1.out.size; omega) ?_
  intro v4 w4 o4 f4 h4
  have hgo2 : some Bo ≠ (Value.slice (some ⟨g, 0, none⟩) si c1).ownBlock := fun e => by have h1 : Bo = g := Option.some.inj e; omega
  have hd4 : W3.drew.heap.size = W3.heap.size := rfl
  have B4 := (f4.block Bo (blk_lt HU.out) hgo2).trans HU.out
  obtain ⟨t0, t1, t2, t3, t4, tz⟩ := blk5 B4
  have FW4 : Fr (fun b => b ≠ g) W3 w4 := (Fr.refl _ W3).drew.trans (f4.mono fun b hb e => hb (Option.some.inj e))
  have ZB := (FW3.out.block _ (blk_lt ((FW1.out.block _ (blk_lt HZ.out) trivial).trans HZ.out)) (by omega)).trans ((FW1.out.block _ (blk_lt HZ.out) trivial).trans HZ.out)
  have hg3 : W.heap.size + 2 ≤ g := hgb
  have Z4 := (FW4.block _ (blk_lt ZB) (by omega)).trans ZB
  have hob4 : v4.ownBlock ≠ some Bo := by
    intro e
    rcases h4 with h4 | h4
    · rw [h4] at e; exact hgo2 e.symm
    · rw [h4] at e; have h1 : W3.drew.heap.size = Bo := Option.some.inj e; have := blk_lt HU.out; omega
  obtain ⟨M4, hM4⟩ : ∃ M, p.ents.take si ++ p.ents.drop sj = M := ⟨_, rfl⟩
  rw [hM4] at o4
  obtain ⟨A4, c4, rfl⟩ := o4.length
  obtain ⟨m4, hm4⟩ : ∃ m, M4.length = m := ⟨_, rfl⟩
  rw [hm4] at o4 hob4 ⊢
  have HO4 := Lib.hid o4
  have HM4 := Lib.hid hM4
  have Hm4 := Lib.hid hm4
  have HFW4 := Lib.hid FW4
  have hsj2 : sj = si + 1 := by omega
  have HSJ := Lib.hid hsj2
  refine hK.out _ _ t4 (fun hHeld => ?_)
  clear hK K
  try simp only [List.getElem_toArray, List.getElem_cons_succ, List.getElem_cons_zero, Act.put, List.setIfInBounds_toArray, List.set_cons_succ, List.set_cons_zero]
  refine wpAnyH_take (i := 10) (v := ?_) rfl (by kernel_rfl) (by kernel_rfl) (by kernel_rfl) (fun _ _ _ h => h) (Or.inl ⟨by rfl, ?_⟩) (by assumption) ?_
  rotate_left
  · (intro w hSw; (try dsimp only at hSw); go_simp; try with_reducible rfl)
  try simp only [List.getElem_toArray, List.getElem_cons_succ, List.getElem_cons_zero, Act.put, List.setIfInBounds_toArray, List.set_cons_succ, List.set_cons_zero]
  refine wpAnyH_done (by kernel_rfl) ?_ _
  show wpList _ _ _ _ _ _
  clear hHeld z0 z1 z2 z3 z4 zz u0 u1 u2 u3 u4 uz y0 y1 yz r5 HTK HDR o4 f4 h4 hM4 hm4 hsj2 ZB B4 FW4 hw1
  obtain ⟨z0, z1, z2, z3, z4, zz⟩ := blk5 Z4
  clear Z4
  generalize (if c1 = sj then (some ⟨g, 0, none⟩ : Option Addr) else some ⟨g, sj * 2, none⟩) = AA
  go_wp2_with fail
  refine bodyPost_ret (v := .agg #[.int .i64 p.id, .int .i64 r.lsn, .int .i64 p.level, .int .i64 p.next, .slice A4 m4 c4]) ?_ rfl ⟨A4, c4, by dsimp only; (try rw [HSI.out]); rw [← HSJ.out, HM4.out, Hm4.out], ?_, ?_⟩
  · simp [results, Tryd.results22, go_sem, z0, z1, z2, z3, z4]
  · dsimp only
    (try rw [HSI.out])
    rw [← HSJ.out, HM4.out, Hm4.out]
    refine sl_fin HO4.out hob4 (by omega) ?_
    repeat (first | (with_reducible exact Fr.refl _ _) | with_reducible refine Fr.drew ?_ | with_reducible refine Fr.drewN ?_ _ | with_reducible refine Fr.setCell ?_ (fun m hm => by first | exact hm.1 | exact hm.2) _)
  · have FF : Fr All w w4 := by
      have a0 := FA3.out
      have hh := HFW4.out
      exact ⟨hh.os.trans a0.os, hh.tape.trans a0.tape, hh.output.trans a0.output, Nat.le_trans a0.size hh.size, fun b hb _ => (hh.block b (Nat.lt_of_lt_of_le hb a0.size) (by omega)).trans (a0.block b hb trivial)⟩
    repeat (first | (with_reducible exact FF) | with_reducible refine Fr.drew ?_ | with_reducible refine Fr.setNew ?_ (by dsimp only; omega) _)
end Go.Proofs.YtppjpfgjophgkaaDoor
namespace Go.Proofs.YtppjpfgjophgkaaDoor
open Go.RowKit

set_option hygiene false in
set_option maxRecDepth 100000 in
set_option maxHeartbeats 8000000 in
theorem ref_apply_insert1 {p : Page} {r : Redo} {v v0 v1 : Value} {S S0 S1 : Nat → Prop} {w : World} (h : Sl kEnt S w v p.ents) (hsm : SmallP p) (k0 : Sl kByte S0 w v0 r.key) (k1 : Sl kByte S1 w v1 r.val) (hv : validIx r = none) (hyes : r.page = p.id ∧ p.lsn < r.lsn) (hk : r.kind = 2) (hs : p.ents.length < 8) :
    Calls Tryd.prog 22 #[.agg #[.int .i64 p.id, .int .i64 p.lsn, .int .i64 p.level, .int .i64 p.next, v], .agg #[.int .i64 r.lsn, .int .i64 r.back, .int .i64 r.epoch, .int .i64 r.group, .int .i64 r.page, .int .i64 r.kind, .int .i64 r.slot, v0, v1, .bool r.last]] w (RAppl w (papply p r)) := by
  have hpa : ¬(r.page ≠ p.id ∨ r.lsn ≤ p.lsn) := by
    rintro (h | h)
    · exact h hyes.1
    · omega
  have hq : papply p r = { p with lsn := r.lsn, ents := p.ents.take (min r.slot.toNat p.ents.length) ++ (⟨r.key, r.val⟩ :: p.ents.drop (min r.slot.toNat p.ents.length)) } := by
    unfold papply
    rw [if_neg hpa, if_neg (by rw [hk]; decide), if_pos hk, if_pos hs]
  rw [hq]
  clear hpa hq
  have HSL := Lib.hid hs
  clear hs
  have HYS := Lib.hid hyes
  have HKK := Lib.hid hk
  have HVV := Lib.hid hv
  clear hyes hk hv
  obtain ⟨A, n, c, rfl, en, _⟩ := h.open_
  obtain ⟨A0, n0, c0, rfl, ek0⟩ := k0.open_
  obtain ⟨A9, n9, c9, rfl, ek1⟩ := k1.open_
  clear ek0 ek1
  obtain ⟨P, R, Z⟩ := heap_a3 w (.cells #[.int .i64 p.id, .int .i64 p.lsn, .int .i64 p.level, .int .i64 p.next, .slice A n c] 30) (.cells #[.int .i64 r.lsn, .int .i64 r.back, .int .i64 r.epoch, .int .i64 r.group, .int .i64 r.page, .int .i64 r.kind, .int .i64 r.slot, .slice A0 n0 c0, .slice A9 n9 c9, .bool r.last] 33) (.cells #[.int .i64 0, .int .i64 0, .int .i64 0, .int .i64 0, .slice none 0 0] 30)
  have F0 := (((Fr.refl All w).alloc (.cells #[.int .i64 p.id, .int .i64 p.lsn, .int .i64 p.level, .int .i64 p.next, .slice A n c] 30)).alloc (.cells #[.int .i64 r.lsn, .int .i64 r.back, .int .i64 r.epoch, .int .i64 r.group, .int .i64 r.page, .int .i64 r.kind, .int .i64 r.slot, .slice A0 n0 c0, .slice A9 n9 c9, .bool r.last] 33)).alloc (.cells #[.int .i64 0, .int .i64 0, .int .i64 0, .int .i64 0, .slice none 0 0] 30)
  have hz : (((w.alloc (.cells #[.int .i64 p.id, .int .i64 p.lsn, .int .i64 p.level, .int .i64 p.next, .slice A n c] 30)).alloc (.cells #[.int .i64 r.lsn, .int .i64 r.back, .int .i64 r.epoch, .int .i64 r.group, .int .i64 r.page, .int .i64 r.kind, .int .i64 r.slot, .slice A0 n0 c0, .slice A9 n9 c9, .bool r.last] 33)).alloc (.cells #[.int .i64 0, .int .i64 0, .int .i64 0, .int .i64 0, .slice none 0 0] 30)).heap.size = w.heap.size + 3 := by simp
  obtain ⟨W, hW⟩ : ∃ W, ((w.alloc (.cells #[.int .i64 p.id, .int .i64 p.lsn, .int .i64 p.level, .int .i64 p.next, .slice A n c] 30)).alloc (.cells #[.int .i64 r.lsn, .int .i64 r.back, .int .i64 r.epoch, .int .i64 r.group, .int .i64 r.page, .int .i64 r.kind, .int .i64 r.slot, .slice A0 n0 c0, .slice A9 n9 c9, .bool r.last] 33)).alloc (.cells #[.int .i64 0, .int .i64 0, .int .i64 0, .int .i64 0, .slice none 0 0] 30) = W := ⟨_, rfl⟩
  rw [hW] at P R Z F0 hz
  obtain ⟨p0, p1, p2, p3, p4, pz⟩ := blk5 P
  have HP := Lib.hid P
  have HR := Lib.hid R
  have HZ := Lib.hid Z
  have HF0 := Lib.hid F0
  have HS := Lib.hid (h.all F0)
  have HK0 := Lib.hid ((k0.mono (T := fun b => b < w.heap.size) fun b _ hl => hl).all F0)
  have HK1 := Lib.hid ((k1.mono (T := fun b => b < w.heap.size) fun b _ hl => hl).all F0)
  have En := Lib.hid en
  clear h k0 k1 en P R Z F0
  go_enter Tryd.func22, Tryd.ntmps22
  go_wp2_with fail
  clear hW
  refine (ref_page (p := p) HS.out hsm.ok).mono ?_
  rintro e w1 ⟨A1, c1, rfl, o1, f1⟩
  rw [En.out] at o1 ⊢
  have FO := (Fr.refl All w1).alloc (.cells #[.int .i64 p.id, .int .i64 p.lsn, .int .i64 p.level, .int .i64 p.next, .slice A1 n c1] 30)
  have hz1 : W.heap.size ≤ w1.heap.size := f1.size
  obtain ⟨Bo, hBo⟩ : ∃ Bo, w1.heap.size = Bo := ⟨_, rfl⟩
  have HO1 := Lib.hid ((o1.mono (T := fun b => W.heap.size + 2 ≤ b ∧ b ≠ Bo) fun b hb hl => ⟨hb, by omega⟩).all FO)
  have BO := heap_alloc_new w1 (.cells #[.int .i64 p.id, .int .i64 p.lsn, .int .i64 p.level, .int .i64 p.next, .slice A1 n c1] 30)
  obtain ⟨W1, hW1⟩ : ∃ W1, w1.alloc (.cells #[.int .i64 p.id, .int .i64 p.lsn, .int .i64 p.level, .int .i64 p.next, .slice A1 n c1] 30) = W1 := ⟨_, rfl⟩
  rw [hW1] at FO HO1 BO
  rw [hBo] at BO
  have hoB : ∀ j, (Value.slice A1 n c1).ownBlock = some j → W.heap.size + 2 ≤ j ∧ j < Bo := fun j hj => by have := own_lt o1 j hj; omega
  have HOB := Lib.hid hoB
  have FW1 := Lib.hid (f1.trans FO)
  have HBO := Lib.hid BO
  clear p0 p1 p2 p3 p4 pz o1 f1 FO BO hoB
  obtain ⟨r0, r1, r2, r3, r4, r5, r6, r7, r8, r9, rz⟩ := blk10 ((FW1.out.block _ (blk_lt HR.out) trivial).trans HR.out)
  obtain ⟨p0, p1, p2, p3, p4, pz⟩ := blk5 ((FW1.out.block _ (blk_lt HP.out) trivial).trans HP.out)
  obtain ⟨z0, z1, z2, z3, z4, zz⟩ := blk5 ((FW1.out.block _ (blk_lt HZ.out) trivial).trans HZ.out)
  obtain ⟨u0, u1, u2, u3, u4, uz⟩ := blk5 HBO.out
  try simp only [hBo]
  have hyes := HYS.out
  have hv := HVV.out
  have d1 : (r.page != p.id) = false := by rw [bne_eq_false_iff_eq]; exact hyes.1
  have d2 : decide (r.lsn ≤ p.lsn) = false := decide_eq_false (by omega)
  have HY := Lib.hid hyes
  clear hyes
  go_wp2_with fail
  clear hW1 d1 d2
  have FS1 : Fr (fun b => b ≠ Bo) W1 (W1.setCell ⟨Bo, 1, none⟩ (.int .i64 r.lsn)) := (Fr.refl _ _).setCell (p := ⟨Bo, 1, none⟩) (fun b hb => hb) _
  have BO2 : (W1.setCell ⟨Bo, 1, none⟩ (.int .i64 r.lsn)).heap[Bo]? = some (.cells #[.int .i64 p.id, .int .i64 r.lsn, .int .i64 p.level, .int .i64 p.next, .slice A1 n c1] 30 (0, 0)) := heap_setCell_same _ Bo 1 _ _ _ HBO.out
  obtain ⟨W2, hW2⟩ : ∃ W2, W1.setCell ⟨Bo, 1, none⟩ (.int .i64 r.lsn) = W2 := ⟨_, rfl⟩
  rw [hW2] at FS1 BO2 ⊢
  clear hW2
  have hv' := validIx_none hv
  have HV := Lib.hid hv'
  have hvk : r.key.length ≤ 1000000 := by omega
  have hvv : r.val.length ≤ 1000000 := by omega
  clear hv hv'
  refine (ref_entry (x := ⟨r.key, r.val⟩) ((HK0.out.all FW1.out).move' FS1 (fun b hb _ => by omega)) ((HK1.out.all FW1.out).move' FS1 (fun b hb _ => by omega)) hvk hvv).mono ?_
  rintro e w3 ⟨A7, c7, A8, c8, rfl, s7, s8, f3⟩
  dsimp only at s7 s8 ⊢
  have FB := (Fr.refl All w3).alloc (.cells #[.slice A7 r.key.length c7, .slice A8 r.val.length c8] 65)
  have FX : Fr All W2 (w3.alloc (.cells #[.slice A7 r.key.length c7, .slice A8 r.val.length c8] 65)) := f3.trans FB
  have BX := heap_alloc_new w3 (.cells #[.slice A7 r.key.length c7, .slice A8 r.val.length c8] 65)
  have S7 := s7.all FB
  have S8 := s8.all FB
  obtain ⟨Bx, hBx⟩ : ∃ Bx, w3.heap.size = Bx := ⟨_, rfl⟩
  have hz3 : W2.heap.size ≤ Bx := by rw [← hBx]; exact f3.size
  obtain ⟨W3, hW3⟩ : ∃ W3, w3.alloc (.cells #[.slice A7 r.key.length c7, .slice A8 r.val.length c8] 65) = W3 := ⟨_, rfl⟩
  rw [hW3] at FX BX S7 S8
  rw [hBx] at BX
  have hz2 : W1.heap.size ≤ W2.heap.size := FS1.size
  have hoW := blk_lt HBO.out
  have FW3 : Hid (Fr (fun b => b ≠ Bo) W1 W3) := Lib.hid (FS1.then_all FX)
  have FA3 : Hid (Fr All w W3) := Lib.hid (by
    have a0 := HF0.out.trans FW1.out
    have hh := FW3.out
    exact ⟨hh.os.trans a0.os, hh.tape.trans a0.tape, hh.output.trans a0.output, Nat.le_trans a0.size hh.size, fun b hb _ => (hh.block b (Nat.lt_of_lt_of_le hb a0.size) (by omega)).trans (a0.block b hb trivial)⟩)
  have HO3 := Lib.hid (HO1.out.move FW3.out (fun b hb _ => hb.2) fun j hj => by have := HOB.out j hj; omega)
  have HU := Lib.hid ((FX.block Bo (by omega) trivial).trans BO2)
  have HX := Lib.hid BX
  have HS7 := Lib.hid S7
  have HS8 := Lib.hid S8
  clear r0 r1 r2 r3 r4 r5 r6 r7 r8 r9 rz p0 p1 p2 p3 p4 pz z0 z1 z2 z3 z4 zz u0 u1 u2 u3 u4 uz s7 s8 f3 S7 S8 FB FX BX BO2 FS1
  obtain ⟨r0, r1, r2, r3, r4, r5, r6, r7, r8, r9, rz⟩ := blk10 ((FW3.out.block _ (blk_lt ((FW1.out.block _ (blk_lt HR.out) trivial).trans HR.out)) (by omega)).trans ((FW1.out.block _ (blk_lt HR.out) trivial).trans HR.out))
  obtain ⟨z0, z1, z2, z3, z4, zz⟩ := blk5 ((FW3.out.block _ (blk_lt ((FW1.out.block _ (blk_lt HZ.out) trivial).trans HZ.out)) (by omega)).trans ((FW1.out.block _ (blk_lt HZ.out) trivial).trans HZ.out))
  obtain ⟨u0, u1, u2, u3, u4, uz⟩ := blk5 HU.out
  obtain ⟨y0, y1, yz⟩ := blk2 HX.out
  clear r0 r1 r2 r3 r4 r6 r7 r8 r9 rz
  try simp only [hBx]
  have hk := HKK.out
  have e1 : (r.kind == 1) = false := by rw [beq_eq_false_iff_ne]; rw [hk]; decide
  have e2 : (r.kind == 2) = true := by rw [beq_iff_eq]; exact hk
  have e3 : (r.kind == 3) = false := by rw [beq_eq_false_iff_ne]; rw [hk]; decide
  have e4 : (r.kind == 4) = false := by rw [beq_eq_false_iff_ne]; rw [hk]; decide
  have e5 : (r.kind == 5) = false := by rw [beq_eq_false_iff_ne]; rw [hk]; decide
  have e6 : (r.kind == 6) = false := by rw [beq_eq_false_iff_ne]; rw [hk]; decide
  clear hk
  have hob : (Value.slice A1 n c1).ownBlock ≠ some Bo := fun e => by have := HOB.out Bo e; omega
  obtain ⟨m, hm⟩ : ∃ m, min r.slot.toNat n = m := ⟨_, rfl⟩
  have hmin : min r.slot (n : Int) = (m : Int) := by have := HV.out; omega
  have hcap : n ≤ c1 := by obtain ⟨_, _, he, h1, _⟩ := HO3.out.sl; have h3 := (Value.slice.inj he).2; have := En.out; omega
  have hn8 : n < 8 := by have := HSL.out; have := En.out; omega
  have hd8 : decide ((n : Int) < 8) = true := decide_eq_true (by omega)
  have i0 : (0 : Int) ≤ (m : Int) := by omega
  have i1 : (m : Int) ≤ (c1 : Int) := by omega
  have i2 : (m : Int) ≤ (n : Int) := by omega
  have hmn : m ≤ n := by omega
  have HM := Lib.hid hm
  obtain ⟨n1, hn1⟩ : ∃ n1, n1 = n + 1 := ⟨_, rfl⟩
  have j1 : n1 ≤ n + 1 := by omega
  have j2 : n + 1 ≤ n1 := by omega
  have hwn : IntKind.i64.wrap ((n : Int) + 1) = (n1 : Int) := by rw [IntKind.wrap_i64]; omega
  clear hm hcap hn1
  have hB3 : Bo < W3.heap.size := blk_lt HU.out
  have hX3 : Bx < W3.heap.size := blk_lt HX.out
  have H0 : Sl kEnt (fun b => w.heap.size + 3 ≤ b ∧ b ≠ Bo ∧ b < W3.heap.size) W3 (.slice A1 n c1) p.ents := HO3.out.sl.mono fun b hb hl => by
    rcases hb with hb | hb
    · exact ⟨by omega, hb.2, hl⟩
    · have := HOB.out b hb.symm
      exact ⟨by omega, by omega, hl⟩
  obtain ⟨w5, hmk, o5, f5⟩ := run_mk (P := Tryd.prog) kEnt (fun b => w.heap.size + 3 ≤ b ∧ b ≠ Bo ∧ b < W3.heap.size) W3.drew W3.heap.size 28 65 (.agg #[.slice none 0 0, .slice none 0 0]) 48 Tryd.underlying28 info_ent n1 (by omega) (by simp only [maxLen]; omega) (Nat.le_refl _)
  have hz5 : W3.heap.size < w5.heap.size := (own_lt o5 _ rfl).2
  have F35 : Fr All W3 w5 := (Fr.refl All W3).drew.trans f5
  have HY1 := ((H0.all F35).take hmn).src
  go_upto_region 16 with (fail)
  clear hd8 hmin
  refine wp_region_all (S := fun w' => w'.cell? ⟨Bo, 4, none⟩ = some (.slice A1 n c1)) (by kernel_rfl) u4 (fun hHeld => ?_)
  refine wpAnyH_take (i := 0) (v := ?_) rfl (by kernel_rfl) (by kernel_rfl) (by kernel_rfl) (fun _ _ _ h => h) (Or.inl ⟨by rfl, ?_⟩) (by assumption) ?_
  rotate_left
  · (intro w hSw; (try dsimp only at hSw); go_simp; try with_reducible rfl)
  try simp only [List.getElem_toArray, List.getElem_cons_succ, List.getElem_cons_zero, Act.put, List.setIfInBounds_toArray, List.set_cons_succ, List.set_cons_zero]
  refine wpAnyH_take (i := 1) (v := ?_) rfl (by kernel_rfl) (by kernel_rfl) (by kernel_rfl) (fun _ _ _ h => h) (Or.inl ⟨by rfl, ?_⟩) (by assumption) ?_
  rotate_left
  · (intro w hSw; (try dsimp only at hSw); go_simp; try with_reducible rfl)
  try simp only [List.getElem_toArray, List.getElem_cons_succ, List.getElem_cons_zero, Act.put, List.setIfInBounds_toArray, List.set_cons_succ, List.set_cons_zero]
  refine wpAnyH_take (i := 3) (v := ?_) rfl (by kernel_rfl) (by kernel_rfl) (by kernel_rfl) (fun _ _ _ h => h) (Or.inl ⟨by rfl, ?_⟩) (by assumption) ?_
  rotate_left
  · (intro w hSw; (try dsimp only at hSw); go_simp; try with_reducible rfl)
  try simp only [List.getElem_toArray, List.getElem_cons_succ, List.getElem_cons_zero, Act.put, List.setIfInBounds_toArray, List.set_cons_succ, List.set_cons_zero]
  refine wpAnyH_take (i := 4) (v := ?_) rfl (by kernel_rfl) (by kernel_rfl) (by kernel_rfl) (fun _ _ _ h => h) (Or.inl ⟨by rfl, ?_⟩) (by assumption) ?_
  rotate_left
  · (intro w hSw; (try dsimp only at hSw); go_simp; try with_reducible rfl)
  try simp only [List.getElem_toArray, List.getElem_cons_succ, List.getElem_cons_zero, Act.put, List.setIfInBounds_toArray, List.set_cons_succ, List.set_cons_zero]
  refine wpAnyH_take (i := 5) (v := ?_) rfl (by kernel_rfl) (by kernel_rfl) (by kernel_rfl) (fun _ _ _ h => h) (Or.inl ⟨by rfl, ?_⟩) (by assumption) ?_
  rotate_left
  · (intro w hSw; (try dsimp only at hSw); go_simp; try with_reducible rfl)
  try simp only [List.getElem_toArray, List.getElem_cons_succ, List.getElem_cons_zero, Act.put, List.setIfInBounds_toArray, List.set_cons_succ, List.set_cons_zero]
  refine wpAnyH_take (i := 6) (v := ?_) rfl (by kernel_rfl) (by kernel_rfl) (by kernel_rfl) (fun _ _ _ h => h) (Or.inl ⟨by rfl, ?_⟩) (by assumption) ?_
  rotate_left
  · (intro w hSw; (try dsimp only at hSw); go_simp; try with_reducible rfl)
  try simp only [List.getElem_toArray, List.getElem_cons_succ, List.getElem_cons_zero, Act.put, List.setIfInBounds_toArray, List.set_cons_succ, List.set_cons_zero]
  refine wpAnyH_ready (rs := [2]) (by kernel_rfl) (by simp) (AllReadyH.cons rfl (fun K hK => ?_) AllReadyH.nil)
  go_simp
  refine hK.out _ _ (F35.cell trivial u4) (fun hHeld => ?_)
  clear hK K
  try simp only [List.getElem_toArray, List.getElem_cons_succ, List.getElem_cons_zero, Act.put, List.setIfInBounds_toArray, List.set_cons_succ, List.set_cons_zero]
  refine wpAnyH_ready (rs := [7]) (by kernel_rfl) (by simp) (AllReadyH.cons rfl (fun K hK => ?_) AllReadyH.nil)
  refine wp_app rfl Tryd.underlying28 info_ent rfl (by decide) o5 HY1 rfl rfl (fun b hb _ => ⟨hb, fun e => by have h1 : b = W3.heap.size := Option.some.inj e; have := hb.2.2; omega⟩) (by rw [List.length_take]; simp only [List.length_nil]; omega) (by omega) ?_
  intro v6 w6 o6 f6 h6
  have hlo5 := own_lt o5
  have F36 : Fr All W3 w6 := F35.row f6.grown fun m hm => (hlo5 m hm).1
  refine hK.out _ _ (F36.cell trivial u4) (fun hHeld => ?_)
  clear hK K
  try simp only [List.getElem_toArray, List.getElem_cons_succ, List.getElem_cons_zero, Act.put, List.setIfInBounds_toArray, List.set_cons_succ, List.set_cons_zero]
  refine wpAnyH_take (i := 8) (v := ?_) rfl (by kernel_rfl) (by kernel_rfl) (by kernel_rfl) (fun _ _ _ h => h) (Or.inl ⟨by rfl, ?_⟩) (by assumption) ?_
  rotate_left
  · (intro w hSw; (try dsimp only at hSw); go_simp; try with_reducible rfl)
  try simp only [List.getElem_toArray, List.getElem_cons_succ, List.getElem_cons_zero, Act.put, List.setIfInBounds_toArray, List.set_cons_succ, List.set_cons_zero]
  try simp only [List.getElem_toArray, List.getElem_cons_succ, List.getElem_cons_zero, List.set_cons_succ, List.set_cons_zero]
  refine wpAnyH_done (by kernel_rfl) ?_ _
  obtain ⟨M1, hM1⟩ : ∃ M, [] ++ p.ents.take m = M := ⟨_, rfl⟩
  rw [hM1] at o6
  have hml : M1.length ≤ 8 := by rw [← hM1, List.nil_append, List.length_take]; omega
  obtain ⟨A6, c6, rfl⟩ := o6.length
  have hlo6 := Lib.hid (own_lt o6)
  have FB := (Fr.refl All w6).alloc (.cells #[.slice A7 r.key.length c7, .slice A8 r.val.length c8] 65)
  have O6 := o6.all FB
  have HY2 : Src kEnt (fun b => w.heap.size + 3 ≤ b ∧ b ≠ Bo ∧ b < W3.heap.size) (w6.alloc (.cells #[.slice A7 r.key.length c7, .slice A8 r.val.length c8] 65)) (.slice (some ⟨w6.heap.size, 0, none⟩) 1 1) [(⟨r.key, r.val⟩ : Ent)] := Src.box (d := kEnt) (x := ⟨r.key, r.val⟩) (kEnt_mk ((HS7.out.mono fun b hb hl => (⟨by unfold From at hb; omega, by unfold From at hb; omega, hl⟩ : w.heap.size + 3 ≤ b ∧ b ≠ Bo ∧ b < W3.heap.size)).all F36) ((HS8.out.mono fun b hb hl => (⟨by unfold From at hb; omega, by unfold From at hb; omega, hl⟩ : w.heap.size + 3 ≤ b ∧ b ≠ Bo ∧ b < W3.heap.size)).all F36)) _ 1
  have hb2 : W3.heap.size ≤ (w6.alloc (.cells #[.slice A7 r.key.length c7, .slice A8 r.val.length c8] 65)).heap.size := by have := F36.size; rw [World.size_alloc]; omega
  obtain ⟨x0, x1, xz⟩ := blk2 ((F36.block Bx hX3 trivial).trans HX.out)
  clear u0 u1 u2 u3 u4 uz y0 y1 yz z0 z1 z2 z3 z4 zz r5 o5 hmk HY1 hwn
  go_upto_region 18 with (at_builtin; refine wpList_app rfl rfl Tryd.underlying28 info_ent rfl (by decide) O6 HY2 rfl rfl (fun b hb _ => ⟨hb, fun e => by have := (hlo6.out b e.symm).1; have := hb.2.2; omega⟩) (by simp only [List.length_cons, List.length_nil]; omega) hb2 ?_; intro v7 w7 o7 f7 h7)
  have F37 : Fr All W3 w7 := (F36.trans FB).row f7.grown fun m hm => (hlo6.out m hm).1
  obtain ⟨M2, hM2⟩ : ∃ M, M1 ++ [(⟨r.key, r.val⟩ : Ent)] = M := ⟨_, rfl⟩
  rw [hM2] at o7
  have hml2 : M2.length ≤ 9 := by rw [← hM2, List.length_append]; simp only [List.length_cons, List.length_nil]; omega
  have HY3 := ((H0.all F37).drop hmn).src
  have hw7 := Lib.hid (own_lt o7)
  have hb3 : W3.heap.size ≤ w7.heap.size := F37.size
  obtain ⟨t0, t1, t2, t3, t4, tz⟩ := blk5 ((F37.block Bo hB3 trivial).trans HU.out)
  clear O6 HY2 o6 f6 h6 f7 h7 FB x0 x1 xz
  have hnD : (p.ents.drop m).length ≤ 8 := by rw [List.length_drop]; have := En.out; omega
  have hobx : ∀ b, v7.ownBlock = some b → b ≠ Bo := fun b hb => by have := (hw7.out b hb).1; omega
  go_upto_region 31 with (at_builtin; refine wpList_app rfl rfl Tryd.underlying28 info_ent rfl (by decide) o7 HY3 rfl rfl (fun b hb _ => ⟨hb, fun e => by have := (hw7.out b e.symm).1; have := hb.2.2; omega⟩) (by omega) hb3 ?_; intro v8 w8 o8 f8 h8; obtain ⟨M3, hM3⟩ : ∃ M, M2 ++ p.ents.drop m = M := ⟨_, rfl⟩; rw [hM3] at o8; obtain ⟨A9', c9', rfl⟩ := o8.length; obtain ⟨m3, hm3⟩ : ∃ k, M3.length = k := ⟨_, rfl⟩; rw [hm3] at o8 ⊢; obtain ⟨d0, d1, d2, d3, d4, dz⟩ := blk5 ((f8.block Bo (Nat.lt_of_lt_of_le hB3 F37.size) (fun e => hobx Bo e.symm rfl)).trans ((F37.block Bo hB3 trivial).trans HU.out)))
  have F38 : Fr All W3 w8 := F37.row f8.grown fun k hk => (hw7.out k hk).1
  have ZB := (FW3.out.block _ (blk_lt ((FW1.out.block _ (blk_lt HZ.out) trivial).trans HZ.out)) (by omega)).trans ((FW1.out.block _ (blk_lt HZ.out) trivial).trans HZ.out)
  obtain ⟨z0, z1, z2, z3, z4, zz⟩ := blk5 ((F38.block _ (blk_lt ZB) trivial).trans ZB)
  have hlo8 := own_lt o8
  have hfin : M3 = p.ents.take m ++ ((⟨r.key, r.val⟩ : Ent) :: p.ents.drop m) := by rw [← hM3, ← hM2, ← hM1]; simp
  have heq : min r.slot.toNat p.ents.length = m := by rw [En.out]; exact HM.out
  have HFIN := Lib.hid hfin
  have HEQ := Lib.hid heq
  have HM3 := Lib.hid hm3
  have HS8' := Lib.hid o8.sl
  have HF38 := Lib.hid F38
  have HLO8 := Lib.hid hlo8
  clear t0 t1 t2 t3 t4 tz o7 o8 f8 h8 HY3 hM1 hM2 hM3 hm3 hfin heq ZB hlo8 F38 F37 F36 F35 hobx
  go_wp2_with fail
  all_goals (
    refine bodyPost_ret (v := .agg #[.int .i64 p.id, .int .i64 r.lsn, .int .i64 p.level, .int .i64 p.next, .slice A9' m3 c9']) ?_ rfl ⟨A9', c9', by dsimp only; rw [HEQ.out, ← HFIN.out, HM3.out], ?_, ?_⟩
    · simp [results, Tryd.results22, go_sem, z0, z1, z2, z3, z4]
    · dsimp only
      rw [HEQ.out, ← HFIN.out, HM3.out]
      refine (HS8'.out.move' (T := fun b => b ≠ Bo ∧ b ≠ w.heap.size + 2) ?_ (fun b hb _ => by
        rcases hb with hb | hb
        · exact ⟨hb.2.1, by omega⟩
        · have := (HLO8.out b hb.symm).1
          exact ⟨by omega, by have := FA3.out.size; have h5 := FW3.out.size; have h6 := FW1.out.size; omega⟩)).mono fun b hb _ => by
        unfold From
        rcases hb with hb | hb
        · omega
        · have := (HLO8.out b hb.symm).1; have := FA3.out.size; omega
      repeat (first | (with_reducible exact Fr.refl _ _) | with_reducible refine Fr.drew ?_ | with_reducible refine Fr.drewN ?_ _ | with_reducible refine Fr.setCell ?_ (fun m hm => by first | exact hm.1 | exact hm.2) _)
    · have FF := FA3.out.trans HF38.out
      repeat (first | (with_reducible exact FF) | with_reducible refine Fr.drew ?_ | with_reducible refine Fr.setNew ?_ (by dsimp only; omega) _))
end Go.Proofs.YtppjpfgjophgkaaDoor
