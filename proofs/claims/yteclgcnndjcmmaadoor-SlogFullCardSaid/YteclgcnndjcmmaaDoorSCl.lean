/- A log on a disk, as a walk holds it: the disk, its own struct, its records. What a call does, laid or read. How far a disk was written. A disk that holds a log's calls; clean. -/
import Derived.Test.YteclgcnndjcmmaaDoorHCut
import Derived.Test.YteclgcnndjcmmaaDoorDkE
import Derived.Test.YteclgcnndjcmmaaDoorSNx
import Derived.Test.YteclgcnndjcmmaaDoorDkC
import Derived.Maps.RangeWalk
import Derived.Laws.IdiomRangeMap
import Derived.Deep.LoopGhost
import Derived.Lib.MinMax
import Derived.LoopN
namespace Go.Proofs.YteclgcnndjcmmaaDoor
open Go.RowKit Go.Maps

/-- What a log knows. -/
structure LSt where
  prom : Int
  inst : Int
  inc : Int
  whole : Bool
  floor : Int
  hs : HSt
  n : Nat
/-- What the disk's rows must not lie in. -/
def Gd (L H : Nat) (lv : Value) (x : Nat) : Prop := x = L ∨ x = H ∨ some x = lv.ownBlock
def Sd (D bs bp L H : Nat) (x : Nat) : Prop := Off D bs bp x ∧ x ≠ L ∧ x ≠ H
structure SLg (w0 w : World) (D bs bp L H : Nat) (lv sv : Value) (ds : DSt) (s : LSt) : Prop where
  dk : Held (Gd L H lv) w0 w D bs bp ds
  hg : Hg (Sd D bs bp L H) w H lv sv s.hs
  lc : w.heap[L]? = some (.cells #[.pointer (some ⟨D, 0, none⟩), .int .i64 s.prom, .int .i64 s.inst, .int .i64 s.inc, .bool s.whole, .int .i64 s.floor, .slice none 0 0, .pointer (some ⟨H, 0, none⟩), .int .i64 (s.n : Int), .int .i64 (s.n : Int)] 62 (0, 0))
  nLH : L ≠ H
  oL : Off D bs bp L
  oH : Off D bs bp H
  ow : ∀ k, lv.ownBlock = some k → Off D bs bp k ∧ k ≠ L ∧ w0.heap.size ≤ k
  l0 : w0.heap.size ≤ L
  l1 : w0.heap.size ≤ H
section
variable {w0 w w' : World} {D bs bp L H : Nat} {lv sv : Value} {ds ds' : DSt} {s : LSt}
theorem SLg.all (h : SLg w0 w D bs bp L H lv sv ds s) (f : Fr All w w') : SLg w0 w' D bs bp L H lv sv ds s :=
  ⟨h.dk.all f, h.hg.all f, (f.block L (blk_lt h.lc) trivial).trans h.lc, h.nLH, h.oL, h.oH, h.ow, h.l0, h.l1⟩
theorem SLg.fr (h : SLg w0 w D bs bp L H lv sv ds s) : Fr All w0 w := h.dk.fr
/-- The disk was told something. -/
theorem SLg.disk (h : SLg w0 w D bs bp L H lv sv ds s) (f : Fr (Off D bs bp) w w') (d : Held (Gd L H lv) w0 w' D bs bp ds') : SLg w0 w' D bs bp L H lv sv ds' s :=
  ⟨d, h.hg.move f h.oH (fun k hk => (h.ow k hk).1) (fun b hb _ => hb.1), (f.block L (blk_lt h.lc) h.oL).trans h.lc, h.nLH, h.oL, h.oH, h.ow, h.l0, h.l1⟩
/-- Its own struct turned. -/
theorem SLg.own (h : SLg w0 w D bs bp L H lv sv ds s) {s' : LSt} (f : Fr (fun b => b ≠ L) w w') (e : s'.hs = s.hs) (lc : w'.heap[L]? = some (.cells #[.pointer (some ⟨D, 0, none⟩), .int .i64 s'.prom, .int .i64 s'.inst, .int .i64 s'.inc, .bool s'.whole, .int .i64 s'.floor, .slice none 0 0, .pointer (some ⟨H, 0, none⟩), .int .i64 (s'.n : Int), .int .i64 (s'.n : Int)] 62 (0, 0))) : SLg w0 w' D bs bp L H lv sv ds s' where
  dk := ⟨h.dk.dk.grow f (Ne.symm h.oL.1) (Ne.symm h.oL.2.1) (Ne.symm h.oL.2.2) (fun x _ hg _ hx => hg (.inl hx)) (fun x hx _ => hx) (fun x hx => Nat.lt_of_lt_of_le (h.dk.dk.gg x hx) f.size), h.dk.l0, h.dk.l1, h.dk.l2, h.dk.fr.newest h.l0 f⟩
  hg := by rw [e]; exact h.hg.move f (Ne.symm h.nLH) (fun k hk => (h.ow k hk).2.1) (fun b hb _ => hb.2.1)
  lc := lc
  nLH := h.nLH
  oL := h.oL
  oH := h.oH
  ow := h.ow
  l0 := h.l0
  l1 := h.l1
/-- Its records were told something. -/
theorem SLg.hot (h : SLg w0 w D bs bp L H lv sv ds s) {hs' : HSt} (n : HNext (Sd D bs bp L H) w w' H lv sv hs') : ∃ lv', SLg w0 w' D bs bp L H lv' sv ds { s with hs := hs' } ∧ Fr (Off2 H lv) w w' ∧ (lv'.ownBlock = lv.ownBlock ∨ ∃ k, lv'.ownBlock = some k ∧ w.heap.size ≤ k) := by
  obtain ⟨lv', hg, f, ho⟩ := n.out
  have hD := h.dk.dk.lt
  have hbs := h.dk.dk.syn.lt
  have hbp := h.dk.dk.pen.lt
  have hL := blk_lt h.lc
  have hw := h.dk.fr.size
  have how : ∀ k, lv'.ownBlock = some k → Off D bs bp k ∧ k ≠ L ∧ w0.heap.size ≤ k := fun k hk => by
    rcases ho with ho | ⟨j, hj, hl⟩
    · exact h.ow k (by rw [← ho]; exact hk)
    · rw [hj] at hk
      obtain rfl := Option.some.inj hk
      exact ⟨⟨by omega, by omega, by omega⟩, by omega, by omega⟩
  refine ⟨lv', ⟨⟨h.dk.dk.grow f ⟨Ne.symm h.oH.1, fun e => (h.ow D e.symm).1.1 rfl⟩ ⟨Ne.symm h.oH.2.1, fun e => (h.ow bs e.symm).1.2.1 rfl⟩ ⟨Ne.symm h.oH.2.2, fun e => (h.ow bp e.symm).1.2.2 rfl⟩ (fun x _ hg _ => ⟨fun e => hg (.inr (.inl e)), fun e => hg (.inr (.inr e))⟩) (fun x hx hl => ?_) (fun x hx => ?_), h.dk.l0, h.dk.l1, h.dk.l2, ?_⟩, ?_, (f.block L hL ⟨h.nLH, fun e => (h.ow L e.symm).2.1 rfl⟩).trans h.lc, h.nLH, h.oL, h.oH, how, h.l0, h.l1⟩, f, ho⟩
  · rcases hx with hx | hx | hx
    · exact .inl hx
    · exact .inr (.inl hx)
    · rcases ho with ho | ⟨j, hj, hj2⟩
      · exact .inr (.inr (by rw [← ho]; exact hx))
      · rw [hj] at hx
        have := Option.some.inj hx
        omega
  · rcases hx with hx | hx | hx
    · rw [hx]; exact Nat.lt_of_lt_of_le hL f.size
    · rw [hx]; exact hg.lt
    · exact (own_lt hg.row x hx.symm).2
  · exact ⟨f.os.trans h.dk.fr.os, f.tape.trans h.dk.fr.tape, f.output.trans h.dk.fr.output, Nat.le_trans hw f.size, fun b hb _ => (f.block b (Nat.lt_of_lt_of_le hb hw) ⟨by have := h.l1; omega, fun e => by have := (h.ow b e.symm).2.2; omega⟩).trans (h.dk.fr.block b hb trivial)⟩
  · refine hg.mono (fun b hb hl => ?_) (fun b hb => hb.2.2)
    rcases hb with hb | hb
    · exact hb
    · have := h.hg.lt
      exact ⟨⟨by omega, by omega, by omega⟩, by omega, by omega⟩
end
end Go.Proofs.YteclgcnndjcmmaaDoor
namespace Go.Proofs.YteclgcnndjcmmaaDoor
open Go.RowKit Go.Maps

/-- Records each of which is new behind those ahead of it. -/
def FreshL : HSt → List Redo → Prop
  | _, [] => True
  | s, r :: rs => (validIx r = none ∧ r.group = s.group ∧ deadS s.spans r.lsn r.epoch = false ∧ isL s.l r.lsn = false ∧ s.l.length < 16384) ∧ FreshL (s.add r) rs
theorem FreshL.at_ : ∀ {rs : List Redo} {s : HSt} {k : Nat} {x : Redo}, FreshL s rs → rs[k]? = some x → let t := (rs.take k).foldl HSt.add s; validIx x = none ∧ x.group = t.group ∧ deadS t.spans x.lsn x.epoch = false ∧ isL t.l x.lsn = false ∧ t.l.length < 16384
  | r :: rs, s, 0, x, h, hx => by
    obtain rfl : r = x := by simpa using hx
    exact h.1
  | r :: rs, s, k + 1, x, h, hx => FreshL.at_ (rs := rs) (s := s.add r) (k := k) h.2 (by simpa using hx)
section
variable {w0 w : World} {D bs bp L H : Nat} {lv sv : Value} {ds : DSt} {s : LSt}
set_option maxRecDepth 100000 in
set_option maxHeartbeats 4000000 in
theorem do_recs (h : SLg w0 w D bs bp L H lv sv ds s) {c : CallP} {RA : Option Addr} {rn rc : Nat} {z : Bool} {T : Nat → Prop} (hr : Sl kRedo T w (.slice RA rn rc) c.recs) (hT : ∀ b, T b → b < w.heap.size → b ≠ H ∧ some b ≠ lv.ownBlock) (hf : FreshL s.hs c.recs) (h40 : rn ≤ 1000) :
    Calls Tryd.prog 24 #[.pointer (some ⟨L, 0, none⟩), .agg #[.int .i64 0, .int .i64 c.promise, .int .i64 c.installed, .int .i64 c.inc, .bool c.whole, .int .i64 c.floor, .slice none 0 0, .slice RA rn rc, .bool z]] w fun e w' => e = .returned (.tuple #[]) ∧ (∃ lv', SLg w0 w' D bs bp L H lv' sv ds { s with hs := c.recs.foldl HSt.add s.hs } ∧ ∀ q, lv'.ownBlock = some q → lv.ownBlock = some q ∨ w.heap.size ≤ q) ∧ Fr (fun b => b ≠ H ∧ some b ≠ lv.ownBlock) w w' := by
  have en := hr.len
  have F0 := (Fr.refl All w).alloc (.cells #[.int .i64 0, .int .i64 c.promise, .int .i64 c.installed, .int .i64 c.inc, .bool c.whole, .int .i64 c.floor, .slice none 0 0, .slice RA rn rc, .bool z] 64)
  have HR := Lib.hid ((hr.mono (T := fun b => T b ∧ b < w.heap.size) fun b hb hl => ⟨hb, hl⟩).all F0)
  have HT := Lib.hid hT
  have HFr := Lib.hid hf
  have En := Lib.hid en
  have H0 := Lib.hid (h.all F0)
  have HF0 : Hid (Fr (fun b => b ≠ H ∧ some b ≠ lv.ownBlock) w (w.alloc (.cells #[.int .i64 0, .int .i64 c.promise, .int .i64 c.installed, .int .i64 c.inc, .bool c.whole, .int .i64 c.floor, .slice none 0 0, .slice RA rn rc, .bool z] 64))) := Lib.hid (F0.mono fun _ _ => trivial)
  have B0 := heap_alloc_new w (.cells #[.int .i64 0, .int .i64 c.promise, .int .i64 c.installed, .int .i64 c.inc, .bool c.whole, .int .i64 c.floor, .slice none 0 0, .slice RA rn rc, .bool z] 64)
  obtain ⟨W0, hW0⟩ : ∃ W0, w.alloc (.cells #[.int .i64 0, .int .i64 c.promise, .int .i64 c.installed, .int .i64 c.inc, .bool c.whole, .int .i64 c.floor, .slice none 0 0, .slice RA rn rc, .bool z] 64) = W0 := ⟨_, rfl⟩
  rw [hW0] at HR H0 HF0 B0
  have y0 : W0.cell? ⟨w.heap.size, 0, none⟩ = some (.int .i64 0) := (blk_cells B0).1 0
  have y7 : W0.cell? ⟨w.heap.size, 7, none⟩ = some (.slice RA rn rc) := (blk_cells B0).1 7
  clear h hr hT hf en F0 B0
  go_enter Tryd.func24, Tryd.ntmps24
  go_wp2_with fail
  go_loopw [105] (fun i wr => ∃ (k : Nat) (lv' : Value), k ≤ rn ∧ i = .int .i64 k ∧ Hid (SLg w0 wr D bs bp L H lv' sv ds { s with hs := (c.recs.take k).foldl HSt.add s.hs }) ∧ Hid (Sl kRedo (fun b => T b ∧ b < w.heap.size) wr (.slice RA rn rc) c.recs) ∧ Hid (Fr (fun b => b ≠ H ∧ some b ≠ lv.ownBlock) w wr) ∧ Hid (∀ q, lv'.ownBlock = some q → lv.ownBlock = some q ∨ w.heap.size ≤ q)) (fun i _ => rn - (Go.RowKit.intOf i).toNat)
  case atStart => exact ⟨0, lv, Nat.zero_le _, rfl, H0, HR, HF0, Lib.hid fun q hq => .inl hq⟩
  case round =>
    clear y0 y7 hW0
    obtain ⟨k, lv', hk, rfl, HG, HR, HF, HO⟩ := hrel
    by_cases hlt : k < rn
    · obtain ⟨x, hx, hxm⟩ := get_of (l := c.recs) (k := k) (by rw [En.out]; exact hlt)
      obtain ⟨b, o, X0, m0, d0, X1, m1, d1, rfl, g0, g1, g2, g3, g4, g5, g6, g7, g8, g9, t0, t1⟩ := redo_at HR.out hx
      have Hx := Lib.hid hx
      have hfx := HFr.out.at_ hx
      have HX := Lib.hid hfx
      clear hfx
      have b0 : (0 : Int) ≤ (k : Int) := by omega
      have b1 : (k : Int) < (rn : Int) := by omega
      have FX := (Fr.refl All wr).alloc (.cells #[.int .i64 x.lsn, .int .i64 x.back, .int .i64 x.epoch, .int .i64 x.group, .int .i64 x.page, .int .i64 x.kind, .int .i64 x.slot, .slice X0 m0 d0, .slice X1 m1 d1, .bool x.last] 36)
      have BX := heap_alloc_new wr (.cells #[.int .i64 x.lsn, .int .i64 x.back, .int .i64 x.epoch, .int .i64 x.group, .int .i64 x.page, .int .i64 x.kind, .int .i64 x.slot, .slice X0 m0 d0, .slice X1 m1 d1, .bool x.last] 36)
      obtain ⟨W8, hW8⟩ : ∃ W8, wr.alloc (.cells #[.int .i64 x.lsn, .int .i64 x.back, .int .i64 x.epoch, .int .i64 x.group, .int .i64 x.page, .int .i64 x.kind, .int .i64 x.slot, .slice X0 m0 d0, .slice X1 m1 d1, .bool x.last] 36) = W8 := ⟨_, rfl⟩
      have T0 := Lib.hid (t0.all FX)
      have T1 := Lib.hid (t1.all FX)
      have HG8 := Lib.hid (HG.out.all FX)
      have HR8 := Lib.hid (HR.out.all FX)
      have HF8 : Hid (Fr (fun b => b ≠ H ∧ some b ≠ lv.ownBlock) w _) := Lib.hid (HF.out.trans (FX.mono fun _ _ => trivial))
      rw [hW8] at FX BX T0 T1 HG8 HR8 HF8
      have e0 : W8.cell? ⟨wr.heap.size, 0, none⟩ = some (.int .i64 x.lsn) := (blk_cells BX).1 0
      have e1 : W8.cell? ⟨wr.heap.size, 1, none⟩ = some (.int .i64 x.back) := (blk_cells BX).1 1
      have e2 : W8.cell? ⟨wr.heap.size, 2, none⟩ = some (.int .i64 x.epoch) := (blk_cells BX).1 2
      have e3 : W8.cell? ⟨wr.heap.size, 3, none⟩ = some (.int .i64 x.group) := (blk_cells BX).1 3
      have e4 : W8.cell? ⟨wr.heap.size, 4, none⟩ = some (.int .i64 x.page) := (blk_cells BX).1 4
      have e5 : W8.cell? ⟨wr.heap.size, 5, none⟩ = some (.int .i64 x.kind) := (blk_cells BX).1 5
      have e6 : W8.cell? ⟨wr.heap.size, 6, none⟩ = some (.int .i64 x.slot) := (blk_cells BX).1 6
      have e7 : W8.cell? ⟨wr.heap.size, 7, none⟩ = some (.slice X0 m0 d0) := (blk_cells BX).1 7
      have e8 : W8.cell? ⟨wr.heap.size, 8, none⟩ = some (.slice X1 m1 d1) := (blk_cells BX).1 8
      have e9 : W8.cell? ⟨wr.heap.size, 9, none⟩ = some (.bool x.last) := (blk_cells BX).1 9
      have e7h : W8.cell? ⟨L, 7, none⟩ = some (.pointer (some ⟨H, 0, none⟩)) := (blk_cells HG8.out.lc).1 7
      have hwr : w.heap.size ≤ W8.heap.size := HF8.out.size
      go_upto_region 19 with fail
      clear g0 g1 g2 g3 g4 g5 g6 g7 g8 g9 hx hxm FX BX hW8 t0 t1
      refine wp_region_all (S := fun w' => w'.cell? ⟨L, 7, none⟩ = some (.pointer (some ⟨H, 0, none⟩)) ∧ w'.cell? ⟨wr.heap.size, 0, none⟩ = some (.int .i64 x.lsn) ∧ w'.cell? ⟨wr.heap.size, 1, none⟩ = some (.int .i64 x.back) ∧ w'.cell? ⟨wr.heap.size, 2, none⟩ = some (.int .i64 x.epoch) ∧ w'.cell? ⟨wr.heap.size, 3, none⟩ = some (.int .i64 x.group) ∧ w'.cell? ⟨wr.heap.size, 4, none⟩ = some (.int .i64 x.page) ∧ w'.cell? ⟨wr.heap.size, 5, none⟩ = some (.int .i64 x.kind) ∧ w'.cell? ⟨wr.heap.size, 6, none⟩ = some (.int .i64 x.slot) ∧ w'.cell? ⟨wr.heap.size, 7, none⟩ = some (.slice X0 m0 d0) ∧ w'.cell? ⟨wr.heap.size, 8, none⟩ = some (.slice X1 m1 d1) ∧ w'.cell? ⟨wr.heap.size, 9, none⟩ = some (.bool x.last)) (by kernel_rfl) ⟨e7h, e0, e1, e2, e3, e4, e5, e6, e7, e8, e9⟩ (fun hHeld => ?_)
      refine wpAnyH_take (i := 0) (v := ?_) rfl (by kernel_rfl) (by kernel_rfl) (by kernel_rfl) (fun _ _ _ h => h) (Or.inl ⟨by rfl, ?_⟩) (by assumption) ?_
      rotate_left
      · (intro w hSw; (try dsimp only at hSw); go_simp; try with_reducible rfl)
      try simp only [List.getElem_toArray, List.getElem_cons_succ, List.getElem_cons_zero, Act.put, List.setIfInBounds_toArray, List.set_cons_succ, List.set_cons_zero]
      refine wpAnyH_take (i := 1) (v := ?_) rfl (by kernel_rfl) (by kernel_rfl) (by kernel_rfl) (fun _ _ _ h => h) (Or.inl ⟨by rfl, ?_⟩) (by assumption) ?_
      rotate_left
      · (intro w hSw; (try dsimp only at hSw); go_simp; try with_reducible rfl)
      try simp only [List.getElem_toArray, List.getElem_cons_succ, List.getElem_cons_zero, Act.put, List.setIfInBounds_toArray, List.set_cons_succ, List.set_cons_zero]
      refine wpAnyH_take (i := 2) (v := ?_) rfl (by kernel_rfl) (by kernel_rfl) (by kernel_rfl) (fun _ _ _ h => h) (Or.inl ⟨by rfl, ?_⟩) (by assumption) ?_
      rotate_left
      · (intro w hSw; (try dsimp only at hSw); go_simp; try with_reducible rfl)
      try simp only [List.getElem_toArray, List.getElem_cons_succ, List.getElem_cons_zero, Act.put, List.setIfInBounds_toArray, List.set_cons_succ, List.set_cons_zero]
      refine wpAnyH_take (i := 3) (v := ?_) rfl (by kernel_rfl) (by kernel_rfl) (by kernel_rfl) (fun _ _ _ h => h) (Or.inl ⟨by rfl, ?_⟩) (by assumption) ?_
      rotate_left
      · (intro w hSw; (try dsimp only at hSw); go_simp; try with_reducible rfl)
      try simp only [List.getElem_toArray, List.getElem_cons_succ, List.getElem_cons_zero, Act.put, List.setIfInBounds_toArray, List.set_cons_succ, List.set_cons_zero]
      refine wpAnyH_take (i := 4) (v := ?_) rfl (by kernel_rfl) (by kernel_rfl) (by kernel_rfl) (fun _ _ _ h => h) (Or.inl ⟨by rfl, ?_⟩) (by assumption) ?_
      rotate_left
      · (intro w hSw; (try dsimp only at hSw); go_simp; try with_reducible rfl)
      try simp only [List.getElem_toArray, List.getElem_cons_succ, List.getElem_cons_zero, Act.put, List.setIfInBounds_toArray, List.set_cons_succ, List.set_cons_zero]
      refine wpAnyH_ready (rs := [5]) (by kernel_rfl) (by simp) (AllReadyH.cons rfl (fun K hK => ?_) AllReadyH.nil)
      go_simp
      refine (add_new (HG8.out.all (Fr.refl All W8).drew).hg (T0.out.all (Fr.refl All W8).drew) (T1.out.all (Fr.refl All W8).drew) HX.out.1 HX.out.2.1 HX.out.2.2.1 HX.out.2.2.2.1 HX.out.2.2.2.2).mono ?_
      rintro e w9 ⟨rfl, hn⟩
      obtain ⟨lv9, h9, f9, ho9⟩ := (HG8.out.all (Fr.refl All W8).drew).hot hn
      go_simp
      have hbx : Off2 H lv' wr.heap.size := ⟨by have := HG.out.hg.lt; omega, fun e => by have := (own_lt HG.out.hg.row _ e.symm).2; omega⟩
      refine hK.out _ _ ⟨(blk_cells h9.lc).1 7, f9.cell hbx e0, f9.cell hbx e1, f9.cell hbx e2, f9.cell hbx e3, f9.cell hbx e4, f9.cell hbx e5, f9.cell hbx e6, f9.cell hbx e7, f9.cell hbx e8, f9.cell hbx e9⟩ (fun hHeld => ?_)
      clear hK K
      try simp only [List.getElem_toArray, List.getElem_cons_succ, List.getElem_cons_zero, Act.put, List.setIfInBounds_toArray, List.set_cons_succ, List.set_cons_zero]
      have HG9 := Lib.hid h9
      have HR9 := Lib.hid ((HR8.out.all (Fr.refl All W8).drew).move' f9 (fun b hb _ => ⟨(HT.out b hb.1 hb.2).1, fun e => by
        rcases HO.out b e.symm with h | h
        · exact (HT.out b hb.1 hb.2).2 h.symm
        · have := hb.2; omega⟩))
      have HF9 : Hid (Fr (fun b => b ≠ H ∧ some b ≠ lv.ownBlock) w w9) := Lib.hid ⟨f9.os.trans HF8.out.os, f9.tape.trans HF8.out.tape, f9.output.trans HF8.out.output, Nat.le_trans HF8.out.size f9.size, fun b hb hs => (f9.block b (Nat.lt_of_lt_of_le hb HF8.out.size) ⟨hs.1, fun e => by
        rcases HO.out b e.symm with h | h
        · exact hs.2 h.symm
        · omega⟩).trans (HF8.out.block b hb hs)⟩
      have HO9 : Hid (∀ q, lv9.ownBlock = some q → lv.ownBlock = some q ∨ w.heap.size ≤ q) := Lib.hid fun q hq => by
        rcases ho9 with h | ⟨j, hj, hj2⟩
        · exact HO.out q (by rw [← h]; exact hq)
        · rw [hj] at hq
          obtain rfl := Option.some.inj hq
          exact .inr (Nat.le_trans hwr hj2)
      clear h9 f9 ho9 hn hbx e0 e1 e2 e3 e4 e5 e6 e7 e8 e9 e7h hHeld
      refine wpAnyH_done (by kernel_rfl) ?_ _
      go_wp2_with fail
      go_roundw
      case rel =>
        refine ⟨k + 1, lv9, by omega, by go_num, Lib.hid ?_, HR9, HF9, HO9⟩
        rw [take_snoc Hx.out, List.foldl_append]
        exact HG9.out
      case measure => simp [Go.RowKit.intOf]; omega
    · obtain rfl : rn = k := by omega
      go_wp2_with fail
      go_end0
      refine ⟨rfl, ⟨lv', ?_, HO.out⟩, HF.out⟩
      have h1 := HG.out
      rw [List.take_of_length_le (by rw [En.out]; exact Nat.le_refl _)] at h1
      exact h1
end
/-- What a call turns in what a log knows. -/
def LSt.sets (s : LSt) (c : CallP) : LSt :=
  if c.kind = 1 then { s with prom := c.promise }
  else if c.kind = 2 then { s with inst := c.installed, hs := s.hs.cut [] }
  else if c.kind = 3 then { s with floor := c.floor }
  else if c.kind = 4 then { s with inc := c.inc, whole := c.whole }
  else if c.kind = 5 then { s with prom := c.promise, inst := c.installed, floor := c.floor, whole := true, hs := s.hs.cut [] }
  else s
def LSt.does (s : LSt) (c : CallP) : LSt := { s.sets c with hs := c.recs.foldl HSt.add (s.sets c).hs, n := s.n + 1 }
/-- Calls each of whose records is new behind those ahead of it. -/
def FreshC (cs : List CallP) (s : LSt) : Prop := ∀ (k : Nat) (c : CallP), cs[k]? = some c → FreshL (((cs.take k).foldl LSt.does s).sets c).hs c.recs
theorem sets0 {s : LSt} {c : CallP} (h : c.kind = 0) : s.sets c = s := by unfold LSt.sets; rw [h]; rfl
theorem does0 {s : LSt} {c : CallP} (h : c.kind = 0) : s.does c = { s with hs := c.recs.foldl HSt.add s.hs, n := s.n + 1 } := by unfold LSt.does; rw [sets0 h]
theorem does_n1 (s : LSt) (c : CallP) : (s.does c).n = s.n + 1 := by unfold LSt.does; rfl
theorem does_n (cs : List CallP) : ∀ s : LSt, (cs.foldl LSt.does s).n = s.n + cs.length := by
  induction cs with
  | nil => intro s; rfl
  | cons c cs ih =>
    intro s
    rw [List.foldl_cons, ih, does_n1, List.length_cons]
    omega
end Go.Proofs.YteclgcnndjcmmaaDoor
namespace Go.Proofs.YteclgcnndjcmmaaDoor
open Go.RowKit Go.Maps
variable {G : Nat → Prop}

theorem came_bytes {S : Nat → Prop} {w : World} {D : DataW Value} {k : Int} {o : Option (List UInt8)} (h : EntryIs S w D k o) {val : Value} (hat : ∀ zd, D.atKey (kl k) zd = .held val) : o.isSome = true := by
  cases o with
  | none =>
    have h5 : Maps.has D (kl k) = false := h
    have h6 := (atKey_of_not_has h5 .nil).symm.trans (hat .nil)
    cases h6
  | some p => rfl
set_option maxRecDepth 100000 in
set_option maxHeartbeats 4000000 in
theorem written_call {w : World} {B bs bp N : Nat} {s : DSt} (h : Dk G w B bs bp s) (hN : N ≤ 1000000) (hs : ∀ k, (s.syn k).isSome = true → 0 ≤ k ∧ k < (N : Int)) (hs2 : ∀ k : Nat, k < N → (s.syn (k : Int)).isSome = true) (hp : ∀ k, s.pen k = none) :
    Calls Tryd.prog 43 #[.pointer (some ⟨B, 0, none⟩)] w fun e w' => e = .returned (.int .i64 (N : Int)) ∧ Fr All w w' := by
  have K := int_keyed (P := Tryd.prog) Tryd.underlying3
  have c1 := h.c1
  have c2 := h.c2
  have H := Lib.hid h
  have HS := Lib.hid hs
  have HS2 := Lib.hid hs2
  have HP := Lib.hid hp
  clear h hs hs2 hp
  go_enter Tryd.func43, Tryd.ntmps43
  go_upto_region 2 with fail
  go_region
  go_upto_region 3 with fail
  have hFW : Fr All w ((w.alloc (.cells #[.map (some bs), .map (some bp)] 57)).drew) := ((Fr.refl All w).alloc _).drew
  have hBW : ((w.alloc (.cells #[.map (some bs), .map (some bp)] 57)).drew).heap[w.heap.size]? = some (.cells #[.map (some bs), .map (some bp)] 57 (0, 0)) := heap_alloc_new w _
  refine wp_name ?_
  intro W hW
  rw [← hW] at hFW hBW
  have m0 : W.cell? ⟨w.heap.size, 0, none⟩ = some (.map (some bs)) := (blk_cells hBW).1 0
  have HBW := Lib.hid hBW
  have HW := Lib.hid (H.out.all hFW)
  have HFW := Lib.hid hFW
  obtain ⟨D, hown, hsz, h3⟩ := HW.out.syn
  have H3 := Lib.hid h3
  clear hW hFW hBW c1 c2 h3
  refine wp_loop_rounds 3 ?_
  rw [rounds_succ]
  go_wp2_with (first
    | (at_range; refine wpList_range_own _ rfl _ 57 rfl 3 34 K Tryd.underlying57 elH bs s.ns _ rfl hown ?_; intro w1 hrg0 hg0 hs0)
    | go_in)
  go_frame
  clear m0
  have HR0 := Lib.hid hg0
  go_loopw [3] (fun tv wr => ∃ (left : Lit → Bool) (cnt t : Nat), tv = .int .i64 t ∧ t ≤ N ∧ wr.ranges Tryd.prog 3 elH bs W.heap.size s.ns D left cnt ∧ Hid (W.grownBy wr none) ∧ Hid (∀ j : Nat, j < N → left (kl (j : Int)) = false → j + 1 ≤ t))
    (fun _ wr => wr.rangeLeft bs W.heap.size)
  case atStart => exact ⟨_, _, 0, rfl, Nat.zero_le _, hrg0, HR0, Lib.hid fun j hj hl => by
    have h4 := H3.out (j : Int) (in64_of (by omega) (by omega))
    obtain ⟨xs, hx⟩ := Option.isSome_iff_exists.1 (HS2.out j hj)
    rw [hx] at h4
    rw [h4.1] at hl
    cases hl⟩
  case round =>
    obtain ⟨left, cnt, t, rfl, ht, hrg, HGW, HL⟩ := hrel
    go_wp2_with (first
      | (at_next; refine wpList_next_ranges _ rfl _ rfl 3 K elH id id (fun key _ _ => ⟨key, rfl⟩) (fun v _ _ => ⟨v, rfl⟩) bs W.heap.size s.ns _ _ _ rfl hrg ?_ ?_)
      | go_in)
    · intro _ hl0
      have htN : t = N := by
        rcases Nat.eq_zero_or_pos N with h0 | h0
        · omega
        · have := HL.out (N - 1) (by omega) (hl0 _)
          omega
      obtain ⟨V, hV⟩ : ∃ V, V = wr := ⟨_, rfl⟩
      subst hV
      have FW1 : Fr All W V := (Fr.of_grown (HGW.out.but none)).mono fun b _ => by show some b ≠ none; simp
      have HFW1 := Lib.hid (HFW.out.trans FW1)
      have m1 : V.cell? ⟨w.heap.size, 1, none⟩ = some (.map (some bp)) := FW1.cell trivial ((blk_cells HBW.out).1 1)
      have HW1 := Lib.hid (HW.out.all FW1)
      obtain ⟨D2, hown2, hsz2, h32⟩ := HW1.out.pen
      have H32 := Lib.hid h32
      subst htN
      clear FW1 h32 hrg HL
      go_wp2_with fail
      rw [rounds_succ]
      go_wp2_with (first
        | (at_range; refine wpList_range_own _ rfl _ 57 rfl 3 34 K Tryd.underlying57 elH bp s.np _ rfl hown2 ?_; intro w5 hrg5 hg5 hs5)
        | go_in)
      go_frame
      clear m1
      have HR5 := Lib.hid hg5
      go_loopw [3] (fun tv wz => tv = .int .i64 (t : Int) ∧ (∃ (left : Lit → Bool) (cnt : Nat), wz.ranges Tryd.prog 3 elH bp V.heap.size s.np D2 left cnt) ∧ Hid (V.grownBy wz none))
        (fun _ wz => wz.rangeLeft bp V.heap.size)
      case atStart => exact ⟨rfl, ⟨_, _, hrg5⟩, HR5⟩
      case round =>
        obtain ⟨rfl, ⟨left2, cnt2, hrg2⟩, HGV⟩ := hrel
        go_wp2_with (first
          | (at_next; refine wpList_next_ranges _ rfl _ rfl 3 K elH id id (fun key _ _ => ⟨key, rfl⟩) (fun v _ _ => ⟨v, rfl⟩) bp V.heap.size s.np _ _ _ rfl hrg2 ?_ ?_)
          | go_in)
        · intro _ _
          have FV1 : Fr All V wr := (Fr.of_grown (HGV.out.but none)).mono fun b _ => by show some b ≠ none; simp
          have HFV := Lib.hid (HFW1.out.trans FV1)
          clear FV1
          go_wp2_with fail
          rw [rounds_succ]
          go_wp2_with fail
          go_ret
          exact ⟨rfl, HFV.out⟩
        · intro x c klx yd yp w1 cnt1 hkey hlx hv hat hrg1 hlt hg1 hs1 hen
          exfalso
          obtain ⟨k, rfl, rfl, hwf⟩ := keyOf_int_inv Tryd.underlying3 hkey
          have hyd : yd = .held c := by
            have h1 : some (DataW.held c, ([] : List MemPlace)) = some (yd, yp) := hv
            exact (congrArg Prod.fst (Option.some.inj h1)).symm
          subst hyd
          have h9 := came_bytes (H32.out k hwf) hat
          rw [HP.out k] at h9
          cases h9
    · intro x c klx yd yp w1 cnt1 hkey hlx hv hat hrg1 hlt hg1 hs1 hen
      obtain ⟨k, rfl, rfl, hwf⟩ := keyOf_int_inv Tryd.underlying3 hkey
      have hyd : yd = .held c := by
        have h1 : some (DataW.held c, ([] : List MemPlace)) = some (yd, yp) := hv
        exact (congrArg Prod.fst (Option.some.inj h1)).symm
      subst hyd
      have hk := HS.out k (came_bytes (H3.out k hwf) hat)
      obtain ⟨kn, rfl⟩ : ∃ kn : Nat, k = kn := ⟨k.toNat, by omega⟩
      have hkn : kn < N := by omega
      have HGW1 := Lib.hid (HGW.out.andThen hg1 (fun j hj => by cases hj; exact Or.inl (Nat.le_refl _)))
      have HL1 : Hid (∀ j : Nat, j < N → (left (kl (j : Int)) && !(kl (j : Int)).sameKey (kl (kn : Int))) = false → j + 1 ≤ max t (kn + 1)) := Lib.hid fun j hj hl => by
        rcases Bool.and_eq_false_iff.1 hl with h | h
        · have := HL.out j hj h
          omega
        · have h1 : (kl (j : Int)).sameKey (kl (kn : Int)) = true := by simpa using h
          have h2 := WideAt.sameKey_eq h1
          unfold kl at h2
          injection h2 with _ h3
          omega
      clear hk hwf HL hat hv hkey
      go_wp2_with fail
      go_roundw
      case rel => exact ⟨_, cnt1, max t (kn + 1), by first | rfl | (congr 1; omega), by omega, hrg1, HGW1, HL1⟩
      case measure => rw [hrg1.left_eq, hrg.left_eq]; exact hlt
end Go.Proofs.YteclgcnndjcmmaaDoor
namespace Go.Proofs.YteclgcnndjcmmaaDoor
open Go.RowKit Go.Maps

/-- A disk that holds just these calls, each in a block. -/
structure DOk (ds : DSt) (cs : List CallP) : Prop where
  down : ds.down = false
  arm : ds.arm = 0
  pen : ∀ k, ds.pen k = none
  np : ds.np = 0
  b0 : 1 ≤ ds.blocks
  b1 : ds.blocks ≤ 16384
  fit : (cs.length : Int) ≤ ds.blocks
  syn : ∀ (i : Nat) c, cs[i]? = some c → ds.syn (i : Int) = some (blkB i c)
  off : ∀ k : Int, k < 0 ∨ (cs.length : Int) ≤ k → ds.syn k = none
  ns : ds.ns ≤ cs.length
  c0 : 0 ≤ ds.calls
  c1 : ds.calls ≤ 2 * (cs.length : Int)
  few : cs.length ≤ 1000
  one : ∀ c ∈ cs, Call1 c
theorem DOk.get {ds : DSt} {cs : List CallP} (h : DOk ds cs) (k : Int) : ds.get k = ds.syn k := by
  unfold DSt.get
  rw [h.pen k]
  rfl
theorem DOk.small {ds : DSt} {cs : List CallP} (h : DOk ds cs) {k : Int} {xs : List UInt8} (hx : ds.get k = some xs) : xs.length ≤ 1000000 := by
  rw [h.get] at hx
  by_cases hk : k < 0 ∨ (cs.length : Int) ≤ k
  · rw [h.off k hk] at hx
    cases hx
  · obtain ⟨n, rfl⟩ : ∃ n : Nat, k = n := ⟨k.toNat, by omega⟩
    obtain ⟨c, hc, hm⟩ := get_of (l := cs) (k := n) (by omega)
    rw [h.syn n c hc] at hx
    obtain rfl := Option.some.inj hx
    have := (h.one c hm).fits
    unfold blkB
    simp only [List.length_append, four_len]
    omega
section
variable {w0 w : World} {D bs bp L H : Nat} {lv sv : Value} {ds : DSt} {s : LSt} {cs : List CallP}
set_option maxRecDepth 100000 in
set_option maxHeartbeats 2000000 in
theorem clean_call (h : SLg w0 w D bs bp L H lv sv ds s) (o : DOk ds cs) (hn : s.n = cs.length) :
    Calls Tryd.prog 25 #[.pointer (some ⟨L, 0, none⟩)] w fun e w' => e = .returned .nilIface ∧ Fr All w w' := by
  have l0 : w.cell? ⟨L, 0, none⟩ = some (.pointer (some ⟨D, 0, none⟩)) := (blk_cells h.lc).1 0
  have l8 : w.cell? ⟨L, 8, none⟩ = some (.int .i64 (s.n : Int)) := (blk_cells h.lc).1 8
  obtain ⟨N, hN⟩ : ∃ N, s.n = N := ⟨_, rfl⟩
  rw [hN] at l8 hn
  have H := Lib.hid h
  have O := Lib.hid o
  have HN := Lib.hid hn
  have hfew := o.few
  have hwr : Calls Tryd.prog 43 #[.pointer (some ⟨D, 0, none⟩)] w fun e w' => e = .returned (.int .i64 (N : Int)) ∧ Fr All w w' := written_call h.dk.dk (by omega) (fun k hk => by
    by_cases hh : k < 0 ∨ (cs.length : Int) ≤ k
    · rw [o.off k hh] at hk
      cases hk
    · omega) (fun k hk => by
    obtain ⟨c, hc, _⟩ := get_of (l := cs) (k := k) (by omega)
    rw [o.syn k c hc]
    rfl) o.pen
  have HW := Lib.hid hwr
  clear hwr h o hn hN
  go_enter Tryd.func25, Tryd.ntmps25
  go_wp2_with fail
  refine wp_loop_rounds 1 ?_
  rw [rounds_succ]
  go_wp2_with fail
  refine HW.out.mono ?_
  rintro e w1 ⟨rfl, f1⟩
  have l0' := f1.cell trivial l0
  have H1 := Lib.hid (H.out.all f1)
  have HF1 := Lib.hid f1
  clear l0 l8 f1
  go_wp2_with fail
  refine (pending_call H1.out.dk.dk).mono ?_
  rintro e w2 ⟨rfl, hw2⟩
  obtain rfl := hw2.symm
  rw [O.out.np]
  have hr := held_read (i := 0) H1.out.dk O.out.down (by omega) (by have := O.out.b0; omega) O.out.b1 (fun xs hx => O.out.small hx)
  have HRd := Lib.hid hr
  clear hw2 hr
  go_wp2_with fail
  refine HRd.out.mono ?_
  rintro e w3 ⟨A, n, c, xs, rfl, _, _, _, f3⟩
  have HF3 := Lib.hid (HF1.out.trans f3)
  clear f3
  go_wp2_with fail
  go_ret
  exact ⟨rfl, HF3.out⟩
end
end Go.Proofs.YteclgcnndjcmmaaDoor
