/- A log opened on a disk. What a log on a disk says of itself; the chapter's first things. -/
import Derived.Test.YteclgcnndjcmmaaDoorSCl
import Derived.Test.YteclgcnndjcmmaaDoorSRec
namespace Go.Proofs.YteclgcnndjcmmaaDoor
open Go.RowKit Go.Maps
variable {G : Nat → Prop}

def LSt.start (g : Int) : LSt := ⟨0, 0, 0, false, 0, .new g, 0⟩
def endOf (L : Nat) (w : World) : Nat := match w.cell? ⟨L, 8, none⟩ with | some (.int _ n) => n.toNat | _ => 0
section
variable {w0 w : World} {D bs bp : Nat} {ds : DSt} {cs : List CallP}
set_option maxRecDepth 100000 in
set_option maxHeartbeats 4000000 in
theorem open_call {qs : List Addr} (hE : Errs w0 qs) (h : Held G w0 w D bs bp ds) (o : DOk ds cs) {g : Int} (g0 : 0 ≤ g) (g3 : g < 4) (hk : ∀ c ∈ cs, c.kind = 0) (hf : FreshC cs (.start g)) :
    Calls Tryd.prog 9 #[.pointer (some ⟨D, 0, none⟩), .int .i64 g] w fun e w' => ∃ L H lv sv, e = .returned (.tuple #[.pointer (some ⟨L, 0, none⟩), .nilIface]) ∧ SLg w0 w' D bs bp L H lv sv ds (cs.foldl LSt.does (.start g)) ∧ Fr All w w' ∧ w.heap.size ≤ L ∧ w.heap.size ≤ H ∧ ∀ q, lv.ownBlock = some q → w.heap.size ≤ q := by
  have d1 : decide (g < 0) = false := decide_eq_false (by omega)
  have d2 : decide (g ≥ 4) = false := decide_eq_false (by omega)
  have HD := Lib.hid h
  have HE := Lib.hid hE
  have O := Lib.hid o
  have HK := Lib.hid hk
  have HFc := Lib.hid hf
  have hw0 := h.fr.size
  clear h hE o hk hf
  go_enter Tryd.func9, Tryd.ntmps9
  go_wp2_with fail
  refine (hot_new g w).mono ?_
  rintro e w1 ⟨rfl, hg, f1⟩
  have FL := (Fr.refl All w1).alloc (.cells #[.pointer (some ⟨D, 0, none⟩), .int .i64 0, .int .i64 0, .int .i64 0, .bool false, .int .i64 0, .slice none 0 0, .pointer (some ⟨w.heap.size, 0, none⟩), .int .i64 0, .int .i64 0] 62)
  have BL := heap_alloc_new w1 (.cells #[.pointer (some ⟨D, 0, none⟩), .int .i64 0, .int .i64 0, .int .i64 0, .bool false, .int .i64 0, .slice none 0 0, .pointer (some ⟨w.heap.size, 0, none⟩), .int .i64 0, .int .i64 0] 62)
  have hH := hg.lt
  obtain ⟨L, hL⟩ : ∃ L, w1.heap.size = L := ⟨_, rfl⟩
  have hD := HD.out.dk.lt
  have hbs := HD.out.dk.syn.lt
  have hbp := HD.out.dk.pen.lt
  have hg2 : Hg (Sd D bs bp L w.heap.size) w1 w.heap.size (.slice none 0 0) (.slice none 0 0) (.new g) := hg.mono (fun b hb hl => ⟨⟨by omega, by omega, by omega⟩, by omega, by omega⟩) (fun b hb => hb.2.2)
  obtain ⟨W2, hW2⟩ : ∃ W2, w1.alloc (.cells #[.pointer (some ⟨D, 0, none⟩), .int .i64 0, .int .i64 0, .int .i64 0, .bool false, .int .i64 0, .slice none 0 0, .pointer (some ⟨w.heap.size, 0, none⟩), .int .i64 0, .int .i64 0] 62) = W2 := ⟨_, rfl⟩
  rw [hW2] at FL BL
  rw [hL] at BL
  have S0 : SLg w0 W2 D bs bp L w.heap.size (.slice none 0 0) (.slice none 0 0) ds (.start g) := by
    have hFA := f1.trans FL
    have hLt := blk_lt BL
    refine ⟨⟨HD.out.dk.grow hFA trivial trivial trivial (fun _ _ _ _ => trivial) (fun x hx hl => ?_) (fun x hx => ?_), HD.out.l0, HD.out.l1, HD.out.l2, HD.out.fr.trans hFA⟩, hg2.all FL, BL, by omega, ⟨by omega, by omega, by omega⟩, ⟨by omega, by omega, by omega⟩, fun k hk => (by cases hk), by have := f1.size; omega, hw0⟩
    · rcases hx with hx | hx | hx
      · have := f1.size; omega
      · omega
      · cases hx
    · rcases hx with hx | hx | hx
      · omega
      · have := f1.size; omega
      · cases hx
  have HS0 := Lib.hid S0
  have HF2 := Lib.hid (f1.trans FL)
  have hLw : w.heap.size ≤ L := by have := f1.size; omega
  clear S0 hg hg2 BL FL f1
  go_wp2_with fail
  go_loopw [9] (fun _ wr => ∃ (k : Nat) (lv sv : Value), k ≤ cs.length ∧ Hid (SLg w0 wr D bs bp L w.heap.size lv sv ds ((cs.take k).foldl LSt.does (.start g))) ∧ Hid (Fr All w wr) ∧ Hid (∀ q, lv.ownBlock = some q → w.heap.size ≤ q)) (fun _ wr => cs.length - endOf L wr)
  case atStart => exact ⟨0, _, _, Nat.zero_le _, HS0, HF2, Lib.hid fun q hq => by cases hq⟩
  case round =>
    obtain ⟨k, lv, sv, hk, HS, HF, HO⟩ := hrel
    obtain ⟨s, hs⟩ : ∃ s, (cs.take k).foldl LSt.does (.start g) = s := ⟨_, rfl⟩
    rw [hs] at HS
    have hsn : s.n = k := by
      rw [← hs, does_n, List.length_take]
      show 0 + _ = k
      omega
    have l0 : wr.cell? ⟨L, 0, none⟩ = some (.pointer (some ⟨D, 0, none⟩)) := (blk_cells HS.out.lc).1 0
    have l8 : wr.cell? ⟨L, 8, none⟩ = some (.int .i64 (k : Int)) := by rw [← hsn]; exact (blk_cells HS.out.lc).1 8
    have l9 : wr.cell? ⟨L, 9, none⟩ = some (.int .i64 (k : Int)) := by rw [← hsn]; exact (blk_cells HS.out.lc).1 9
    have hEnd : endOf L wr = k := by unfold endOf; rw [l8]; rfl
    have HEnd := Lib.hid hEnd
    have hk1000 : k ≤ 1000 := by have := O.out.few; omega
    have Hs := Lib.hid hs
    have HN := Lib.hid hsn
    by_cases hlt : k < cs.length
    · obtain ⟨c, hc, hcm⟩ := get_of (l := cs) (k := k) hlt
      have Hc := Lib.hid hc
      have hnx := next_some (k := k) HE.out HS.out.dk l0 l8 l9 O.out.down (by have := O.out.fit; omega) O.out.b1 (by rw [O.out.get]; exact O.out.syn k c hc) (O.out.one c hcm)
      rw [HK.out c hcm] at hnx
      have HX := Lib.hid hnx
      have HK0 := Lib.hid (HK.out c hcm)
      clear hc hcm hnx l0 l8 l9 hEnd hs hsn
      go_wp2_with fail
      refine HX.out.mono ?_
      rintro e w3 ⟨RA, rc, rfl, hr, f3⟩
      go_upto_region 5 with fail
      refine wp_name ?_
      intro W4 hW4
      have F4 : Fr All w3 W4 := by rw [hW4]; exact (Fr.refl All w3).alloc _
      have BB : W4.heap[w3.heap.size]? = some (.cells #[.int .i64 0, .int .i64 c.promise, .int .i64 c.installed, .int .i64 c.inc, .bool c.whole, .int .i64 c.floor, .slice none 0 0, .slice RA c.recs.length rc, .bool false] 64 (0, 0)) := by rw [hW4]; exact heap_alloc_new w3 _
      have e0 : W4.cell? ⟨w3.heap.size, 0, none⟩ = some (.int .i64 0) := (blk_cells BB).1 0
      have e1 : W4.cell? ⟨w3.heap.size, 1, none⟩ = some (.int .i64 c.promise) := (blk_cells BB).1 1
      have e2 : W4.cell? ⟨w3.heap.size, 2, none⟩ = some (.int .i64 c.installed) := (blk_cells BB).1 2
      have e3 : W4.cell? ⟨w3.heap.size, 3, none⟩ = some (.int .i64 c.inc) := (blk_cells BB).1 3
      have e4 : W4.cell? ⟨w3.heap.size, 4, none⟩ = some (.bool c.whole) := (blk_cells BB).1 4
      have e5 : W4.cell? ⟨w3.heap.size, 5, none⟩ = some (.int .i64 c.floor) := (blk_cells BB).1 5
      have e6 : W4.cell? ⟨w3.heap.size, 6, none⟩ = some (.slice none 0 0) := (blk_cells BB).1 6
      have e7 : W4.cell? ⟨w3.heap.size, 7, none⟩ = some (.slice RA c.recs.length rc) := (blk_cells BB).1 7
      have e8 : W4.cell? ⟨w3.heap.size, 8, none⟩ = some (.bool false) := (blk_cells BB).1 8
      have HS4 := Lib.hid (HS.out.all (f3.trans F4))
      have HR4 := Lib.hid (hr.all F4)
      have HF4 := Lib.hid ((HF.out.trans f3).trans F4)
      have hwr : w.heap.size < wr.heap.size := HS.out.hg.lt
      have HT : Hid (∀ b, From wr.heap.size b → b < W4.heap.size → b ≠ w.heap.size ∧ some b ≠ lv.ownBlock) := Lib.hid fun b (hb : wr.heap.size ≤ b) _ => ⟨by omega, fun e => by have := (own_lt HS.out.hg.row b e.symm).2; omega⟩
      have HFL : Hid (FreshL s.hs c.recs) := Lib.hid (by have h1 := HFc.out k c Hc.out; rw [Hs.out, sets0 HK0.out] at h1; exact h1)
      have H40 : Hid (c.recs.length ≤ 1000) := Lib.hid (by have := (O.out.one c (List.mem_of_getElem? Hc.out)).ok.rl; omega)
      clear hW4 BB f3 F4 hr
      go_wp2_with fail
      refine (do_recs (c := c) HS4.out HR4.out HT.out HFL.out H40.out).mono ?_
      rintro e w5 ⟨rfl, ⟨lv5, h5, ho5⟩, f5⟩
      have l8 : w5.cell? ⟨L, 8, none⟩ = some (.int .i64 (k : Int)) := by rw [← HN.out]; exact (blk_cells h5.lc).1 8
      have l9 : w5.cell? ⟨L, 9, none⟩ = some (.int .i64 (k : Int)) := by rw [← HN.out]; exact (blk_cells h5.lc).1 9
      have lz := (blk_cells h5.lc).2
      have H5 := Lib.hid h5
      have HO5 : Hid (∀ q, lv5.ownBlock = some q → w.heap.size ≤ q) := Lib.hid fun q hq => by
        rcases ho5 q hq with h | h
        · exact HO.out q h
        · have := HF4.out.size; omega
      have HF5 : Hid (Fr All w w5) := Lib.hid ⟨f5.os.trans HF4.out.os, f5.tape.trans HF4.out.tape, f5.output.trans HF4.out.output, Nat.le_trans HF4.out.size f5.size, fun b hb _ => (f5.block b (Nat.lt_of_lt_of_le hb HF4.out.size) ⟨by omega, fun e => by have := HO.out b e.symm; omega⟩).trans (HF4.out.block b hb trivial)⟩
      clear e0 e1 e2 e3 e4 e5 e6 e7 e8 h5 ho5 f5
      go_wp2_with fail
      go_roundw
      case rel =>
        have hv : ((k : Int) + 1) = ((s.n + 1 : Nat) : Int) := by rw [HN.out]; omega
        rw [hv]
        have gL : Fr (fun b => b ≠ L) w5 ((w5.setCell ⟨L, 8, none⟩ (.int .i64 ((s.n + 1 : Nat) : Int))).setCell ⟨L, 9, none⟩ (.int .i64 ((s.n + 1 : Nat) : Int))) := ((Fr.refl _ _).setCell (fun m hm => by exact hm) _).setCell (fun m hm => by exact hm) _
        refine ⟨k + 1, lv5, sv, by omega, Lib.hid ?_, Lib.hid (HF5.out.newest hLw gL), HO5⟩
        rw [take_snoc Hc.out, List.foldl_append, Hs.out]
        show SLg _ _ _ _ _ _ _ _ _ _ (s.does c)
        rw [does0 HK0.out]
        exact H5.out.own gL rfl (heap_setCell_same _ _ 9 _ _ _ (heap_setCell_same _ _ 8 _ _ _ H5.out.lc))
      case measure =>
        rw [HEnd.out]
        have hE2 : endOf L ((w5.setCell ⟨L, 8, none⟩ (.int .i64 ((k : Int) + 1))).setCell ⟨L, 9, none⟩ (.int .i64 ((k : Int) + 1))) = k + 1 := by
          unfold endOf
          go_simp
        rw [hE2]
        omega
    · have hkn : k = cs.length := by omega
      have hnx := next_none (k := k) HE.out HS.out.dk l0 l8 O.out.down O.out.b1 (by rw [O.out.get]; exact O.out.off _ (.inr (by omega)))
      have HX := Lib.hid hnx
      have HKN := Lib.hid hkn
      clear hnx l0 l8 l9 hEnd hs hsn hkn
      go_wp2_with fail
      refine HX.out.mono ?_
      rintro e w3 ⟨rfl, f3⟩
      go_upto_region 11 with fail
      refine wp_name ?_
      intro W4 hW4
      have F4 : Fr All w3 W4 := by rw [hW4]; exact (Fr.refl All w3).alloc _
      have HS4 := Lib.hid (HS.out.all (f3.trans F4))
      have HF4 := Lib.hid ((HF.out.trans f3).trans F4)
      clear hW4 f3 F4
      go_wp2_with fail
      refine (clean_call HS4.out O.out (by rw [HN.out, HKN.out])).mono ?_
      rintro e w5 ⟨rfl, f5⟩
      have HS5 := Lib.hid (HS4.out.all f5)
      have HF5 := Lib.hid (HF4.out.trans f5)
      clear f5
      go_wp2_with fail
      go_ret2
      refine ⟨L, w.heap.size, lv, sv, rfl, ?_, HF5.out, hLw, Nat.le_refl _, HO.out⟩
      have h1 := Hs.out
      rw [HKN.out, List.take_length] at h1
      rw [h1]
      exact HS5.out
end
end Go.Proofs.YteclgcnndjcmmaaDoor
namespace Go.Proofs.YteclgcnndjcmmaaDoor
open Go.RowKit Go.Maps

set_option maxRecDepth 100000 in
theorem sclone_call {p i c f : Int} {wh : Bool} (w : World) : Calls Tryd.prog 36 #[.agg #[.int .i64 p, .int .i64 i, .int .i64 c, .bool wh, .int .i64 f, .slice none 0 0]] w fun e w' => e = .returned (.agg #[.int .i64 p, .int .i64 i, .int .i64 c, .bool wh, .int .i64 f, .slice none 0 0]) ∧ Fr All w w' := by
  go_enter Tryd.func36, Tryd.ntmps36
  go_wp2_with fail
  refine (clones_nil _ _ _).mono ?_
  rintro e w3 ⟨rfl, rfl⟩
  go_wp2_with fail
  refine bodyPost_ret (v := .agg #[.int .i64 p, .int .i64 i, .int .i64 c, .bool wh, .int .i64 f, .slice none 0 0]) ?_ rfl ⟨rfl, ?_⟩
  · simp [results, Tryd.results36, go_sem]
  · exact ((Fr.refl All w).alloc _).alloc _
section
variable {w0 w : World} {D bs bp L H : Nat} {lv sv : Value} {ds : DSt} {s : LSt}
/-- What a log says of itself. -/
def LSt.val (s : LSt) : Value := .agg #[.int .i64 s.prom, .int .i64 s.inst, .int .i64 s.inc, .bool s.whole, .int .i64 s.floor, .slice none 0 0]
set_option maxRecDepth 100000 in
theorem state_call (h : SLg w0 w D bs bp L H lv sv ds s) : Calls Tryd.prog 18 #[.pointer (some ⟨L, 0, none⟩)] w fun e w' => e = .returned (.agg #[.int .i64 s.prom, .int .i64 s.inst, .int .i64 s.inc, .bool s.whole, .int .i64 s.floor, .slice none 0 0]) ∧ Fr All w w' := by
  have F0 := (Fr.refl All w).alloc (.cells #[.int .i64 0, .int .i64 0, .int .i64 0, .bool false, .int .i64 0, .slice none 0 0] 49)
  have B := (F0.block L (blk_lt h.lc) trivial).trans h.lc
  have B0 := heap_alloc_new w (.cells #[.int .i64 0, .int .i64 0, .int .i64 0, .bool false, .int .i64 0, .slice none 0 0] 49)
  obtain ⟨W, hW⟩ : ∃ W, w.alloc (.cells #[.int .i64 0, .int .i64 0, .int .i64 0, .bool false, .int .i64 0, .slice none 0 0] 49) = W := ⟨_, rfl⟩
  rw [hW] at F0 B B0
  have hl := blk_lt B0
  have HB0 := Lib.hid B0
  have l1 : W.cell? ⟨L, 1, none⟩ = some (.int .i64 s.prom) := (blk_cells B).1 1
  have l2 : W.cell? ⟨L, 2, none⟩ = some (.int .i64 s.inst) := (blk_cells B).1 2
  have l3 : W.cell? ⟨L, 3, none⟩ = some (.int .i64 s.inc) := (blk_cells B).1 3
  have l4 : W.cell? ⟨L, 4, none⟩ = some (.bool s.whole) := (blk_cells B).1 4
  have l5 : W.cell? ⟨L, 5, none⟩ = some (.int .i64 s.floor) := (blk_cells B).1 5
  have l6 : W.cell? ⟨L, 6, none⟩ = some (.slice none 0 0) := (blk_cells B).1 6
  clear h B B0
  go_enter Tryd.func18, Tryd.ntmps18
  go_wp2_with fail
  refine (sclone_call W).mono ?_
  rintro e w3 ⟨rfl, f3⟩
  have B3 := (f3.block _ hl trivial).trans HB0.out
  have z0 := (blk_cells B3).1 0
  have z1 := (blk_cells B3).1 1
  have z2 := (blk_cells B3).1 2
  have z3 := (blk_cells B3).1 3
  have z4 := (blk_cells B3).1 4
  have z5 := (blk_cells B3).1 5
  have zz := (blk_cells B3).2
  clear B3 l1 l2 l3 l4 l5 l6 hW
  go_wp2_with fail
  refine bodyPost_ret (v := .agg #[.int .i64 s.prom, .int .i64 s.inst, .int .i64 s.inc, .bool s.whole, .int .i64 s.floor, .slice none 0 0]) ?_ rfl ⟨rfl, ?_⟩
  · simp [results, Tryd.results18, go_sem, z0, z1, z2, z3, z4, z5]
  · have h1 := F0.trans f3
    repeat (first | (with_reducible exact h1) | with_reducible refine Fr.setNew ?_ (by dsimp only; omega) _)
set_option maxRecDepth 100000 in
theorem shot_call (h : SLg w0 w D bs bp L H lv sv ds s) : Calls Tryd.prog 12 #[.pointer (some ⟨L, 0, none⟩)] w fun e w' => ∃ lv' sv', e = .returned (.pointer (some ⟨w.heap.size, 0, none⟩)) ∧ Hg (fun b => (Sd D bs bp L H b ∧ b < w.heap.size) ∨ w.heap.size < b) w' w.heap.size lv' sv' s.hs ∧ (∀ k, lv'.ownBlock = some k → w.heap.size < k) ∧ Fr All w w' := by
  have l7 : w.cell? ⟨L, 7, none⟩ = some (.pointer (some ⟨H, 0, none⟩)) := (blk_cells h.lc).1 7
  have HG := Lib.hid h
  clear h
  go_enter Tryd.func12, Tryd.ntmps12
  go_wp2_with fail
  refine (hot_clone HG.out.hg).mono ?_
  rintro e w1 ⟨lv1, sv1, rfl, hc1, hown1, f1⟩
  have HC := Lib.hid hc1
  clear hc1
  go_wp2_with fail
  go_ret
  exact ⟨lv1, sv1, rfl, HC.out, hown1, f1⟩
set_option maxRecDepth 100000 in
theorem sblocks_call (h : SLg w0 w D bs bp L H lv sv ds s) : Calls Tryd.prog 14 #[.pointer (some ⟨L, 0, none⟩)] w fun e w' => e = .returned (.int .i64 (s.n : Int)) ∧ w' = w := by
  have l8 : w.cell? ⟨L, 8, none⟩ = some (.int .i64 (s.n : Int)) := (blk_cells h.lc).1 8
  clear h
  go_enter Tryd.func14, Tryd.ntmps14
  go_wp2_with fail
  go_ret
  trivial
end
theorem st_field0 (v0 v1 v2 v3 v4 v5 : Value) (w : World) : (Instr.field 49 (.agg #[v0, v1, v2, v3, v4, v5]) 0).run Tryd.prog w = .ok v0 w := by kernel_rfl
theorem st_field1 (v0 v1 v2 v3 v4 v5 : Value) (w : World) : (Instr.field 49 (.agg #[v0, v1, v2, v3, v4, v5]) 1).run Tryd.prog w = .ok v1 w := by kernel_rfl
theorem st_field2 (v0 v1 v2 v3 v4 v5 : Value) (w : World) : (Instr.field 49 (.agg #[v0, v1, v2, v3, v4, v5]) 2).run Tryd.prog w = .ok v2 w := by kernel_rfl
theorem st_field3 (v0 v1 v2 v3 v4 v5 : Value) (w : World) : (Instr.field 49 (.agg #[v0, v1, v2, v3, v4, v5]) 3).run Tryd.prog w = .ok v3 w := by kernel_rfl
theorem st_field4 (v0 v1 v2 v3 v4 v5 : Value) (w : World) : (Instr.field 49 (.agg #[v0, v1, v2, v3, v4, v5]) 4).run Tryd.prog w = .ok v4 w := by kernel_rfl
/-- A disk that is new holds no call. -/
theorem DOk.new {n : Int} (h0 : 1 ≤ n) (h1 : n ≤ 16384) : DOk (.new n) [] := by
  refine ⟨rfl, rfl, fun _ => rfl, rfl, h0, h1, ?_, fun i c h => by simp at h, fun _ _ => rfl, Nat.le_refl _, ?_, ?_, by simp, fun c h => by simp at h⟩
  · show ((0 : Nat) : Int) ≤ n
    omega
  · show (0 : Int) ≤ 0
    omega
  · show (0 : Int) ≤ _
    simp
theorem FreshC.nil (s : LSt) : FreshC [] s := fun k c h => by simp at h
set_option maxRecDepth 100000 in
set_option maxHeartbeats 2000000 in
theorem first10_call {qs : List Addr} (w : World) (hE : Errs w qs) : Calls Tryd.prog 6 #[] w fun e w' => e = .returned (.bool true) ∧ Fr All w w' := by
  have HE := Lib.hid hE
  clear hE
  have q0 := st_field0
  have q3 := st_field3
  go_enter Tryd.func6, Tryd.ntmps6
  go_wp2_with fail
  refine (held_new w (by omega) (by omega)).mono ?_
  rintro e w1 ⟨B, bs, bp, rfl, h1⟩
  have H1 := Lib.hid (h1 : Held (fun _ => False) w w1 B bs bp (.new 8))
  clear h1
  go_wp2_with fail
  refine (open_call (cs := []) HE.out H1.out (DOk.new (by omega) (by omega)) (by omega) (by omega) (by simp) (FreshC.nil _)).mono ?_
  rintro e w2 ⟨L, H, lv, sv, rfl, h2, f2, _⟩
  have H2 : Hid (SLg w w2 B bs bp L H lv sv (.new 8) (.start 0)) := Lib.hid h2
  clear h2
  go_wp2_with fail
  refine (state_call H2.out).mono ?_
  rintro e w3 ⟨rfl, f3⟩
  have H3 := Lib.hid (H2.out.all f3)
  have e1 : (LSt.start 0).prom = 0 := rfl
  have e2 : (LSt.start 0).whole = false := rfl
  clear f3
  go_wp2_with fail
  refine (state_call H3.out).mono ?_
  rintro e w4 ⟨rfl, f4⟩
  have H4 := Lib.hid (H3.out.all f4)
  clear f4
  go_wp2_with fail
  refine (shot_call H4.out).mono ?_
  rintro e w5 ⟨lv5, sv5, rfl, h5, _, f5⟩
  have H5 := Lib.hid (H4.out.all f5)
  have G5 := Lib.hid h5
  clear f5 h5
  go_wp2_with fail
  refine (hot_len G5.out).mono ?_
  rintro e w6 ⟨rfl, rfl⟩
  have e3 : ((LSt.start 0).hs.l.length : Int) = 0 := rfl
  go_wp2_with fail
  go_ret
  exact ⟨rfl, H5.out.fr⟩
end Go.Proofs.YteclgcnndjcmmaaDoor
