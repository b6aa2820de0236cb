/- The disk's functions: Arm, Erase, Clone. -/
import Derived.Test.YteikddopeplomaaDoorDkS
namespace Go.Proofs.YteikddopeplomaaDoor
open Go.RowKit Go.Maps

theorem arm_call {w : World} {B bs bp : Nat} {s : DSt} (h : Dk w B bs bp s) (n : Int) :
    Calls Tryd.prog 39 #[.pointer (some ⟨B, 0, none⟩), .int .i64 n] w fun e w' => e = .returned (.tuple #[]) ∧ Dk w' B bs bp { s with arm := max n 0 } ∧ Fr (fun x => x ≠ B) w w' := by
  obtain ⟨c0, c1, c2, c3, c4, c5, cz⟩ : _ ∧ _ ∧ _ ∧ _ ∧ _ ∧ _ ∧ _ := ⟨h.c0, h.c1, h.c2, h.c3, h.c4, h.c5, h.cz⟩
  have H := Lib.hid h
  obtain ⟨m, hm⟩ : ∃ m, max n 0 = m := ⟨_, rfl⟩
  have hmn : (max n ↑(0 : Int)) = m := hm
  rw [hm]
  clear h
  go_enter Tryd.func39, Tryd.ntmps39
  go_wp2_with fail
  go_end0
  have F5 : Fr (fun x => x ≠ B) w (w.setCell ⟨B, 4, none⟩ (.int .i64 m)) := (Fr.refl _ _).setCell (fun m hm => by exact hm) _
  refine ⟨rfl, H.out.cells F5 rfl rfl rfl rfl ?_ ?_ ?_ ?_ ?_ ?_ ?_, F5⟩
  · go_simp
  · go_simp
  · go_simp
  · go_simp
  · go_simp
  · go_simp
  · intro j
    go_simp

/-- Erased. -/
def DSt.erased (s : DSt) : DSt := { s with syn := fun _ => none, ns := 0, pen := fun _ => none, np := 0, down := false, arm := 0 }
set_option maxRecDepth 100000 in
theorem erase_call {w : World} {B bs bp : Nat} {s : DSt} (h : Dk w B bs bp s) :
    Calls Tryd.prog 41 #[.pointer (some ⟨B, 0, none⟩)] w fun e w' => e = .returned (.tuple #[]) ∧ Dk w' B bs bp s.erased ∧ Fr (Off B bs bp) w w' := by
  have q2 := h.c2
  obtain ⟨w2, hr, m1, f2⟩ := h.pen.clear Tryd.underlying103 0
  have D2 : Dk w2 B bs bp { s with pen := fun _ => none, np := 0 } := h.stays f2 h.n2 rfl rfl rfl rfl (h.syn.move f2 h.n3 fun x hx _ => hx.2.2) m1
  have q1 := D2.c1
  obtain ⟨w3, hr3, m3, f3⟩ := D2.syn.clear Tryd.underlying103 0
  have D3 : Dk w3 B bs bp { s with syn := fun _ => none, ns := 0, pen := fun _ => none, np := 0 } := D2.stays f3 D2.n1 rfl rfl rfl rfl m3 (D2.pen.move f3 (Ne.symm D2.n3) fun x hx _ => hx.2.1)
  obtain ⟨c0, c1, c2, c3, c4, c5, cz⟩ : _ ∧ _ ∧ _ ∧ _ ∧ _ ∧ _ ∧ _ := ⟨D3.c0, D3.c1, D3.c2, D3.c3, D3.c4, D3.c5, D3.cz⟩
  have H3 := Lib.hid D3
  clear D3 D2 m1 m3 h
  dsimp only at c0 c1 c2 c3 c4 c5 q1
  go_enter Tryd.func41, Tryd.ntmps41
  go_wp2_with fail
  go_end0
  have F5 : Fr (fun x => x ≠ B) w3 ((w3.setCell ⟨B, 5, none⟩ (.bool false)).setCell ⟨B, 4, none⟩ (.int .i64 0)) := ((Fr.refl _ _).setCell (fun m hm => by exact hm) _).setCell (fun m hm => by exact hm) _
  unfold DSt.erased
  refine ⟨rfl, H3.out.cells F5 rfl rfl rfl rfl ?_ ?_ ?_ ?_ ?_ ?_ ?_, ((f2.mono fun x (hx : Off B bs bp x) => hx.2.2).trans (f3.mono fun x (hx : Off B bs bp x) => hx.2.1)).trans (F5.mono fun x (hx : Off B bs bp x) => hx.1)⟩
  · go_simp
  · go_simp
  · go_simp
  · go_simp
  · go_simp
  · go_simp
  · intro j
    go_simp

theorem Fr.over {S : Nat → Prop} {w0 w w' : World} (h : Fr All w0 w) (k : Fr S w w') (hs : ∀ x, x < w0.heap.size → S x) : Fr All w0 w' :=
  ⟨k.os.trans h.os, k.tape.trans h.tape, k.output.trans h.output, Nat.le_trans h.size k.size, fun b hb _ => (k.block b (Nat.lt_of_lt_of_le hb h.size) (hs b hb)).trans (h.block b hb trivial)⟩

set_option maxRecDepth 100000 in
set_option maxHeartbeats 2000000 in
theorem dclone_call {w : World} {B bs bp : Nat} {s : DSt} (h : Dk w B bs bp s) :
    Calls Tryd.prog 43 #[.pointer (some ⟨B, 0, none⟩)] w fun e w' => ∃ B' bs' bp', e = .returned (.pointer (some ⟨B', 0, none⟩)) ∧ w.heap.size ≤ B' ∧ w.heap.size ≤ bs' ∧ w.heap.size ≤ bp' ∧ Dk w' B' bs' bp' s ∧
      MapIs Tryd.prog 3 (fun x => Off B bs bp x ∧ Off B' bs' bp' x) w' bs' s.syn s.ns ∧ MapIs Tryd.prog 3 (fun x => Off B bs bp x ∧ Off B' bs' bp' x) w' bp' s.pen s.np ∧ Fr All w w' := by
  obtain ⟨c0, c1, c2, c3, c4, c5, cz⟩ : _ ∧ _ ∧ _ ∧ _ ∧ _ ∧ _ ∧ _ := ⟨h.c0, h.c1, h.c2, h.c3, h.c4, h.c5, h.cz⟩
  have H := Lib.hid h
  have F0 := (Fr.refl All w).alloc (.cells #[.int .i64 s.blocks, .map (some bs), .map (some bp), .int .i64 s.calls, .int .i64 s.arm, .bool s.down] 105)
  have HB := Lib.hid (heap_alloc_new w (.cells #[.int .i64 s.blocks, .map (some bs), .map (some bp), .int .i64 s.calls, .int .i64 s.arm, .bool s.down] 105))
  clear h
  go_enter Tryd.func43, Tryd.ntmps43
  go_upto_region 2 with (fail)
  refine wp_name ?_
  intro W hW
  rw [← hW] at F0 HB
  have hsz : W.heap.size = w.heap.size + 1 := by rw [hW]; simp
  clear hW
  have HD := Lib.hid (H.out.all F0)
  have hD : Dk W B bs bp s := HD.out
  obtain ⟨n0, n1, n2, n3, n4, n5, nz⟩ := blk6 HB.out
  have l1 := H.out.lt
  have p1 := hD.c1
  have p2 := hD.c2
  have hm1 : MapIs Tryd.prog 3 (fun x => x < w.heap.size ∧ Off B bs bp x) W bs s.syn s.ns := (H.out.syn.mono fun x hx hl => ⟨hl, hx⟩).all F0
  have hm2 : MapIs Tryd.prog 3 (fun x => x < w.heap.size ∧ Off B bs bp x) W bp s.pen s.np := (H.out.pen.mono fun x hx hl => ⟨hl, hx⟩).all F0
  have M1 := Lib.hid hm1
  have M2 := Lib.hid hm2
  clear hm1 hm2 hD c0 c1 c2 c3 c4 c5 cz
  go_region_held3 (fun w' => w'.cell? ⟨B, 1, none⟩ = some (.map (some bs)) ∧ w'.cell? ⟨B, 2, none⟩ = some (.map (some bp)))
    (first | go_keep | (go_split_ands; refine ⟨?_, ?_⟩ <;> first | exact Fr.cell (by assumption) trivial (by assumption) | go_simp))
    (first
      | (go_at_call_of 73 (Value.map (some bs)); refine (mclone_call (M1.out.all (by first | exact (Fr.refl _ _).drew | exact (Fr.refl _ _).drew.then_all (by assumption)))).mono ?_; rintro e w1 ⟨rfl, k1, f1⟩; have g1 : Fr All W w1 := (by first | exact (Fr.refl _ _).drew.then_all f1 | exact ((Fr.refl _ _).drew.then_all (by assumption)).then_all f1); obtain ⟨n0', n1', n2', n3', n4', n5', nz'⟩ := blk6 ((g1.block _ (blk_lt HB.out) trivial).trans HB.out))
      | (go_at_call_of 73 (Value.map (some bp)); refine (mclone_call (M2.out.all (by first | exact (Fr.refl _ _).drew | exact (Fr.refl _ _).drew.then_all (by assumption)))).mono ?_; rintro e w2 ⟨rfl, k2, f2⟩; have g2 : Fr All W w2 := (by first | exact (Fr.refl _ _).drew.then_all f2 | exact ((Fr.refl _ _).drew.then_all (by assumption)).then_all f2); obtain ⟨n0', n1', n2', n3', n4', n5', nz'⟩ := blk6 ((g2.block _ (blk_lt HB.out) trivial).trans HB.out)))
  have M3 := Lib.hid (k1.all f2)
  have M4 := Lib.hid k2
  have l3 := k1.lt
  have l4 := f2.size
  have l5 := k2.lt
  have e1 : W.drew.heap.size = w.heap.size + 1 := hsz
  rw [e1] at l3 M3
  clear k1 k2 n0 n1 n2 n3 n4 n5 nz M1 M2 hsz
  have F5 : Fr (fun x => x ≠ w.heap.size) w2 ((w2.setCell ⟨w.heap.size, 1, none⟩ (.map (some (w.heap.size + 1)))).setCell ⟨w.heap.size, 2, none⟩ (.map (some w1.heap.size))) := ((Fr.refl _ _).setCell (fun m hm => by exact hm) _).setCell (fun m hm => by exact hm) _
  go_wp2_with fail
  go_ret
  have m3 := M3.out.move F5 (show w.heap.size + 1 ≠ w.heap.size by omega) (fun x (hx : x < w.heap.size ∧ Off B bs bp x) _ => show x ≠ w.heap.size by omega)
  have m4 := M4.out.move F5 (show w1.heap.size ≠ w.heap.size by omega) (fun x (hx : x < w.heap.size ∧ Off B bs bp x) _ => show x ≠ w.heap.size by omega)
  have a3 : MapIs Tryd.prog 3 (fun x => Off B bs bp x ∧ Off w.heap.size (w.heap.size + 1) w1.heap.size x) _ (w.heap.size + 1) s.syn s.ns := m3.mono fun x hx _ => ⟨hx.2, by have := hx.1; omega, by have := hx.1; omega, by have := hx.1; omega⟩
  have a4 : MapIs Tryd.prog 3 (fun x => Off B bs bp x ∧ Off w.heap.size (w.heap.size + 1) w1.heap.size x) _ w1.heap.size s.pen s.np := m4.mono fun x hx _ => ⟨hx.2, by have := hx.1; omega, by have := hx.1; omega, by have := hx.1; omega⟩
  refine ⟨w.heap.size, w.heap.size + 1, w1.heap.size, rfl, Nat.le_refl _, by omega, by omega, ⟨?_, ?_, ?_, ?_, ?_, ?_, ?_, a3.mono fun x hx _ => hx.2, a4.mono fun x hx _ => hx.2, by omega, by omega, by omega⟩, a3, a4, (F0.trans g2).over F5 fun x hx => by omega⟩
  · go_simp
  · go_simp
  · go_simp
  · go_simp
  · go_simp
  · go_simp
  · intro j
    go_simp
end Go.Proofs.YteikddopeplomaaDoor
