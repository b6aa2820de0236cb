/- redo.From: a record read. -/
import Derived.Test.YteclgcnndjcmmaaDoorReader2
namespace Go.Proofs.YteclgcnndjcmmaaDoor
open Go.RowKit

theorem Fr.thenNew {S : Nat → Prop} {w a b : World} {T : Nat} (f : Fr S w a) (g : Fr (fun m => m ≠ T) a b) (hT : w.heap.size ≤ T) : Fr S w b :=
  ⟨g.os.trans f.os, g.tape.trans f.tape, g.output.trans f.output, Nat.le_trans f.size g.size, fun m hm hs => (g.block m (Nat.lt_of_lt_of_le hm f.size) (by omega)).trans (f.block m hm hs)⟩

/-- From's answer, number by number. -/
def FromTo (bs : List UInt8) (s : Nat × Option (Nat × Nat)) (x : Redo) (s' : Nat × Option (Nat × Nat)) : Prop :=
  ∃ s1 s2 s3 s4 s5 s6 s7 s8 s9 v8, stNum 1 1099511627776 bs s = (x.lsn, s1) ∧ stNum 0 1099511627776 bs s1 = (x.back, s2) ∧ stNum 0 1073741824 bs s2 = (x.epoch, s3) ∧ stNum 0 3 bs s3 = (x.group, s4) ∧ stNum 0 255 bs s4 = (x.page, s5) ∧ stNum 1 6 bs s5 = (x.kind, s6) ∧ stNum 0 32768 bs s6 = (x.slot, s7) ∧
    stNum 0 1 bs s7 = (v8, s8) ∧ x.last = decide (v8 = 1) ∧ stBytes 32 bs s8 = (x.key, s9) ∧ stBytes 64 bs s9 = (x.val, s')

section
variable {w0 : World} {qs : List Addr} {R n c pos p0 : Nat} {bs : List UInt8} {A : Option Addr} {w w1 w2 : World} {er e0 : Option (Nat × Nat)} {ev v0 : Value}
theorem Rd.beside {T : Nat} {z : Int} (h0 : Rd w0 qs R bs A n c w p0 e0 v0) (h : Rd w0 qs R bs A n c w1 pos er ev) (f : Fr (fun b => b ≠ R) w w1) (hT : w.heap.size ≤ T) (c1 : w1.cell? ⟨T, 1, none⟩ = some (.int .i64 z)) (g : Fr (fun b => b ≠ T) w1 w2) :
    Rd w0 qs R bs A n c w2 pos er ev ∧ Fr (fun b => b ≠ R) w w2 := by
  have hRT : R ≠ T := by have := h0.lt; omega
  have f2 := f.thenNew g hT
  refine ⟨⟨h.errs, h.fr.thenNew g (Nat.le_trans h0.fr.size hT), h.new, Nat.lt_of_lt_of_le h.lt g.size, g.cell (p := ⟨R, 0, none⟩) hRT h.k0, g.cell (p := ⟨R, 1, none⟩) hRT h.k1, g.cell (p := ⟨R, 2, none⟩) hRT h.k2, fun j => (World.frozen?_of_block (a := ⟨R, j, none⟩) (g.block R h.lt hRT)).trans (h.kz j), h0.sl.move f2, h.small, h.pos_le, ?_⟩, f2⟩
  have he := h.err
  cases er with
  | none => exact he
  | some x =>
    obtain ⟨a, b, h1, h2, h3, h4, h5, h6⟩ := he
    have hb : b ≠ T := by
      rintro rfl
      rw [h6] at c1
      cases c1
    exact ⟨a, b, h1, h2, Nat.lt_of_lt_of_le h3 g.size, h4, g.cell (p := ⟨b, 0, none⟩) hb h5, g.cell (p := ⟨b, 1, none⟩) hb h6⟩
theorem num_call' (h : Rd w0 qs R bs A n c w pos er ev) (low high : Int) :
    Calls Tryd.prog 64 #[.pointer (some ⟨R, 0, none⟩), .int .i64 low, .int .i64 high] w fun e w' => ∃ v p er' ev', e = .returned (.int .i64 v) ∧ Hid (stNum low high bs (pos, er) = (v, p, er')) ∧ Hid (Rd w0 qs R bs A n c w' p er' ev') ∧ Fr (fun b => b ≠ R) w w' :=
  (num_call h low high).mono fun _ _ ⟨h1, ev', h2, h3⟩ => ⟨_, _, _, ev', h1, rfl, h2, h3⟩
theorem bool_call' (h : Rd w0 qs R bs A n c w pos er ev) :
    Calls Tryd.prog 65 #[.pointer (some ⟨R, 0, none⟩)] w fun e w' => ∃ x : Bool, ∃ v p er' ev', e = .returned (.bool x) ∧ Hid (stNum 0 1 bs (pos, er) = (v, p, er')) ∧ Hid (x = decide (v = 1)) ∧ Hid (Rd w0 qs R bs A n c w' p er' ev') ∧ Fr (fun b => b ≠ R) w w' :=
  (bool_call h).mono fun _ _ ⟨h1, ev', h2, h3⟩ => ⟨_, _, _, _, ev', h1, rfl, rfl, h2, h3⟩
theorem bytes_call' (h : Rd w0 qs R bs A n c w pos er ev) (most : Int) :
    Calls Tryd.prog 89 #[.pointer (some ⟨R, 0, none⟩), .int .i64 most] w fun e w' => ∃ A' m' c' zs p er' ev', e = .returned (.slice A' m' c') ∧ Hid (stBytes most bs (pos, er) = (zs, p, er')) ∧ Sl kByte (fun b => w.heap.size ≤ b) w' (.slice A' m' c') zs ∧ Hid (Rd w0 qs R bs A n c w' p er' ev') ∧ Fr (fun b => b ≠ R) w w' :=
  (bytes_call h most).mono fun _ _ ⟨A', m', c', h1, h4, ev', h2, h3⟩ => ⟨A', m', c', _, _, _, ev', h1, rfl, h4.plain_in fun _ hb _ => hb, h2, h3⟩

set_option maxRecDepth 100000 in
set_option maxHeartbeats 2000000 in
theorem from_call (h : Rd w0 qs R bs A n c w pos er ev) :
    Calls Tryd.prog 68 #[.pointer (some ⟨R, 0, none⟩)] w fun e w' => ∃ x : Redo, ∃ A0 n0 c0 A1 n1 c1 p er' ev', e = .returned (.agg #[.int .i64 x.lsn, .int .i64 x.back, .int .i64 x.epoch, .int .i64 x.group, .int .i64 x.page, .int .i64 x.kind, .int .i64 x.slot, .slice A0 n0 c0, .slice A1 n1 c1, .bool x.last]) ∧
      Sl kByte (fun b => w.heap.size ≤ b) w' (.slice A0 n0 c0) x.key ∧ Sl kByte (fun b => w.heap.size ≤ b) w' (.slice A1 n1 c1) x.val ∧ FromTo bs (pos, er) x (p, er') ∧ Rd w0 qs R bs A n c w' p er' ev' ∧ Fr (fun b => b ≠ R) w w' := by
  have F0 := ((Fr.refl All w).alloc (.cells #[.int .i64 0, .int .i64 0, .int .i64 0, .int .i64 0, .int .i64 0, .int .i64 0, .int .i64 0, .slice none 0 0, .slice none 0 0, .bool false] 36)).alloc (.cells #[.int .i64 0, .int .i64 0, .int .i64 0, .int .i64 0, .int .i64 0, .int .i64 0, .int .i64 0, .slice none 0 0, .slice none 0 0, .bool false] 36)
  have BT := heap_alloc2_new w (.cells #[.int .i64 0, .int .i64 0, .int .i64 0, .int .i64 0, .int .i64 0, .int .i64 0, .int .i64 0, .slice none 0 0, .slice none 0 0, .bool false] 36) (.cells #[.int .i64 0, .int .i64 0, .int .i64 0, .int .i64 0, .int .i64 0, .int .i64 0, .int .i64 0, .slice none 0 0, .slice none 0 0, .bool false] 36)
  have BR := heap_alloc2_old w (.cells #[.int .i64 0, .int .i64 0, .int .i64 0, .int .i64 0, .int .i64 0, .int .i64 0, .int .i64 0, .slice none 0 0, .slice none 0 0, .bool false] 36) (.cells #[.int .i64 0, .int .i64 0, .int .i64 0, .int .i64 0, .int .i64 0, .int .i64 0, .int .i64 0, .slice none 0 0, .slice none 0 0, .bool false] 36)
  obtain ⟨W, hW⟩ : ∃ W, (w.alloc (.cells #[.int .i64 0, .int .i64 0, .int .i64 0, .int .i64 0, .int .i64 0, .int .i64 0, .int .i64 0, .slice none 0 0, .slice none 0 0, .bool false] 36)).alloc (.cells #[.int .i64 0, .int .i64 0, .int .i64 0, .int .i64 0, .int .i64 0, .int .i64 0, .int .i64 0, .slice none 0 0, .slice none 0 0, .bool false] 36) = W := ⟨_, rfl⟩
  rw [hW] at F0 BT BR
  have hRs := h.lt
  have hR0 : w.heap.size ≠ R := by omega
  have hR1 : w.heap.size + 1 ≠ R := by omega
  have H := Lib.hid h
  have H0 := Lib.hid (h.move F0)
  have FB : Fr (fun b => b ≠ R) w W := F0.mono fun _ _ => trivial
  clear h
  go_enter Tryd.func68, Tryd.ntmps68
  go_wp2_with fail
  have BT0 := BT
  refine (num_call' H0.out 1 1099511627776).mono ?_
  rintro e w1 ⟨lsn, p1, e1, u1, rfl, S1, H1, f1⟩
  go_wp2_with fail
  refine (num_call' H1.out 0 1099511627776).mono ?_
  rintro e w2 ⟨back, p2, e2, u2, rfl, S2, H2, f2⟩
  have G0 : Fr (fun b => b ≠ R) W w2 := (f1).trans f2
  have K0 := FB.trans G0
  obtain ⟨t0, t1, t2, t3, t4, t5, t6, t7, t8, t9, tz⟩ := blk10 ((G0.block (w.heap.size + 1) (blk_lt BT) hR1).trans BT)
  have tT := t1
  clear f1 f2
  go_upto_region 3 with (fail)
  refine wp_name ?_
  intro V0 hW0
  have q0 : V0.cell? ⟨w.heap.size + 1, 0, none⟩ = some (.int .i64 lsn) := by rw [hW0]; go_simp
  have q1 : V0.cell? ⟨w.heap.size + 1, 1, none⟩ = some (.int .i64 back) := by rw [hW0]; go_simp
  have q2 : V0.cell? ⟨w.heap.size + 1, 2, none⟩ = some (.int .i64 0) := by rw [hW0]; go_simp
  have q3 : V0.cell? ⟨w.heap.size + 1, 3, none⟩ = some (.int .i64 0) := by rw [hW0]; go_simp
  have q4 : V0.cell? ⟨w.heap.size + 1, 4, none⟩ = some (.int .i64 0) := by rw [hW0]; go_simp
  have q5 : V0.cell? ⟨w.heap.size + 1, 5, none⟩ = some (.int .i64 0) := by rw [hW0]; go_simp
  have q6 : V0.cell? ⟨w.heap.size + 1, 6, none⟩ = some (.int .i64 0) := by rw [hW0]; go_simp
  have q7 : V0.cell? ⟨w.heap.size + 1, 7, none⟩ = some (.slice none 0 0) := by rw [hW0]; go_simp
  have q8 : V0.cell? ⟨w.heap.size + 1, 8, none⟩ = some (.slice none 0 0) := by rw [hW0]; go_simp
  have q9 : V0.cell? ⟨w.heap.size + 1, 9, none⟩ = some (.bool false) := by rw [hW0]; go_simp
  have qz : ∀ j, V0.frozen? ⟨w.heap.size + 1, j, none⟩ = false := by intro j; rw [hW0]; go_simp
  have D0 : Fr (fun b => b ≠ w.heap.size + 1) w2 V0 := by
    rw [hW0]
    repeat (first | (with_reducible exact Fr.refl _ _) | with_reducible refine Fr.setCell ?_ (fun m hm => by exact hm) _)
  have hTl : w.heap.size + 1 < V0.heap.size := Nat.lt_of_lt_of_le (Nat.lt_of_lt_of_le (blk_lt BT0) (Nat.le_trans (Nat.le_refl _) (Nat.le_refl _))) (Nat.le_trans G0.size D0.size)
  obtain ⟨hb0, FB0⟩ := H.out.beside H2.out K0 (T := w.heap.size + 1) (by omega) t1 D0
  have HB0 := Lib.hid hb0
  clear hb0 hW0 t0 t1 t2 t3 t4 t5 t6 t7 t8 t9 tz
  have Z0 : Fr (fun b => b = w.heap.size) W V0 := ((G0.mono fun b (h : b = w.heap.size) => (h ▸ hR0 : b ≠ R)).trans (D0.mono fun b (h : b = w.heap.size) => (by omega : b ≠ w.heap.size + 1)))
  go_wp2_with fail
  refine (num_call' HB0.out 0 1073741824).mono ?_
  rintro e w3 ⟨epoch, p3, e3, u3, rfl, S3, H3, f3⟩
  go_wp2_with fail
  refine (num_call' H3.out 0 3).mono ?_
  rintro e w4 ⟨group, p4, e4, u4, rfl, S4, H4, f4⟩
  go_wp2_with fail
  refine (num_call' H4.out 0 255).mono ?_
  rintro e w5 ⟨page, p5, e5, u5, rfl, S5, H5, f5⟩
  have G1 : Fr (fun b => b ≠ R) V0 w5 := ((f3).trans f4).trans f5
  have K1 := FB0.trans G1
  have t0 := G1.cell (p := ⟨w.heap.size + 1, 0, none⟩) hR1 q0
  have t1 := G1.cell (p := ⟨w.heap.size + 1, 1, none⟩) hR1 q1
  have t2 := G1.cell (p := ⟨w.heap.size + 1, 2, none⟩) hR1 q2
  have t3 := G1.cell (p := ⟨w.heap.size + 1, 3, none⟩) hR1 q3
  have t4 := G1.cell (p := ⟨w.heap.size + 1, 4, none⟩) hR1 q4
  have t5 := G1.cell (p := ⟨w.heap.size + 1, 5, none⟩) hR1 q5
  have t6 := G1.cell (p := ⟨w.heap.size + 1, 6, none⟩) hR1 q6
  have t7 := G1.cell (p := ⟨w.heap.size + 1, 7, none⟩) hR1 q7
  have t8 := G1.cell (p := ⟨w.heap.size + 1, 8, none⟩) hR1 q8
  have t9 := G1.cell (p := ⟨w.heap.size + 1, 9, none⟩) hR1 q9
  have tz : ∀ j, w5.frozen? ⟨w.heap.size + 1, j, none⟩ = false := fun j => (World.frozen?_of_block (a := ⟨w.heap.size + 1, j, none⟩) (G1.block (w.heap.size + 1) hTl hR1)).trans (qz j)
  clear q0 q1 q2 q3 q4 q5 q6 q7 q8 q9 qz hTl
  clear f3 f4 f5
  go_upto_region 4 with (fail)
  refine wp_name ?_
  intro V1 hW1
  have q0 : V1.cell? ⟨w.heap.size + 1, 0, none⟩ = some (.int .i64 lsn) := by rw [hW1]; go_simp
  have q1 : V1.cell? ⟨w.heap.size + 1, 1, none⟩ = some (.int .i64 back) := by rw [hW1]; go_simp
  have q2 : V1.cell? ⟨w.heap.size + 1, 2, none⟩ = some (.int .i64 epoch) := by rw [hW1]; go_simp
  have q3 : V1.cell? ⟨w.heap.size + 1, 3, none⟩ = some (.int .i64 group) := by rw [hW1]; go_simp
  have q4 : V1.cell? ⟨w.heap.size + 1, 4, none⟩ = some (.int .i64 page) := by rw [hW1]; go_simp
  have q5 : V1.cell? ⟨w.heap.size + 1, 5, none⟩ = some (.int .i64 0) := by rw [hW1]; go_simp
  have q6 : V1.cell? ⟨w.heap.size + 1, 6, none⟩ = some (.int .i64 0) := by rw [hW1]; go_simp
  have q7 : V1.cell? ⟨w.heap.size + 1, 7, none⟩ = some (.slice none 0 0) := by rw [hW1]; go_simp
  have q8 : V1.cell? ⟨w.heap.size + 1, 8, none⟩ = some (.slice none 0 0) := by rw [hW1]; go_simp
  have q9 : V1.cell? ⟨w.heap.size + 1, 9, none⟩ = some (.bool false) := by rw [hW1]; go_simp
  have qz : ∀ j, V1.frozen? ⟨w.heap.size + 1, j, none⟩ = false := by intro j; rw [hW1]; go_simp
  have D1 : Fr (fun b => b ≠ w.heap.size + 1) w5 V1 := by
    rw [hW1]
    repeat (first | (with_reducible exact Fr.refl _ _) | with_reducible refine Fr.setCell ?_ (fun m hm => by exact hm) _)
  have hTl : w.heap.size + 1 < V1.heap.size := Nat.lt_of_lt_of_le (Nat.lt_of_lt_of_le (blk_lt BT0) (Nat.le_trans (Nat.le_refl _) (Fr.size Z0))) (Nat.le_trans G1.size D1.size)
  obtain ⟨hb1, FB1⟩ := H.out.beside H5.out K1 (T := w.heap.size + 1) (by omega) t1 D1
  have HB1 := Lib.hid hb1
  clear hb1 hW1 t0 t1 t2 t3 t4 t5 t6 t7 t8 t9 tz
  have Z1 : Fr (fun b => b = w.heap.size) W V1 := Z0.trans ((G1.mono fun b (h : b = w.heap.size) => (h ▸ hR0 : b ≠ R)).trans (D1.mono fun b (h : b = w.heap.size) => (by omega : b ≠ w.heap.size + 1)))
  go_wp2_with fail
  refine (num_call' HB1.out 1 6).mono ?_
  rintro e w6 ⟨kind, p6, e6, u6, rfl, S6, H6, f6⟩
  go_wp2_with fail
  refine (num_call' H6.out 0 32768).mono ?_
  rintro e w7 ⟨slot, p7, e7, u7, rfl, S7, H7, f7⟩
  go_wp2_with fail
  refine (bool_call' H7.out).mono ?_
  rintro e w8 ⟨last, z8, p8, e8, u8, rfl, S8, L8, H8, f8⟩
  have G2 : Fr (fun b => b ≠ R) V1 w8 := ((f6).trans f7).trans f8
  have K2 := FB1.trans G2
  have t0 := G2.cell (p := ⟨w.heap.size + 1, 0, none⟩) hR1 q0
  have t1 := G2.cell (p := ⟨w.heap.size + 1, 1, none⟩) hR1 q1
  have t2 := G2.cell (p := ⟨w.heap.size + 1, 2, none⟩) hR1 q2
  have t3 := G2.cell (p := ⟨w.heap.size + 1, 3, none⟩) hR1 q3
  have t4 := G2.cell (p := ⟨w.heap.size + 1, 4, none⟩) hR1 q4
  have t5 := G2.cell (p := ⟨w.heap.size + 1, 5, none⟩) hR1 q5
  have t6 := G2.cell (p := ⟨w.heap.size + 1, 6, none⟩) hR1 q6
  have t7 := G2.cell (p := ⟨w.heap.size + 1, 7, none⟩) hR1 q7
  have t8 := G2.cell (p := ⟨w.heap.size + 1, 8, none⟩) hR1 q8
  have t9 := G2.cell (p := ⟨w.heap.size + 1, 9, none⟩) hR1 q9
  have tz : ∀ j, w8.frozen? ⟨w.heap.size + 1, j, none⟩ = false := fun j => (World.frozen?_of_block (a := ⟨w.heap.size + 1, j, none⟩) (G2.block (w.heap.size + 1) hTl hR1)).trans (qz j)
  clear q0 q1 q2 q3 q4 q5 q6 q7 q8 q9 qz hTl
  clear f6 f7 f8
  go_upto_region 5 with (fail)
  refine wp_name ?_
  intro V2 hW2
  have q0 : V2.cell? ⟨w.heap.size + 1, 0, none⟩ = some (.int .i64 lsn) := by rw [hW2]; go_simp
  have q1 : V2.cell? ⟨w.heap.size + 1, 1, none⟩ = some (.int .i64 back) := by rw [hW2]; go_simp
  have q2 : V2.cell? ⟨w.heap.size + 1, 2, none⟩ = some (.int .i64 epoch) := by rw [hW2]; go_simp
  have q3 : V2.cell? ⟨w.heap.size + 1, 3, none⟩ = some (.int .i64 group) := by rw [hW2]; go_simp
  have q4 : V2.cell? ⟨w.heap.size + 1, 4, none⟩ = some (.int .i64 page) := by rw [hW2]; go_simp
  have q5 : V2.cell? ⟨w.heap.size + 1, 5, none⟩ = some (.int .i64 kind) := by rw [hW2]; go_simp
  have q6 : V2.cell? ⟨w.heap.size + 1, 6, none⟩ = some (.int .i64 slot) := by rw [hW2]; go_simp
  have q7 : V2.cell? ⟨w.heap.size + 1, 7, none⟩ = some (.slice none 0 0) := by rw [hW2]; go_simp
  have q8 : V2.cell? ⟨w.heap.size + 1, 8, none⟩ = some (.slice none 0 0) := by rw [hW2]; go_simp
  have q9 : V2.cell? ⟨w.heap.size + 1, 9, none⟩ = some (.bool last) := by rw [hW2]; go_simp
  have qz : ∀ j, V2.frozen? ⟨w.heap.size + 1, j, none⟩ = false := by intro j; rw [hW2]; go_simp
  have D2 : Fr (fun b => b ≠ w.heap.size + 1) w8 V2 := by
    rw [hW2]
    repeat (first | (with_reducible exact Fr.refl _ _) | with_reducible refine Fr.setCell ?_ (fun m hm => by exact hm) _)
  have hTl : w.heap.size + 1 < V2.heap.size := Nat.lt_of_lt_of_le (Nat.lt_of_lt_of_le (blk_lt BT0) (Nat.le_trans (Nat.le_refl _) (Fr.size Z1))) (Nat.le_trans G2.size D2.size)
  obtain ⟨hb2, FB2⟩ := H.out.beside H8.out K2 (T := w.heap.size + 1) (by omega) t1 D2
  have HB2 := Lib.hid hb2
  clear hb2 hW2 t0 t1 t2 t3 t4 t5 t6 t7 t8 t9 tz
  have Z2 : Fr (fun b => b = w.heap.size) W V2 := Z1.trans ((G2.mono fun b (h : b = w.heap.size) => (h ▸ hR0 : b ≠ R)).trans (D2.mono fun b (h : b = w.heap.size) => (by omega : b ≠ w.heap.size + 1)))
  have hT2 := hTl
  go_wp2_with fail
  refine (bytes_call' HB2.out 32).mono ?_
  rintro e w9 ⟨A0, n0, c0, zs0, p9, e9, u9, rfl, S9, o0, H9, f9⟩
  go_wp2_with fail
  refine (bytes_call' H9.out 64).mono ?_
  rintro e w10 ⟨A1, n1, c1, zs1, p10, e10, u10, rfl, S10, o1, H10, f10⟩
  have G3 : Fr (fun b => b ≠ R) V2 w10 := (f9).trans f10
  have K3 := FB2.trans G3
  have t0 := G3.cell (p := ⟨w.heap.size + 1, 0, none⟩) hR1 q0
  have t1 := G3.cell (p := ⟨w.heap.size + 1, 1, none⟩) hR1 q1
  have t2 := G3.cell (p := ⟨w.heap.size + 1, 2, none⟩) hR1 q2
  have t3 := G3.cell (p := ⟨w.heap.size + 1, 3, none⟩) hR1 q3
  have t4 := G3.cell (p := ⟨w.heap.size + 1, 4, none⟩) hR1 q4
  have t5 := G3.cell (p := ⟨w.heap.size + 1, 5, none⟩) hR1 q5
  have t6 := G3.cell (p := ⟨w.heap.size + 1, 6, none⟩) hR1 q6
  have t7 := G3.cell (p := ⟨w.heap.size + 1, 7, none⟩) hR1 q7
  have t8 := G3.cell (p := ⟨w.heap.size + 1, 8, none⟩) hR1 q8
  have t9 := G3.cell (p := ⟨w.heap.size + 1, 9, none⟩) hR1 q9
  have tz : ∀ j, w10.frozen? ⟨w.heap.size + 1, j, none⟩ = false := fun j => (World.frozen?_of_block (a := ⟨w.heap.size + 1, j, none⟩) (G3.block (w.heap.size + 1) hTl hR1)).trans (qz j)
  clear q0 q1 q2 q3 q4 q5 q6 q7 q8 q9 qz hTl
  go_upto_region 6 with (fail)
  refine wp_name ?_
  intro V3 hW3
  have q0 : V3.cell? ⟨w.heap.size + 1, 0, none⟩ = some (.int .i64 lsn) := by rw [hW3]; go_simp
  have q1 : V3.cell? ⟨w.heap.size + 1, 1, none⟩ = some (.int .i64 back) := by rw [hW3]; go_simp
  have q2 : V3.cell? ⟨w.heap.size + 1, 2, none⟩ = some (.int .i64 epoch) := by rw [hW3]; go_simp
  have q3 : V3.cell? ⟨w.heap.size + 1, 3, none⟩ = some (.int .i64 group) := by rw [hW3]; go_simp
  have q4 : V3.cell? ⟨w.heap.size + 1, 4, none⟩ = some (.int .i64 page) := by rw [hW3]; go_simp
  have q5 : V3.cell? ⟨w.heap.size + 1, 5, none⟩ = some (.int .i64 kind) := by rw [hW3]; go_simp
  have q6 : V3.cell? ⟨w.heap.size + 1, 6, none⟩ = some (.int .i64 slot) := by rw [hW3]; go_simp
  have q7 : V3.cell? ⟨w.heap.size + 1, 7, none⟩ = some (.slice A0 n0 c0) := by rw [hW3]; go_simp
  have q8 : V3.cell? ⟨w.heap.size + 1, 8, none⟩ = some (.slice A1 n1 c1) := by rw [hW3]; go_simp
  have q9 : V3.cell? ⟨w.heap.size + 1, 9, none⟩ = some (.bool last) := by rw [hW3]; go_simp
  have qz : ∀ j, V3.frozen? ⟨w.heap.size + 1, j, none⟩ = false := by intro j; rw [hW3]; go_simp
  have D3 : Fr (fun b => b ≠ w.heap.size + 1) w10 V3 := by
    rw [hW3]
    repeat (first | (with_reducible exact Fr.refl _ _) | with_reducible refine Fr.setCell ?_ (fun m hm => by exact hm) _)
  have hTl : w.heap.size + 1 < V3.heap.size := Nat.lt_of_lt_of_le (Nat.lt_of_lt_of_le (blk_lt BT0) (Nat.le_trans (Nat.le_refl _) (Fr.size Z2))) (Nat.le_trans G3.size D3.size)
  obtain ⟨hb3, FB3⟩ := H.out.beside H10.out K3 (T := w.heap.size + 1) (by omega) t1 D3
  have HB3 := Lib.hid hb3
  clear hb3 hW3 t0 t1 t2 t3 t4 t5 t6 t7 t8 t9 tz
  have Z3 : Fr (fun b => b = w.heap.size) W V3 := Z2.trans ((G3.mono fun b (h : b = w.heap.size) => (h ▸ hR0 : b ≠ R)).trans (D3.mono fun b (h : b = w.heap.size) => (by omega : b ≠ w.heap.size + 1)))
  obtain ⟨r0, r1, r2, r3, r4, r5, r6, r7, r8, r9, rz⟩ := blk10 ((Z3.block w.heap.size (blk_lt BR) rfl).trans BR)
  go_wp2_with fail
  have X : ∀ (b : Nat), V2.heap.size ≤ b → b ≠ R ∧ b ≠ w.heap.size + 1 ∧ b ≠ w.heap.size := fun b hb => ⟨by omega, by omega, by omega⟩
  have Y10 : Fr (fun b => V2.heap.size ≤ b) w10 V3 := D3.mono fun b hb => (X b hb).2.1
  have Y9 : Fr (fun b => V2.heap.size ≤ b) w9 V3 := (f10.mono fun b hb => (X b hb).1).trans Y10
  have hw9 : V2.heap.size ≤ w9.heap.size := f9.size
  refine bodyPost_ret (v := .agg #[.int .i64 lsn, .int .i64 back, .int .i64 epoch, .int .i64 group, .int .i64 page, .int .i64 kind, .int .i64 slot, .slice A0 n0 c0, .slice A1 n1 c1, .bool last]) ?_ rfl ?_
  · simp [results, Tryd.results68, go_sem, r0, r1, r2, r3, r4, r5, r6, r7, r8, r9]
  generalize hg : ((((((((((V3.setCell ⟨w.heap.size, 0, none⟩ (.int .i64 lsn)).setCell ⟨w.heap.size, 1, none⟩ (.int .i64 back)).setCell ⟨w.heap.size, 2, none⟩ (.int .i64 epoch)).setCell ⟨w.heap.size, 3, none⟩ (.int .i64 group)).setCell ⟨w.heap.size, 4, none⟩ (.int .i64 page)).setCell ⟨w.heap.size, 5, none⟩ (.int .i64 kind)).setCell ⟨w.heap.size, 6, none⟩ (.int .i64 slot)).setCell ⟨w.heap.size, 7, none⟩ (.slice A0 n0 c0)).setCell ⟨w.heap.size, 8, none⟩ (.slice A1 n1 c1)).setCell ⟨w.heap.size, 9, none⟩ (.bool last)) = U
  have hU : Fr (fun b => b ≠ w.heap.size) V3 U := by
    rw [← hg]
    repeat (first | (with_reducible exact Fr.refl _ _) | with_reducible refine Fr.setCell ?_ (fun m hm => by exact hm) _)
  obtain ⟨hE, FE⟩ := H.out.beside HB3.out FB3 (T := w.heap.size) (Nat.le_refl _) r1 hU
  exact ⟨⟨lsn, back, epoch, group, page, kind, slot, zs0, zs1, last⟩, A0, n0, c0, A1, n1, c1, p10, e10, u10, rfl,
    (o0.move' (Y9.trans (hU.mono fun b hb => (X b hb).2.2)) fun b hb _ => hb).mono fun b hb _ => (by omega : w.heap.size ≤ b),
    (o1.move' (Y10.trans (hU.mono fun b hb => (X b hb).2.2)) fun b hb _ => (by omega : V2.heap.size ≤ b)).mono fun b hb _ => (by omega : w.heap.size ≤ b),
    ⟨_, _, _, _, _, _, _, _, _, _, S1.out, S2.out, S3.out, S4.out, S5.out, S6.out, S7.out, S8.out, L8.out, S9.out, S10.out⟩, hE, FE⟩
end
end Go.Proofs.YteclgcnndjcmmaaDoor
