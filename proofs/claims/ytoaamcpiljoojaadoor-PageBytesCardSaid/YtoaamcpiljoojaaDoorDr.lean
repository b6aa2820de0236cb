/- The document's reader: its state in memory; Placed, fail, Ok. -/
import Derived.Test.YtoaamcpiljoojaaDoorReader3
import Derived.Test.YtoaamcpiljoojaaDoorSee
import Derived.Test.YtoaamcpiljoojaaDoorRefY
import Derived.Test.YtoaamcpiljoojaaDoorLast3
import Derived.Deep.Cut
namespace Go.Proofs.YtoaamcpiljoojaaDoor
open Go.RowKit

/-- An error's number and place. -/
def erC : Option (Nat × Nat) → Int
  | none => 0
  | some x => 101 + (x.1 : Int)
def erP : Option (Nat × Nat) → Int
  | none => 0
  | some x => (x.2 : Int)

/-- A document's reader at block R, made since the world w0. -/
structure Dr (w0 : World) (R : Nat) (bs : List UInt8) (A : Option Addr) (n c : Nat) (w : World) (pos : Nat) (er : Option (Nat × Nat)) : Prop where
  fr : Fr All w0 w
  new : w0.heap.size ≤ R
  lt : R < w.heap.size
  k0 : w.cell? ⟨R, 0, none⟩ = some (.slice A n c)
  k1 : w.cell? ⟨R, 1, none⟩ = some (.int .i64 pos)
  k2 : w.cell? ⟨R, 2, none⟩ = some (.int .i64 (erC er))
  k3 : w.cell? ⟨R, 3, none⟩ = some (.bool er.isSome)
  k4 : w.cell? ⟨R, 4, none⟩ = some (.int .i64 (erP er))
  kz : ∀ j, w.frozen? ⟨R, j, none⟩ = false
  sl : Sl kByte (fun b => b ≠ R) w (.slice A n c) bs
  small : n ≤ 1000000
  pos_le : pos ≤ n

section
variable {w0 : World} {R n c pos p0 : Nat} {bs : List UInt8} {A : Option Addr} {w w1 w2 w' : World} {er e0 : Option (Nat × Nat)}
theorem Dr.move (h : Dr w0 R bs A n c w pos er) (hf : Fr All w w') : Dr w0 R bs A n c w' pos er where
  fr := h.fr.trans hf
  new := h.new
  lt := Nat.lt_of_lt_of_le h.lt hf.size
  k0 := hf.cell (p := ⟨R, 0, none⟩) trivial h.k0
  k1 := hf.cell (p := ⟨R, 1, none⟩) trivial h.k1
  k2 := hf.cell (p := ⟨R, 2, none⟩) trivial h.k2
  k3 := hf.cell (p := ⟨R, 3, none⟩) trivial h.k3
  k4 := hf.cell (p := ⟨R, 4, none⟩) trivial h.k4
  kz := fun j => (World.frozen?_of_block (a := ⟨R, j, none⟩) (hf.block _ h.lt trivial)).trans (h.kz j)
  sl := h.sl.all hf
  small := h.small
  pos_le := h.pos_le
theorem Dr.len (h : Dr w0 R bs A n c w pos er) : bs.length = n := h.sl.len
/-- A walk that writes to other blocks than the reader's. -/
theorem Dr.beside {T : Nat} (h0 : Dr w0 R bs A n c w p0 e0) (h : Dr w0 R bs A n c w1 pos er) (f : Fr (fun b => b ≠ R) w w1) (hT : w.heap.size ≤ T) (g : Fr (fun b => b ≠ T) w1 w2) :
    Dr w0 R bs A n c w2 pos er ∧ Fr (fun b => b ≠ R) w w2 := by
  have hRT : R ≠ T := by have := h0.lt; omega
  have f2 := f.thenNew g hT
  exact ⟨⟨h.fr.thenNew g (Nat.le_trans h0.fr.size hT), h.new, Nat.lt_of_lt_of_le h.lt g.size, g.cell (p := ⟨R, 0, none⟩) hRT h.k0, g.cell (p := ⟨R, 1, none⟩) hRT h.k1, g.cell (p := ⟨R, 2, none⟩) hRT h.k2, g.cell (p := ⟨R, 3, none⟩) hRT h.k3, g.cell (p := ⟨R, 4, none⟩) hRT h.k4, fun j => (World.frozen?_of_block (a := ⟨R, j, none⟩) (g.block R h.lt hRT)).trans (h.kz j), h0.sl.move f2, h.small, h.pos_le⟩, f2⟩
theorem Dr.setPos (h : Dr w0 R bs A n c w pos er) {p2 : Nat} (hp : p2 ≤ n) {v : Value} (hv : v = .int .i64 p2) : Dr w0 R bs A n c (w.setCell ⟨R, 1, none⟩ v) p2 er ∧ Fr (fun b => b ≠ R) w (w.setCell ⟨R, 1, none⟩ v) := by
  subst hv
  have k0 := h.k0
  have k1 := h.k1
  have k2 := h.k2
  have k3 := h.k3
  have k4 := h.k4
  have kz := h.kz
  have hlt := h.lt
  have hF : Fr (fun b => b ≠ R) w (w.setCell ⟨R, 1, none⟩ (.int .i64 p2)) := (Fr.refl _ _).setCell (fun m hm => by exact hm) _
  refine ⟨⟨h.fr.setNew (p := ⟨R, 1, none⟩) h.new _, h.new, Nat.lt_of_lt_of_le hlt hF.size, ?_, ?_, ?_, ?_, ?_, ?_, h.sl.move hF, h.small, hp⟩, hF⟩
  · go_simp
  · go_simp
  · go_simp
  · go_simp
  · go_simp
  · intro j
    go_simp
end

theorem placed_call (k : Nat) (m : Int) (w : World) : Calls Tryd.prog 99 #[.int .i64 (101 + (k : Int)), .int .i64 m] w fun e w' => e = .returned (.agg #[.int .i64 (101 + (k : Int)), .bool true, .int .i64 m]) ∧ Fr All w w' := by
  obtain ⟨x, hx⟩ : ∃ x : Int, 101 + (k : Int) = x := ⟨_, rfl⟩
  have hd : (x == 0) = false := by rw [beq_eq_false_iff_ne]; omega
  rw [hx]
  clear hx
  go_enter Tryd.func99, Tryd.ntmps99
  go_wp2_with fail
  refine bodyPost_ret (v := .agg #[.int .i64 x, .bool true, .int .i64 m]) ?_ rfl ⟨rfl, (Fr.refl All w).alloc _⟩
  simp [results, Tryd.results99, go_sem]

section
variable {w0 : World} {R n c pos : Nat} {bs : List UInt8} {A : Option Addr} {w w' : World} {er : Option (Nat × Nat)}
theorem dr_ok (h : Dr w0 R bs A n c w pos er) : Calls Tryd.prog 63 #[.pointer (some ⟨R, 0, none⟩)] w fun e w' => e = .returned (.bool er.isNone) ∧ w' = w := by
  have k2 := h.k2
  clear h
  cases er with
  | none =>
    have k2' : w.cell? ⟨R, 2, none⟩ = some (.int .i64 0) := k2
    clear k2
    go_enter Tryd.func63, Tryd.ntmps63
    go_wp2_with fail
    go_ret
    exact ⟨rfl, rfl⟩
  | some x =>
    obtain ⟨y, hy⟩ : ∃ y : Int, erC (some x) = y := ⟨_, rfl⟩
    have hd : (y == 0) = false := by
      rw [beq_eq_false_iff_ne, ← hy]
      show (101 + (x.1 : Int)) ≠ 0
      omega
    rw [hy] at k2
    clear hy
    go_enter Tryd.func63, Tryd.ntmps63
    go_wp2_with fail
    go_ret
    exact ⟨by simp [hd], rfl⟩
/-- fail: the error and its place. -/
theorem dr_fail {x at' : Nat} (h : Dr w0 R bs A n c w pos er) (hat : at' ≤ n) :
    Calls Tryd.prog 114 #[.pointer (some ⟨R, 0, none⟩), .int .i64 (101 + (x : Int)), .int .i64 (at' : Int)] w fun e w' => e = .returned (.tuple #[]) ∧ Dr w0 R bs A n c w' at' (some (x, at')) ∧ Fr (fun b => b ≠ R) w w' := by
  have H := Lib.hid h
  have hc := placed_call x (at' : Int) w
  obtain ⟨y, hy⟩ : ∃ y : Int, 101 + (x : Int) = y := ⟨_, rfl⟩
  rw [hy] at hc ⊢
  have Hy := Lib.hid hy
  have HC := Lib.hid hc
  clear h hc hy
  go_enter Tryd.func114, Tryd.ntmps114
  go_wp2_with fail
  refine HC.out.mono ?_
  rintro e w1 ⟨rfl, f1⟩
  have h1 := H.out.move f1
  have k0 := h1.k0
  have k1 := h1.k1
  have k2 := h1.k2
  have k3 := h1.k3
  have k4 := h1.k4
  have kz := h1.kz
  have hlt := h1.lt
  have H1 := Lib.hid h1
  clear h1
  go_wp2_with fail
  go_end0
  have h := H1.out
  have hs : ∀ (W : World) (o : Nat) (v : Value), (W.setCell ⟨R, o, none⟩ v).heap.size = W.heap.size := fun W o v => by simp [World.setCell]
  have F : Fr (fun b => b ≠ R) w1 ((((w1.setCell ⟨R, 2, none⟩ (.int .i64 y)).setCell ⟨R, 3, none⟩ (.bool true)).setCell ⟨R, 4, none⟩ (.int .i64 (at' : Int))).setCell ⟨R, 1, none⟩ (.int .i64 (at' : Int))) := by
    repeat (first | (with_reducible exact Fr.refl _ _) | with_reducible refine Fr.setCell ?_ (fun m hm => by exact hm) _)
  have F0 : Fr All w0 ((((w1.setCell ⟨R, 2, none⟩ (.int .i64 y)).setCell ⟨R, 3, none⟩ (.bool true)).setCell ⟨R, 4, none⟩ (.int .i64 (at' : Int))).setCell ⟨R, 1, none⟩ (.int .i64 (at' : Int))) := by
    have h0 := h.fr
    have hn := h.new
    repeat (first | (with_reducible exact h0) | with_reducible refine Fr.setNew ?_ (by exact hn) _)
  refine ⟨rfl, ⟨F0, h.new, Nat.lt_of_lt_of_le hlt F.size, ?_, ?_, ?_, ?_, ?_, ?_, h.sl.move F, h.small, hat⟩, (f1.mono fun _ _ => trivial).trans F⟩
  · go_simp
  · go_simp
  · rw [show erC (some (x, at')) = y from Hy.out]
    go_simp
  · show _ = some (Value.bool true)
    go_simp
  · show _ = some (Value.int .i64 (at' : Int))
    go_simp
  · intro j
    go_simp
end

/-- An error with a place, as plain data. -/
theorem fault_placed {qs : List Addr} {w : World} {k : Nat} {a : Addr} {b : Nat} {m : Int} (h : Errs w qs) (hk : qs[k]? = some a) (c0 : w.cell? ⟨b, 0, none⟩ = some (.int .i64 m)) (c1 : w.cell? ⟨b, 1, none⟩ = some (errV a)) :
    Calls Tryd.prog 70 #[.iface 131 (.pointer (some ⟨b, 0, none⟩))] w fun e w' => e = .returned (.agg #[.int .i64 (101 + (k : Int)), .bool true, .int .i64 m]) ∧ Fr All w w' := by
  have B := heap_alloc_new w (.cells #[.int .i64 0, .bool false, .int .i64 0] 46)
  have F0 := (Fr.refl All w).alloc (.cells #[.int .i64 0, .bool false, .int .i64 0] 46)
  obtain ⟨W, hW⟩ : ∃ W, w.alloc (.cells #[.int .i64 0, .bool false, .int .i64 0] 46) = W := ⟨_, rfl⟩
  rw [hW] at B F0
  have d0 := F0.cell (p := ⟨b, 0, none⟩) trivial c0
  have d1 := F0.cell (p := ⟨b, 1, none⟩) trivial c1
  have ha := assert_at ⟨b, 0, none⟩
  have HS := Lib.hid (fun (V : World) (f : Fr All W V) => sentinel_call (h.move (F0.trans f)) hk)
  have HP := Lib.hid (fun (V : World) => placed_call k m V)
  have hz := blk_lt B
  have hbw : b ≠ w.heap.size := by
    have := World.block_lt_of_cell? w ⟨b, 0, none⟩ c0
    dsimp only at this
    omega
  obtain ⟨y, hy⟩ : ∃ y : Int, 101 + (k : Int) = y := ⟨_, rfl⟩
  rw [hy] at HS HP ⊢
  unfold errV at d1 HS
  clear h hk c0 c1 hy
  go_enter Tryd.func70, Tryd.ntmps70
  go_upto_region 8 with (fail)
  refine wp_name ?_
  intro V hV
  obtain rfl := hV
  clear hW ha
  refine wp_region_last (S := fun w' => w'.cell? ⟨b, 0, none⟩ = some (.int .i64 m) ∧ w'.cell? ⟨b, 1, none⟩ = some (.iface 175 (.pointer (some a)))) 10 (by kernel_rfl) rfl (by kernel_rfl) ⟨d0, d1⟩ (fun hHeld => ?_)
  simp only [List.take_succ_cons, List.take_zero]
  refine wpAnyH_take (i := 0) (v := ?_) rfl (by kernel_rfl) (by kernel_rfl) (by kernel_rfl) (fun _ _ _ h => h) (Or.inl ⟨by rfl, ?_⟩) (by assumption) ?_
  rotate_left
  · (intro w hSw; (try dsimp only at hSw); go_simp; try with_reducible rfl)
  try simp only [List.getElem_toArray, List.getElem_cons_succ, List.getElem_cons_zero, Act.put, List.setIfInBounds_toArray, List.set_cons_succ, List.set_cons_zero]
  refine wpAnyH_take (i := 1) (v := ?_) rfl (by kernel_rfl) (by kernel_rfl) (by kernel_rfl) (fun _ _ _ h => h) (Or.inl ⟨by rfl, ?_⟩) (by assumption) ?_
  rotate_left
  · (intro w hSw; (try dsimp only at hSw); go_simp; try with_reducible rfl)
  try simp only [List.getElem_toArray, List.getElem_cons_succ, List.getElem_cons_zero, Act.put, List.setIfInBounds_toArray, List.set_cons_succ, List.set_cons_zero]
  refine wpAnyH_take (i := 2) (v := ?_) rfl (by kernel_rfl) (by kernel_rfl) (by kernel_rfl) (fun _ _ _ h => h) (Or.inl ⟨by rfl, ?_⟩) (by assumption) ?_
  rotate_left
  · (intro w hSw; (try dsimp only at hSw); go_simp; try with_reducible rfl)
  try simp only [List.getElem_toArray, List.getElem_cons_succ, List.getElem_cons_zero, Act.put, List.setIfInBounds_toArray, List.set_cons_succ, List.set_cons_zero]
  refine wpAnyH_take (i := 3) (v := ?_) rfl (by kernel_rfl) (by kernel_rfl) (by kernel_rfl) (fun _ _ _ h => h) (Or.inl ⟨by rfl, ?_⟩) (by assumption) ?_
  rotate_left
  · (intro w hSw; (try dsimp only at hSw); go_simp; try with_reducible rfl)
  try simp only [List.getElem_toArray, List.getElem_cons_succ, List.getElem_cons_zero, Act.put, List.setIfInBounds_toArray, List.set_cons_succ, List.set_cons_zero]
  refine wpAnyH_take (i := 5) (v := ?_) rfl (by kernel_rfl) (by kernel_rfl) (by kernel_rfl) (fun _ _ _ h => h) (Or.inl ⟨by rfl, ?_⟩) (by assumption) ?_
  rotate_left
  · (intro w hSw; (try dsimp only at hSw); go_simp; try with_reducible rfl)
  try simp only [List.getElem_toArray, List.getElem_cons_succ, List.getElem_cons_zero, Act.put, List.setIfInBounds_toArray, List.set_cons_succ, List.set_cons_zero]
  refine wpAnyH_take (i := 6) (v := ?_) rfl (by kernel_rfl) (by kernel_rfl) (by kernel_rfl) (fun _ _ _ h => h) (Or.inl ⟨by rfl, ?_⟩) (by assumption) ?_
  rotate_left
  · (intro w hSw; (try dsimp only at hSw); go_simp; try with_reducible rfl)
  try simp only [List.getElem_toArray, List.getElem_cons_succ, List.getElem_cons_zero, Act.put, List.setIfInBounds_toArray, List.set_cons_succ, List.set_cons_zero]
  refine wpAnyH_take (i := 7) (v := ?_) rfl (by kernel_rfl) (by kernel_rfl) (by kernel_rfl) (fun _ _ _ h => h) (Or.inl ⟨by rfl, ?_⟩) (by assumption) ?_
  rotate_left
  · (intro w hSw; (try dsimp only at hSw); go_simp; try with_reducible rfl)
  try simp only [List.getElem_toArray, List.getElem_cons_succ, List.getElem_cons_zero, Act.put, List.setIfInBounds_toArray, List.set_cons_succ, List.set_cons_zero]
  refine wpAnyH_take (i := 8) (v := ?_) rfl (by kernel_rfl) (by kernel_rfl) (by kernel_rfl) (fun _ _ _ h => h) (Or.inl ⟨by rfl, ?_⟩) (by assumption) ?_
  rotate_left
  · (intro w hSw; (try dsimp only at hSw); go_simp; try with_reducible rfl)
  try simp only [List.getElem_toArray, List.getElem_cons_succ, List.getElem_cons_zero, Act.put, List.setIfInBounds_toArray, List.set_cons_succ, List.set_cons_zero]
  refine wpAnyH_ready (rs := [4]) (by kernel_rfl) (by simp) (AllReadyH.cons rfl (fun K hK => ?_) AllReadyH.nil)
  go_simp
  refine (HS.out _ (Fr.refl All V).drew).mono ?_
  rintro r w1 ⟨rfl, f1⟩
  have g1 : Fr All V w1 := (Fr.refl All V).drew.trans f1
  refine hK.out _ _ ⟨g1.cell trivial d0, g1.cell trivial d1⟩ (fun hHeld => ?_)
  clear hK K
  try simp only [List.getElem_toArray, List.getElem_cons_succ, List.getElem_cons_zero, Act.put, List.setIfInBounds_toArray, List.set_cons_succ, List.set_cons_zero]
  refine wpAnyH_ready (rs := [9]) (by kernel_rfl) (by simp) (AllReadyH.cons rfl (fun K hK => ?_) AllReadyH.nil)
  go_simp
  refine (HP.out _).mono ?_
  rintro r w2 ⟨rfl, f2⟩
  have g2 : Fr All V w2 := g1.trans f2
  refine hK.out _ _ ⟨g2.cell trivial d0, g2.cell trivial d1⟩ (fun hHeld => ?_)
  clear hK K
  try simp only [List.getElem_toArray, List.getElem_cons_succ, List.getElem_cons_zero, Act.put, List.setIfInBounds_toArray, List.set_cons_succ, List.set_cons_zero]
  obtain ⟨p0, p1, p2, pz⟩ := blk3 ((g2.block w.heap.size hz trivial).trans B)
  clear d0 d1 hHeld
  refine wpAnyH_done (by kernel_rfl) ?_ _
  show wpList _ _ _ _ _ _
  go_wp2_with fail
  refine bodyPost_ret (v := .agg #[.int .i64 y, .bool true, .int .i64 m]) ?_ rfl ⟨rfl, (((F0.trans g2).setNew (Nat.le_refl _) _).setNew (Nat.le_refl _) _).setNew (Nat.le_refl _) _⟩
  simp [results, Tryd.results70, go_sem, p0, p1, p2]
theorem Sees.placed {qs : List Addr} {w : World} {k : Nat} {a : Addr} {b : Nat} {m : Int} (h : Errs w qs) (hk : qs[k]? = some a) (c0 : w.cell? ⟨b, 0, none⟩ = some (.int .i64 m)) (c1 : w.cell? ⟨b, 1, none⟩ = some (errV a)) :
    Sees w (.iface 131 (.pointer (some ⟨b, 0, none⟩))) (101 + (k : Int)) true m := fun _ hf => fault_placed (h.move hf) hk (hf.cell (p := ⟨b, 0, none⟩) trivial c0) (hf.cell (p := ⟨b, 1, none⟩) trivial c1)
end Go.Proofs.YtoaamcpiljoojaaDoor
