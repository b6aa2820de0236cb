/- A disk as a walk reads it. -/
import Derived.Test.YteclgcnndjcmmaaDoorMg
namespace Go.Proofs.YteclgcnndjcmmaaDoor
open Go.RowKit Go.Maps

/-- A disk. -/
structure DSt where
  blocks : Int
  syn : Int → Option (List UInt8)
  ns : Nat
  pen : Int → Option (List UInt8)
  np : Nat
  calls : Int
  arm : Int
  down : Bool

/-- What is none of a disk's own blocks. -/
def Off (B bs bp : Nat) (x : Nat) : Prop := x ≠ B ∧ x ≠ bs ∧ x ≠ bp

/-- .. and no guarded one. -/
def OffG (G : Nat → Prop) (B bs bp : Nat) (x : Nat) : Prop := Off B bs bp x ∧ ¬ G x
structure Dk (G : Nat → Prop) (w : World) (B bs bp : Nat) (s : DSt) : Prop where
  c0 : w.cell? ⟨B, 0, none⟩ = some (.int .i64 s.blocks)
  c1 : w.cell? ⟨B, 1, none⟩ = some (.map (some bs))
  c2 : w.cell? ⟨B, 2, none⟩ = some (.map (some bp))
  c3 : w.cell? ⟨B, 3, none⟩ = some (.int .i64 s.calls)
  c4 : w.cell? ⟨B, 4, none⟩ = some (.int .i64 s.arm)
  c5 : w.cell? ⟨B, 5, none⟩ = some (.bool s.down)
  cz : ∀ j, w.frozen? ⟨B, j, none⟩ = false
  syn : MapIs Tryd.prog 3 (OffG G B bs bp) w bs s.syn s.ns
  pen : MapIs Tryd.prog 3 (OffG G B bs bp) w bp s.pen s.np
  n1 : B ≠ bs
  n2 : B ≠ bp
  n3 : bs ≠ bp
  gg : ∀ x, G x → x < w.heap.size
section
variable {G : Nat → Prop}
theorem Dk.lt {w : World} {B bs bp : Nat} {s : DSt} (h : Dk G w B bs bp s) : B < w.heap.size := World.block_lt_of_cell? w ⟨B, 0, none⟩ h.c0
theorem Dk.all {w w' : World} {B bs bp : Nat} {s : DSt} (h : Dk G w B bs bp s) (hf : Fr All w w') : Dk G w' B bs bp s where
  c0 := hf.cell (p := ⟨B, 0, none⟩) trivial h.c0
  c1 := hf.cell (p := ⟨B, 1, none⟩) trivial h.c1
  c2 := hf.cell (p := ⟨B, 2, none⟩) trivial h.c2
  c3 := hf.cell (p := ⟨B, 3, none⟩) trivial h.c3
  c4 := hf.cell (p := ⟨B, 4, none⟩) trivial h.c4
  c5 := hf.cell (p := ⟨B, 5, none⟩) trivial h.c5
  cz := fun j => (World.frozen?_of_block (a := ⟨B, j, none⟩) (hf.block _ h.lt trivial)).trans (h.cz j)
  syn := h.syn.all hf
  pen := h.pen.all hf
  n1 := h.n1
  n2 := h.n2
  n3 := h.n3
  gg := fun x hx => Nat.lt_of_lt_of_le (h.gg x hx) hf.size

/-- Cells of its struct written. -/
theorem Dk.cells {w w' : World} {B bs bp : Nat} {s s' : DSt} (h : Dk G w B bs bp s) (f : Fr (fun x => x ≠ B) w w') (e1 : s'.syn = s.syn) (e2 : s'.ns = s.ns) (e3 : s'.pen = s.pen) (e4 : s'.np = s.np)
    (c0 : w'.cell? ⟨B, 0, none⟩ = some (.int .i64 s'.blocks)) (c1 : w'.cell? ⟨B, 1, none⟩ = some (.map (some bs))) (c2 : w'.cell? ⟨B, 2, none⟩ = some (.map (some bp))) (c3 : w'.cell? ⟨B, 3, none⟩ = some (.int .i64 s'.calls)) (c4 : w'.cell? ⟨B, 4, none⟩ = some (.int .i64 s'.arm)) (c5 : w'.cell? ⟨B, 5, none⟩ = some (.bool s'.down)) (cz : ∀ j, w'.frozen? ⟨B, j, none⟩ = false) :
    Dk G w' B bs bp s' where
  c0 := c0
  c1 := c1
  c2 := c2
  c3 := c3
  c4 := c4
  c5 := c5
  cz := cz
  syn := by rw [e1, e2]; exact h.syn.move f (Ne.symm h.n1) fun x hx _ => hx.1.1
  pen := by rw [e3, e4]; exact h.pen.move f (Ne.symm h.n2) fun x hx _ => hx.1.1
  n1 := h.n1
  n2 := h.n2
  n3 := h.n3
  gg := fun x hx => Nat.lt_of_lt_of_le (h.gg x hx) f.size
/-- Its struct stays while another block turns. -/
theorem Dk.stays {w w' : World} {B bs bp : Nat} {s s' : DSt} (h : Dk G w B bs bp s) {b : Nat} (f : Fr (fun x => x ≠ b) w w') (hb : B ≠ b) (e0 : s'.blocks = s.blocks) (e3 : s'.calls = s.calls) (e4 : s'.arm = s.arm) (e5 : s'.down = s.down)
    (syn : MapIs Tryd.prog 3 (OffG G B bs bp) w' bs s'.syn s'.ns) (pen : MapIs Tryd.prog 3 (OffG G B bs bp) w' bp s'.pen s'.np) : Dk G w' B bs bp s' where
  c0 := by rw [e0]; exact f.cell (p := ⟨B, 0, none⟩) hb h.c0
  c1 := f.cell (p := ⟨B, 1, none⟩) hb h.c1
  c2 := f.cell (p := ⟨B, 2, none⟩) hb h.c2
  c3 := by rw [e3]; exact f.cell (p := ⟨B, 3, none⟩) hb h.c3
  c4 := by rw [e4]; exact f.cell (p := ⟨B, 4, none⟩) hb h.c4
  c5 := by rw [e5]; exact f.cell (p := ⟨B, 5, none⟩) hb h.c5
  cz := fun j => (World.frozen?_of_block (a := ⟨B, j, none⟩) (f.block _ h.lt hb)).trans (h.cz j)
  syn := syn
  pen := pen
  n1 := h.n1
  n2 := h.n2
  n3 := h.n3
  gg := fun x hx => Nat.lt_of_lt_of_le (h.gg x hx) f.size

/-- Other blocks are guarded now; what turned is none of its own. -/
theorem Dk.grow {G' S : Nat → Prop} {w w' : World} {B bs bp : Nat} {s : DSt} (h : Dk G w B bs bp s) (f : Fr S w w') (hB : S B) (h1 : S bs) (h2 : S bp) (hS : ∀ x, Off B bs bp x → ¬ G x → x < w.heap.size → S x) (hG : ∀ x, G' x → x < w.heap.size → G x) (hgg : ∀ x, G' x → x < w'.heap.size) : Dk G' w' B bs bp s where
  c0 := f.cell (p := ⟨B, 0, none⟩) hB h.c0
  c1 := f.cell (p := ⟨B, 1, none⟩) hB h.c1
  c2 := f.cell (p := ⟨B, 2, none⟩) hB h.c2
  c3 := f.cell (p := ⟨B, 3, none⟩) hB h.c3
  c4 := f.cell (p := ⟨B, 4, none⟩) hB h.c4
  c5 := f.cell (p := ⟨B, 5, none⟩) hB h.c5
  cz := fun j => (World.frozen?_of_block (a := ⟨B, j, none⟩) (f.block _ h.lt hB)).trans (h.cz j)
  syn := ((h.syn.mono (S' := fun x => OffG G B bs bp x ∧ x < w.heap.size) fun x hx hl => ⟨hx, hl⟩).move f h1 fun x hx _ => hS x hx.1.1 hx.1.2 hx.2).mono fun x hx _ => ⟨hx.1.1, fun hg => hx.1.2 (hG x hg hx.2)⟩
  pen := ((h.pen.mono (S' := fun x => OffG G B bs bp x ∧ x < w.heap.size) fun x hx hl => ⟨hx, hl⟩).move f h2 fun x hx _ => hS x hx.1.1 hx.1.2 hx.2).mono fun x hx _ => ⟨hx.1.1, fun hg => hx.1.2 (hG x hg hx.2)⟩
  n1 := h.n1
  n2 := h.n2
  n3 := h.n3
  gg := hgg
end
/-- Behind up. -/
def DSt.up (s : DSt) : DSt := if s.down = false ∧ 0 < s.arm then { s with arm := s.arm - 1, down := decide (s.arm - 1 = 0) } else s
end Go.Proofs.YteclgcnndjcmmaaDoor
