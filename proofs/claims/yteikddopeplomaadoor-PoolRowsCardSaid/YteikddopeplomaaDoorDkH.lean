/- A disk that a walk has made itself. -/
import Derived.Test.YteikddopeplomaaDoorDkC
namespace Go.Proofs.YteikddopeplomaaDoor
open Go.RowKit Go.Maps

/-- Its blocks are newer than w0. -/
structure Held (w0 w : World) (B bs bp : Nat) (s : DSt) : Prop where
  dk : Dk w B bs bp s
  l0 : w0.heap.size ≤ B
  l1 : w0.heap.size ≤ bs
  l2 : w0.heap.size ≤ bp
  fr : Fr All w0 w
theorem Held.offs {w0 w : World} {B bs bp : Nat} {s : DSt} (h : Held w0 w B bs bp s) : ∀ x, x < w0.heap.size → Off B bs bp x := fun x hx => ⟨by have := h.l0; omega, by have := h.l1; omega, by have := h.l2; omega⟩
theorem Held.all {w0 w w' : World} {B bs bp : Nat} {s : DSt} (h : Held w0 w B bs bp s) (f : Fr All w w') : Held w0 w' B bs bp s :=
  ⟨h.dk.all f, h.l0, h.l1, h.l2, h.fr.then_all f⟩
theorem Held.off {w0 w w' : World} {B bs bp : Nat} {s s' : DSt} (h : Held w0 w B bs bp s) (f : Fr (Off B bs bp) w w') (d : Dk w' B bs bp s') : Held w0 w' B bs bp s' :=
  ⟨d, h.l0, h.l1, h.l2, h.fr.over f h.offs⟩
theorem Held.lift {w0 w1 w : World} {B bs bp : Nat} {s : DSt} (f : Fr All w0 w1) (h : Held w1 w B bs bp s) : Held w0 w B bs bp s :=
  ⟨h.dk, Nat.le_trans f.size h.l0, Nat.le_trans f.size h.l1, Nat.le_trans f.size h.l2, f.then_all h.fr⟩
/-- What lay ahead of it is none of its own. -/
theorem Held.arg {w0 w : World} {B bs bp : Nat} {s : DSt} (h : Held w0 w B bs bp s) {S : Nat → Prop} {v : Value} {xs : List UInt8} (hv : Sl kByte S w0 v xs) : Sl kByte (fun x => x < w0.heap.size) w v xs :=
  (hv.mono fun _ _ hx => hx).move' h.fr fun _ _ _ => trivial
end Go.Proofs.YteikddopeplomaaDoor
