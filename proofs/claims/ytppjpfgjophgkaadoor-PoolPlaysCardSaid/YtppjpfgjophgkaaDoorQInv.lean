/- The pool, and the law's own two rows beside it: none in another's way. -/
import Derived.Test.YtppjpfgjophgkaaDoorQSt
import Derived.Test.YtppjpfgjophgkaaDoorQRow
import Derived.Test.YtppjpfgjophgkaaDoorPCl
namespace Go.Proofs.YtppjpfgjophgkaaDoor
open Go.RowKit Go.Maps

/-- Nothing of the pool lies in the rows, nothing of the rows' pages in what is not theirs. -/
structure QInv (w0 wr : World) (base B l t : Nat) (u wv : Value) (s : PSt) (hv : List Page) (ws : List Int) : Prop where
  pk : Pk (fun x => some x = u.ownBlock ∨ some x = wv.ownBlock) wr B l t s
  hv : Own kPage 30 base (fun x => Off B l t x ∧ some x ≠ wv.ownBlock) wr u hv
  ws : Own kInt 3 base All wr wv ws
  ne : ∀ x, u.ownBlock = some x → wv.ownBlock ≠ some x
  bB : B < base
  bl : l < base
  bt : t < base
  fr : Fr All w0 wr
  le : base ≤ wr.heap.size
  nw : w0.heap.size ≤ B ∧ w0.heap.size ≤ l ∧ w0.heap.size ≤ t ∧ w0.heap.size ≤ base
section
variable {w0 wr w' : World} {base B l t : Nat} {u wv : Value} {s s' : PSt} {hv : List Page} {ws : List Int}
theorem QInv.ub (h : QInv w0 wr base B l t u wv s hv ws) {x : Nat} (hx : u.ownBlock = some x) : Off B l t x ∧ base ≤ x ∧ x < wr.heap.size := by
  have h1 := own_lt h.hv x hx
  have h2 := h.bB
  have h3 := h.bl
  have h4 := h.bt
  exact ⟨⟨by omega, by omega, by omega⟩, h1⟩
theorem QInv.wb (h : QInv w0 wr base B l t u wv s hv ws) {x : Nat} (hx : wv.ownBlock = some x) : Off B l t x ∧ base ≤ x ∧ x < wr.heap.size := by
  have h1 := own_lt h.ws x hx
  have h2 := h.bB
  have h3 := h.bl
  have h4 := h.bt
  exact ⟨⟨by omega, by omega, by omega⟩, h1⟩
/-- The pool was told something. -/
theorem QInv.pool (h : QInv w0 wr base B l t u wv s hv ws) (f : Fr (Off B l t) wr w') (k : Pk (fun x => some x = u.ownBlock ∨ some x = wv.ownBlock) w' B l t s') : QInv w0 w' base B l t u wv s' hv ws where
  pk := k
  hv := h.hv.move f (fun b hb _ => hb.1) (fun x hx => (h.ub hx).1)
  ws := ((Own.any h.ws (T := Nowhere)).move f (fun b hb _ => hb.elim) (fun x hx => (h.wb hx).1)).any
  ne := h.ne
  bB := h.bB
  bl := h.bl
  bt := h.bt
  fr := ⟨f.os.trans h.fr.os, f.tape.trans h.fr.tape, f.output.trans h.fr.output, Nat.le_trans h.fr.size f.size, fun b hb _ => (f.block b (Nat.lt_of_lt_of_le hb h.fr.size) ⟨by have := h.nw; omega, by have := h.nw; omega, by have := h.nw; omega⟩).trans (h.fr.block b hb trivial)⟩
  le := Nat.le_trans h.le f.size
  nw := h.nw
theorem QInv.all (h : QInv w0 wr base B l t u wv s hv ws) (f : Fr All wr w') : QInv w0 w' base B l t u wv s hv ws := h.pool (f.mono fun _ _ => trivial) (h.pk.all f)
/-- Another row of numbers. -/
theorem QInv.nums (h : QInv w0 wr base B l t u wv s hv ws) {wv' : Value} {ws' : List Int} {b3 : Nat} (f : Fr (But wv.ownBlock) wr w') (o : Own kInt 3 b3 All w' wv' ws') (hb : wr.heap.size ≤ b3) : QInv w0 w' base B l t u wv' s hv ws' where
  pk := by
    have hBx : ∀ y, y < base → But wv.ownBlock y := fun y hy he => by have := (h.wb he.symm).2; omega
    refine h.pk.grow f (hBx _ h.bB) (hBx _ h.bl) (hBx _ h.bt) (fun x _ hg _ he => hg (.inr he)) (fun x hx hl => ?_) (fun x hx => ?_)
    · rcases hx with hx | hx
      · exact .inl hx
      · have := own_lt o x hx.symm
        omega
    · rcases hx with hx | hx
      · exact Nat.lt_of_lt_of_le (h.ub hx.symm).2.2 f.size
      · exact (own_lt o x hx.symm).2
  hv := ((h.hv.mono (T := fun x => (Off B l t x ∧ some x ≠ wv.ownBlock) ∧ x < wr.heap.size) fun b hb hl => ⟨hb, hl⟩).move f (fun b hb _ => hb.1.2) (fun x hx he => h.ne x hx he.symm)).mono fun b hb _ => ⟨hb.1.1, fun he => by have := own_lt o b he.symm; omega⟩
  ws := o.lower (Nat.le_trans h.le hb)
  ne := fun x hx he => by have h1 := (h.ub hx).2.2; have := own_lt o x he; omega
  bB := h.bB
  bl := h.bl
  bt := h.bt
  fr := ⟨f.os.trans h.fr.os, f.tape.trans h.fr.tape, f.output.trans h.fr.output, Nat.le_trans h.fr.size f.size, fun b hb _ => (f.block b (Nat.lt_of_lt_of_le hb h.fr.size) (fun he => by have := (h.wb he.symm).2; have := h.nw; omega)).trans (h.fr.block b hb trivial)⟩
  le := Nat.le_trans h.le f.size
  nw := h.nw
/-- The row of pages turns: in place, or grown, by pages that lie in no other's way. -/
theorem QInv.pages (h : QInv w0 wr base B l t u wv s hv ws) {wb : World} {u' : Value} {hv' : List Page} (f0 : Fr All wr wb) (f : Fr (But u.ownBlock) wb w') (o : Own kPage 30 base (fun x => Off B l t x ∧ some x ≠ wv.ownBlock) w' u' hv') (hu : u'.ownBlock = u.ownBlock ∨ ∀ x, u'.ownBlock = some x → wr.heap.size ≤ x) : QInv w0 w' base B l t u' wv s hv' ws where
  pk := by
    have hF : Fr (But u.ownBlock) wr w' := (f0.mono fun _ _ => trivial).trans f
    have hBx : ∀ y, y < base → But u.ownBlock y := fun y hy he => by have := (h.ub he.symm).2; omega
    refine h.pk.grow hF (hBx _ h.bB) (hBx _ h.bl) (hBx _ h.bt) (fun x _ hg _ he => hg (.inl he)) (fun x hx hl => ?_) (fun x hx => ?_)
    · rcases hx with hx | hx
      · rcases hu with hu | hu
        · exact .inl (by rw [hx, hu])
        · have := hu x hx.symm
          omega
      · exact .inr hx
    · rcases hx with hx | hx
      · exact (own_lt o x hx.symm).2
      · exact Nat.lt_of_lt_of_le (h.wb hx.symm).2.2 hF.size
  hv := o
  ws := ((Own.any h.ws (T := Nowhere)).move ((f0.mono fun _ _ => trivial).trans f) (fun b hb _ => hb.elim) (fun x hx he => h.ne x he.symm hx)).any
  ne := fun x hx he => by
    rcases hu with hu | hu
    · exact h.ne x (by rw [← hu]; exact hx) he
    · have := hu x hx
      have := (h.wb he).2.2
      omega
  bB := h.bB
  bl := h.bl
  bt := h.bt
  fr := ⟨f.os.trans (f0.os.trans h.fr.os), f.tape.trans (f0.tape.trans h.fr.tape), f.output.trans (f0.output.trans h.fr.output), Nat.le_trans h.fr.size (Nat.le_trans f0.size f.size), fun b hb _ => (f.block b (Nat.lt_of_lt_of_le hb (Nat.le_trans h.fr.size f0.size)) (fun he => by have := (h.ub he.symm).2; have := h.nw; omega)).trans ((f0.block b (Nat.lt_of_lt_of_le hb h.fr.size) trivial).trans (h.fr.block b hb trivial))⟩
  le := Nat.le_trans h.le (Nat.le_trans f0.size f.size)
  nw := h.nw
end
end Go.Proofs.YtppjpfgjophgkaaDoor
