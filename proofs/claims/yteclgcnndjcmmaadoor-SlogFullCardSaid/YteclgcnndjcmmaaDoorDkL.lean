/- A disk that a walk has made itself. A disk that does well, as the statements use it; the chapter's first. -/
import Derived.Test.YteclgcnndjcmmaaDoorDkC
import Derived.Test.YteclgcnndjcmmaaDoorDkX
namespace Go.Proofs.YteclgcnndjcmmaaDoor
open Go.RowKit Go.Maps

/-- Its blocks are newer than w0. -/
structure Held (G : Nat → Prop) (w0 w : World) (B bs bp : Nat) (s : DSt) : Prop where
  dk : Dk G w B bs bp s
  l0 : w0.heap.size ≤ B
  l1 : w0.heap.size ≤ bs
  l2 : w0.heap.size ≤ bp
  fr : Fr All w0 w
section
variable {G : Nat → Prop}
theorem Held.offs {w0 w : World} {B bs bp : Nat} {s : DSt} (h : Held G w0 w B bs bp s) : ∀ x, x < w0.heap.size → Off B bs bp x := fun x hx => ⟨by have := h.l0; omega, by have := h.l1; omega, by have := h.l2; omega⟩
theorem Held.all {w0 w w' : World} {B bs bp : Nat} {s : DSt} (h : Held G w0 w B bs bp s) (f : Fr All w w') : Held G w0 w' B bs bp s :=
  ⟨h.dk.all f, h.l0, h.l1, h.l2, h.fr.then_all f⟩
theorem Held.off {w0 w w' : World} {B bs bp : Nat} {s s' : DSt} (h : Held G w0 w B bs bp s) (f : Fr (Off B bs bp) w w') (d : Dk G w' B bs bp s') : Held G w0 w' B bs bp s' :=
  ⟨d, h.l0, h.l1, h.l2, h.fr.over f h.offs⟩
theorem Held.lift {w0 w1 w : World} {B bs bp : Nat} {s : DSt} (f : Fr All w0 w1) (h : Held G w1 w B bs bp s) : Held G w0 w B bs bp s :=
  ⟨h.dk, Nat.le_trans f.size h.l0, Nat.le_trans f.size h.l1, Nat.le_trans f.size h.l2, f.then_all h.fr⟩
/-- What lay ahead of it is none of its own. -/
theorem Held.arg {w0 w : World} {B bs bp : Nat} {s : DSt} (h : Held G w0 w B bs bp s) {S : Nat → Prop} {v : Value} {xs : List UInt8} (hv : Sl kByte S w0 v xs) : Sl kByte (fun x => x < w0.heap.size) w v xs :=
  (hv.mono fun _ _ hx => hx).move' h.fr fun _ _ _ => trivial
end
end Go.Proofs.YteclgcnndjcmmaaDoor
namespace Go.Proofs.YteclgcnndjcmmaaDoor
open Go.RowKit Go.Maps
variable {G : Nat → Prop}

theorem DSt.up_well {s : DSt} (ha : s.arm = 0) : s.up = s := by simp [DSt.up, ha]
/-- Behind a Write. -/
def DSt.put (s : DSt) (i : Int) (xs : List UInt8) : DSt := { s with pen := upd s.pen i xs, np := (if (s.pen i).isSome then s.np else s.np + 1), calls := s.calls + 1 }
/-- Behind a Sync. -/
def DSt.sync (s : DSt) (n : Nat) : DSt := { s with syn := fun k => s.pen k <|> s.syn k, ns := n, pen := fun _ => none, np := 0, calls := s.calls + 1 }
def DSt.new (n : Int) : DSt := ⟨n, fun _ => none, 0, fun _ => none, 0, 0, 0, false⟩

theorem held_new {n : Int} (w : World) (h0 : 1 ≤ n) (h1 : n ≤ 16384) :
    Calls Tryd.prog 8 #[.int .i64 n] w fun e w' => ∃ B bs bp, e = .returned (.tuple #[.pointer (some ⟨B, 0, none⟩), .nilIface]) ∧ Held (fun _ => False) w w' B bs bp (.new n) := by
  refine (new_call w h0 h1).mono ?_
  rintro e w' ⟨B, bs, bp, rfl, a, b, c, d, f⟩
  exact ⟨B, bs, bp, rfl, d, a, b, c, f⟩

section
variable {w0 w : World} {B bs bp : Nat} {s : DSt}
theorem held_write (h : Held G w0 w B bs bp s) {S : Nat → Prop} {v : Value} {xs : List UInt8} {i : Int} (hv : Sl kByte S w v xs) (hS : ∀ x, S x → x < w.heap.size → x ≠ B) (ha : s.arm = 0) (hd : s.down = false) (h0 : 0 ≤ i) (h1 : i < s.blocks) (hb : s.blocks ≤ 16384) (hl : xs.length ≤ 256) (hn : s.np ≤ 100000) (hc0 : 0 ≤ s.calls) (hc : s.calls ≤ 1000000) :
    Calls Tryd.prog 45 #[.pointer (some ⟨B, 0, none⟩), .int .i64 i, v] w fun e w' => e = .returned .nilIface ∧ Held G w0 w' B bs bp (s.put i xs) ∧ Fr (Off B bs bp) w w' := by
  have hu := DSt.up_well ha
  refine (write_call h.dk hv hS (by omega) (by rw [hu]; exact hd) h0 h1 hb hl hn hc0 hc).mono ?_
  rintro e w' ⟨rfl, d, f⟩
  unfold DSt.wrote at d
  rw [hu] at d
  exact ⟨rfl, h.off f d, f⟩
theorem held_sync (h : Held G w0 w B bs bp s) (ha : s.arm = 0) (hd : s.down = false) (hn : s.ns + s.np ≤ 100000) (hc0 : 0 ≤ s.calls) (hc : s.calls ≤ 1000000) :
    Calls Tryd.prog 47 #[.pointer (some ⟨B, 0, none⟩)] w fun e w' => ∃ n', e = .returned .nilIface ∧ n' ≤ s.ns + s.np ∧ Held G w0 w' B bs bp (s.sync n') ∧ Fr (Off B bs bp) w w' := by
  have hu := DSt.up_well ha
  refine (sync_call h.dk (by omega) (by rw [hu]; exact hd) hn hc0 hc).mono ?_
  rintro e w' ⟨rfl, ⟨n', hn', d⟩, f⟩
  unfold DSt.synced at d
  rw [hu] at d
  exact ⟨n', rfl, hn', h.off f d, f⟩
theorem held_read (h : Held G w0 w B bs bp s) {i : Int} (hd : s.down = false) (h0 : 0 ≤ i) (h1 : i < s.blocks) (hb : s.blocks ≤ 16384) (hl : ∀ xs, s.get i = some xs → xs.length ≤ 1000000) :
    Calls Tryd.prog 44 #[.pointer (some ⟨B, 0, none⟩), .int .i64 i] w fun e w' => ∃ A n c xs, e = .returned (.tuple #[.slice A n c, .bool (s.get i).isSome, .nilIface]) ∧ xs = (s.get i).getD [] ∧ Own kByte 5 w.heap.size All w' (.slice A n c) xs ∧ Held G w0 w' B bs bp s ∧ Fr All w w' := by
  refine (read_call h.dk hd h0 h1 hb hl).mono ?_
  rintro e w' ⟨A, n, c, xs, rfl, hx, ho, f⟩
  exact ⟨A, n, c, xs, rfl, hx, ho, h.all f, f⟩
end

/-- A row of one byte, made new. -/
theorem byte_box (w : World) (b : UInt8) : Sl kByte (fun x => w.heap.size ≤ x) (w.alloc (.cells #[.int .u8 (b.toNat : Int)] 5)) (.slice (some ⟨w.heap.size, 0, none⟩) 1 1) [b] :=
  (Own.lay (d := kByte) (e := 5) (S := All) (w := w) (reps_plain [b]) (Nat.le_refl _) (by simp only [maxLen, List.length_singleton]; omega)).plain_in fun _ hb _ => hb

end Go.Proofs.YteclgcnndjcmmaaDoor
