/- redo.From: a record read. -/
import Derived.Test.YtoaamcpiljoojaaDoorReader2
namespace Go.Proofs.YtoaamcpiljoojaaDoor
open Go.RowKit

theorem Fr.thenNew {S : Nat → Prop} {w a b : World} {T : Nat} (f : Fr S w a) (g : Fr (fun m => m ≠ T) a b) (hT : w.heap.size ≤ T) : Fr S w b :=
  ⟨g.os.trans f.os, g.tape.trans f.tape, g.output.trans f.output, Nat.le_trans f.size g.size, fun m hm hs => (g.block m (Nat.lt_of_lt_of_le hm f.size) (by omega)).trans (f.block m hm hs)⟩

/-- From's answer, number by number. -/
def FromTo (bs : List UInt8) (s : Nat × Option (Nat × Nat)) (x : Redo) (s' : Nat × Option (Nat × Nat)) : Prop :=
  ∃ s1 s2 s3 s4 s5 s6 s7 s8 s9 v8, stNum 1 1099511627776 bs s = (x.lsn, s1) ∧ stNum 0 1099511627776 bs s1 = (x.back, s2) ∧ stNum 0 1073741824 bs s2 = (x.epoch, s3) ∧ stNum 0 3 bs s3 = (x.group, s4) ∧ stNum 0 255 bs s4 = (x.page, s5) ∧ stNum 1 6 bs s5 = (x.kind, s6) ∧ stNum 0 32768 bs s6 = (x.slot, s7) ∧
    stNum 0 1 bs s7 = (v8, s8) ∧ x.last = decide (v8 = 1) ∧ stBytes 32 bs s8 = (x.key, s9) ∧ stBytes 64 bs s9 = (x.val, s')

section
variable {w0 : World} {qs : List Addr} {R n c pos p0 : Nat} {bs : List UInt8} {A : Option Addr} {w w1 w2 : World} {er e0 : Option (Nat × Nat)} {ev v0 : Value}
theorem Rd.beside {T : Nat} {z : Int} (h0 : Rd w0 qs R bs A n c w p0 e0 v0) (h : Rd w0 qs R bs A n c w1 pos er ev) (f : Fr (fun b => b ≠ R) w w1) (hT : w.heap.size ≤ T) (c1 : w1.cell? ⟨T, 1, none⟩ = some (.int .i64 z)) (g : Fr (fun b => b ≠ T) w1 w2) :
    Rd w0 qs R bs A n c w2 pos er ev ∧ Fr (fun b => b ≠ R) w w2 := by
  have hRT : R ≠ T := by have := h0.lt; omega
  have f2 := f.thenNew g hT
  refine ⟨⟨h.errs, h.fr.thenNew g (Nat.le_trans h0.fr.size hT), h.new, Nat.lt_of_lt_of_le h.lt g.size, g.cell (p := ⟨R, 0, none⟩) hRT h.k0, g.cell (p := ⟨R, 1, none⟩) hRT h.k1, g.cell (p := ⟨R, 2, none⟩) hRT h.k2, fun j => (World.frozen?_of_block (a := ⟨R, j, none⟩) (g.block R h.lt hRT)).trans (h.kz j), h0.sl.move f2, h.small, h.pos_le, ?_⟩, f2⟩
  have he := h.err
  cases er with
  | none => exact he
  | some x =>
    obtain ⟨a, b, h1, h2, h3, h4, h5, h6⟩ := he
    have hb : b ≠ T := by
      rintro rfl
      rw [h6] at c1
      cases c1
    exact ⟨a, b, h1, h2, Nat.lt_of_lt_of_le h3 g.size, h4, g.cell (p := ⟨b, 0, none⟩) hb h5, g.cell (p := ⟨b, 1, none⟩) hb h6⟩
theorem num_call' (h : Rd w0 qs R bs A n c w pos er ev) (low high : Int) :
    Calls Tryd.prog 92 #[.pointer (some ⟨R, 0, none⟩), .int .i64 low, .int .i64 high] w fun e w' => ∃ v p er' ev', e = .returned (.int .i64 v) ∧ Hid (stNum low high bs (pos, er) = (v, p, er')) ∧ Hid (Rd w0 qs R bs A n c w' p er' ev') ∧ Fr (fun b => b ≠ R) w w' :=
  (num_call h low high).mono fun _ _ ⟨h1, ev', h2, h3⟩ => ⟨_, _, _, ev', h1, rfl, h2, h3⟩
theorem bytes_call' (h : Rd w0 qs R bs A n c w pos er ev) (most : Int) :
    Calls Tryd.prog 93 #[.pointer (some ⟨R, 0, none⟩), .int .i64 most] w fun e w' => ∃ A' m' c' zs p er' ev', e = .returned (.slice A' m' c') ∧ Hid (stBytes most bs (pos, er) = (zs, p, er')) ∧ Sl kByte (fun b => w.heap.size ≤ b) w' (.slice A' m' c') zs ∧ Hid (Rd w0 qs R bs A n c w' p er' ev') ∧ Fr (fun b => b ≠ R) w w' :=
  (bytes_call h most).mono fun _ _ ⟨A', m', c', h1, h4, ev', h2, h3⟩ => ⟨A', m', c', _, _, _, ev', h1, rfl, h4.plain_in fun _ hb _ => hb, h2, h3⟩

end
end Go.Proofs.YtoaamcpiljoojaaDoor
