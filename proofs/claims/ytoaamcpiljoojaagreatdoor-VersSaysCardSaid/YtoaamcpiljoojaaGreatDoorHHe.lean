/- A log that a walk made itself, no part of which lies in the guarded blocks. -/
import Derived.Test.YtoaamcpiljoojaaGreatDoorHHd
namespace Go.Proofs.YtoaamcpiljoojaaGreatDoor
open Go.RowKit

/-- The log at B, made behind the world w0; no block of X is its own, nor holds a part of its records. -/
structure HHe (X : Nat → Prop) (w0 w : World) (B : Nat) (s : HSt) : Prop where
  ex : ∃ lv sv, Hg (fun b => b ≠ B ∧ ¬ X b) w B lv sv s ∧ ∀ k, lv.ownBlock = some k → w0.heap.size ≤ k ∧ ¬ X k
  b0 : w0.heap.size ≤ B
  xB : ¬ X B
  xl : ∀ b, X b → b < w.heap.size
  fr : Fr All w0 w
section
variable {X : Nat → Prop} {w0 w w' w1 : World} {B : Nat} {s s' : HSt}
theorem HHe.all (h : HHe X w0 w B s) (f : Fr All w w') : HHe X w0 w' B s := by
  obtain ⟨lv, sv, h1, h2⟩ := h.ex
  exact ⟨⟨lv, sv, h1.all f, h2⟩, h.b0, h.xB, fun b hb => Nat.lt_of_lt_of_le (h.xl b hb) f.size, h.fr.trans f⟩
theorem HHd.guarded (h : HHd (fun _ => False) w0 w B s) (f : Fr All w w') : HHe (fun b => w.heap.size ≤ b ∧ b < w'.heap.size) w0 w' B s := by
  obtain ⟨lv, sv, h1, h2⟩ := h.ex
  have hl := h.lt
  have h3 := h1.mono (T := fun b => b ≠ B ∧ ¬ (w.heap.size ≤ b ∧ b < w'.heap.size)) (fun b hb hlt => ⟨hb, fun hh => by omega⟩) (fun b hb => hb.1)
  exact ⟨⟨lv, sv, h3.all f, fun k hk => ⟨(h2 k hk).1, fun hh => by have := (own_lt h1.row k hk).2; omega⟩⟩, h.b0, fun hh => by omega, fun b hb => hb.2, h.fr.trans f⟩
theorem HHe.next (h : HHe X w0 w B s) {lv sv : Value} (hlv : ∀ k, lv.ownBlock = some k → w0.heap.size ≤ k ∧ ¬ X k) (n : HNext (fun b => b ≠ B ∧ ¬ X b) w w' B lv sv s') (hl : B < w.heap.size) : HHe X w0 w' B s' ∧ Fr X w w' := by
  obtain ⟨lv', h1, f, h3⟩ := n.out
  have fX : Fr X w w' := f.mono fun b hb => ⟨fun e => h.xB (e ▸ hb), fun e => (hlv b e.symm).2 hb⟩
  have f0 : Fr All w0 w' := by
    have fw := h.fr
    exact ⟨f.os.trans fw.os, f.tape.trans fw.tape, f.output.trans fw.output, Nat.le_trans fw.size f.size, fun b hb _ => (f.block b (Nat.lt_of_lt_of_le hb fw.size) ⟨fun e => by have := h.b0; omega, fun e => by have := (hlv b e.symm).1; omega⟩).trans (fw.block b hb trivial)⟩
  refine ⟨⟨⟨lv', sv, h1.mono (fun b hb _ => ?_) (fun b hb => hb.1), fun k hk => ?_⟩, h.b0, h.xB, fun b hb => Nat.lt_of_lt_of_le (h.xl b hb) f.size, f0⟩, fX⟩
  · rcases hb with hb | hb
    · exact hb
    · exact ⟨by omega, fun hx => by have := h.xl b hx; omega⟩
  · rcases h3 with e | ⟨j, e, hj⟩
    · exact hlv k (by rw [← e]; exact hk)
    · rw [e] at hk
      obtain rfl := Option.some.inj hk
      have := h.fr.size
      exact ⟨by omega, fun hb => by have := h.xl j hb; omega⟩
/-- A new record. -/
theorem headd (h : HHe X w0 w B s) {r : Redo} {v0 v1 : Value} {S0 S1 : Nat → Prop} (k0 : Sl kByte S0 w v0 r.key) (k1 : Sl kByte S1 w v1 r.val) (hv : validIx r = none) (hg : r.group = s.group)
    (hd : deadS s.spans r.lsn r.epoch = false) (hn : isL s.l r.lsn = false) (hf : s.l.length < 16384) :
    Calls Tryz.prog 10 #[.pointer (some ⟨B, 0, none⟩), .agg #[.int .i64 r.lsn, .int .i64 r.back, .int .i64 r.epoch, .int .i64 r.group, .int .i64 r.page, .int .i64 r.kind, .int .i64 r.slot, v0, v1, .bool r.last]] w
      fun e w' => e = .returned (.tuple #[.bool true, .nilIface]) ∧ HHe X w0 w' B (s.add r) ∧ Fr X w w' := by
  obtain ⟨lv, sv, h1, h2⟩ := h.ex
  have hl := h1.lt
  refine (add_new h1 k0 k1 hv hg hd hn hf).mono ?_
  rintro e w' ⟨rfl, n⟩
  exact ⟨rfl, h.next h2 n hl⟩
end
end Go.Proofs.YtoaamcpiljoojaaGreatDoor
