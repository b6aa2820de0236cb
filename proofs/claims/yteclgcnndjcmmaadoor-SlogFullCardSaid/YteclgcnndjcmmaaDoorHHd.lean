/- A log that a walk made itself, and what else it must not touch. -/
import Derived.Test.YteclgcnndjcmmaaDoorHAdd
import Derived.Test.YteclgcnndjcmmaaDoorChain
namespace Go.Proofs.YteclgcnndjcmmaaDoor
open Go.RowKit

/-- The log at B, made behind the world w0; no block of X is its own. -/
structure HHd (X : Nat → Prop) (w0 w : World) (B : Nat) (s : HSt) : Prop where
  ex : ∃ lv sv, Hg (fun b => b ≠ B) w B lv sv s ∧ ∀ k, lv.ownBlock = some k → w0.heap.size ≤ k ∧ ¬ X k
  b0 : w0.heap.size ≤ B
  xB : ¬ X B
  xl : ∀ b, X b → b < w.heap.size
  fr : Fr All w0 w
section
variable {X : Nat → Prop} {w0 w w' w1 : World} {B : Nat} {s s' : HSt}
theorem HHd.lt (h : HHd X w0 w B s) : B < w.heap.size := by
  obtain ⟨lv, sv, h1, _⟩ := h.ex
  exact h1.lt
theorem HHd.ok (h : HHd X w0 w B s) : HOk s := by
  obtain ⟨lv, sv, h1, _⟩ := h.ex
  exact h1.ok
theorem HHd.all (h : HHd X w0 w B s) (f : Fr All w w') : HHd X w0 w' B s := by
  obtain ⟨lv, sv, h1, h2⟩ := h.ex
  exact ⟨⟨lv, sv, h1.all f, h2⟩, h.b0, h.xB, fun b hb => Nat.lt_of_lt_of_le (h.xl b hb) f.size, h.fr.trans f⟩
theorem HHd.mono {Y : Nat → Prop} (h : HHd X w0 w B s) (hy : ∀ b, Y b → X b) : HHd Y w0 w B s := by
  obtain ⟨lv, sv, h1, h2⟩ := h.ex
  exact ⟨⟨lv, sv, h1, fun k hk => ⟨(h2 k hk).1, fun hb => (h2 k hk).2 (hy k hb)⟩⟩, h.b0, fun hb => h.xB (hy B hb), fun b hb => h.xl b (hy b hb), h.fr⟩
/-- What came since is guarded, too. -/
theorem HHd.guard (h : HHd X w0 w B s) (f : Fr All w w') : HHd (fun b => X b ∨ (w.heap.size ≤ b ∧ b < w'.heap.size)) w0 w' B s := by
  have hl := h.lt
  obtain ⟨lv, sv, h1, h2⟩ := (h.all f).ex
  obtain ⟨lv0, sv0, g1, g2⟩ := h.ex
  have hlv : lv = lv0 ∧ sv = sv0 := by
    have e1 := h1.blk
    have e2 := (f.block B hl trivial).trans g1.blk
    rw [e1] at e2
    simp only [Option.some.injEq, Obj.cells.injEq, Array.mk.injEq, List.cons.injEq] at e2
    obtain ⟨⟨_, e3, e4, _⟩, _⟩ := e2
    exact ⟨e3, e4⟩
  obtain ⟨rfl, rfl⟩ := hlv
  refine ⟨⟨lv, sv, h1, fun k hk => ⟨(h2 k hk).1, fun hb => ?_⟩⟩, h.b0, fun hb => ?_, fun b hb => ?_, h.fr.trans f⟩
  · rcases hb with hb | hb
    · exact (h2 k hk).2 hb
    · have := (own_lt g1.row k hk).2
      omega
  · rcases hb with hb | hb
    · exact h.xB hb
    · omega
  · rcases hb with hb | hb
    · exact Nat.lt_of_lt_of_le (h.xl b hb) f.size
    · exact hb.2
/-- Behind an act of its own. -/
theorem HHd.next (h : HHd X w0 w B s) {lv sv : Value} (hlv : ∀ k, lv.ownBlock = some k → w0.heap.size ≤ k ∧ ¬ X k) (n : HNext (fun b => b ≠ B) w w' B lv sv s') : HHd X w0 w' B s' ∧ Fr X w w' := by
  have hl := h.lt
  obtain ⟨lv', h1, f, h3⟩ := n.out
  have fX : Fr X w w' := f.mono fun b hb => ⟨fun e => h.xB (e ▸ hb), fun e => (hlv b e.symm).2 hb⟩
  have f0 : Fr All w0 w' := by
    have fw := h.fr
    exact ⟨f.os.trans fw.os, f.tape.trans fw.tape, f.output.trans fw.output, Nat.le_trans fw.size f.size, fun b hb _ => (f.block b (Nat.lt_of_lt_of_le hb fw.size) ⟨fun e => by have := h.b0; omega, fun e => by have := (hlv b e.symm).1; omega⟩).trans (fw.block b hb trivial)⟩
  refine ⟨⟨⟨lv', sv, h1.mono (fun b hb _ => ?_) (fun b hb => hb), fun k hk => ?_⟩, h.b0, h.xB, fun b hb => Nat.lt_of_lt_of_le (h.xl b hb) f.size, f0⟩, fX⟩
  · rcases hb with hb | hb
    · exact hb
    · omega
  · rcases h3 with e | ⟨j, e, hj⟩
    · exact hlv k (by rw [← e]; exact hk)
    · rw [e] at hk
      obtain rfl := Option.some.inj hk
      have := h.fr.size
      exact ⟨by omega, fun hb => by have := h.xl j hb; omega⟩
end

theorem hnew (g : Int) (w : World) : Calls Tryd.prog 22 #[.int .i64 g] w fun e w' => e = .returned (.pointer (some ⟨w.heap.size, 0, none⟩)) ∧ HHd (fun _ => False) w w' w.heap.size (.new g) := by
  refine (hot_new g w).mono ?_
  rintro e w' ⟨rfl, h, f⟩
  exact ⟨rfl, ⟨⟨_, _, h.mono (fun b hb _ => by omega) (fun b hb => hb), fun k hk => by cases hk⟩, Nat.le_refl _, fun hb => hb, fun b hb => hb.elim, f⟩⟩

section
variable {X : Nat → Prop} {w0 w : World} {B : Nat} {s : HSt}
/-- A new record. -/
theorem hadd (h : HHd X w0 w B s) {r : Redo} {v0 v1 : Value} {S0 S1 : Nat → Prop} (k0 : Sl kByte S0 w v0 r.key) (k1 : Sl kByte S1 w v1 r.val) (hv : validIx r = none) (hg : r.group = s.group)
    (hd : deadS s.spans r.lsn r.epoch = false) (hn : isL s.l r.lsn = false) (hf : s.l.length < 16384) :
    Calls Tryd.prog 27 #[.pointer (some ⟨B, 0, none⟩), .agg #[.int .i64 r.lsn, .int .i64 r.back, .int .i64 r.epoch, .int .i64 r.group, .int .i64 r.page, .int .i64 r.kind, .int .i64 r.slot, v0, v1, .bool r.last]] w
      fun e w' => e = .returned (.tuple #[.bool true, .nilIface]) ∧ HHd X w0 w' B (s.add r) ∧ Fr X w w' := by
  obtain ⟨lv, sv, h1, h2⟩ := h.ex
  refine (add_new h1 k0 k1 hv hg hd hn hf).mono ?_
  rintro e w' ⟨rfl, n⟩
  exact ⟨rfl, h.next h2 n⟩
theorem hscl (h : HHd X w0 w B s) : Calls Tryd.prog 21 #[.pointer (some ⟨B, 0, none⟩)] w fun e w' => ∃ v, e = .returned (.int .i64 v) ∧ Climb s.l 0 v ∧ HHd X w0 w' B (s.knows v) ∧ Fr X w w' := by
  obtain ⟨lv, sv, h1, h2⟩ := h.ex
  refine (scl_call h1).mono ?_
  rintro e w' ⟨v, rfl, hc, h3, f⟩
  have fw := h.fr
  exact ⟨v, rfl, hc, ⟨⟨lv, sv, h3, h2⟩, h.b0, h.xB, fun b hb => Nat.lt_of_lt_of_le (h.xl b hb) f.size, ⟨f.os.trans fw.os, f.tape.trans fw.tape, f.output.trans fw.output, Nat.le_trans fw.size f.size, fun b hb _ => (f.block b (Nat.lt_of_lt_of_le hb fw.size) (fun e => by have := h.b0; omega)).trans (fw.block b hb trivial)⟩⟩, f.mono fun b hb e => h.xB (e ▸ hb)⟩
theorem hlen (h : HHd X w0 w B s) : Calls Tryd.prog 13 #[.pointer (some ⟨B, 0, none⟩)] w fun e w' => e = .returned (.int .i64 (s.l.length : Int)) ∧ w' = w := by
  obtain ⟨lv, sv, h1, _⟩ := h.ex
  exact hot_len h1
end
end Go.Proofs.YteclgcnndjcmmaaDoor
