/- A log as a walk reads it; New, Len, Top. -/
import Derived.Test.YtalidmlomfobdaaDoorHSt
import Derived.Test.YtalidmlomfobdaaDoorProg
import Derived.KernelRfl
import Derived.Outline
import Derived.Deep.QuietTactic
import Derived.BigQuiet
import Derived.Deep.Cut
namespace Go.Proofs.YtalidmlomfobdaaDoor
open Go.RowKit

def kSpan : Kd Span := (kInt.pair (kInt.pair kInt)).iso fun s => (s.epoch, s.lo, s.hi)
theorem kSpan_open {S : Nat → Prop} {w : World} {x : Span} {cs : List Value} (h : kSpan.K S w x cs) : cs = [.int .i64 x.epoch, .int .i64 x.lo, .int .i64 x.hi] := by
  obtain ⟨_, _, rfl, rfl, _, _, rfl, rfl, rfl⟩ := h
  rfl
theorem kSpan_mk {S : Nat → Prop} {w : World} {x : Span} : kSpan.K S w x [.int .i64 x.epoch, .int .i64 x.lo, .int .i64 x.hi] := ⟨[_], _, rfl, rfl, [_], _, rfl, rfl, rfl⟩
theorem span_at {S : Nat → Prop} {w : World} {A : Option Addr} {n c : Nat} {xs : List Span} (h : Sl kSpan S w (.slice A n c) xs) {k : Nat} {x : Span} (hi : xs[k]? = some x) :
    ∃ b o, A = some ⟨b, o, none⟩ ∧ w.cell? ⟨b, o + k * 3, none⟩ = some (.int .i64 x.epoch) ∧ w.cell? ⟨b, o + k * 3 + 1, none⟩ = some (.int .i64 x.lo) ∧ w.cell? ⟨b, o + k * 3 + 2, none⟩ = some (.int .i64 x.hi) := by
  obtain ⟨A', c', he, _, _, hx⟩ := h
  injection he with ha _ _
  subst ha
  have hk : k < xs.length := (List.getElem?_eq_some_iff.1 hi).1
  obtain ⟨b, o, rfl, _, hr⟩ := hx (by omega)
  obtain ⟨cs, hc, hcell⟩ := hr k x hi
  obtain rfl := kSpan_open hc
  exact ⟨b, o, rfl, hcell 0 _ rfl, hcell 1 _ rfl, hcell 2 _ rfl⟩

/-- A log: its block B, the slices lv of its records and sv of its spans. What these lead to lies in S. -/
structure Hg (S : Nat → Prop) (w : World) (B : Nat) (lv sv : Value) (s : HSt) : Prop where
  blk : w.heap[B]? = some (.cells #[.int .i64 s.group, lv, sv, .int .i64 s.cuts, .int .i64 s.scl, .bool s.known] 80 (0, 0))
  row : Own kRedo 34 0 S w lv s.l
  sp : Sl kSpan (fun b => S b ∧ some b ≠ lv.ownBlock) w sv s.spans
  nB : ∀ b, S b → b ≠ B
  rB : lv.ownBlock ≠ some B
  ok : HOk s
/-- What an act upon a log leaves. -/
def Off2 (B : Nat) (v : Value) : Nat → Prop := fun b => b ≠ B ∧ some b ≠ v.ownBlock
section
variable {S T : Nat → Prop} {w w' : World} {B : Nat} {lv sv : Value} {s : HSt}
theorem Hg.lt (h : Hg S w B lv sv s) : B < w.heap.size := blk_lt h.blk
theorem Hg.all (h : Hg S w B lv sv s) (f : Fr All w w') : Hg S w' B lv sv s :=
  ⟨(f.block B h.lt trivial).trans h.blk, h.row.all f, h.sp.all f, h.nB, h.rB, h.ok⟩
theorem Hg.mono (h : Hg S w B lv sv s) (hs : ∀ b, S b → b < w.heap.size → T b) (hT : ∀ b, T b → b ≠ B) : Hg T w B lv sv s :=
  ⟨h.blk, h.row.mono hs, h.sp.mono fun b hb hl => ⟨hs b hb.1 hl, hb.2⟩, hT, h.rB, h.ok⟩
/-- What turns is none of the log's. -/
theorem Hg.move (h : Hg S w B lv sv s) (f : Fr T w w') (h0 : T B) (h1 : ∀ k, lv.ownBlock = some k → T k) (h2 : ∀ b, S b → b < w.heap.size → T b) : Hg S w' B lv sv s :=
  ⟨(f.block B h.lt h0).trans h.blk, h.row.move f h2 h1, h.sp.move' f fun b hb hl => h2 b hb.1 hl, h.nB, h.rB, h.ok⟩
theorem Hg.few (h : Hg S w B lv sv s) : s.l.length ≤ 16384 := h.ok.few
theorem Hg.sl (h : Hg S w B lv sv s) : Sl kRedo (fun b => S b ∨ some b = lv.ownBlock) w lv s.l := h.row.sl
end

set_option maxRecDepth 100000 in
theorem hot_new (g : Int) (w : World) : Calls Tryd.prog 14 #[.int .i64 g] w fun e w' => e = .returned (.pointer (some ⟨w.heap.size, 0, none⟩)) ∧ Hg (fun b => w.heap.size < b) w' w.heap.size (.slice none 0 0) (.slice none 0 0) (.new g) ∧ Fr All w w' := by
  go_enter Tryd.func14, Tryd.ntmps14
  go_wp2_with fail
  go_ret
  exact ⟨rfl, ⟨heap_alloc_new w _, Own.nil_ _ _ _ _ _, Sl.nil_ _ _ _, fun b hb => by omega, by simp [Value.ownBlock], HOk.new g⟩, (Fr.refl All w).alloc _⟩

set_option maxRecDepth 100000 in
theorem hot_len {S : Nat → Prop} {w : World} {B : Nat} {lv sv : Value} {s : HSt} (h : Hg S w B lv sv s) : Calls Tryd.prog 21 #[.pointer (some ⟨B, 0, none⟩)] w fun e w' => e = .returned (.int .i64 (s.l.length : Int)) ∧ w' = w := by
  obtain ⟨A, c, rfl⟩ := h.row.length
  obtain ⟨p0, p1, p2, p3, p4, p5, pz⟩ := blk6 h.blk
  clear h
  go_enter Tryd.func21, Tryd.ntmps21
  go_wp2_with fail
  go_ret
  exact ⟨rfl, rfl⟩

def topL (l : List Redo) : Int := match l.getLast? with | none => 0 | some r => r.lsn
set_option maxRecDepth 100000 in
theorem hot_top {S : Nat → Prop} {w : World} {B : Nat} {lv sv : Value} {s : HSt} (h : Hg S w B lv sv s) : Calls Tryd.prog 23 #[.pointer (some ⟨B, 0, none⟩)] w fun e w' => e = .returned (.int .i64 (topL s.l)) ∧ Fr All w w' := by
  obtain ⟨A, c, rfl⟩ := h.row.length
  obtain ⟨p0, p1, p2, p3, p4, p5, pz⟩ := blk6 h.blk
  have hs := h.row.sl
  have hf := h.few
  generalize s.l = l at *
  obtain ⟨n, hn⟩ : ∃ n, l.length = n := ⟨_, rfl⟩
  rw [hn] at hs p1 hf
  have Hn := Lib.hid hn
  clear h hn
  rcases Nat.eq_zero_or_pos n with rfl | hpos
  · have hl : l = [] := List.eq_nil_of_length_eq_zero Hn.out
    subst hl
    clear hs
    go_enter Tryd.func23, Tryd.ntmps23
    go_wp2_with fail
    go_ret
    exact ⟨rfl, Fr.refl _ _⟩
  · obtain ⟨m, rfl⟩ : ∃ m, n = m + 1 := ⟨n - 1, by omega⟩
    obtain ⟨x, hx, _⟩ := get_of (l := l) (k := m) (by rw [Hn.out]; omega)
    obtain ⟨b, o, A0, n0, c0, A1, n1, c1, rfl, g0, _⟩ := redo_at hs hx
    have Hx := Lib.hid hx
    have hw : IntKind.i64.wrap (((m + 1 : Nat) : Int) - 1) = (m : Int) := by rw [IntKind.wrap_i64]; omega
    clear hs hx
    have ht : topL l = x.lsn := by
      have h1 : l.getLast? = some x := by
        rw [List.getLast?_eq_getElem?, Hn.out]
        exact Hx.out
      rw [topL, h1]
    rw [ht]
    have HT := Lib.hid ht
    clear ht
    go_enter Tryd.func23, Tryd.ntmps23
    go_wp2_with fail
    go_quiet (fail)
    go_wp2_with fail
    go_ret
    exact ⟨rfl, (Fr.refl _ _).drewN _⟩
end Go.Proofs.YtalidmlomfobdaaDoor
