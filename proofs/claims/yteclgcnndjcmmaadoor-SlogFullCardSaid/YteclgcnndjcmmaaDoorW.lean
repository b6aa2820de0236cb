/- Words for memory that this seat's proofs share: what a value's cells say in a world (read inside a set of blocks), what stays while other blocks change, rows of the call's own. -/
import Derived.WalkKit
import Derived.WalkSpells
import Derived.WalkLawsBesides
import Derived.Deep.Draws
import Derived.Deep.AppendLies
import Derived.Maps.AppendAt
import Derived.OwnWalk
import Derived.Lib.Hide
namespace Go.Proofs.YteclgcnndjcmmaaDoor
open Go.RowKit

/-! ### Frames -/
/-- All old blocks of S are as they were; the streams too. -/
structure Fr (S : Nat → Prop) (w w' : World) : Prop where
  os : w'.os = w.os
  tape : w'.tape = w.tape
  output : w'.output = w.output
  size : w.heap.size ≤ w'.heap.size
  block : ∀ b, b < w.heap.size → S b → w'.heap[b]? = w.heap[b]?

/-- Every block. -/
def All : Nat → Prop := fun _ => True
/-- Every block from B on. -/
def From (B : Nat) : Nat → Prop := fun b => B ≤ b
/-- Every block below B. -/
def Under (B : Nat) : Nat → Prop := fun b => b < B
/-- Every block but one. -/
def But (g : Option Nat) : Nat → Prop := fun b => some b ≠ g

theorem Fr.refl (S : Nat → Prop) (w : World) : Fr S w w := ⟨rfl, rfl, rfl, Nat.le_refl _, fun _ _ _ => rfl⟩
theorem Fr.mono {S T : Nat → Prop} {w w' : World} (h : Fr S w w') (hs : ∀ b, T b → S b) : Fr T w w' := ⟨h.os, h.tape, h.output, h.size, fun b hb ht => h.block b hb (hs b ht)⟩
theorem Fr.trans {S : Nat → Prop} {a b c : World} (h : Fr S a b) (k : Fr S b c) : Fr S a c :=
  ⟨k.os.trans h.os, k.tape.trans h.tape, k.output.trans h.output, Nat.le_trans h.size k.size, fun i hi hs => (k.block i (Nat.lt_of_lt_of_le hi h.size) hs).trans (h.block i hi hs)⟩
theorem Fr.below {B : Nat} {w w' : World} (h : Fr (Under B) w w') (hB : B ≤ w.heap.size) : Below B w w' := ⟨h.os, h.tape, h.output, h.size, fun k hk => h.block k (Nat.lt_of_lt_of_le hk hB) hk⟩
theorem Fr.all_below {w w' : World} (h : Fr All w w') : Below w.heap.size w w' := ⟨h.os, h.tape, h.output, h.size, fun k hk => h.block k hk trivial⟩
theorem Fr.of_below {B : Nat} {w w' : World} (h : Below B w w') : Fr (Under B) w w' := ⟨h.os, h.tape, h.output, h.size, fun b _ hb => h.block b hb⟩
theorem Fr.of_below_all {w w' : World} (h : Below w.heap.size w w') : Fr All w w' := ⟨h.os, h.tape, h.output, h.size, fun b hb _ => h.block b hb⟩
theorem Fr.of_grown {w w' : World} {row : Option Nat} (h : w.grownBy w' row) : Fr (But row) w w' := ⟨h.os, h.tape, h.output, h.size, fun b hb hs => h.block b hb hs⟩
theorem Fr.grown {w w' : World} {row : Option Nat} (h : Fr (But row) w w') : w.grownBy w' row := ⟨h.os, h.tape, h.output, h.size, fun b hb hs => h.block b hb hs⟩
theorem Fr.drew {S : Nat → Prop} {a w : World} (h : Fr S a w) : Fr S a w.drew := ⟨h.os, h.tape, h.output, h.size, h.block⟩
theorem Fr.drewN {S : Nat → Prop} {a w : World} (h : Fr S a w) (n : Nat) : Fr S a (w.drewN n) := ⟨h.os, h.tape, h.output, h.size, h.block⟩
theorem Fr.alloc {S : Nat → Prop} {a w : World} (h : Fr S a w) (o : Obj) : Fr S a (w.alloc o) :=
  h.trans ⟨rfl, rfl, rfl, by simp, fun b hb _ => Below.heap_alloc _ _ _ hb⟩
theorem Fr.setCell {S : Nat → Prop} {a w : World} (h : Fr S a w) {p : Addr} (hp : ∀ b, S b → b ≠ p.block) (u : Value) : Fr S a (w.setCell p u) :=
  h.trans ⟨rfl, rfl, rfl, by simp [World.setCell], fun b _ hs => Below.heap_setCell _ _ _ _ (hp b hs)⟩
/-- A store into a block that came later than the beginning. -/
theorem Fr.setNew {S : Nat → Prop} {a w : World} (h : Fr S a w) {p : Addr} (hp : a.heap.size ≤ p.block) (u : Value) : Fr S a (w.setCell p u) :=
  ⟨h.os, h.tape, h.output, by simpa [World.setCell] using h.size, fun b hb hs => (Below.heap_setCell _ _ _ _ (by omega)).trans (h.block b hb hs)⟩
/-- One row of the call's own has been written. -/
theorem Fr.row {S : Nat → Prop} {a w w' : World} (h : Fr S a w) {row : Option Nat} (hg : w.grownBy w' row) (hr : ∀ k, row = some k → a.heap.size ≤ k) : Fr S a w' :=
  ⟨hg.os.trans h.os, hg.tape.trans h.tape, hg.output.trans h.output, Nat.le_trans h.size hg.size, fun b hb hs => (hg.block b (Nat.lt_of_lt_of_le hb h.size) (fun e => by have := hr b e.symm; omega)).trans (h.block b hb hs)⟩
/-- A call that changed no old block. -/
theorem Fr.then_all {S : Nat → Prop} {a b c : World} (h : Fr S a b) (k : Fr All b c) : Fr S a c := h.trans (k.mono fun _ _ => trivial)
theorem Fr.cell {S : Nat → Prop} {w w' : World} (h : Fr S w w') {p : Addr} {v : Value} (hS : S p.block) (hc : w.cell? p = some v) : w'.cell? p = some v :=
  (World.cell?_of_block (h.block p.block (World.block_lt_of_cell? w p hc) hS)).trans hc

/-! ### Kinds: what the cells of a value say -/
/-- 'K S w x cs': the cells cs say x, in the world w, looking into blocks of S alone. -/
structure Kd (α : Type) where
  sz : Nat
  K : (Nat → Prop) → World → α → List Value → Prop
  pos : 0 < sz
  len : ∀ {S w x cs}, K S w x cs → cs.length = sz
  one : ∀ {S w x cs}, K S w x cs → ∀ u ∈ cs, u.oneCell' = true
  move : ∀ {S w w' x cs}, K S w x cs → Fr S w w' → K S w' x cs
  mono : ∀ {S T : Nat → Prop} {w x cs}, (∀ b, S b → b < w.heap.size → T b) → K S w x cs → K T w x cs

theorem Kd.move' {α : Type} (d : Kd α) {S T : Nat → Prop} {w w' : World} {x : α} {cs : List Value} (h : d.K S w x cs) (hf : Fr T w w') (hs : ∀ b, S b → b < w.heap.size → T b) : d.K S w' x cs := by
  have h1 : d.K (fun b => S b ∧ T b) w x cs := d.mono (fun b hb hl => ⟨hb, hs b hb hl⟩) h
  exact d.mono (fun b hb _ => hb.1) (d.move h1 (hf.mono fun b hb => hb.2))

/-- A plain value of one cell. -/
def Kd.plain {α : Type} (enc : α → Value) (h1 : ∀ x, (enc x).oneCell' = true) : Kd α where
  sz := 1
  K := fun _ _ x cs => cs = [enc x]
  pos := Nat.one_pos
  len := fun h => by rw [h]; rfl
  one := fun h u hu => by rw [h] at hu; rw [List.mem_singleton.1 hu]; exact h1 _
  move := fun h _ => h
  mono := fun _ h => h
def kInt : Kd Int := Kd.plain (Value.int .i64) fun _ => rfl
def kBool : Kd Bool := Kd.plain Value.bool fun _ => rfl
def kByte : Kd UInt8 := Kd.plain (fun b => Value.int .u8 (b.toNat : Int)) fun _ => rfl

/-! ### Slices that are read -/
/-- The value v is a slice of the elements xs. -/
def Sl {α : Type} (d : Kd α) (S : Nat → Prop) (w : World) (v : Value) (xs : List α) : Prop :=
  ∃ A c, v = .slice A xs.length c ∧ xs.length ≤ c ∧ c ≤ maxLen ∧ (0 < xs.length → ∃ b o : Nat, A = some ⟨b, o, none⟩ ∧ S b ∧
    ∀ i x, xs[i]? = some x → ∃ cs, d.K S w x cs ∧ ∀ j u, cs[j]? = some u → w.cell? ⟨b, o + i * d.sz + j, none⟩ = some u)

section
variable {α : Type} {d : Kd α} {S T : Nat → Prop} {w w' : World} {v : Value} {xs : List α}
theorem addr_add_block (a : Addr) (n : Nat) : (a.add n).block = a.block := by unfold Addr.add; split <;> rfl
theorem addr_lit (b o n : Nat) : (⟨b, o, none⟩ : Addr).add n = ⟨b, o + n, none⟩ := by unfold Addr.add; split <;> simp_all

theorem Sl.move (h : Sl d S w v xs) (hf : Fr S w w') : Sl d S w' v xs := by
  obtain ⟨A, c, rfl, hc, hm, hx⟩ := h
  refine ⟨A, c, rfl, hc, hm, fun h0 => ?_⟩
  obtain ⟨b, o, rfl, hS, hr⟩ := hx h0
  refine ⟨b, o, rfl, hS, fun i x hi => ?_⟩
  obtain ⟨cs, hk, hcell⟩ := hr i x hi
  exact ⟨cs, d.move hk hf, fun j u hu => hf.cell (p := ⟨b, o + i * d.sz + j, none⟩) hS (hcell j u hu)⟩
theorem Sl.mono (h : Sl d S w v xs) (hs : ∀ b, S b → b < w.heap.size → T b) : Sl d T w v xs := by
  obtain ⟨A, c, rfl, hc, hm, hx⟩ := h
  refine ⟨A, c, rfl, hc, hm, fun h0 => ?_⟩
  obtain ⟨b, o, rfl, hS, hr⟩ := hx h0
  have hlt : b < w.heap.size := by
    obtain ⟨cs, hk, hcell⟩ := hr 0 xs[0] (List.getElem?_eq_getElem h0)
    have hl := d.len hk
    have hp := d.pos
    exact World.block_lt_of_cell? w _ (hcell 0 cs[0] (List.getElem?_eq_getElem (by omega)))
  refine ⟨b, o, rfl, hs _ hS hlt, fun i x hi => ?_⟩
  obtain ⟨cs, hk, hcell⟩ := hr i x hi
  exact ⟨cs, d.mono hs hk, hcell⟩
theorem Sl.move' (h : Sl d S w v xs) (hf : Fr T w w') (hs : ∀ b, S b → b < w.heap.size → T b) : Sl d S w' v xs := by
  have h1 : Sl d (fun b => S b ∧ T b) w v xs := h.mono (fun b hb hl => ⟨hb, hs b hb hl⟩)
  exact (h1.move (hf.mono fun b hb => hb.2)).mono fun b hb _ => hb.1
theorem Sl.all (h : Sl d S w v xs) (hf : Fr All w w') : Sl d S w' v xs := h.move' hf fun _ _ _ => trivial
theorem Sl.nil_ (d : Kd α) (S : Nat → Prop) (w : World) : Sl d S w (.slice none 0 0) [] := ⟨none, 0, rfl, Nat.le_refl _, Nat.zero_le _, fun h => absurd h (by simp)⟩
theorem Sl.empty_ (d : Kd α) (S : Nat → Prop) (w : World) (A : Option Addr) (c : Nat) (hc : c ≤ maxLen) : Sl d S w (.slice A 0 c) [] := ⟨A, c, rfl, Nat.zero_le _, hc, fun h => absurd h (by simp)⟩
end

/-- A slice, as a kind of one cell. -/
def kSl {α : Type} (d : Kd α) : Kd (List α) where
  sz := 1
  K := fun S w xs cs => ∃ v, cs = [v] ∧ Sl d S w v xs
  pos := Nat.one_pos
  len := fun h => by obtain ⟨_, rfl, _⟩ := h; rfl
  one := fun h u hu => by
    obtain ⟨_, rfl, A, c, rfl, _⟩ := h
    rw [List.mem_singleton.1 hu]
    rfl
  move := fun h hf => by obtain ⟨v, rfl, h⟩ := h; exact ⟨v, rfl, h.move hf⟩
  mono := fun hs h => by obtain ⟨v, rfl, h⟩ := h; exact ⟨v, rfl, h.mono hs⟩
def kBytes : Kd (List UInt8) := kSl kByte

/-- Two kinds beside each other. -/
def Kd.pair {α β : Type} (a : Kd α) (b : Kd β) : Kd (α × β) where
  sz := a.sz + b.sz
  K := fun S w x cs => ∃ c1 c2, cs = c1 ++ c2 ∧ a.K S w x.1 c1 ∧ b.K S w x.2 c2
  pos := by have := a.pos; omega
  len := fun h => by obtain ⟨c1, c2, rfl, h1, h2⟩ := h; rw [List.length_append, a.len h1, b.len h2]
  one := fun h u hu => by
    obtain ⟨c1, c2, rfl, h1, h2⟩ := h
    rcases List.mem_append.1 hu with hu | hu
    · exact a.one h1 u hu
    · exact b.one h2 u hu
  move := fun h hf => by obtain ⟨c1, c2, rfl, h1, h2⟩ := h; exact ⟨c1, c2, rfl, a.move h1 hf, b.move h2 hf⟩
  mono := fun hs h => by obtain ⟨c1, c2, rfl, h1, h2⟩ := h; exact ⟨c1, c2, rfl, a.mono hs h1, b.mono hs h2⟩
def Kd.iso {α β : Type} (d : Kd α) (f : β → α) : Kd β where
  sz := d.sz
  K := fun S w x cs => d.K S w (f x) cs
  pos := d.pos
  len := fun h => d.len h
  one := fun h => d.one h
  move := fun h hf => d.move h hf
  mono := fun hs h => d.mono hs h

/-! ### Elements, one behind the other -/
def Reps {α : Type} (d : Kd α) (S : Nat → Prop) (w : World) : List α → List Value → Prop
  | [], cs => cs = []
  | x :: xs, cs => ∃ c1 c2, cs = c1 ++ c2 ∧ d.K S w x c1 ∧ Reps d S w xs c2
section
variable {α : Type} {d : Kd α} {S T : Nat → Prop} {w w' : World}
theorem Reps.len : ∀ {xs : List α} {cs : List Value}, Reps d S w xs cs → cs.length = xs.length * d.sz
  | [], _, h => by rw [h]; simp
  | x :: xs, _, h => by
    obtain ⟨c1, c2, rfl, h1, h2⟩ := h
    rw [List.length_append, d.len h1, Reps.len h2, List.length_cons, Nat.add_mul]; omega
theorem Reps.one : ∀ {xs : List α} {cs : List Value}, Reps d S w xs cs → ∀ u ∈ cs, u.oneCell' = true
  | [], _, h, u, hu => by rw [h] at hu; simp at hu
  | x :: xs, _, h, u, hu => by
    obtain ⟨c1, c2, rfl, h1, h2⟩ := h
    rcases List.mem_append.1 hu with hu | hu
    · exact d.one h1 u hu
    · exact Reps.one h2 u hu
theorem Reps.move' : ∀ {xs : List α} {cs : List Value}, Reps d S w xs cs → Fr T w w' → (∀ b, S b → b < w.heap.size → T b) → Reps d S w' xs cs
  | [], _, h, _, _ => h
  | x :: xs, _, h, hf, hs => by
    obtain ⟨c1, c2, rfl, h1, h2⟩ := h
    exact ⟨c1, c2, rfl, d.move' h1 hf hs, Reps.move' h2 hf hs⟩
theorem Reps.mono : ∀ {xs : List α} {cs : List Value}, Reps d S w xs cs → (∀ b, S b → b < w.heap.size → T b) → Reps d T w xs cs
  | [], _, h, _ => h
  | x :: xs, _, h, hs => by
    obtain ⟨c1, c2, rfl, h1, h2⟩ := h
    exact ⟨c1, c2, rfl, d.mono hs h1, Reps.mono h2 hs⟩
theorem Reps.append : ∀ {xs ys : List α} {cs es : List Value}, Reps d S w xs cs → Reps d S w ys es → Reps d S w (xs ++ ys) (cs ++ es)
  | [], _, _, _, h, k => by rw [h]; exact k
  | x :: xs, _, _, _, h, k => by
    obtain ⟨c1, c2, rfl, h1, h2⟩ := h
    exact ⟨c1, _, by rw [List.append_assoc], h1, Reps.append h2 k⟩
theorem Reps.single {x : α} {cs : List Value} (h : d.K S w x cs) : Reps d S w [x] cs := ⟨cs, [], by simp, h, rfl⟩
theorem Reps.get : ∀ {xs : List α} {cs : List Value}, Reps d S w xs cs → ∀ {i : Nat} {x : α}, xs[i]? = some x → ∃ e, d.K S w x e ∧ ∀ j u, e[j]? = some u → cs[i * d.sz + j]? = some u
  | [], _, _, _, _, hi => by simp at hi
  | y :: xs, _, h, i, x, hi => by
    obtain ⟨c1, c2, rfl, h1, h2⟩ := h
    have hl := d.len h1
    cases i with
    | zero =>
      obtain rfl : y = x := by simpa using hi
      refine ⟨c1, h1, fun j u hu => ?_⟩
      have hj : j < c1.length := (List.getElem?_eq_some_iff.1 hu).1
      rw [Nat.zero_mul, Nat.zero_add, List.getElem?_append_left hj]; exact hu
    | succ i =>
      obtain ⟨e, he, hc⟩ := Reps.get h2 (i := i) (by simpa using hi)
      refine ⟨e, he, fun j u hu => ?_⟩
      rw [List.getElem?_append_right (by rw [hl, Nat.add_mul]; omega), show (i + 1) * d.sz + j - c1.length = i * d.sz + j by rw [hl, Nat.add_mul]; omega]
      exact hc j u hu
theorem Reps.take : ∀ {xs : List α} {cs : List Value}, Reps d S w xs cs → ∀ n, Reps d S w (xs.take n) (cs.take (n * d.sz))
  | [], _, h, n => by rw [h]; simp [Reps]
  | x :: xs, _, h, 0 => by simp [Reps]
  | x :: xs, _, h, n + 1 => by
    obtain ⟨c1, c2, rfl, h1, h2⟩ := h
    have hl := d.len h1
    refine ⟨c1, c2.take (n * d.sz), ?_, h1, Reps.take h2 n⟩
    rw [List.take_append, List.take_of_length_le (by rw [hl, Nat.add_mul]; omega), show (n + 1) * d.sz - c1.length = n * d.sz by rw [hl, Nat.add_mul]; omega]
theorem Reps.drop : ∀ {xs : List α} {cs : List Value}, Reps d S w xs cs → ∀ n, Reps d S w (xs.drop n) (cs.drop (n * d.sz))
  | [], _, h, n => by rw [h]; simp [Reps]
  | x :: xs, _, h, 0 => by simpa using h
  | x :: xs, _, h, n + 1 => by
    obtain ⟨c1, c2, rfl, h1, h2⟩ := h
    have hl := d.len h1
    have e : (c1 ++ c2).drop ((n + 1) * d.sz) = c2.drop (n * d.sz) := by
      rw [List.drop_append, List.drop_of_length_le (by rw [hl, Nat.add_mul]; omega), show (n + 1) * d.sz - c1.length = n * d.sz by rw [hl, Nat.add_mul]; omega]
      simp
    rw [e]
    exact Reps.drop h2 n
end

/-! ### Rows of the call's own -/
/-- v is a slice over a row of its own (or nil), from block 'base' on, whose elements read as xs; what they lead to lies in S, and not in that row. -/
def Own {α : Type} (d : Kd α) (e : TypeId) (base : Nat) (S : Nat → Prop) (w : World) (v : Value) (xs : List α) : Prop :=
  ∃ cs, w.ownsRow base e d.sz v xs.length cs ∧ Reps d (fun b => S b ∧ some b ≠ v.ownBlock) w xs cs

section
variable {α : Type} {d : Kd α} {e : TypeId} {base : Nat} {S T : Nat → Prop} {w w' : World} {v : Value} {xs : List α}
theorem own_lt (h : Own d e base S w v xs) : ∀ k, v.ownBlock = some k → base ≤ k ∧ k < w.heap.size := by
  obtain ⟨cs, h, _⟩ := h
  exact h.lt
theorem Own.nil_ (d : Kd α) (e : TypeId) (base : Nat) (S : Nat → Prop) (w : World) : Own d e base S w (.slice none 0 0) [] := ⟨[], World.ownsRow_nil _ _ _ _, rfl⟩
theorem Own.sl (h : Own d e base S w v xs) : Sl d (fun b => S b ∨ some b = v.ownBlock) w v xs := by
  obtain ⟨cs, ho, hr⟩ := h
  rcases ho.2 with ⟨rfl, h0⟩ | ⟨g, cap, cur, rfl, hb, hg, hn, hcm, hcs, ht⟩
  · obtain rfl := List.eq_nil_of_length_eq_zero h0
    exact Sl.nil_ _ _ _
  · refine ⟨_, cap, rfl, hn, hcm, fun h0 => ⟨g, 0, rfl, .inr rfl, fun i x hi => ?_⟩⟩
    obtain ⟨el, hk, hc⟩ := hr.get hi
    refine ⟨el, d.mono (fun b hb _ => .inl hb.1) hk, fun j u hu => ?_⟩
    have h1 := ho.cells (g := g) rfl _ _ (hc j u hu)
    rwa [addr_lit, ← Nat.add_assoc] at h1
theorem Own.move (h : Own d e base S w v xs) (hf : Fr T w w') (hs : ∀ b, S b → b < w.heap.size → T b) (hv : ∀ k, v.ownBlock = some k → T k) : Own d e base S w' v xs := by
  obtain ⟨cs, ho, hr⟩ := h
  refine ⟨cs, ?_, hr.move' hf fun b hb hl => hs b hb.1 hl⟩
  refine ⟨ho.1, ?_⟩
  rcases ho.2 with hn | ⟨g, cap, cur, rfl, hb, hgg, rest⟩
  · exact .inl hn
  · refine .inr ⟨g, cap, cur, rfl, hb, ?_, rest⟩
    rw [hf.block g (Array.getElem?_eq_some_iff.1 hgg).1 (hv g rfl)]
    exact hgg
theorem Own.all (h : Own d e base S w v xs) (hf : Fr All w w') : Own d e base S w' v xs := h.move hf (fun _ _ _ => trivial) fun _ _ => trivial
theorem Own.mono (h : Own d e base S w v xs) (hs : ∀ b, S b → b < w.heap.size → T b) : Own d e base T w v xs := by
  obtain ⟨cs, ho, hr⟩ := h
  exact ⟨cs, ho, hr.mono fun b hb hl => ⟨hs b hb.1 hl, hb.2⟩⟩
theorem Own.lower {base' : Nat} (h : Own d e base S w v xs) (hb : base' ≤ base) : Own d e base' S w v xs := by
  obtain ⟨cs, ho, hr⟩ := h
  refine ⟨cs, ⟨ho.1, ?_⟩, hr⟩
  rcases ho.2 with hn | ⟨g, cap, cur, hv, hg, rest⟩
  · exact .inl hn
  · exact .inr ⟨g, cap, cur, hv, by omega, rest⟩
end
/-! ### What is appended -/
/-- y is a slice whose cells say ys (it may lie anywhere); what they lead to lies in S. -/
def Src {α : Type} (d : Kd α) (S : Nat → Prop) (w : World) (y : Value) (ys : List α) : Prop :=
  ∃ A c news, y = .slice A ys.length c ∧ Reps d S w ys news ∧ (0 < ys.length → ∃ b o : Nat, A = some ⟨b, o, none⟩ ∧ ∀ j u, news[j]? = some u → w.cell? ⟨b, o + j, none⟩ = some u)
theorem reps_of {α : Type} {d : Kd α} {S : Nat → Prop} {w : World} {b : Nat} : ∀ (xs : List α) (o : Nat), (∀ i x, xs[i]? = some x → ∃ cs, d.K S w x cs ∧ ∀ j u, cs[j]? = some u → w.cell? ⟨b, o + i * d.sz + j, none⟩ = some u) →
    ∃ cs, Reps d S w xs cs ∧ ∀ j u, cs[j]? = some u → w.cell? ⟨b, o + j, none⟩ = some u
  | [], o, _ => ⟨[], rfl, fun j u hu => by simp at hu⟩
  | x :: xs, o, h => by
    obtain ⟨c1, h1, hc1⟩ := h 0 x rfl
    have hl := d.len h1
    obtain ⟨c2, h2, hc2⟩ := reps_of xs (o + d.sz) (fun i y hi => by
      obtain ⟨cs, hk, hc⟩ := h (i + 1) y (by simpa using hi)
      refine ⟨cs, hk, fun j u hu => ?_⟩
      rw [show o + d.sz + i * d.sz + j = o + (i + 1) * d.sz + j by rw [Nat.add_mul]; omega]
      exact hc j u hu)
    refine ⟨c1 ++ c2, ⟨c1, c2, rfl, h1, h2⟩, fun j u hu => ?_⟩
    by_cases hj : j < c1.length
    · rw [List.getElem?_append_left hj] at hu
      have := hc1 j u hu
      rwa [Nat.zero_mul, Nat.add_zero] at this
    · rw [List.getElem?_append_right (by omega)] at hu
      have := hc2 _ u hu
      rwa [hl, show o + d.sz + (j - d.sz) = o + j by omega] at this
section
variable {α : Type} {d : Kd α} {e : TypeId} {base : Nat} {S T : Nat → Prop} {w w' : World} {v y : Value} {xs ys : List α}
theorem Sl.src (h : Sl d S w y ys) : Src d S w y ys := by
  obtain ⟨A, c, rfl, hc, hm, hx⟩ := h
  by_cases h0 : 0 < ys.length
  · obtain ⟨b, o, rfl, hS, hr⟩ := hx h0
    obtain ⟨cs, hR, hcells⟩ := reps_of ys o hr
    exact ⟨_, c, cs, rfl, hR, fun _ => ⟨b, o, rfl, hcells⟩⟩
  · obtain rfl : ys = [] := List.eq_nil_of_length_eq_zero (by omega)
    exact ⟨A, c, [], rfl, rfl, fun h => absurd h (by simp)⟩
/-- One element, boxed just now. -/
theorem Src.box {x : α} {cs : List Value} (h : d.K S w x cs) (t : TypeId) (c : Nat) : Src d S (w.alloc (.cells cs.toArray t)) (.slice (some ⟨w.heap.size, 0, none⟩) 1 c) [x] :=
  ⟨_, c, cs, rfl, Reps.single (d.move' h ((Fr.refl All w).alloc _) fun _ _ _ => trivial), fun _ => ⟨w.heap.size, 0, rfl, fun j u hu => by have h1 := World.news_of_block (cs := cs.toArray) (t := t) (fr := (0, 0)) (heap_alloc_new w _) j u (by simpa using hu); rwa [addr_lit] at h1⟩⟩
theorem Src.mono (h : Src d S w y ys) (hs : ∀ b, S b → b < w.heap.size → T b) : Src d T w y ys := by
  obtain ⟨A, c, news, rfl, hr, hx⟩ := h
  exact ⟨A, c, news, rfl, hr.mono hs, hx⟩
theorem Src.sl (h : Src d S w y ys) : ∃ A c, y = .slice A ys.length c := by obtain ⟨A, c, _, rfl, _⟩ := h; exact ⟨A, c, rfl⟩

/-- append(v, y...): the run. -/
theorem run_app {P : Program} {t ty : TypeId} {z : Value} {bytes : Nat} (ht : P.underlying t = some (.slice e)) (hinfo : (P.info? e).map (fun i => (i.zero, i.size, i.bytes)) = some (some z, d.sz, bytes)) (hz : z.cells.size = d.sz) (hb0 : 0 < bytes)
    (HO : Own d e base S w v xs) (HY : Src d T w y ys) (hne : ∀ b, T b → b < w.heap.size → S b ∧ some b ≠ v.ownBlock) (hlen : (xs.length + ys.length) * bytes ≤ 140737488355328) (hbase : base ≤ w.heap.size) :
    ∃ v' w', (Builtin.append_ #[t, t] ty #[v, y]).run P w = .ok v' w' ∧ Own d e base S w' v' (xs ++ ys) ∧ Fr (But v.ownBlock) w w' ∧ (v'.ownBlock = v.ownBlock ∨ v'.ownBlock = some w.heap.size) := by
  obtain ⟨i0, hi, hzz⟩ := Option.map_eq_some_iff.1 hinfo
  simp only [Prod.mk.injEq] at hzz
  obtain ⟨hz0, hz1, hz2⟩ := hzz
  obtain ⟨cs, ho, hr⟩ := HO
  obtain ⟨A, c, news, rfl, hn, hx⟩ := HY
  have hnl := hn.len
  have hsmall : xs.length + ys.length ≤ maxLen := by
    have h1 : xs.length + ys.length ≤ 140737488355328 := Nat.le_trans (Nat.le_mul_of_pos_right _ hb0) hlen
    simp only [maxLen]; omega
  have key : ∃ v' w', (Builtin.append_ #[t, t] ty #[v, .slice A ys.length c]).run P w = .ok v' w' ∧ w'.ownsRow base e d.sz v' (xs.length + ys.length) (cs ++ news) ∧ w.grownBy w' v.ownBlock ∧ (v'.ownBlock = v.ownBlock ∨ v'.ownBlock = some w.heap.size) := by
    by_cases h0 : 0 < ys.length
    · obtain ⟨b, o, rfl, hcells⟩ := hx h0
      obtain ⟨v', w', h1, h2, h3, _, h5⟩ := run_append_own_at (P := P) w base t ty e i0 z d.sz bytes ht hi hz0 hz1 hz2 hz d.pos v xs.length cs ho ⟨b, o, none⟩ ys.length c news hnl (fun j u hu => by rw [addr_lit]; exact hcells j u hu) hn.one hsmall hlen hbase
      exact ⟨v', w', h1, h2, h3, h5⟩
    · have h0' : ys.length = 0 := by omega
      obtain rfl : news = [] := List.eq_nil_of_length_eq_zero (by rw [hnl, h0', Nat.zero_mul])
      rw [h0']
      simp only [Nat.add_zero, List.append_nil]
      cases A with
      | some ad =>
        obtain ⟨v', w', h1, h2, h3, _, h5⟩ := run_append_own_at (P := P) w base t ty e i0 z d.sz bytes ht hi hz0 hz1 hz2 hz d.pos v xs.length cs ho ad 0 c [] (by simp) (fun j u hu => by simp at hu) (fun u hu => by simp at hu) (by omega) (by rw [h0'] at hlen; exact hlen) hbase
        simp only [Nat.add_zero, List.append_nil] at h2
        exact ⟨v', w', h1, h2, h3, h5⟩
      | none =>
        refine ⟨v, w, ?_, ho, World.grownBy.refl w _, .inl rfl⟩
        rcases ho.2 with ⟨rfl, h1⟩ | ⟨g, cap, cur, rfl, _, _, hnc, _⟩
        · simp [Builtin.append_, run_underlying ht, sizeOf, typeInfo, hi, Builtin.lenOf, Builtin.firstCells]
        · simp [Builtin.append_, run_underlying ht, sizeOf, typeInfo, hi, Builtin.lenOf, Builtin.firstCells, hnc, storeCells]
  obtain ⟨v', w', h1, h2, h3, h5⟩ := key
  refine ⟨v', w', h1, ⟨cs ++ news, by rw [List.length_append]; exact h2, ?_⟩, Fr.of_grown h3, h5⟩
  have hne' : ∀ b, b < w.heap.size → some b ≠ v.ownBlock → some b ≠ v'.ownBlock := by
    intro b hb hv
    rcases h5 with h5 | h5
    · rw [h5]; exact hv
    · rw [h5]; intro hh; injection hh with hh; omega
  have m1 : Reps d (fun b => (S b ∧ some b ≠ v'.ownBlock) ∧ some b ≠ v.ownBlock) w xs cs := hr.mono fun b hb hl => ⟨⟨hb.1, hne' b hl hb.2⟩, hb.2⟩
  have m2 : Reps d (fun b => (S b ∧ some b ≠ v'.ownBlock) ∧ some b ≠ v.ownBlock) w ys news := hn.mono fun b hb hl => ⟨⟨(hne b hb hl).1, hne' b hl (hne b hb hl).2⟩, (hne b hb hl).2⟩
  exact ((Reps.append m1 m2).move' (Fr.of_grown h3) fun b hb _ => hb.2).mono fun b hb _ => hb.1
end

/-! ### An operation whose run is known: in a plain region, in one that draws -/
section
variable {P : Program} {ops : Array Oper} {rest : List Oper} {o : Oper} {a : Act} {w w' : World} {Q : Exit → Act → World → Prop}
theorem wp_run {K : Act → World → Prop} {v : Value} (hr : (execOp a.eval o).run P w = .ok (.value v) w') (h : K (a.put o.dst v) w') : o.wp P a w K Q := by
  unfold Oper.wp
  rw [hr]
  exact h
theorem wpList_run {v : Value} (hg : o.guard = none) (hr : (execOp a.eval o).run P w = .ok (.value v) w') (h : wpList P ops Q rest (a.put o.dst v) w') : wpList P ops Q (o :: rest) a w :=
  wpList_plain hg fun _ hK => wp_run hr (hK _ _ h)
theorem step_run {K : Act → World → Prop} {E : Prop} {v : Value} (hg : o.guard = none) (hr : (execOp a.eval o).run P w = .ok (.value v) w') (h : K (a.put o.dst v) w') : if Region.wanted o (yielded ops a.tmps) = true then Oper.wp P o a w K Q else E := by
  have hw : Region.wanted o (yielded ops a.tmps) = true := by simp [Region.wanted, hg]
  rw [if_pos hw]
  exact wp_run hr h
/-- The run of the builtin append. -/
theorem exec_app {s x : Operand} {t t' : TypeId} {v y v' : Value} (ho : o.op = .call { callee := .builtin .append, args := #[s, x], argTypes := #[t, t'] }) (hs : a.eval s = v) (hx : a.eval x = y)
    (hr : (Builtin.append_ #[t, t'] o.type #[v, y]).run P w = .ok v' w') : (execOp a.eval o).run P w = .ok (.value v') w' := by
  unfold execOp
  simp only [ho, resolve, invoke, builtin, Sem.run_bind, Sem.run_pure, Result.andThen_ok, List.map_toArray, List.map_cons, List.map_nil, hs, hx, hr]
end

section
variable {α : Type} {d : Kd α} {e : TypeId} {base : Nat} {S T : Nat → Prop} {v y : Value} {xs ys : List α} {P : Program} {ops : Array Oper} {rest : List Oper} {o : Oper} {a : Act} {w : World} {Q : Exit → Act → World → Prop}
/-- append(v, y...) in a plain region. -/
theorem wpList_app {s x : Operand} {t : TypeId} {z : Value} {bytes : Nat} (hg : o.guard = none) (ho : o.op = .call { callee := .builtin .append, args := #[s, x], argTypes := #[t, t] }) 
    (ht : P.underlying t = some (.slice e)) (hinfo : (P.info? e).map (fun i => (i.zero, i.size, i.bytes)) = some (some z, d.sz, bytes)) (hz : z.cells.size = d.sz) (hb0 : 0 < bytes)
    (HO : Own d e base S w v xs) (HY : Src d T w y ys) (hs : a.eval s = v) (hx : a.eval x = y) (hne : ∀ b, T b → b < w.heap.size → S b ∧ some b ≠ v.ownBlock) (hlen : (xs.length + ys.length) * bytes ≤ 140737488355328) (hbase : base ≤ w.heap.size)
    (h : ∀ v' w', Own d e base S w' v' (xs ++ ys) → Fr (But v.ownBlock) w w' → (v'.ownBlock = v.ownBlock ∨ v'.ownBlock = some w.heap.size) → wpList P ops Q rest (a.put o.dst v') w') : wpList P ops Q (o :: rest) a w := by
  obtain ⟨v', w', h1, h2, h3, h4⟩ := run_app (P := P) (ty := o.type) ht hinfo hz hb0 HO HY hne hlen hbase
  exact wpList_run hg (exec_app ho hs hx h1) (h v' w' h2 h3 h4)
theorem wp_app {s x : Operand} {t : TypeId} {z : Value} {bytes : Nat} {K : Act → World → Prop} (ho : o.op = .call { callee := .builtin .append, args := #[s, x], argTypes := #[t, t] })
    (ht : P.underlying t = some (.slice e)) (hinfo : (P.info? e).map (fun i => (i.zero, i.size, i.bytes)) = some (some z, d.sz, bytes)) (hz : z.cells.size = d.sz) (hb0 : 0 < bytes)
    (HO : Own d e base S w v xs) (HY : Src d T w y ys) (hs : a.eval s = v) (hx : a.eval x = y) (hne : ∀ b, T b → b < w.heap.size → S b ∧ some b ≠ v.ownBlock) (hlen : (xs.length + ys.length) * bytes ≤ 140737488355328) (hbase : base ≤ w.heap.size)
    (h : ∀ v' w', Own d e base S w' v' (xs ++ ys) → Fr (But v.ownBlock) w w' → (v'.ownBlock = v.ownBlock ∨ v'.ownBlock = some w.heap.size) → K (a.put o.dst v') w') : Oper.wp P o a w K Q := by
  obtain ⟨v', w', h1, h2, h3, h4⟩ := run_app (P := P) (ty := o.type) ht hinfo hz hb0 HO HY hne hlen hbase
  exact wp_run (exec_app ho hs hx h1) (h v' w' h2 h3 h4)
/-- At a step of a region that draws its order. -/
theorem step_of {K : Act → World → Prop} {E : Prop} (hg : o.guard = none) (h : Oper.wp P o a w K Q) : if Region.wanted o (yielded ops a.tmps) = true then Oper.wp P o a w K Q else E := by
  have hw : Region.wanted o (yielded ops a.tmps) = true := by simp [Region.wanted, hg]
  rw [if_pos hw]
  exact h
end
/-! ### Rows of plain elements: what they lead to is nothing -/
def Nowhere : Nat → Prop := fun _ => False
section
variable {α : Type} {enc : α → Value} {h1 : ∀ x, (enc x).oneCell' = true} {e : TypeId} {base : Nat} {S T : Nat → Prop} {w w' : World} {v y : Value} {xs ys : List α}
theorem Reps.any : ∀ {xs : List α} {cs : List Value}, Reps (Kd.plain enc h1) S w xs cs → Reps (Kd.plain enc h1) T w' xs cs
  | [], _, h => h
  | _ :: _, _, ⟨c1, c2, he, hk, hr⟩ => ⟨c1, c2, he, hk, Reps.any hr⟩
theorem Src.any (h : Src (Kd.plain enc h1) S w y ys) : Src (Kd.plain enc h1) T w y ys := by
  obtain ⟨A, c, news, rfl, hr, hx⟩ := h
  exact ⟨A, c, news, rfl, hr.any, hx⟩
theorem Own.any (h : Own (Kd.plain enc h1) e base S w v xs) : Own (Kd.plain enc h1) e base T w v xs := by
  obtain ⟨cs, ho, hr⟩ := h
  exact ⟨cs, ho, hr.any⟩
end
section
variable {α : Type} {d : Kd α} {e : TypeId} {base : Nat} {S : Nat → Prop} {w : World} {v : Value} {xs : List α}
/-- A row without elements, laid just now. -/
theorem Own.lay0 (d : Kd α) (e : TypeId) (base : Nat) (S : Nat → Prop) (w : World) (hb : base ≤ w.heap.size) : Own d e base S (w.alloc (.cells #[] e)) (.slice (some ⟨w.heap.size, 0, none⟩) 0 0) [] :=
  ⟨[], by have h := World.ownsRow_made (base := base) (e := e) (size := d.sz) w #[] 0 hb (Nat.zero_le _) (by simp); exact h, rfl⟩
/-- A row of some elements, laid just now. -/
theorem Own.lay {xs : List α} {cs : List Value} (h : Reps d S w xs cs) (hb : base ≤ w.heap.size) (hm : xs.length ≤ maxLen) : Own d e base S (w.alloc (.cells cs.toArray e)) (.slice (some ⟨w.heap.size, 0, none⟩) xs.length xs.length) xs := by
  refine ⟨cs, ?_, ?_⟩
  · have h1 := World.ownsRow_lit (base := base) (e := e) (size := d.sz) w cs.toArray xs.length hb hm (by simpa using h.len)
    simpa using h1
  · refine ((h.mono (T := fun b => S b ∧ some b ≠ some w.heap.size) fun b hb hl => ⟨hb, fun hh => by injection hh with hh; omega⟩).move' ((Fr.refl All w).alloc _) fun _ _ _ => trivial)
theorem Own.length (h : Own d e base S w v xs) : ∃ A c, v = .slice A xs.length c := by
  obtain ⟨cs, ho, _⟩ := h
  rcases ho.2 with ⟨rfl, h0⟩ | ⟨g, cap, cur, rfl, _⟩
  · exact ⟨none, 0, by rw [h0]⟩
  · exact ⟨_, cap, rfl⟩
end
/-! ### A block that is known whole -/
theorem blk_cells {w : World} {g : Nat} {cs : Array Value} {t : TypeId} (h : w.heap[g]? = some (.cells cs t (0, 0))) : (∀ j, w.cell? ⟨g, j, none⟩ = cs[j]?) ∧ ∀ j, w.frozen? ⟨g, j, none⟩ = false :=
  ⟨fun j => cell_of_row w g j cs t (0, 0) h, fun j => frozen_of_row w g j cs t h⟩
theorem blk_lt {w : World} {g : Nat} {o : Obj} (h : w.heap[g]? = some o) : g < w.heap.size := (Array.getElem?_eq_some_iff.1 h).1
section
variable {α : Type} {d : Kd α} {e : TypeId} {base : Nat} {S T : Nat → Prop} {w w' : World} {v : Value} {xs : List α}
/-- What is owned is read: whatever holds of its row and of what it leads to. -/
theorem Own.sl_in (h : Own d e base S w v xs) (h1 : ∀ b, S b → b < w.heap.size → T b) (h2 : ∀ b, base ≤ b → b < w.heap.size → T b) : Sl d T w v xs :=
  h.sl.mono fun b hb hl => by
    rcases hb with hb | hb
    · exact h1 b hb hl
    · exact h2 b (own_lt h b hb.symm).1 hl
end
section
variable {α : Type} {enc : α → Value} {h1 : ∀ x, (enc x).oneCell' = true} {e : TypeId} {base : Nat} {S T : Nat → Prop} {w w' : World} {v : Value} {xs : List α}
theorem Own.plain_in (h : Own (Kd.plain enc h1) e base S w v xs) (h2 : ∀ b, base ≤ b → b < w.heap.size → T b) : Sl (Kd.plain enc h1) T w v xs :=
  (h.any (T := Nowhere)).sl_in (fun _ hb _ => hb.elim) h2
end
theorem take_snoc {α : Type} {l : List α} {k : Nat} {x : α} (h : l[k]? = some x) : l.take (k + 1) = l.take k ++ [x] := by
  obtain ⟨hk, rfl⟩ := List.getElem?_eq_some_iff.1 h
  rw [List.take_succ_eq_append_getElem hk]
theorem get_of {α : Type} {l : List α} {k : Nat} (h : k < l.length) : ∃ x, l[k]? = some x ∧ x ∈ l := ⟨l[k], List.getElem?_eq_getElem h, List.getElem_mem h⟩
theorem Sl.open_ {α : Type} {d : Kd α} {S : Nat → Prop} {w : World} {v : Value} {xs : List α} (h : Sl d S w v xs) : ∃ A n c, v = .slice A n c ∧ xs.length = n ∧ n ≤ c ∧ c ≤ maxLen := by
  obtain ⟨A, c, rfl, h1, h2, _⟩ := h
  exact ⟨A, _, c, rfl, rfl, h1, h2⟩
theorem take_eq_of {α : Type} {xs ys : List α} {n k : Nat} (hx : xs.length = n) (hy : ys.length = n) (hk : n ≤ k) (h : xs.take k = ys.take k) : xs = ys := by
  rwa [List.take_of_length_le (by omega), List.take_of_length_le (by omega)] at h
/-- Old cells read as before: two rules for the walk. -/
theorem Fr.keep {w w' : World} (h : Fr All w w') : (∀ b o, b < w.heap.size → w'.cell? ⟨b, o, none⟩ = w.cell? ⟨b, o, none⟩) ∧ ∀ b o, b < w.heap.size → w'.frozen? ⟨b, o, none⟩ = w.frozen? ⟨b, o, none⟩ :=
  ⟨fun b o hb => World.cell?_of_block (a := ⟨b, o, none⟩) (h.block b hb trivial), fun b o hb => World.frozen?_of_block (a := ⟨b, o, none⟩) (h.block b hb trivial)⟩
theorem ret_bool {a b : Bool} (h : a = b) : Ending.returned (.bool a) = .returned (.bool b) := by rw [h]
theorem ret_int {k : IntKind} {a b : Int} (h : a = b) : Ending.returned (.int k a) = .returned (.int k b) := by rw [h]
/-! ### The cells of a block that is known whole, one by one -/
theorem blk1 {w : World} {g : Nat} {a0 : Value} {t : TypeId} (h : w.heap[g]? = some (.cells #[a0] t (0, 0))) : w.cell? ⟨g, 0, none⟩ = some a0 ∧ ∀ j, w.frozen? ⟨g, j, none⟩ = false :=
  ⟨(cell_of_row w g 0 _ t (0, 0) h).trans rfl, fun j => frozen_of_row w g j _ t h⟩
theorem blk2 {w : World} {g : Nat} {a0 a1 : Value} {t : TypeId} (h : w.heap[g]? = some (.cells #[a0, a1] t (0, 0))) : w.cell? ⟨g, 0, none⟩ = some a0 ∧ w.cell? ⟨g, 1, none⟩ = some a1 ∧ ∀ j, w.frozen? ⟨g, j, none⟩ = false :=
  ⟨(cell_of_row w g 0 _ t (0, 0) h).trans rfl, (cell_of_row w g 1 _ t (0, 0) h).trans rfl, fun j => frozen_of_row w g j _ t h⟩
theorem blk3 {w : World} {g : Nat} {a0 a1 a2 : Value} {t : TypeId} (h : w.heap[g]? = some (.cells #[a0, a1, a2] t (0, 0))) : w.cell? ⟨g, 0, none⟩ = some a0 ∧ w.cell? ⟨g, 1, none⟩ = some a1 ∧ w.cell? ⟨g, 2, none⟩ = some a2 ∧ ∀ j, w.frozen? ⟨g, j, none⟩ = false :=
  ⟨(cell_of_row w g 0 _ t (0, 0) h).trans rfl, (cell_of_row w g 1 _ t (0, 0) h).trans rfl, (cell_of_row w g 2 _ t (0, 0) h).trans rfl, fun j => frozen_of_row w g j _ t h⟩
theorem blk4 {w : World} {g : Nat} {a0 a1 a2 a3 : Value} {t : TypeId} (h : w.heap[g]? = some (.cells #[a0, a1, a2, a3] t (0, 0))) : w.cell? ⟨g, 0, none⟩ = some a0 ∧ w.cell? ⟨g, 1, none⟩ = some a1 ∧ w.cell? ⟨g, 2, none⟩ = some a2 ∧ w.cell? ⟨g, 3, none⟩ = some a3 ∧ ∀ j, w.frozen? ⟨g, j, none⟩ = false :=
  ⟨(cell_of_row w g 0 _ t (0, 0) h).trans rfl, (cell_of_row w g 1 _ t (0, 0) h).trans rfl, (cell_of_row w g 2 _ t (0, 0) h).trans rfl, (cell_of_row w g 3 _ t (0, 0) h).trans rfl, fun j => frozen_of_row w g j _ t h⟩
theorem blk5 {w : World} {g : Nat} {a0 a1 a2 a3 a4 : Value} {t : TypeId} (h : w.heap[g]? = some (.cells #[a0, a1, a2, a3, a4] t (0, 0))) : w.cell? ⟨g, 0, none⟩ = some a0 ∧ w.cell? ⟨g, 1, none⟩ = some a1 ∧ w.cell? ⟨g, 2, none⟩ = some a2 ∧ w.cell? ⟨g, 3, none⟩ = some a3 ∧ w.cell? ⟨g, 4, none⟩ = some a4 ∧ ∀ j, w.frozen? ⟨g, j, none⟩ = false :=
  ⟨(cell_of_row w g 0 _ t (0, 0) h).trans rfl, (cell_of_row w g 1 _ t (0, 0) h).trans rfl, (cell_of_row w g 2 _ t (0, 0) h).trans rfl, (cell_of_row w g 3 _ t (0, 0) h).trans rfl, (cell_of_row w g 4 _ t (0, 0) h).trans rfl, fun j => frozen_of_row w g j _ t h⟩
theorem blk6 {w : World} {g : Nat} {a0 a1 a2 a3 a4 a5 : Value} {t : TypeId} (h : w.heap[g]? = some (.cells #[a0, a1, a2, a3, a4, a5] t (0, 0))) : w.cell? ⟨g, 0, none⟩ = some a0 ∧ w.cell? ⟨g, 1, none⟩ = some a1 ∧ w.cell? ⟨g, 2, none⟩ = some a2 ∧ w.cell? ⟨g, 3, none⟩ = some a3 ∧ w.cell? ⟨g, 4, none⟩ = some a4 ∧ w.cell? ⟨g, 5, none⟩ = some a5 ∧ ∀ j, w.frozen? ⟨g, j, none⟩ = false :=
  ⟨(cell_of_row w g 0 _ t (0, 0) h).trans rfl, (cell_of_row w g 1 _ t (0, 0) h).trans rfl, (cell_of_row w g 2 _ t (0, 0) h).trans rfl, (cell_of_row w g 3 _ t (0, 0) h).trans rfl, (cell_of_row w g 4 _ t (0, 0) h).trans rfl, (cell_of_row w g 5 _ t (0, 0) h).trans rfl, fun j => frozen_of_row w g j _ t h⟩
theorem blk7 {w : World} {g : Nat} {a0 a1 a2 a3 a4 a5 a6 : Value} {t : TypeId} (h : w.heap[g]? = some (.cells #[a0, a1, a2, a3, a4, a5, a6] t (0, 0))) : w.cell? ⟨g, 0, none⟩ = some a0 ∧ w.cell? ⟨g, 1, none⟩ = some a1 ∧ w.cell? ⟨g, 2, none⟩ = some a2 ∧ w.cell? ⟨g, 3, none⟩ = some a3 ∧ w.cell? ⟨g, 4, none⟩ = some a4 ∧ w.cell? ⟨g, 5, none⟩ = some a5 ∧ w.cell? ⟨g, 6, none⟩ = some a6 ∧ ∀ j, w.frozen? ⟨g, j, none⟩ = false :=
  ⟨(cell_of_row w g 0 _ t (0, 0) h).trans rfl, (cell_of_row w g 1 _ t (0, 0) h).trans rfl, (cell_of_row w g 2 _ t (0, 0) h).trans rfl, (cell_of_row w g 3 _ t (0, 0) h).trans rfl, (cell_of_row w g 4 _ t (0, 0) h).trans rfl, (cell_of_row w g 5 _ t (0, 0) h).trans rfl, (cell_of_row w g 6 _ t (0, 0) h).trans rfl, fun j => frozen_of_row w g j _ t h⟩
theorem blk10 {w : World} {g : Nat} {a0 a1 a2 a3 a4 a5 a6 a7 a8 a9 : Value} {t : TypeId} (h : w.heap[g]? = some (.cells #[a0, a1, a2, a3, a4, a5, a6, a7, a8, a9] t (0, 0))) : w.cell? ⟨g, 0, none⟩ = some a0 ∧ w.cell? ⟨g, 1, none⟩ = some a1 ∧ w.cell? ⟨g, 2, none⟩ = some a2 ∧ w.cell? ⟨g, 3, none⟩ = some a3 ∧ w.cell? ⟨g, 4, none⟩ = some a4 ∧ w.cell? ⟨g, 5, none⟩ = some a5 ∧ w.cell? ⟨g, 6, none⟩ = some a6 ∧ w.cell? ⟨g, 7, none⟩ = some a7 ∧ w.cell? ⟨g, 8, none⟩ = some a8 ∧ w.cell? ⟨g, 9, none⟩ = some a9 ∧ ∀ j, w.frozen? ⟨g, j, none⟩ = false :=
  ⟨(cell_of_row w g 0 _ t (0, 0) h).trans rfl, (cell_of_row w g 1 _ t (0, 0) h).trans rfl, (cell_of_row w g 2 _ t (0, 0) h).trans rfl, (cell_of_row w g 3 _ t (0, 0) h).trans rfl, (cell_of_row w g 4 _ t (0, 0) h).trans rfl, (cell_of_row w g 5 _ t (0, 0) h).trans rfl, (cell_of_row w g 6 _ t (0, 0) h).trans rfl, (cell_of_row w g 7 _ t (0, 0) h).trans rfl, (cell_of_row w g 8 _ t (0, 0) h).trans rfl, (cell_of_row w g 9 _ t (0, 0) h).trans rfl, fun j => frozen_of_row w g j _ t h⟩
theorem heap_a3 (w : World) (A B C : Obj) : (((w.alloc A).alloc B).alloc C).heap[w.heap.size]? = some A ∧ (((w.alloc A).alloc B).alloc C).heap[w.heap.size + 1]? = some B ∧ (((w.alloc A).alloc B).alloc C).heap[w.heap.size + 1 + 1]? = some C :=
  ⟨(Below.heap_alloc _ _ _ (by simp; omega)).trans (heap_alloc2_old _ _ _), (Below.heap_alloc _ _ _ (by simp)).trans (heap_alloc2_new _ _ _), by have h := heap_alloc2_new (w.alloc A) B C; rwa [World.size_alloc] at h⟩
section
variable {α : Type} {d : Kd α} {e : TypeId} {base B : Nat} {S : Nat → Prop} {w w' : World} {v : Value} {xs : List α}
theorem Own.past (h : Own d e base (From base) w v xs) (hf : Fr (From B) w w') (hB : B ≤ base) : Own d e base (From base) w' v xs :=
  h.move hf (fun _ hb _ => Nat.le_trans hB hb) fun k hk => Nat.le_trans hB (own_lt h k hk).1
theorem Own.widen (h : Own d e base (From base) w v xs) (hB : B ≤ base) : Own d e B (From B) w v xs :=
  (h.mono fun _ hb _ => Nat.le_trans hB hb).lower hB
end
/-- The world at hand under a name. -/
theorem Own.take {α : Type} {d : Kd α} {e : TypeId} {base : Nat} {S : Nat → Prop} {w : World} {A : Option Addr} {n c i : Nat} {xs : List α} (h : Own d e base S w (.slice A n c) xs) (hi : i ≤ n) : Own d e base S w (.slice A i c) (xs.take i) := by
  obtain ⟨cs, ho, hr⟩ := h
  have hr' : Reps d (fun b => S b ∧ some b ≠ (Value.slice A i c).ownBlock) w (xs.take i) (cs.take (i * d.sz)) := (hr.mono (fun b hb _ => by cases A <;> exact hb)).take i
  refine ⟨_, ⟨hr'.len, ?_⟩, hr'⟩
  rcases ho.2 with ⟨he, h0⟩ | ⟨g, cap, cur, he, hb, hg, h1, h2, h3, h4⟩
  · injection he with ha hn hc
    subst ha hn hc
    obtain rfl : i = 0 := by omega
    exact .inl ⟨rfl, by simp⟩
  · injection he with ha hn hc
    subst ha hc
    have hl : (xs.take i).length = i := by rw [List.length_take]; omega
    refine .inr ⟨g, c, cur, by rw [hl], hb, hg, by rw [hl]; omega, h2, h3, ?_⟩
    rw [hl, ← h4, List.take_take]
    congr 1
    have := Nat.mul_le_mul_right d.sz (show i ≤ xs.length by omega)
    omega
theorem Sl.len {α : Type} {d : Kd α} {S : Nat → Prop} {w : World} {A : Option Addr} {n c : Nat} {xs : List α} (h : Sl d S w (.slice A n c) xs) : xs.length = n := by
  obtain ⟨A', n', c', he, h1, _⟩ := h.open_
  injection he with _ h2 _
  omega
theorem wp_name {P : Program} {c : Code} {Q : Exit → Act → World → Prop} {a : Act} {w : World} (h : ∀ W, W = w → c.wp P Q a W) : c.wp P Q a w := h w rfl
end Go.Proofs.YteclgcnndjcmmaaDoor
