/- The log of a copy, as plain Lean: its records, its spans, where a number stands, what follows what, what lacks. A log as a walk reads it; New, Len, Top. -/
import Derived.Test.YteclgcnndjcmmaaDoorVIx
import Derived.Test.YteclgcnndjcmmaaDoorProg
import Derived.KernelRfl
import Derived.Outline
import Derived.Deep.QuietTactic
import Derived.BigQuiet
import Derived.Deep.Cut
namespace Go.Proofs.YteclgcnndjcmmaaDoor
open Go.RowKit

structure Span where
  epoch : Int
  lo : Int
  hi : Int
  deriving DecidableEq
def hasS (s : Span) (n : Int) : Bool := decide (s.lo < n) && decide (n ≤ s.hi)
def deadS (sp : List Span) (n e : Int) : Bool := sp.any fun s => decide (s.epoch > e) && hasS s n

def Rise (l : List Redo) : Prop := l.Pairwise fun a b => a.lsn < b.lsn
theorem Rise.get {l : List Redo} (h : Rise l) {i j : Nat} {x y : Redo} (hx : l[i]? = some x) (hy : l[j]? = some y) (hij : i < j) : x.lsn < y.lsn := by
  obtain ⟨h1, rfl⟩ := List.getElem?_eq_some_iff.1 hx
  obtain ⟨h2, rfl⟩ := List.getElem?_eq_some_iff.1 hy
  exact (List.pairwise_iff_getElem.1 h) i j h1 h2 hij
theorem Rise.le {l : List Redo} (h : Rise l) {i j : Nat} {x y : Redo} (hx : l[i]? = some x) (hy : l[j]? = some y) (hij : i ≤ j) : x.lsn ≤ y.lsn := by
  rcases Nat.lt_or_eq_of_le hij with h1 | rfl
  · have := h.get hx hy h1; omega
  · obtain rfl := Option.some.inj (hx.symm.trans hy); omega
theorem Rise.inj {l : List Redo} (h : Rise l) {i j : Nat} {x y : Redo} (hx : l[i]? = some x) (hy : l[j]? = some y) (he : x.lsn = y.lsn) : i = j := by
  rcases Nat.lt_trichotomy i j with h1 | h1 | h1
  · have := h.get hx hy h1; omega
  · exact h1
  · have := h.get hy hx h1; omega
theorem Rise.mem {l : List Redo} (h : Rise l) {x y : Redo} (hx : x ∈ l) (hy : y ∈ l) (he : x.lsn = y.lsn) : x = y := by
  obtain ⟨i, hi⟩ := List.mem_iff_getElem?.1 hx
  obtain ⟨j, hj⟩ := List.mem_iff_getElem?.1 hy
  obtain rfl := h.inj hi hj he
  exact Option.some.inj (hi.symm.trans hj)

/-! ### The place of a number -/
structure IsPlace (l : List Redo) (n : Int) (k : Nat) : Prop where
  le : k ≤ l.length
  below : ∀ p x, l[p]? = some x → p < k → x.lsn < n
  above : ∀ p x, l[p]? = some x → k ≤ p → n ≤ x.lsn
def placeL (l : List Redo) (n : Int) : Nat := (l.takeWhile fun r => decide (r.lsn < n)).length
def isL (l : List Redo) (n : Int) : Bool := l.any fun r => r.lsn == n
theorem IsPlace.inj {l : List Redo} {n : Int} {k j : Nat} (h : IsPlace l n k) (g : IsPlace l n j) : k = j := by
  rcases Nat.lt_trichotomy k j with h1 | h1 | h1
  · obtain ⟨x, hx⟩ : ∃ x, l[k]? = some x := ⟨_, List.getElem?_eq_getElem (by have := g.le; omega)⟩
    have := h.above k x hx (Nat.le_refl _)
    have := g.below k x hx h1
    omega
  · exact h1
  · obtain ⟨x, hx⟩ : ∃ x, l[j]? = some x := ⟨_, List.getElem?_eq_getElem (by have := h.le; omega)⟩
    have := g.above j x hx (Nat.le_refl _)
    have := h.below j x hx h1
    omega
theorem place_is : ∀ {l : List Redo} (_ : Rise l) (n : Int), IsPlace l n (placeL l n)
  | [], _, n => ⟨Nat.zero_le _, fun p x h => by simp at h, fun p x h => by simp at h⟩
  | a :: l, h, n => by
    have h2 := List.pairwise_cons.1 h
    by_cases ha : a.lsn < n
    · have hp : placeL (a :: l) n = placeL l n + 1 := by simp [placeL, List.takeWhile_cons, ha]
      have ih := place_is h2.2 n
      rw [hp]
      refine ⟨by have := ih.le; simp only [List.length_cons]; omega, fun p x hx hlt => ?_, fun p x hx hle => ?_⟩
      · cases p with
        | zero => obtain rfl : a = x := by simpa using hx
                  exact ha
        | succ p => exact ih.below p x (by simpa using hx) (by omega)
      · cases p with
        | zero => omega
        | succ p => exact ih.above p x (by simpa using hx) (by omega)
    · have hp : placeL (a :: l) n = 0 := by simp [placeL, List.takeWhile_cons, ha]
      rw [hp]
      refine ⟨Nat.zero_le _, fun p x hx hlt => by omega, fun p x hx _ => ?_⟩
      cases p with
      | zero => obtain rfl : a = x := by simpa using hx
                omega
      | succ p =>
        have := h2.1 x (List.mem_of_getElem? (by simpa using hx : l[p]? = some x))
        omega
theorem isL_at {l : List Redo} {n : Int} {k : Nat} (hr : Rise l) (h : IsPlace l n k) : isL l n = true ↔ ∃ x, l[k]? = some x ∧ x.lsn = n := by
  rw [isL, List.any_eq_true]
  constructor
  · rintro ⟨x, hx, he⟩
    have he : x.lsn = n := by simpa using he
    obtain ⟨i, hi⟩ := List.mem_iff_getElem?.1 hx
    have h1 : k ≤ i := by
      rcases Nat.lt_or_ge i k with h1 | h1
      · have := h.below i x hi h1; omega
      · exact h1
    rcases Nat.lt_or_eq_of_le h1 with h2 | rfl
    · obtain ⟨y, hy⟩ : ∃ y, l[k]? = some y := ⟨_, List.getElem?_eq_getElem (by have := (List.getElem?_eq_some_iff.1 hi).1; omega)⟩
      have := h.above k y hy (Nat.le_refl _)
      have := hr.get hy hi h2
      omega
    · exact ⟨x, hi, he⟩
  · rintro ⟨x, hx, he⟩
    exact ⟨x, List.mem_of_getElem? hx, by simpa using he⟩
theorem isL_mem {l : List Redo} {n : Int} : isL l n = true ↔ ∃ x ∈ l, x.lsn = n := by
  rw [isL, List.any_eq_true]
  constructor
  · rintro ⟨x, hx, he⟩
    exact ⟨x, hx, by simpa using he⟩
  · rintro ⟨x, hx, he⟩
    exact ⟨x, hx, by simpa using he⟩
theorem isL_false {l : List Redo} {n : Int} : isL l n = false ↔ ∀ x ∈ l, x.lsn ≠ n := by
  rw [← Bool.not_eq_true, isL_mem]
  constructor
  · intro h x hx he
    exact h ⟨x, hx, he⟩
  · rintro h ⟨x, hx, he⟩
    exact h x hx he

/-- With one more record. -/
def lins (l : List Redo) (r : Redo) : List Redo := l.take (placeL l r.lsn) ++ r :: l.drop (placeL l r.lsn)
theorem lins_mem {l : List Redo} {r x : Redo} : x ∈ lins l r ↔ x = r ∨ x ∈ l := by
  unfold lins
  rw [List.mem_append, List.mem_cons]
  constructor
  · rintro (h | h | h)
    · exact .inr (List.mem_of_mem_take h)
    · exact .inl h
    · exact .inr (List.mem_of_mem_drop h)
  · rintro (h | h)
    · exact .inr (.inl h)
    · rw [← List.take_append_drop (placeL l r.lsn) l, List.mem_append] at h
      rcases h with h | h
      · exact .inl h
      · exact .inr (.inr h)
theorem lins_len (l : List Redo) (r : Redo) : (lins l r).length = l.length + 1 := by
  have h : (l.take (placeL l r.lsn)).length + (l.drop (placeL l r.lsn)).length = l.length := by
    rw [← List.length_append, List.take_append_drop]
  simp only [lins, List.length_append, List.length_cons]
  omega
theorem lins_rise {l : List Redo} {r : Redo} (h : Rise l) (hn : isL l r.lsn = false) : Rise (lins l r) := by
  have hp := place_is h r.lsn
  have hne := isL_false.1 hn
  unfold lins Rise
  rw [List.pairwise_append]
  refine ⟨h.sublist (List.take_sublist _ _), List.pairwise_cons.2 ⟨fun y hy => ?_, h.sublist (List.drop_sublist _ _)⟩, fun x hx y hy => ?_⟩
  · obtain ⟨i, hi⟩ := List.mem_iff_getElem?.1 hy
    rw [List.getElem?_drop] at hi
    have := hp.above _ y hi (by omega)
    have := hne y (List.mem_of_mem_drop hy)
    omega
  · obtain ⟨i, hi⟩ := List.mem_iff_getElem?.1 hx
    rw [List.getElem?_take] at hi
    split at hi
    · rename_i hlt
      have h1 := hp.below i x hi hlt
      rcases List.mem_cons.1 hy with rfl | hy
      · exact h1
      · obtain ⟨j, hj⟩ := List.mem_iff_getElem?.1 hy
        rw [List.getElem?_drop] at hj
        exact h.get hi hj (by omega)
    · cases hi

/-! ### What follows what -/
/-- The place of the record with this Back of the greatest epoch, of the first n. -/
def pickIx (l : List Redo) (a : Int) : Nat → Option Nat
  | 0 => none
  | i + 1 => match l[i]? with
    | none => pickIx l a i
    | some r => if r.back = a then (match pickIx l a i with
        | none => some i
        | some k => match l[k]? with
          | none => some i
          | some q => if r.epoch > q.epoch then some i else some k) else pickIx l a i
/-- What pickIx is. -/
def PickIs (l : List Redo) (a : Int) (n : Nat) : Option Nat → Prop
  | none => ∀ i x, l[i]? = some x → i < n → x.back ≠ a
  | some k => k < n ∧ ∃ q, l[k]? = some q ∧ q.back = a ∧ ∀ i x, l[i]? = some x → i < n → x.back = a → x.epoch ≤ q.epoch ∧ (i < k → x.epoch < q.epoch)
theorem pick_is (l : List Redo) (a : Int) : ∀ n, n ≤ l.length → PickIs l a n (pickIx l a n)
  | 0, _ => fun i x _ h => by omega
  | n + 1, hn => by
    have ih := pick_is l a n (by omega)
    obtain ⟨r, hr⟩ : ∃ r, l[n]? = some r := ⟨_, List.getElem?_eq_getElem (by omega)⟩
    have hcase : ∀ {i x}, l[i]? = some x → i < n + 1 → i < n ∨ (i = n ∧ x = r) := fun {i x} hi h => by
      rcases Nat.lt_or_eq_of_le (Nat.le_of_lt_succ h) with h1 | rfl
      · exact .inl h1
      · exact .inr ⟨rfl, (Option.some.inj (hr.symm.trans hi)).symm⟩
    rw [pickIx, hr]
    dsimp only
    by_cases hb : r.back = a
    · rw [if_pos hb]
      cases hp : pickIx l a n with
      | none =>
        rw [hp] at ih
        refine ⟨Nat.lt_succ_self _, r, hr, hb, fun i x hi hlt hxb => ?_⟩
        rcases hcase hi hlt with h | ⟨rfl, rfl⟩
        · exact absurd hxb (ih i x hi h)
        · exact ⟨Int.le_refl _, fun h => by omega⟩
      | some k =>
        rw [hp] at ih
        obtain ⟨hk, q, hq, hqb, hall⟩ := ih
        dsimp only
        rw [hq]
        dsimp only
        by_cases he : r.epoch > q.epoch
        · rw [if_pos he]
          refine ⟨Nat.lt_succ_self _, r, hr, hb, fun i x hi hlt hxb => ?_⟩
          rcases hcase hi hlt with h | ⟨rfl, rfl⟩
          · have := (hall i x hi h hxb).1
            exact ⟨by omega, fun _ => by omega⟩
          · exact ⟨Int.le_refl _, fun h => by omega⟩
        · rw [if_neg he]
          refine ⟨Nat.lt_succ_of_lt hk, q, hq, hqb, fun i x hi hlt hxb => ?_⟩
          rcases hcase hi hlt with h | ⟨rfl, rfl⟩
          · exact hall i x hi h hxb
          · exact ⟨by omega, fun h => by omega⟩
    · rw [if_neg hb]
      cases hp : pickIx l a n with
      | none =>
        rw [hp] at ih
        intro i x hi hlt
        rcases hcase hi hlt with h | ⟨rfl, rfl⟩
        · exact ih i x hi h
        · exact hb
      | some k =>
        rw [hp] at ih
        obtain ⟨hk, q, hq, hqb, hall⟩ := ih
        refine ⟨Nat.lt_succ_of_lt hk, q, hq, hqb, fun i x hi hlt hxb => ?_⟩
        rcases hcase hi hlt with h | ⟨rfl, rfl⟩
        · exact hall i x hi h hxb
        · exact absurd hxb hb
def pick (l : List Redo) (a : Int) : Option Redo := (pickIx l a l.length).bind fun k => l[k]?
theorem pick_ix {l : List Redo} {a : Int} {k : Nat} {x : Redo} (h : pickIx l a l.length = some k) (hx : l[k]? = some x) : pick l a = some x := by
  rw [pick, h]
  exact hx
theorem pick_none {l : List Redo} {a : Int} (h : pickIx l a l.length = none) : pick l a = none := by
  rw [pick, h]
  rfl
theorem pick_back {l : List Redo} {a : Int} {x : Redo} (h : pick l a = some x) : x ∈ l ∧ x.back = a ∧ ∀ y ∈ l, y.back = a → y.epoch ≤ x.epoch := by
  have hp := pick_is l a l.length (Nat.le_refl _)
  unfold pick at h
  cases hk : pickIx l a l.length with
  | none => rw [hk] at h; cases h
  | some k =>
    rw [hk] at h hp
    obtain ⟨_, q, hq, hqb, hall⟩ := hp
    have hx : l[k]? = some x := h
    obtain rfl := Option.some.inj (hq.symm.trans hx)
    refine ⟨List.mem_of_getElem? hq, hqb, fun y hy hyb => ?_⟩
    obtain ⟨i, hi⟩ := List.mem_iff_getElem?.1 hy
    exact (hall i y hi (List.getElem?_eq_some_iff.1 hi).1 hyb).1
theorem pick_none_iff {l : List Redo} {a : Int} : pick l a = none ↔ ∀ x ∈ l, x.back ≠ a := by
  have hp := pick_is l a l.length (Nat.le_refl _)
  constructor
  · intro h x hx
    unfold pick at h
    cases hk : pickIx l a l.length with
    | none =>
      rw [hk] at hp
      obtain ⟨i, hi⟩ := List.mem_iff_getElem?.1 hx
      exact hp i x hi (List.getElem?_eq_some_iff.1 hi).1
    | some k =>
      rw [hk] at h hp
      obtain ⟨_, q, hq, _⟩ := hp
      have : l[k]? = none := h
      rw [hq] at this
      cases this
  · intro h
    cases hk : pick l a with
    | none => rfl
    | some x => exact absurd (pick_back hk).2.1 (h x (pick_back hk).1)
/-- The one record that follows. -/
theorem pick_one {l : List Redo} {a : Int} {x : Redo} (hx : x ∈ l) (hb : x.back = a) (h : ∀ y ∈ l, y.back = a → y = x) : pick l a = some x := by
  cases hk : pick l a with
  | none => exact absurd hb (pick_none_iff.1 hk x hx)
  | some y => rw [h y (pick_back hk).1 (pick_back hk).2.1]

/-- From a number, from one record to the next, as far as there is one. -/
inductive Climb (l : List Redo) : Int → Int → Prop where
  | stop {a : Int} (h : pick l a = none) : Climb l a a
  | step {a v : Int} {x : Redo} (h : pick l a = some x) (k : Climb l x.lsn v) : Climb l a v
theorem Climb.inj {l : List Redo} {a u v : Int} (h : Climb l a u) (k : Climb l a v) : u = v := by
  induction h with
  | stop h =>
    cases k with
    | stop _ => rfl
    | step h' _ => rw [h] at h'; cases h'
  | step h _ ih =>
    cases k with
    | stop h' => rw [h] at h'; cases h'
    | step h' k' =>
      rw [h] at h'
      obtain rfl := Option.some.inj h'
      exact ih k'

/-! ### The log -/
structure HSt where
  group : Int
  l : List Redo
  spans : List Span
  cuts : Int
  scl : Int
  known : Bool
structure HOk (s : HSt) : Prop where
  rise : Rise s.l
  valid : ∀ r ∈ s.l, validIx r = none
  scl : s.known = true → Climb s.l 0 s.scl
  few : s.l.length ≤ 16384
  sfew : s.spans.length ≤ 64
def HSt.new (g : Int) : HSt := ⟨g, [], [], 0, 0, false⟩
theorem HOk.new (g : Int) : HOk (.new g) := ⟨List.Pairwise.nil, fun r h => by simp [HSt.new] at h, fun h => by simp [HSt.new] at h, Nat.zero_le _, Nat.zero_le _⟩
def HSt.add (s : HSt) (r : Redo) : HSt := { s with l := lins s.l r, known := false }
theorem HOk.add {s : HSt} {r : Redo} (h : HOk s) (hv : validIx r = none) (hn : isL s.l r.lsn = false) (hf : s.l.length < 16384) : HOk (s.add r) :=
  ⟨lins_rise h.rise hn, fun x hx => by
    rcases lins_mem.1 hx with rfl | hx
    · exact hv
    · exact h.valid x hx, fun h => by simp [HSt.add] at h, by show (lins s.l r).length ≤ _; rw [lins_len]; omega, h.sfew⟩
def HSt.knows (s : HSt) (v : Int) : HSt := { s with scl := v, known := true }
theorem HOk.knows {s : HSt} {v : Int} (h : HOk s) (hv : Climb s.l 0 v) : HOk (s.knows v) := ⟨h.rise, h.valid, fun _ => hv, h.few, h.sfew⟩
end Go.Proofs.YteclgcnndjcmmaaDoor
namespace Go.Proofs.YteclgcnndjcmmaaDoor
open Go.RowKit

def kSpan : Kd Span := (kInt.pair (kInt.pair kInt)).iso fun s => (s.epoch, s.lo, s.hi)
theorem kSpan_open {S : Nat → Prop} {w : World} {x : Span} {cs : List Value} (h : kSpan.K S w x cs) : cs = [.int .i64 x.epoch, .int .i64 x.lo, .int .i64 x.hi] := by
  obtain ⟨_, _, rfl, rfl, _, _, rfl, rfl, rfl⟩ := h
  rfl
theorem kSpan_mk {S : Nat → Prop} {w : World} {x : Span} : kSpan.K S w x [.int .i64 x.epoch, .int .i64 x.lo, .int .i64 x.hi] := ⟨[_], _, rfl, rfl, [_], _, rfl, rfl, rfl⟩
theorem span_at {S : Nat → Prop} {w : World} {A : Option Addr} {n c : Nat} {xs : List Span} (h : Sl kSpan S w (.slice A n c) xs) {k : Nat} {x : Span} (hi : xs[k]? = some x) :
    ∃ b o, A = some ⟨b, o, none⟩ ∧ w.cell? ⟨b, o + k * 3, none⟩ = some (.int .i64 x.epoch) ∧ w.cell? ⟨b, o + k * 3 + 1, none⟩ = some (.int .i64 x.lo) ∧ w.cell? ⟨b, o + k * 3 + 2, none⟩ = some (.int .i64 x.hi) := by
  obtain ⟨A', c', he, _, _, hx⟩ := h
  injection he with ha _ _
  subst ha
  have hk : k < xs.length := (List.getElem?_eq_some_iff.1 hi).1
  obtain ⟨b, o, rfl, _, hr⟩ := hx (by omega)
  obtain ⟨cs, hc, hcell⟩ := hr k x hi
  obtain rfl := kSpan_open hc
  exact ⟨b, o, rfl, hcell 0 _ rfl, hcell 1 _ rfl, hcell 2 _ rfl⟩

/-- A log: its block B, the slices lv of its records and sv of its spans. What these lead to lies in S. -/
structure Hg (S : Nat → Prop) (w : World) (B : Nat) (lv sv : Value) (s : HSt) : Prop where
  blk : w.heap[B]? = some (.cells #[.int .i64 s.group, lv, sv, .int .i64 s.cuts, .int .i64 s.scl, .bool s.known] 77 (0, 0))
  row : Own kRedo 36 0 S w lv s.l
  sp : Sl kSpan (fun b => S b ∧ some b ≠ lv.ownBlock) w sv s.spans
  nB : ∀ b, S b → b ≠ B
  rB : lv.ownBlock ≠ some B
  ok : HOk s
/-- What an act upon a log leaves. -/
def Off2 (B : Nat) (v : Value) : Nat → Prop := fun b => b ≠ B ∧ some b ≠ v.ownBlock
section
variable {S T : Nat → Prop} {w w' : World} {B : Nat} {lv sv : Value} {s : HSt}
theorem Hg.lt (h : Hg S w B lv sv s) : B < w.heap.size := blk_lt h.blk
theorem Hg.all (h : Hg S w B lv sv s) (f : Fr All w w') : Hg S w' B lv sv s :=
  ⟨(f.block B h.lt trivial).trans h.blk, h.row.all f, h.sp.all f, h.nB, h.rB, h.ok⟩
theorem Hg.mono (h : Hg S w B lv sv s) (hs : ∀ b, S b → b < w.heap.size → T b) (hT : ∀ b, T b → b ≠ B) : Hg T w B lv sv s :=
  ⟨h.blk, h.row.mono hs, h.sp.mono fun b hb hl => ⟨hs b hb.1 hl, hb.2⟩, hT, h.rB, h.ok⟩
/-- What turns is none of the log's. -/
theorem Hg.move (h : Hg S w B lv sv s) (f : Fr T w w') (h0 : T B) (h1 : ∀ k, lv.ownBlock = some k → T k) (h2 : ∀ b, S b → b < w.heap.size → T b) : Hg S w' B lv sv s :=
  ⟨(f.block B h.lt h0).trans h.blk, h.row.move f h2 h1, h.sp.move' f fun b hb hl => h2 b hb.1 hl, h.nB, h.rB, h.ok⟩
theorem Hg.few (h : Hg S w B lv sv s) : s.l.length ≤ 16384 := h.ok.few
theorem Hg.sl (h : Hg S w B lv sv s) : Sl kRedo (fun b => S b ∨ some b = lv.ownBlock) w lv s.l := h.row.sl
end

set_option maxRecDepth 100000 in
theorem hot_new (g : Int) (w : World) : Calls Tryd.prog 22 #[.int .i64 g] w fun e w' => e = .returned (.pointer (some ⟨w.heap.size, 0, none⟩)) ∧ Hg (fun b => w.heap.size < b) w' w.heap.size (.slice none 0 0) (.slice none 0 0) (.new g) ∧ Fr All w w' := by
  go_enter Tryd.func22, Tryd.ntmps22
  go_wp2_with fail
  go_ret
  exact ⟨rfl, ⟨heap_alloc_new w _, Own.nil_ _ _ _ _ _, Sl.nil_ _ _ _, fun b hb => by omega, by simp [Value.ownBlock], HOk.new g⟩, (Fr.refl All w).alloc _⟩

set_option maxRecDepth 100000 in
theorem hot_len {S : Nat → Prop} {w : World} {B : Nat} {lv sv : Value} {s : HSt} (h : Hg S w B lv sv s) : Calls Tryd.prog 13 #[.pointer (some ⟨B, 0, none⟩)] w fun e w' => e = .returned (.int .i64 (s.l.length : Int)) ∧ w' = w := by
  obtain ⟨A, c, rfl⟩ := h.row.length
  obtain ⟨p0, p1, p2, p3, p4, p5, pz⟩ := blk6 h.blk
  clear h
  go_enter Tryd.func13, Tryd.ntmps13
  go_wp2_with fail
  go_ret
  exact ⟨rfl, rfl⟩

def topL (l : List Redo) : Int := match l.getLast? with | none => 0 | some r => r.lsn
end Go.Proofs.YteclgcnndjcmmaaDoor
