/- Two logs whose records have no bytes, side by side; an act upon one leaves the other. -/
import Derived.Test.YtalidmlomfobdaaDoorHGp
import Derived.Test.YtalidmlomfobdaaDoorHAdd2
namespace Go.Proofs.YtalidmlomfobdaaDoor
open Go.RowKit

/-- The records' bytes are none. -/
def Bare (s : HSt) : Prop := (∀ r ∈ s.l, r.key = [] ∧ r.val = []) ∧ s.spans = []
theorem reps_bare {S T : Nat → Prop} {w w' : World} : ∀ {xs : List Redo} {cs : List Value}, (∀ r ∈ xs, r.key = [] ∧ r.val = []) → Reps kRedo S w xs cs → Reps kRedo T w' xs cs
  | [], _, _, h => h
  | x :: xs, _, hb, ⟨c1, c2, he, hk, hr⟩ => by
    obtain ⟨h0, h1⟩ := hb x List.mem_cons_self
    obtain ⟨v0, v1, rfl, k0, k1⟩ := kRedo_open hk
    rw [h0] at k0
    rw [h1] at k1
    obtain ⟨A0, d0, rfl, _, m0, _⟩ := k0
    obtain ⟨A1, d1, rfl, _, m1, _⟩ := k1
    refine ⟨_, c2, he, kRedo_mk (by rw [h0]; exact Sl.empty_ _ _ _ _ _ m0) (by rw [h1]; exact Sl.empty_ _ _ _ _ _ m1), reps_bare (fun r hr => hb r (List.mem_cons_of_mem _ hr)) hr⟩
theorem Hg.bare {S T : Nat → Prop} {w : World} {B : Nat} {lv sv : Value} {s : HSt} (h : Hg S w B lv sv s) (hb : Bare s) (hT : ∀ b, T b → b ≠ B) : Hg T w B lv sv s := by
  refine ⟨h.blk, ?_, ?_, hT, h.rB, h.ok⟩
  · obtain ⟨cs, ho, hr⟩ := h.row
    exact ⟨cs, ho, reps_bare hb.1 hr⟩
  · obtain ⟨A, c, he, _, m, _⟩ := h.sp
    have hs := hb.2
    rw [hs] at he ⊢
    rw [he]
    exact Sl.empty_ _ _ _ _ _ m

/-- A log whose blocks lie in O. -/
structure HHo (O : Nat → Prop) (w0 w : World) (B : Nat) (s : HSt) : Prop where
  ex : ∃ lv sv, Hg (fun b => b ≠ B) w B lv sv s ∧ ∀ k, lv.ownBlock = some k → O k
  oB : O B
  ol : ∀ b, O b → w0.heap.size ≤ b ∧ b < w.heap.size
  fr : Fr All w0 w
section
variable {O : Nat → Prop} {w0 w w' : World} {B : Nat} {s s' : HSt}
theorem HHo.hhd (h : HHo O w0 w B s) : HHd (fun b => b < w.heap.size ∧ ¬ O b) w0 w B s := by
  obtain ⟨lv, sv, h1, h2⟩ := h.ex
  exact ⟨⟨lv, sv, h1, fun k hk => ⟨(h.ol k (h2 k hk)).1, fun hh => hh.2 (h2 k hk)⟩⟩, (h.ol B h.oB).1, fun hh => hh.2 h.oB, fun b hb => hb.1, h.fr⟩
theorem HHo.after (h : HHo O w0 w B s) (k : HHd (fun b => b < w.heap.size ∧ ¬ O b) w0 w' B s') (hw : w.heap.size ≤ w'.heap.size) : HHo (fun b => O b ∨ (w.heap.size ≤ b ∧ b < w'.heap.size)) w0 w' B s' := by
  obtain ⟨lv, sv, h1, h2⟩ := k.ex
  refine ⟨⟨lv, sv, h1, fun j hj => ?_⟩, .inl h.oB, fun b hb => ?_, k.fr⟩
  · have hl := (own_lt h1.row j hj).2
    have := (h2 j hj).2
    by_cases ho : O j
    · exact .inl ho
    · refine .inr ⟨?_, hl⟩
      rcases Nat.lt_or_ge j w.heap.size with h3 | h3
      · exact absurd ⟨h3, ho⟩ this
      · exact h3
  · rcases hb with hb | hb
    · have := h.ol b hb
      omega
    · have := h.fr.size
      omega
theorem HHo.start (h : HHd (fun _ => False) w0 w B s) : HHo (fun b => w0.heap.size ≤ b ∧ b < w.heap.size) w0 w B s := by
  obtain ⟨lv, sv, h1, h2⟩ := h.ex
  exact ⟨⟨lv, sv, h1, fun k hk => ⟨(h2 k hk).1, (own_lt h1.row k hk).2⟩⟩, ⟨h.b0, h1.lt⟩, fun b hb => hb, h.fr⟩
theorem HHo.all (h : HHo O w0 w B s) (f : Fr All w w') : HHo O w0 w' B s := by
  obtain ⟨lv, sv, h1, h2⟩ := h.ex
  exact ⟨⟨lv, sv, h1.all f, h2⟩, h.oB, fun b hb => ⟨(h.ol b hb).1, Nat.lt_of_lt_of_le (h.ol b hb).2 f.size⟩, h.fr.trans f⟩
theorem HHo.base {w1 : World} (h : HHo O w1 w B s) (f : Fr All w0 w1) : HHo O w0 w B s :=
  ⟨h.ex, h.oB, fun b hb => ⟨Nat.le_trans f.size (h.ol b hb).1, (h.ol b hb).2⟩, f.trans h.fr⟩
/-- What turns is none of its own. -/
theorem HHo.other {Y : Nat → Prop} (h : HHo O w0 w B s) (hb : Bare s) (f : Fr Y w w') (hY : ∀ b, O b → Y b) (h0 : ∀ b, b < w0.heap.size → Y b) : HHo O w0 w' B s := by
  obtain ⟨lv, sv, h1, h2⟩ := h.ex
  have h3 := (h1.bare (T := Nowhere) hb (fun b hb => hb.elim)).move f (hY B h.oB) (fun k hk => hY k (h2 k hk)) (fun b hb _ => hb.elim)
  have fw := h.fr
  exact ⟨⟨lv, sv, h3.bare hb (fun b hb => hb), h2⟩, h.oB, fun b hb => ⟨(h.ol b hb).1, Nat.lt_of_lt_of_le (h.ol b hb).2 f.size⟩, ⟨f.os.trans fw.os, f.tape.trans fw.tape, f.output.trans fw.output, Nat.le_trans fw.size f.size, fun b hb _ => (f.block b (Nat.lt_of_lt_of_le hb fw.size) (h0 b hb)).trans (fw.block b hb trivial)⟩⟩
end

/-- Two logs, and what is neither's. -/
structure Two (X : Nat → Prop) (w0 w : World) (Ba Bb : Nat) (a b : HSt) : Prop where
  ex : ∃ Oa Ob, HHo Oa w0 w Ba a ∧ HHo Ob w0 w Bb b ∧ (∀ x, Oa x → ¬ Ob x) ∧ ∀ x, X x → ¬ Oa x ∧ ¬ Ob x
  ba : Bare a
  bb : Bare b
  xl : ∀ x, X x → x < w.heap.size
section
variable {X : Nat → Prop} {w0 w w' : World} {Ba Bb : Nat} {a b a' : HSt}
theorem Two.swap (h : Two X w0 w Ba Bb a b) : Two X w0 w Bb Ba b a := by
  obtain ⟨Oa, Ob, h1, h2, h3, h4⟩ := h.ex
  exact ⟨⟨Ob, Oa, h2, h1, fun x hx hy => h3 x hy hx, fun x hx => ⟨(h4 x hx).2, (h4 x hx).1⟩⟩, h.bb, h.ba, h.xl⟩
theorem Two.all (h : Two X w0 w Ba Bb a b) (f : Fr All w w') : Two X w0 w' Ba Bb a b := by
  obtain ⟨Oa, Ob, h1, h2, h3, h4⟩ := h.ex
  exact ⟨⟨Oa, Ob, h1.all f, h2.all f, h3, h4⟩, h.ba, h.bb, fun x hx => Nat.lt_of_lt_of_le (h.xl x hx) f.size⟩
theorem Two.fr (h : Two X w0 w Ba Bb a b) : Fr All w0 w := by
  obtain ⟨Oa, Ob, h1, _⟩ := h.ex
  exact h1.fr
theorem Two.left (h : Two X w0 w Ba Bb a b) : ∃ Y : Nat → Prop, HHd Y w0 w Ba a ∧ ∀ w' a', Bare a' → HHd Y w0 w' Ba a' → Fr Y w w' → Two X w0 w' Ba Bb a' b ∧ Fr X w w' := by
  obtain ⟨Oa, Ob, h1, h2, h3, h4⟩ := h.ex
  refine ⟨_, h1.hhd, fun w' a' ha' k f => ⟨⟨⟨_, Ob, h1.after k f.size, h2.other h.bb f (fun x hx => ⟨(h2.ol x hx).2, fun hy => h3 x hy hx⟩) (fun x hx => ⟨Nat.lt_of_lt_of_le hx h1.fr.size, fun hy => by have := (h1.ol x hy).1; omega⟩), fun x hx hy => ?_, fun x hx => ⟨fun hy => ?_, (h4 x hx).2⟩⟩, ha', h.bb, fun x hx => Nat.lt_of_lt_of_le (h.xl x hx) f.size⟩, f.mono fun x hx => ⟨h.xl x hx, (h4 x hx).1⟩⟩⟩
  · rcases hx with hx | hx
    · exact h3 x hx hy
    · have := (h2.ol x hy).2; omega
  · rcases hy with hy | hy
    · exact (h4 x hx).1 hy
    · have := h.xl x hx; omega
theorem Two.hgA (h : Two X w0 w Ba Bb a b) : ∃ S lv sv, Hg S w Ba lv sv a := by
  obtain ⟨Oa, Ob, h1, _⟩ := h.ex
  obtain ⟨lv, sv, h2, _⟩ := h1.ex
  exact ⟨_, lv, sv, h2⟩
/-- A store into what is neither's. -/
theorem Two.put (h : Two X w0 w Ba Bb a b) {G : Nat} (hG : X G) (h0 : w0.heap.size ≤ G) (k : Nat) (v : Value) : Two X w0 (w.setCell ⟨G, k, none⟩ v) Ba Bb a b := by
  obtain ⟨Oa, Ob, h1, h2, h3, h4⟩ := h.ex
  have f : Fr (fun b => b ≠ G) w (w.setCell ⟨G, k, none⟩ v) := Fr.setCell (p := ⟨G, k, none⟩) (Fr.refl _ w) (fun b hb => hb) _
  exact ⟨⟨Oa, Ob, h1.other h.ba f (fun x hx e => (h4 G hG).1 (e ▸ hx)) (fun x hx => by omega), h2.other h.bb f (fun x hx e => (h4 G hG).2 (e ▸ hx)) (fun x hx => by omega), h3, h4⟩, h.ba, h.bb, fun x hx => Nat.lt_of_lt_of_le (h.xl x hx) f.size⟩
end
theorem bare9 {n : Nat} {P : Nat → Bool} {s : HSt} (h : St9 n P s) : Bare s := ⟨fun r hr => by
  obtain ⟨i, _, _, rfl⟩ := (h.has.mem r).1 hr
  exact ⟨rfl, rfl⟩, h.spans⟩
/-- Add of one of the row's, there or not. -/
theorem tadd9 {X : Nat → Prop} {w0 w : World} {Ba Bb : Nat} {a b : HSt} {n i : Nat} {P Q : Nat → Bool} {v0 v1 : Value} {S0 S1 : Nat → Prop} (h : Two X w0 w Ba Bb a b) (st : St9 n P a) (hn : n ≤ 1000) (hi : i < n) (hQ : ∀ j, j < n → Q j = (P j || j == i))
    (k0 : Sl kByte S0 w v0 (rec9 i).key) (k1 : Sl kByte S1 w v1 (rec9 i).val) :
    Calls Tryd.prog 16 #[.pointer (some ⟨Ba, 0, none⟩), .agg #[.int .i64 (rec9 i).lsn, .int .i64 (rec9 i).back, .int .i64 (rec9 i).epoch, .int .i64 (rec9 i).group, .int .i64 (rec9 i).page, .int .i64 (rec9 i).kind, .int .i64 (rec9 i).slot, v0, v1, .bool (rec9 i).last]] w
      fun e w' => ∃ a', e = .returned (.tuple #[.bool (!P i), .nilIface]) ∧ Two X w0 w' Ba Bb a' b ∧ St9 n Q a' ∧ Fr X w w' := by
  cases hp : P i with
  | false =>
    obtain ⟨Y, hd, next⟩ := h.left
    refine (hadd9 hd st hn hi hp hQ k0 k1).mono ?_
    rintro e w' ⟨rfl, h2, s2, f⟩
    obtain ⟨t, fX⟩ := next w' _ (bare9 s2) h2 f
    exact ⟨_, rfl, t, s2, fX⟩
  | true =>
    obtain ⟨S, lv, sv, hg⟩ := h.hgA
    refine (add_same hg k0 k1 (rec9_valid (by omega)) st.group.symm (by rw [st.spans]; rfl) ((st.has.mem _).2 ⟨i, hi, hp, rfl⟩)).mono ?_
    rintro e w' ⟨rfl, f⟩
    refine ⟨a, rfl, h.all f, st.same fun j hj => ?_, f.mono fun _ _ => trivial⟩
    rw [hQ j hj]
    by_cases hji : j = i
    · rw [hji, hp]; rfl
    · rw [beq_false_of_ne hji, Bool.or_false]
theorem tscl {X : Nat → Prop} {w0 w : World} {Ba Bb : Nat} {a b : HSt} {n : Nat} {P : Nat → Bool} (h : Two X w0 w Ba Bb a b) (st : St9 n P a) : Calls Tryd.prog 19 #[.pointer (some ⟨Ba, 0, none⟩)] w
    fun e w' => ∃ a', e = .returned (.int .i64 (2 * (lead P n : Int))) ∧ Two X w0 w' Ba Bb a' b ∧ St9 n P a' ∧ a'.l = a.l ∧ Fr X w w' := by
  obtain ⟨Y, hd, next⟩ := h.left
  refine (hscl hd).mono ?_
  rintro e w' ⟨v, rfl, hc, h2, f⟩
  obtain rfl := hc.inj st.has.lead
  obtain ⟨t, fX⟩ := next w' _ (bare9 (st.knows _)) h2 f
  exact ⟨_, rfl, t, st.knows _, rfl, fX⟩
end Go.Proofs.YtalidmlomfobdaaDoor
