/- A map from numbers to rows of bytes, as a walk reads it. A map from numbers to things of any kind, as a walk reads it; its sorted keys. -/
import Derived.Test.YteclgcnndjcmmaaDoorClone
import Derived.Maps.OwnSet
import Derived.Maps.Views
import Derived.Lib.SlMapMerge
import Derived.Lib.SlKeysI
import Derived.Maps.Ext
import Derived.MapKept
namespace Go.Proofs.YteclgcnndjcmmaaDoor
open Go.RowKit Go.Maps Go.WideElems Go.ChangeMaps

/-- How an element reads: as itself. -/
def elH (v : Value) : Option (DataW Value × List MemPlace) := some (.held v, [])
def kl (k : Int) : Lit := .int .i64 k
def In64 (k : Int) : Prop := (Lit.int .i64 k).wf = true
theorem in64_of {k : Int} (h0 : -9223372036854775808 ≤ k) (h1 : k ≤ 9223372036854775807) : In64 k := by
  have e1 : IntKind.i64.min = -9223372036854775808 := by decide
  have e2 : IntKind.i64.max = 9223372036854775807 := by decide
  simp only [In64, Lit.wf, e1, e2, Bool.and_eq_true, decide_eq_true_eq]
  exact ⟨h0, h1⟩
theorem kl_ne {a b : Int} (h : a ≠ b) : kl a ≠ kl b := fun e => h (by injection e)

/-- What an entry of the map says. -/
def EntryIs (S : Nat → Prop) (w : World) (D : DataW Value) (k : Int) : Option (List UInt8) → Prop
  | none => Maps.has D (kl k) = false
  | some xs => Maps.has D (kl k) = true ∧ ∃ v, (∀ z, D.atKey (kl k) z = .held v) ∧ Sl kByte S w v xs

/-- The map at block b: what each key has, and how many there are. -/
def MapIs (P : Program) (K : TypeId) (S : Nat → Prop) (w : World) (b : Nat) (m : Int → Option (List UInt8)) (n : Nat) : Prop :=
  ∃ D : DataW Value, w.ownsMap P K elH b n D ∧ Maps.size D = n ∧ ∀ k, In64 k → EntryIs S w D k (m k)

def upd (m : Int → Option (List UInt8)) (k : Int) (xs : List UInt8) : Int → Option (List UInt8) := fun j => if j = k then some xs else m j

theorem owns_exact {P : Program} {K : TypeId} {w : World} {b n : Nat} {D : DataW Value} (h : w.ownsMap P K elH b n D) : w.ownsMap P K elH b (Maps.size D) D := by
  obtain ⟨es, clock, hb, F, hs, rfl⟩ := h
  refine ⟨es, clock, hb, F, ?_, rfl⟩
  simp [Maps.size, length_sorted]

section
variable {P : Program} {T K E : TypeId} {S S' : Nat → Prop} {w w' : World} {b n : Nat} {m : Int → Option (List UInt8)}
theorem MapIs.lt (h : MapIs P K S w b m n) : b < w.heap.size := by
  obtain ⟨D, h1, _⟩ := h
  exact h1.lt
theorem EntryIs.move {D : DataW Value} {k : Int} {o : Option (List UInt8)} (h : EntryIs S w D k o) (hf : Fr S' w w') (hs : ∀ x, S x → x < w.heap.size → S' x) : EntryIs S w' D k o := by
  cases o with
  | none => exact h
  | some xs =>
    obtain ⟨h1, v, h2, h3⟩ := h
    exact ⟨h1, v, h2, h3.move' hf hs⟩
theorem owns_move {D : DataW Value} (h : w.ownsMap P K elH b n D) (hf : Fr S' w w') (hb : S' b) : w'.ownsMap P K elH b n D := by
  have hlt := h.lt
  obtain ⟨es, clock, h1, h2⟩ := h
  exact ⟨es, clock, (hf.block b hlt hb).trans h1, h2⟩
theorem MapIs.move (h : MapIs P K S w b m n) (hf : Fr S' w w') (hb : S' b) (hs : ∀ x, S x → x < w.heap.size → S' x) : MapIs P K S w' b m n := by
  obtain ⟨D, h1, h2, h3⟩ := h
  exact ⟨D, owns_move h1 hf hb, h2, fun k hk => (h3 k hk).move hf hs⟩
theorem MapIs.all (h : MapIs P K S w b m n) (hf : Fr All w w') : MapIs P K S w' b m n := h.move hf trivial fun _ _ _ => trivial
theorem MapIs.mono (h : MapIs P K S w b m n) (hs : ∀ x, S x → x < w.heap.size → S' x) : MapIs P K S' w b m n := by
  obtain ⟨D, h1, h2, h3⟩ := h
  refine ⟨D, h1, h2, fun k hk => ?_⟩
  have h4 := h3 k hk
  cases hm : m k with
  | none => rw [hm] at h4; exact h4
  | some xs =>
    rw [hm] at h4
    obtain ⟨a, v, c, d⟩ := h4
    exact ⟨a, v, c, d.mono hs⟩
theorem MapIs.made (w : World) (S : Nat → Prop) : MapIs P K S (w.alloc (.map #[] 0)) w.heap.size (fun _ => none) 0 :=
  ⟨.map [], World.ownsMap_made w P K elH, rfl, fun _ _ => rfl⟩

variable (hK : P.underlying K = some (.int .i64)) (hT : P.underlying T = some (.map K E)) (hz : ∀ w, (zeroValue E).run P w = .ok (.slice none 0 0) w)
include hK hT hz
theorem MapIs.look_none (h : MapIs P K S w b m n) {k : Int} (hk : In64 k) (hm : m k = none) : (Instr.lookup T (.map (some b)) (.int .i64 k) true).run P w = .ok (.tuple #[.slice none 0 0, .bool false]) w := by
  obtain ⟨D, h1, _, h3⟩ := h
  obtain ⟨v, ps, hr, hv⟩ := h1.look_ok (int_keyed hK) hT (hz w) (zd := .held (.slice none 0 0)) (zp := []) rfl (keyOf_int_mk hK hk)
  have h4 := h3 k hk
  rw [hm] at h4
  have h5 : Maps.has D (kl k) = false := h4
  rw [show (Lit.int .i64 k) = kl k from rfl, h5] at hr
  rw [show (Lit.int .i64 k) = kl k from rfl, atKey_of_not_has h5] at hv
  simp only [elH, Option.some.injEq, Prod.mk.injEq, DataW.held.injEq] at hv
  rw [hr, hv.1]
theorem MapIs.look_some (h : MapIs P K S w b m n) {k : Int} (hk : In64 k) {xs : List UInt8} (hm : m k = some xs) : ∃ A l c, (Instr.lookup T (.map (some b)) (.int .i64 k) true).run P w = .ok (.tuple #[.slice A l c, .bool true]) w ∧ Sl kByte S w (.slice A l c) xs ∧ xs.length = l := by
  obtain ⟨D, h1, _, h3⟩ := h
  obtain ⟨v, ps, hr, hv⟩ := h1.look_ok (int_keyed hK) hT (hz w) (zd := .held (.slice none 0 0)) (zp := []) rfl (keyOf_int_mk hK hk)
  have h4 := h3 k hk
  rw [hm] at h4
  obtain ⟨h5, u, h6, h7⟩ := h4
  rw [show (Lit.int .i64 k) = kl k from rfl, h5] at hr
  rw [show (Lit.int .i64 k) = kl k from rfl, h6] at hv
  simp only [elH, Option.some.injEq, Prod.mk.injEq, DataW.held.injEq] at hv
  rw [hv.1] at hr
  obtain ⟨A, l, c, rfl, hl, _⟩ := h7.open_
  exact ⟨A, l, c, hr, h7, hl⟩
/-- m[k], without ok. -/
theorem MapIs.at_some (h : MapIs P K S w b m n) {k : Int} (hk : In64 k) {xs : List UInt8} (hm : m k = some xs) : ∃ A l c, (Instr.lookup T (.map (some b)) (.int .i64 k) false).run P w = .ok (.slice A l c) w ∧ Sl kByte S w (.slice A l c) xs ∧ xs.length = l := by
  obtain ⟨D, h1, _, h3⟩ := h
  obtain ⟨v, ps, hr, hv⟩ := h1.lookup (int_keyed hK) hT (hz w) (zd := .held (.slice none 0 0)) (zp := []) rfl (keyOf_int_mk hK hk)
  have h4 := h3 k hk
  rw [hm] at h4
  obtain ⟨h5, u, h6, h7⟩ := h4
  rw [show (Lit.int .i64 k) = kl k from rfl, h6] at hv
  simp only [elH, Option.some.injEq, Prod.mk.injEq, DataW.held.injEq] at hv
  rw [hv.1] at hr
  obtain ⟨A, l, c, rfl, hl, _⟩ := h7.open_
  exact ⟨A, l, c, hr, h7, hl⟩
omit hz in
theorem MapIs.put (h : MapIs P K S w b m n) {k : Int} (hk : In64 k) (hn : n < 1000000) {v : Value} {xs : List UInt8} (hv : Sl kByte S w v xs) (hS : ∀ x, S x → x ≠ b) :
    ∃ w', (Instr.mapUpdate T (.map (some b)) (.int .i64 k) v).run P w = .ok () w' ∧ MapIs P K S w' b (upd m k xs) (if (m k).isSome then n else n + 1) ∧ Fr (fun x => x ≠ b) w w' := by
  obtain ⟨D, h1, h2, h3⟩ := h
  obtain ⟨w', hr, ho, hg⟩ := h1.update (int_keyed hK) hT (by simp only [maxLen]; omega) (val := v) (d := .held v) (ps := []) (keyOf_int_mk hK hk) rfl
  have hf : Fr (fun x => x ≠ b) w w' := (Fr.of_grown hg).mono fun x hx e => hx (Option.some.inj e)
  have hsz : Maps.size (D.put (kl k) (.held v)) = if (m k).isSome then n else n + 1 := by
    have h4 := h3 k hk
    have h5 := size_put (k := kl k) (h1.tidy (int_keyed hK)) (.held v)
    cases hm : m k with
    | none =>
      rw [hm] at h4
      have h6 : Maps.has D (kl k) = false := h4
      rw [h5, h6, h2]
      rfl
    | some xs =>
      rw [hm] at h4
      rw [h5, h4.1, h2]
      rfl
  refine ⟨w', hr, ⟨_, ?_, hsz, fun j hj => ?_⟩, hf⟩
  · rw [← hsz]
    exact owns_exact ho
  · by_cases hjk : j = k
    · subst hjk
      simp only [upd, if_true]
      exact ⟨has_put_same (k := kl j) h1.isMap trivial _, v, fun z => atKey_put_same (k := kl j) h1.isMap trivial _ z, hv.move' hf fun x hx _ => hS x hx⟩
    · simp only [upd, if_neg hjk]
      have h4 := (h3 j hj).move hf fun x hx _ => hS x hx
      cases hm : m j with
      | none =>
        rw [hm] at h4
        exact (has_put_other (kl_ne hjk) _).trans h4
      | some xs =>
        rw [hm] at h4
        obtain ⟨a, u, c, d⟩ := h4
        exact ⟨(has_put_other (kl_ne hjk) _).trans a, u, fun z => (atKey_put_other (kl_ne hjk) _ z).trans (c z), d⟩
omit hK hz in
theorem MapIs.clear (h : MapIs P K S w b m n) (ty : TypeId) :
    ∃ w', (Builtin.clear_ #[T] ty #[.map (some b)]).run P w = .ok (.tuple #[]) w' ∧ MapIs P K S w' b (fun _ => none) 0 ∧ Fr (fun x => x ≠ b) w w' := by
  obtain ⟨D, ⟨es, clock, hb, F, hs, rfl⟩, h2, h3⟩ := h
  refine ⟨setBlock w b (.map #[] clock), ?_, ⟨.map [], ⟨#[], clock, heap_setBlock_same hb _, ⟨by simp, MapKept.stamped_empty _, by simp⟩, Nat.le_refl _, rfl⟩, rfl, fun _ _ => rfl⟩, ⟨rfl, rfl, rfl, by simp [setBlock], fun i _ hi => heap_setBlock_other hb _ hi⟩⟩
  simp [Builtin.clear_, run_underlying hT, MapKept.run_getObj_map hb, MapKept.run_setObj_map _ hb, Result.andThen, setBlock]
omit hK hz in
theorem MapIs.len (h : MapIs P K S w b m n) (ty : TypeId) : (Builtin.len_ #[T] ty #[.map (some b)]).run P w = .ok (.int .i64 (n : Int)) w := by
  obtain ⟨D, h1, h2, _⟩ := h
  rw [h1.len hT ty, h2]
end

theorem find_atKey {es : List (Lit × DataW Value)} {q : Lit} {p : Lit × DataW Value} (hf : es.find? (fun p => p.1.sameKey q) = some p) (z : DataW Value) : (DataW.map es).atKey q z = p.2 := by
  simp [DataW.atKey, hf]
theorem find_fold {es : List (Lit × DataW Value)} {Dd : DataW Value} {q : Lit} {p : Lit × DataW Value} (hm : IsMap Dd) (hkl : ∀ p ∈ es, WideAt.IsKeyLit p.1) (hne : es.Pairwise (fun p q => p.1 ≠ q.1)) (hf : es.find? (fun p => p.1.sameKey q) = some p) (z : DataW Value) : (Lib.mergeD Dd (.map es)).atKey q z = p.2 := by
  have h := atKey_foldPut q z es Dd hm hkl hne
  rw [hf] at h
  exact h
theorem find_fold_none {es : List (Lit × DataW Value)} {Dd : DataW Value} {q : Lit} (hm : IsMap Dd) (hkl : ∀ p ∈ es, WideAt.IsKeyLit p.1) (hne : es.Pairwise (fun p q => p.1 ≠ q.1)) (hf : es.find? (fun p => p.1.sameKey q) = none) (z : DataW Value) : (Lib.mergeD Dd (.map es)).atKey q z = Dd.atKey q z := by
  have h := atKey_foldPut q z es Dd hm hkl hne
  rw [hf] at h
  exact h
theorem mergeD_entry {S : Nat → Prop} {w : World} {Dd Ds : DataW Value} {Kd : Lit → Prop} (O : OneKind Kd) (cs : CanonK Kd Ds) (hm : IsMap Dd) {k : Int} {a b : Option (List UInt8)} (h1 : EntryIs S w Dd k a) (h2 : EntryIs S w Ds k b) : EntryIs S w (Lib.mergeD Dd Ds) k (b <|> a) := by
  obtain ⟨es, rfl, hr, hk⟩ := cs
  have hkl : ∀ p ∈ es, WideAt.IsKeyLit p.1 := fun p hp => O.key (hk p hp)
  have hne : es.Pairwise (fun p q => p.1 ≠ q.1) := apart_of_rising hr
  have hh : Maps.has (Lib.mergeD Dd (.map es)) (kl k) = (Maps.has Dd (kl k) || es.any (fun p => p.1.sameKey (kl k))) := has_foldPut (kl k) es Dd hm hkl
  cases b with
  | some xs =>
    obtain ⟨h3, v, h4, h5⟩ := h2
    have h3' : es.any (fun p => p.1.sameKey (kl k)) = true := h3
    have h7 : (es.find? (fun p => p.1.sameKey (kl k))).isSome = true := by
      rw [List.find?_isSome]
      obtain ⟨q, hq, hq2⟩ := List.any_eq_true.1 h3'
      exact ⟨q, hq, hq2⟩
    obtain ⟨p, hf⟩ := Option.isSome_iff_exists.1 h7
    exact ⟨by rw [hh, h3', Bool.or_true], v, fun z => by rw [find_fold hm hkl hne hf z, ← find_atKey hf z, h4 z], h5⟩
  | none =>
    have h3 : es.any (fun p => p.1.sameKey (kl k)) = false := h2
    have h4 : es.find? (fun p => p.1.sameKey (kl k)) = none := by
      rw [List.find?_eq_none]
      intro p hp
      have := List.any_eq_false.1 h3 p hp
      simpa using this
    cases a with
    | none =>
      have h5 : Maps.has Dd (kl k) = false := h1
      show Maps.has (Lib.mergeD Dd (.map es)) (kl k) = false
      rw [hh, h5, h3]
      rfl
    | some xs =>
      obtain ⟨h5, v, h6, h7⟩ := h1
      exact ⟨by rw [hh, h5, Bool.true_or], v, fun z => by rw [find_fold_none hm hkl hne h4 z]; exact h6 z, h7⟩

end Go.Proofs.YteclgcnndjcmmaaDoor
namespace Go.Proofs.YteclgcnndjcmmaaDoor
open Go.RowKit Go.Maps Go.WideElems Go.ChangeMaps

/-- How a thing reads as a map's element. -/
structure El (α : Type) where
  R : (Nat → Prop) → World → Value → α → Prop
  move : ∀ {S T : Nat → Prop} {w w' : World} {v : Value} {x : α}, R S w v x → Fr T w w' → (∀ b, S b → b < w.heap.size → T b) → R S w' v x
  mono : ∀ {S T : Nat → Prop} {w : World} {v : Value} {x : α}, R S w v x → (∀ b, S b → b < w.heap.size → T b) → R T w v x

def GEnt {α : Type} (d : El α) (S : Nat → Prop) (w : World) (D : DataW Value) (k : Int) : Option α → Prop
  | none => Maps.has D (kl k) = false
  | some x => Maps.has D (kl k) = true ∧ ∃ v, (∀ z, D.atKey (kl k) z = .held v) ∧ d.R S w v x
def GMap {α : Type} (d : El α) (P : Program) (K : TypeId) (S : Nat → Prop) (w : World) (b : Nat) (m : Int → Option α) (n : Nat) : Prop :=
  ∃ D : DataW Value, w.ownsMap P K elH b n D ∧ Maps.size D = n ∧ ∀ k, In64 k → GEnt d S w D k (m k)
def gput {α : Type} (m : Int → Option α) (k : Int) (x : α) : Int → Option α := fun j => if j = k then some x else m j
def gdel {α : Type} (m : Int → Option α) (k : Int) : Int → Option α := fun j => if j = k then none else m j

section
variable {α : Type} {d : El α} {P : Program} {T K E : TypeId} {S S' : Nat → Prop} {w w' : World} {b n : Nat} {m : Int → Option α}
theorem GMap.lt (h : GMap d P K S w b m n) : b < w.heap.size := by
  obtain ⟨D, h1, _⟩ := h
  exact h1.lt
theorem GEnt.move {D : DataW Value} {k : Int} {o : Option α} (h : GEnt d S w D k o) (hf : Fr S' w w') (hs : ∀ x, S x → x < w.heap.size → S' x) : GEnt d S w' D k o := by
  cases o with
  | none => exact h
  | some xs =>
    obtain ⟨h1, v, h2, h3⟩ := h
    exact ⟨h1, v, h2, d.move h3 hf hs⟩
theorem GMap.move (h : GMap d P K S w b m n) (hf : Fr S' w w') (hb : S' b) (hs : ∀ x, S x → x < w.heap.size → S' x) : GMap d P K S w' b m n := by
  obtain ⟨D, h1, h2, h3⟩ := h
  exact ⟨D, owns_move h1 hf hb, h2, fun k hk => (h3 k hk).move hf hs⟩
theorem GMap.all (h : GMap d P K S w b m n) (hf : Fr All w w') : GMap d P K S w' b m n := h.move hf trivial fun _ _ _ => trivial
theorem GMap.mono (h : GMap d P K S w b m n) (hs : ∀ x, S x → x < w.heap.size → S' x) : GMap d P K S' w b m n := by
  obtain ⟨D, h1, h2, h3⟩ := h
  refine ⟨D, h1, h2, fun k hk => ?_⟩
  have h4 := h3 k hk
  cases hm : m k with
  | none => rw [hm] at h4; exact h4
  | some xs =>
    rw [hm] at h4
    obtain ⟨a, v, c, e⟩ := h4
    exact ⟨a, v, c, d.mono e hs⟩
theorem GMap.made (d : El α) (w : World) (S : Nat → Prop) : GMap d P K S (w.alloc (.map #[] 0)) w.heap.size (fun _ => none) 0 :=
  ⟨.map [], World.ownsMap_made w P K elH, rfl, fun _ _ => rfl⟩

variable (hK : P.underlying K = some (.int .i64)) (hT : P.underlying T = some (.map K E))
include hK hT
theorem GMap.look_none {z : Value} (hz : ∀ w, (zeroValue E).run P w = .ok z w) (h : GMap d P K S w b m n) {k : Int} (hk : In64 k) (hm : m k = none) : (Instr.lookup T (.map (some b)) (.int .i64 k) true).run P w = .ok (.tuple #[z, .bool false]) w := by
  obtain ⟨D, h1, _, h3⟩ := h
  obtain ⟨v, ps, hr, hv⟩ := h1.look_ok (int_keyed hK) hT (hz w) (zd := .held z) (zp := []) rfl (keyOf_int_mk hK hk)
  have h4 := h3 k hk
  rw [hm] at h4
  have h5 : Maps.has D (kl k) = false := h4
  rw [show (Lit.int .i64 k) = kl k from rfl, h5] at hr
  rw [show (Lit.int .i64 k) = kl k from rfl, atKey_of_not_has h5] at hv
  simp only [elH, Option.some.injEq, Prod.mk.injEq, DataW.held.injEq] at hv
  rw [hr, hv.1]
theorem GMap.look_some {z : Value} (hz : ∀ w, (zeroValue E).run P w = .ok z w) (h : GMap d P K S w b m n) {k : Int} (hk : In64 k) {x : α} (hm : m k = some x) : ∃ v, (Instr.lookup T (.map (some b)) (.int .i64 k) true).run P w = .ok (.tuple #[v, .bool true]) w ∧ d.R S w v x := by
  obtain ⟨D, h1, _, h3⟩ := h
  obtain ⟨v, ps, hr, hv⟩ := h1.look_ok (int_keyed hK) hT (hz w) (zd := .held z) (zp := []) rfl (keyOf_int_mk hK hk)
  have h4 := h3 k hk
  rw [hm] at h4
  obtain ⟨h5, u, h6, h7⟩ := h4
  rw [show (Lit.int .i64 k) = kl k from rfl, h5] at hr
  rw [show (Lit.int .i64 k) = kl k from rfl, h6] at hv
  simp only [elH, Option.some.injEq, Prod.mk.injEq, DataW.held.injEq] at hv
  rw [hv.1] at hr
  exact ⟨u, hr, h7⟩
theorem GMap.look_all {z : Value} (hz : ∀ w, (zeroValue E).run P w = .ok z w) (h : GMap d P K S w b m n) {k : Int} (hk : In64 k) {x : α} (hm : m k = some x) : ∃ v, d.R S w v x ∧ ∀ W, Fr All w W → (Instr.lookup T (.map (some b)) (.int .i64 k) true).run P W = .ok (.tuple #[v, .bool true]) W := by
  obtain ⟨D, h1, _, h3⟩ := h
  have h4 := h3 k hk
  rw [hm] at h4
  obtain ⟨h5, u, h6, h7⟩ := h4
  refine ⟨u, h7, fun W f => ?_⟩
  obtain ⟨v, ps, hr, hv⟩ := (owns_move h1 f trivial).look_ok (int_keyed hK) hT (hz W) (zd := .held z) (zp := []) rfl (keyOf_int_mk hK hk)
  rw [show (Lit.int .i64 k) = kl k from rfl, h5] at hr
  rw [show (Lit.int .i64 k) = kl k from rfl, h6] at hv
  simp only [elH, Option.some.injEq, Prod.mk.injEq, DataW.held.injEq] at hv
  rw [hv.1] at hr
  exact hr
theorem GMap.put (h : GMap d P K S w b m n) {k : Int} (hk : In64 k) (hn : n < 1000000) {v : Value} {x : α} (hv : d.R S w v x) (hS : ∀ x, S x → x ≠ b) :
    ∃ w', (Instr.mapUpdate T (.map (some b)) (.int .i64 k) v).run P w = .ok () w' ∧ GMap d P K S w' b (gput m k x) (if (m k).isSome then n else n + 1) ∧ Fr (fun x => x ≠ b) w w' := by
  obtain ⟨D, h1, h2, h3⟩ := h
  obtain ⟨w', hr, ho, hg⟩ := h1.update (int_keyed hK) hT (by simp only [maxLen]; omega) (val := v) (d := .held v) (ps := []) (keyOf_int_mk hK hk) rfl
  have hf : Fr (fun x => x ≠ b) w w' := (Fr.of_grown hg).mono fun x hx e => hx (Option.some.inj e)
  have hsz : Maps.size (D.put (kl k) (.held v)) = if (m k).isSome then n else n + 1 := by
    have h4 := h3 k hk
    have h5 := size_put (k := kl k) (h1.tidy (int_keyed hK)) (.held v)
    cases hm : m k with
    | none =>
      rw [hm] at h4
      have h6 : Maps.has D (kl k) = false := h4
      rw [h5, h6, h2]
      rfl
    | some xs =>
      rw [hm] at h4
      rw [h5, h4.1, h2]
      rfl
  refine ⟨w', hr, ⟨_, ?_, hsz, fun j hj => ?_⟩, hf⟩
  · rw [← hsz]
    exact owns_exact ho
  · by_cases hjk : j = k
    · subst hjk
      simp only [gput, if_true]
      exact ⟨has_put_same (k := kl j) h1.isMap trivial _, v, fun z => atKey_put_same (k := kl j) h1.isMap trivial _ z, d.move hv hf fun x hx _ => hS x hx⟩
    · simp only [gput, if_neg hjk]
      have h4 := (h3 j hj).move hf fun x hx _ => hS x hx
      cases hm : m j with
      | none =>
        rw [hm] at h4
        exact (has_put_other (kl_ne hjk) _).trans h4
      | some xs =>
        rw [hm] at h4
        obtain ⟨a, u, c, e⟩ := h4
        exact ⟨(has_put_other (kl_ne hjk) _).trans a, u, fun z => (atKey_put_other (kl_ne hjk) _ z).trans (c z), e⟩
theorem GMap.del (h : GMap d P K S w b m n) {k : Int} (hk : In64 k) (hS : ∀ x, S x → x ≠ b) (ty : TypeId) :
    ∃ w', (Builtin.delete_ #[T, K] ty #[.map (some b), .int .i64 k]).run P w = .ok (.tuple #[]) w' ∧ GMap d P K S w' b (gdel m k) (if (m k).isSome then n - 1 else n) ∧ Fr (fun x => x ≠ b) w w' := by
  obtain ⟨D, h1, h2, h3⟩ := h
  obtain ⟨w', hr, ho, ht⟩ := h1.drop (int_keyed hK) hT (keyOf_int_mk hK hk) ty
  have hf : Fr (fun x => x ≠ b) w w' := (Fr.of_grown ht.grown).mono fun x hx e => hx (Option.some.inj e)
  have hsz : Maps.size (D.del (kl k)) = if (m k).isSome then n - 1 else n := by
    have h4 := h3 k hk
    have h5 := size_del (k := kl k) (h1.tidy (int_keyed hK))
    cases hm : m k with
    | none =>
      rw [hm] at h4
      have h6 : Maps.has D (kl k) = false := h4
      rw [h6, h2] at h5
      simpa using h5
    | some xs =>
      rw [hm] at h4
      rw [h4.1, h2] at h5
      simp only [if_true, Option.isSome_some] at h5 ⊢
      omega
  refine ⟨w', hr, ⟨_, ?_, hsz, fun j hj => ?_⟩, hf⟩
  · rw [← hsz]
    exact owns_exact ho
  · by_cases hjk : j = k
    · subst hjk
      simp only [gdel, if_true]
      exact has_del_same
    · simp only [gdel, if_neg hjk]
      have h4 := (h3 j hj).move hf fun x hx _ => hS x hx
      cases hm : m j with
      | none =>
        rw [hm] at h4
        exact (has_del_other (kl_ne hjk)).trans h4
      | some xs =>
        rw [hm] at h4
        obtain ⟨a, u, c, e⟩ := h4
        exact ⟨(has_del_other (kl_ne hjk)).trans a, u, fun z => (atKey_del_other (kl_ne hjk) z).trans (c z), e⟩
omit hK in
theorem GMap.len (h : GMap d P K S w b m n) (ty : TypeId) : (Builtin.len_ #[T] ty #[.map (some b)]).run P w = .ok (.int .i64 (n : Int)) w := by
  obtain ⟨D, h1, h2, _⟩ := h
  rw [h1.len hT ty, h2]
end
end Go.Proofs.YteclgcnndjcmmaaDoor
