/- The errors that the program's text lays: seventeen addresses, no two alike, each in its variable. -/
import Derived.Test.YteclgcnndjcmmaaDoorW
import Derived.Test.YteclgcnndjcmmaaDoorRows
import Derived.LaidLaws
import Derived.MakeChecks
import Derived.ProofKit
namespace Go.Proofs.YteclgcnndjcmmaaDoor
open Go.RowKit

/-- The errors, in the order of their variables' numbers below. -/
def errNames : List String := ["sextet/api.ErrEnd", "sextet/api.ErrSum", "sextet/api.ErrShape", "sextet/api.ErrMany", "sextet/api.ErrRange", "sextet/api.ErrKind", "sextet/api.ErrNone", "sextet/api.ErrThere", "sextet/api.ErrFull", "sextet/api.ErrCrash", "sextet/api.ErrState", "sextet/api.ErrConflict", "sextet/api.ErrWaits", "sextet/api.ErrLimit", "sextet/api.ErrFenced", "sextet/api.ErrWord", "sextet/api.ErrNumber"]

theorem E.star : "*" ++ "errors.errorString" = "*errors.errorString" := by decide
theorem E.row (u : TypeId) (h : Tryd.prog.typeName? 3 u = some "*errors.errorString") : u = 151 :=
  typeName_ptr_named (nm := "errors.errorString") (by rw [E.star]; kernel_rfl) (by kernel_rfl) (by decide) u (by rw [E.star]; exact h)

/-- An error's value. -/
def errV (a : Addr) : Value := .iface 151 (.pointer (some a))

set_option maxRecDepth 100000 in
theorem errs_of : ∀ (l : List (String × DataW Unit)) {W : World} {ps : List MemPlace}, DataW.LaidVars Tryd.prog W l ps → (∀ x ∈ l, ∃ s, x.2 = .iface "*errors.errorString" (.ptr (.agg [.lit (.string s)]))) →
    (∀ x ∈ l, ∀ g, Tryd.prog.globalNamed x.1 = some g → (Tryd.prog.globals[g]?).map (·.type) = some 26) →
    (∀ b off, MemPlace.cell b off ∈ ps → ∀ u v, W.cell? ⟨b, off, none⟩ = some (.iface u v) → Value.okWide Tryd.prog W .any 0 u v) →
    ∃ qs : List Addr, qs.length = l.length ∧ (∀ (i : Nat) (nm : String) (d : DataW Unit), l[i]? = some (nm, d) → ∃ g a, Tryd.prog.globalNamed nm = some g ∧ qs[i]? = some a ∧ W.cell? ⟨g, 0, none⟩ = some (errV a)) ∧
      (∀ a ∈ qs, MemPlace.cell a.block a.off ∈ ps ∧ a.spot = none) ∧ (ps.Nodup → qs.Nodup)
  | [], W, ps, h, _, _, _ => ⟨[], rfl, fun i nm d h => by simp at h, fun a h => by simp at h, fun _ => List.nodup_nil⟩
  | (n, d) :: l, W, ps, h, hd, hg, hr => by
    obtain ⟨g, t, cs, fuel, p, q, h1, h2, h3, h4, h5, rfl⟩ := h
    obtain ⟨s, hs⟩ := hd _ (List.mem_cons_self)
    dsimp only at hs
    subst hs
    have ht := hg _ (List.mem_cons_self) g h1
    obtain rfl := Option.some.inj (h2.symm.trans ht)
    obtain ⟨l0⟩ := cs
    obtain ⟨fu, u, v, e1, e2, e3⟩ := iface_of_trod (show Tryd.prog.underlying 26 = some (.interface _) from Tryd.underlying26) h4
    dsimp only at e1
    subst e1
    have hcell : W.cell? ⟨g, 0, none⟩ = some (.iface u v) := by simpa using World.var?_cell h1 h3 0
    have ok0 : ∀ u' v', [Value.iface u v] = [.iface u' v'] → Value.okWide Tryd.prog W .any 0 u' v' := fun u' v' e => by
      cases e
      exact hr g 0 (by simp [MemPlace.row]) _ _ hcell
    obtain ⟨a, s0, he, hc0, _, _, rfl⟩ := errorString_of_trod Tryd.underlying26 E.row Tryd.underlying151 Tryd.underlying168 rfl rfl Tryd.underlying9 (by kernel_rfl) (by kernel_rfl) h4 ok0
    have hsp : a.spot = none := by
      cases hsp : a.spot with
      | none => rfl
      | some _ =>
        unfold World.cell? at hc0
        split at hc0
        · rw [hsp] at hc0
          simp at hc0
        · cases hc0
    have he' : Value.iface u v = errV a := (List.cons.inj he).1
    obtain ⟨qs, i1, i2, i3, i4⟩ := errs_of l h5 (fun x hx => hd x (List.mem_cons_of_mem _ hx)) (fun x hx => hg x (List.mem_cons_of_mem _ hx)) (fun b off hb => hr b off (by simp [hb]))
    refine ⟨a :: qs, by simp [i1], ?_, ?_, ?_⟩
    · intro i nm d hi
      cases i with
      | zero =>
        simp only [List.getElem?_cons_zero, Option.some.injEq, Prod.mk.injEq] at hi
        obtain ⟨rfl, rfl⟩ := hi
        exact ⟨g, a, h1, rfl, by rw [hcell, he']⟩
      | succ i => exact i2 i nm d (by simpa using hi)
    · intro b hb
      rcases List.mem_cons.1 hb with rfl | hb
      · exact ⟨by simp [MemPlace.row], hsp⟩
      · exact ⟨by simp [(i3 b hb).1], (i3 b hb).2⟩
    · intro hnd
      have hnd' := hnd
      simp only [List.append_assoc] at hnd
      have n2 : (MemPlace.row a 1 ++ q).Nodup := (List.nodup_append.1 hnd).2.1
      have n3 := List.nodup_append.1 n2
      refine List.nodup_cons.2 ⟨fun hm => ?_, i4 n3.2.1⟩
      exact n3.2.2 (.cell a.block a.off) (by simp [MemPlace.row]) _ (i3 a hm).1 rfl

/-- The errors in memory. -/
structure Errs (W : World) (qs : List Addr) : Prop where
  len : qs.length = 17
  nodup : qs.Nodup
  cell : ∀ (i : Nat) (nm : String), errNames[i]? = some nm → ∃ g a, Tryd.prog.globalNamed nm = some g ∧ qs[i]? = some a ∧ W.cell? ⟨g, 0, none⟩ = some (errV a)
  box : ∀ a ∈ qs, ∃ c t, W.heap[a.block]? = some (.cells c t (0, 0))
theorem Errs.move {W W' : World} {qs : List Addr} (h : Errs W qs) (hf : Fr All W W') : Errs W' qs :=
  ⟨h.len, h.nodup, fun i nm hi => by
    obtain ⟨g, a, h1, h2, h3⟩ := h.cell i nm hi
    exact ⟨g, a, h1, h2, hf.cell (p := ⟨g, 0, none⟩) trivial h3⟩, fun a ha => by
    obtain ⟨c, t, hb⟩ := h.box a ha
    exact ⟨c, t, (hf.block _ (Array.getElem?_eq_some_iff.1 hb).1 trivial).trans hb⟩⟩

/-- The list that the rows bear. -/
def errLaid : List (String × DataW Unit) := Rows.slogFullRow.laid
set_option maxRecDepth 100000 in
theorem errs_of_laid {W : World} (h : laidMetH Tryd.prog errLaid W) : ∃ qs, Errs W qs := by
  rw [MakeChecks.laidMetH_plain _ _ _ (by kernel_rfl)] at h
  obtain ⟨ps, hv, hnd, hr⟩ := h
  obtain ⟨qs, h1, h2, h3, h4⟩ := errs_of errLaid hv (fun x hx => by
    have : ∀ x ∈ errLaid, ∃ s, x.2 = .iface "*errors.errorString" (.ptr (.agg [.lit (.string s)])) := by
      intro x hx
      simp only [errLaid, Rows.slogFullRow, List.mem_cons, List.not_mem_nil, or_false] at hx
      rcases hx with rfl | rfl | rfl | rfl | rfl | rfl | rfl | rfl | rfl | rfl | rfl | rfl | rfl | rfl | rfl | rfl | rfl <;> exact ⟨_, rfl⟩
    exact this x hx) (fun x hx g hg => by
    have : ∀ x ∈ errLaid, (Tryd.prog.globalNamed x.1).bind (fun g => (Tryd.prog.globals[g]?).map (·.type)) = some 26 := by
      intro x hx
      simp only [errLaid, Rows.slogFullRow, List.mem_cons, List.not_mem_nil, or_false] at hx
      rcases hx with rfl | rfl | rfl | rfl | rfl | rfl | rfl | rfl | rfl | rfl | rfl | rfl | rfl | rfl | rfl | rfl | rfl <;> kernel_rfl
    have := this x hx
    rw [hg] at this
    exact this) (fun b off hb => (hr b off hb).2)
  refine ⟨qs, h1, h4 hnd, fun i nm hi => ?_, fun a ha => (hr a.block a.off (h3 a ha).1).1⟩
  have hn : errLaid.map (·.1) = errNames := rfl
  rw [← hn, List.getElem?_map] at hi
  obtain ⟨⟨nm', d⟩, e1, rfl⟩ := Option.map_eq_some_iff.1 hi
  exact h2 i nm' d e1

/-- Each error's cell, by its variable's number. -/
theorem Errs.at {W : World} {qs : List Addr} (h : Errs W qs) (i : Nat) (nm : String) (g : Nat) (hi : errNames[i]? = some nm) (hg : Tryd.prog.globalNamed nm = some g) : ∃ a, qs[i]? = some a ∧ W.cell? ⟨g, 0, none⟩ = some (errV a) := by
  obtain ⟨g', a, h1, h2, h3⟩ := h.cell i nm hi
  obtain rfl := Option.some.inj (hg.symm.trans h1)
  exact ⟨a, h2, h3⟩
end Go.Proofs.YteclgcnndjcmmaaDoor
