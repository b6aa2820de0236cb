/- Parts of slices, and a row of one's own that is empty. -/
import Derived.Test.YteclgcnndjcmmaaDoorD
namespace Go.Proofs.YteclgcnndjcmmaaDoor
open Go.RowKit

theorem add_plain (b o k : Nat) : (⟨b, o, none⟩ : Addr).add k = ⟨b, o + k, none⟩ := by
  unfold Addr.add
  split
  · rename_i h
    rw [h]
    rfl
  · rfl

section
variable {α : Type} {d : Kd α} {S : Nat → Prop} {w : World} {A : Option Addr} {n c s : Nat} {xs : List α}
theorem Sl.take (h : Sl d S w (.slice A n c) xs) (hs : s ≤ n) : Sl d S w (.slice A s c) (xs.take s) := by
  obtain ⟨A', c', he, hc, hm, hx⟩ := h
  injection he with ha hn hc'
  subst ha hn hc'
  have hl : (xs.take s).length = s := by rw [List.length_take]; omega
  refine ⟨A, c, by rw [hl], by omega, hm, fun h0 => ?_⟩
  obtain ⟨b, o, rfl, hS, hr⟩ := hx (by omega)
  refine ⟨b, o, rfl, hS, fun i x hi => hr i x ?_⟩
  rw [List.getElem?_take] at hi
  split at hi
  · exact hi
  · cases hi
theorem Sl.drop (h : Sl d S w (.slice A n c) xs) (hs : s ≤ n) : Sl d S w (.slice (if c = s then A else A.map fun a => a.add (s * d.sz)) (n - s) (c - s)) (xs.drop s) := by
  obtain ⟨A', c', he, hc, hm, hx⟩ := h
  injection he with ha hn hc'
  subst ha hn hc'
  have hl : (xs.drop s).length = xs.length - s := by rw [List.length_drop]
  refine ⟨_, c - s, by rw [hl], by omega, by omega, fun h0 => ?_⟩
  obtain ⟨b, o, rfl, hS, hr⟩ := hx (by omega)
  refine ⟨b, o + s * d.sz, ?_, hS, fun i x hi => ?_⟩
  · rw [if_neg (by omega)]
    rw [Option.map_some, add_plain]
  · obtain ⟨cs, hk, hcell⟩ := hr (s + i) x (by rw [List.getElem?_drop] at hi; exact hi)
    refine ⟨cs, hk, fun j u hu => ?_⟩
    have := hcell j u hu
    rwa [show o + (s + i) * d.sz + j = o + s * d.sz + i * d.sz + j by rw [Nat.add_mul]; omega] at this
theorem Own.box0 {base : Nat} (e : TypeId) (hb : base ≤ w.heap.size) : Own d e base S (w.alloc (.cells #[] e)) (.slice (some ⟨w.heap.size, 0, none⟩) 0 0) ([] : List α) :=
  ⟨[], ⟨by simp, .inr ⟨w.heap.size, 0, #[], rfl, hb, heap_alloc_new w _, Nat.le_refl _, Nat.zero_le _, by simp, by simp⟩⟩, rfl⟩
end
end Go.Proofs.YteclgcnndjcmmaaDoor
