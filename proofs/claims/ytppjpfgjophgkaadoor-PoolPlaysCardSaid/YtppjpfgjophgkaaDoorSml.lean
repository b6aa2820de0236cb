/- A page's smallness, with records. -/
import Derived.Test.YtppjpfgjophgkaaDoorApply4
import Derived.Test.YtppjpfgjophgkaaDoorVIx
namespace Go.Proofs.YtppjpfgjophgkaaDoor
open Go.RowKit

theorem papply_small {p : Page} {r : Redo} (h : p.ents.length ≤ 8 ∧ ∀ e ∈ p.ents, e.key.length ≤ 32 ∧ e.val.length ≤ 64) (hk : r.key.length ≤ 32) (hv : r.val.length ≤ 64) :
    (papply p r).ents.length ≤ 8 ∧ ∀ e ∈ (papply p r).ents, e.key.length ≤ 32 ∧ e.val.length ≤ 64 := by
  obtain ⟨h1, h2⟩ := h
  unfold papply
  split
  · exact ⟨h1, h2⟩
  split
  · exact ⟨by simp, fun e he => by simp at he⟩
  split
  · split
    · refine ⟨?_, fun e he => ?_⟩
      · simp only [List.length_append, List.length_take, List.length_cons, List.length_drop]
        omega
      · rcases List.mem_append.1 he with he | he
        · exact h2 e (List.mem_of_mem_take he)
        · rcases List.mem_cons.1 he with rfl | he
          · exact ⟨hk, hv⟩
          · exact h2 e (List.mem_of_mem_drop he)
    · exact ⟨h1, h2⟩
  split
  · split
    · refine ⟨?_, fun e he => ?_⟩
      · simp only [List.length_append, List.length_take, List.length_drop]
        omega
      · rcases List.mem_append.1 he with he | he
        · exact h2 e (List.mem_of_mem_take he)
        · exact h2 e (List.mem_of_mem_drop he)
    · exact ⟨h1, h2⟩
  split
  · split
    · rename_i x hx
      refine ⟨by rw [List.length_set]; exact h1, fun e he => ?_⟩
      rcases List.mem_or_eq_of_mem_set he with he | rfl
      · exact h2 e he
      · exact ⟨(h2 x (List.mem_of_getElem? hx)).1, hv⟩
    · exact ⟨h1, h2⟩
  split
  · exact ⟨h1, h2⟩
  split
  · exact ⟨by rw [List.length_take]; omega, fun e he => h2 e (List.mem_of_mem_take he)⟩
  · exact ⟨h1, h2⟩

def SmallP (p : Page) : Prop := p.ents.length ≤ 8 ∧ ∀ e ∈ p.ents, e.key.length ≤ 32 ∧ e.val.length ≤ 64
theorem SmallP.ok {p : Page} (h : SmallP p) : EntsOk p.ents := ⟨by have := h.1; omega, fun e he => by have := h.2 e he; omega⟩
/-- Right records: short, with a slot that is no less than none. -/
def RightL (l : List Redo) : Prop := ∀ r ∈ l, validIx r = none
theorem RightL.short {l : List Redo} (h : RightL l) {r : Redo} (hr : r ∈ l) : r.key.length ≤ 32 ∧ r.val.length ≤ 64 ∧ 0 ≤ r.slot := by
  have := validIx_none (h r hr)
  omega
end Go.Proofs.YtppjpfgjophgkaaDoor
