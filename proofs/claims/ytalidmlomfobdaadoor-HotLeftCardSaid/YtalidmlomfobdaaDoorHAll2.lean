/- hot.Records, hot.All, hot.Get of what is not there. -/
import Derived.Test.YtalidmlomfobdaaDoorHAll
import Derived.Test.YtalidmlomfobdaaDoorRClones
import Derived.Test.YtalidmlomfobdaaDoorHg
import Derived.Test.YtalidmlomfobdaaDoorBs
namespace Go.Proofs.YtalidmlomfobdaaDoor
open Go.RowKit

theorem redosOk {s : HSt} (h : HOk s) : RedosOk s.l := ⟨by have := h.few; omega, fun r hr => by have := validIx_none (h.valid r hr); omega⟩
theorem records_call {S : Nat → Prop} {w : World} {B : Nat} {lv sv : Value} {s : HSt} (h : Hg S w B lv sv s) : Calls Tryd.prog 50 #[.pointer (some ⟨B, 0, none⟩)] w fun e w' =>
    ∃ A c, e = .returned (.slice A s.l.length c) ∧ Own kRedo 34 w.heap.size (From w.heap.size) w' (.slice A s.l.length c) s.l ∧ Fr All w w' := by
  have hs := h.row.sl
  have ok := redosOk h.ok
  obtain ⟨A, c, rfl⟩ := h.row.length
  obtain ⟨p0, p1, p2, p3, p4, p5, pz⟩ := blk6 h.blk
  clear h
  obtain ⟨n, hn⟩ : ∃ n, s.l.length = n := ⟨_, rfl⟩
  rw [hn] at hs p1
  have HS := Lib.hid hs
  have HO := Lib.hid ok
  have HN := Lib.hid hn
  rw [hn]
  clear hs ok hn
  go_enter Tryd.func50, Tryd.ntmps50
  go_wp2_with fail
  refine (redo_clones HS.out HO.out).mono ?_
  rintro e w' ⟨A', c', rfl, o, f⟩
  rw [HN.out] at o
  simp only [HN.out]
  have HOO := Lib.hid o
  clear o
  go_wp2_with fail
  go_ret
  exact ⟨A', c', rfl, HOO.out, f⟩
theorem all_call {S : Nat → Prop} {w : World} {B : Nat} {lv sv : Value} {s : HSt} (h : Hg S w B lv sv s) : Calls Tryd.prog 24 #[.pointer (some ⟨B, 0, none⟩)] w fun e w' =>
    ∃ Bs A c, e = .returned (.func (.func 51) #[] #[.pointer (some ⟨Bs, 0, none⟩)]) ∧ (w.heap.size ≤ Bs ∧ Bs < w'.heap.size) ∧ w'.cell? ⟨Bs, 0, none⟩ = some (.slice A s.l.length c) ∧ Sl kRedo (fun b => w.heap.size ≤ b ∧ b < w'.heap.size) w' (.slice A s.l.length c) s.l ∧ Fr All w w' := by
  obtain ⟨n, hn⟩ : ∃ n, s.l.length = n := ⟨_, rfl⟩
  have H := Lib.hid (records_call h)
  rw [hn] at H ⊢
  clear hn h
  go_enter Tryd.func24, Tryd.ntmps24
  go_wp2_with fail
  refine H.out.mono ?_
  rintro e w1 ⟨A, c, rfl, o, f⟩
  have F1 := f.alloc (.cells #[.slice A n c] 25)
  have HS : Sl kRedo (fun b => w.heap.size ≤ b ∧ b < (w1.alloc (.cells #[.slice A n c] 25)).heap.size) (w1.alloc (.cells #[.slice A n c] 25)) (.slice A n c) s.l := by
    have h1 := o.sl.all ((Fr.refl All w1).alloc (.cells #[.slice A n c] 25))
    exact h1.mono fun b hb hl => ⟨hb.elim (fun h => h) (fun h => (own_lt o b h.symm).1), hl⟩
  have HC := Lib.hid (heap_alloc_new w1 (.cells #[.slice A n c] 25))
  have HSS := Lib.hid HS
  have HZ := Lib.hid f.size
  clear o f HS
  go_wp2_with fail
  go_ret
  exact ⟨w1.heap.size, A, c, rfl, ⟨HZ.out, by rw [World.size_alloc]; omega⟩, by first | exact cell_new_of HC.out | go_simp, HSS.out, F1⟩
end Go.Proofs.YtalidmlomfobdaaDoor
