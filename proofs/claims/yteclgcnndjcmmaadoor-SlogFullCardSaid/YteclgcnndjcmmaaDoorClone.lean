/- slices.Clone at []byte: nil stays nil, else a row of one's own with the same bytes. -/
import Derived.Test.YteclgcnndjcmmaaDoorD
import Derived.Test.YteclgcnndjcmmaaDoorProg
import Derived.KernelRfl
import Derived.Outline
namespace Go.Proofs.YteclgcnndjcmmaaDoor
open Go.RowKit

theorem info_u8 : (Tryd.prog.info? 5).map (fun i => (i.zero, i.size, i.bytes)) = some (some (.int .u8 0), kByte.sz, 1) := by kernel_rfl

theorem clone_nil (n c : Nat) (w : World) : Calls Tryd.prog 40 #[.slice none n c] w fun e w' => e = .returned (.slice none 0 0) ∧ w = w' := by
  have h1 := Lib.run_eql_slice_nil (P := Tryd.prog) w 34 5 none n c 0 0 Tryd.underlying34
  go_enter Tryd.func40, Tryd.ntmps40
  go_wp2_with fail
  go_ret
  exact ⟨rfl, rfl⟩
set_option maxHeartbeats 400000 in
theorem clone_some (ad : Addr) (n c : Nat) (xs : List UInt8) (S : Nat → Prop) (w : World) (h : Sl kByte S w (.slice (some ad) n c) xs) (hn : xs.length ≤ 100000000000000) :
    Calls Tryd.prog 40 #[.slice (some ad) n c] w fun e w' => ∃ v, e = .returned v ∧ Own kByte 5 w.heap.size All w' v xs ∧ Fr All w w' := by
  have h1 := Lib.run_eql_slice_nil (P := Tryd.prog) w 34 5 (some ad) n c 0 0 Tryd.underlying34
  have HY : Src kByte Nowhere (w.alloc (.cells #[] 5)) (.slice (some ad) n c) xs := (h.all ((Fr.refl All w).alloc _)).src.any
  have HO := Own.lay0 kByte 5 w.heap.size Nowhere w (Nat.le_refl _)
  clear h
  go_enter Tryd.func40, Tryd.ntmps40
  go_wp2_with (at_builtin; refine wpList_app rfl rfl Tryd.underlying34 info_u8 rfl (by decide) HO HY rfl rfl (fun _ h _ => h.elim) (by simp only [List.length_nil]; omega) (by simp) ?_; intro v' w' h3 h4 h5)
  go_ret
  exact ⟨v', rfl, h3.any, ((Fr.refl All w).alloc _).row h4.grown fun k hk => Nat.le_of_eq (Option.some.inj hk)⟩

/-- slices.Clone at []byte. -/
theorem clone_bytes {v : Value} {xs : List UInt8} {S : Nat → Prop} {w : World} (h : Sl kByte S w v xs) (hn : xs.length ≤ 100000000000000) :
    Calls Tryd.prog 40 #[v] w fun e w' => ∃ A' c', e = .returned (.slice A' xs.length c') ∧ Own kByte 5 w.heap.size All w' (.slice A' xs.length c') xs ∧ Fr All w w' := by
  obtain ⟨A, c, rfl, _⟩ := id h
  cases A with
  | some ad =>
    refine (clone_some ad _ c xs S w h hn).mono fun e w' ⟨v, he, ho, hf⟩ => ?_
    obtain ⟨A', c', rfl⟩ := ho.length
    exact ⟨A', c', he, ho, hf⟩
  | none =>
    have h0 : xs = [] := by
      obtain ⟨A, c, he, _, _, hx⟩ := h
      injection he with ha hl
      subst ha
      by_cases h0 : 0 < xs.length
      · obtain ⟨_, _, hh, _⟩ := hx h0
        cases hh
      · exact List.eq_nil_of_length_eq_zero (by omega)
    subst h0
    exact (clone_nil _ c w).mono fun e w' ⟨he, hw⟩ => ⟨none, 0, he, Own.nil_ _ _ _ _ _, by rw [← hw]; exact Fr.refl _ _⟩
#print axioms clone_bytes
end Go.Proofs.YteclgcnndjcmmaaDoor
