/- The document's Apply in all kinds, New. -/
import Derived.Test.YtppjpfgjophgkaaDoorRefA3
namespace Go.Proofs.YtppjpfgjophgkaaDoor
open Go.RowKit

theorem ref_apply {p : Page} {r : Redo} {v v0 v1 : Value} {S S0 S1 : Nat → Prop} {w : World} (h : Sl kEnt S w v p.ents) (hsm : SmallP p) (k0 : Sl kByte S0 w v0 r.key) (k1 : Sl kByte S1 w v1 r.val) (hv : validIx r = none) :
    Calls Tryd.prog 22 #[.agg #[.int .i64 p.id, .int .i64 p.lsn, .int .i64 p.level, .int .i64 p.next, v], .agg #[.int .i64 r.lsn, .int .i64 r.back, .int .i64 r.epoch, .int .i64 r.group, .int .i64 r.page, .int .i64 r.kind, .int .i64 r.slot, v0, v1, .bool r.last]] w (RAppl w (papply p r)) := by
  by_cases hno : r.page ≠ p.id ∨ r.lsn ≤ p.lsn
  · have hq : papply p r = p := by unfold papply; rw [if_pos hno]
    rw [hq]
    exact ref_apply_no h hsm k0 k1 hno
  · have hyes : r.page = p.id ∧ p.lsn < r.lsn := ⟨Decidable.not_not.1 fun e => hno (.inl e), by omega⟩
    have hvx := validIx_none hv
    by_cases h1 : r.kind = 1
    · exact ref_apply_format h hsm k0 k1 hv hyes h1
    by_cases h2 : r.kind = 2
    · by_cases hs : p.ents.length < 8
      · exact ref_apply_insert1 h hsm k0 k1 hv hyes h2 hs
      · exact ref_apply_insert0 h hsm k0 k1 hv hyes h2 (by omega)
    by_cases h3 : r.kind = 3
    · by_cases hs : r.slot.toNat < p.ents.length
      · exact ref_apply_remove1 h hsm k0 k1 hv hyes h3 hs
      · exact ref_apply_remove0 h hsm k0 k1 hv hyes h3 (by omega)
    by_cases h4 : r.kind = 4
    · by_cases hs : r.slot.toNat < p.ents.length
      · exact ref_apply_change1 h hsm k0 k1 hv hyes h4 (List.getElem?_eq_getElem hs)
      · exact ref_apply_change0 h hsm k0 k1 hv hyes h4 (by omega)
    by_cases h5 : r.kind = 5
    · exact ref_apply_link h hsm k0 k1 hv hyes h5
    · exact ref_apply_cut h hsm k0 k1 hv hyes (by omega)
theorem ref_new (id : Int) (w : World) : Calls Tryd.prog 20 #[.int .i64 id] w fun e w' => e = .returned (.agg #[.int .i64 id, .int .i64 0, .int .i64 0, .int .i64 (-1), .slice none 0 0]) ∧ Fr All w w' := by
  have F0 := (Fr.refl All w).alloc (.cells #[.int .i64 0, .int .i64 0, .int .i64 0, .int .i64 0, .slice none 0 0] 30)
  obtain ⟨z0, z1, z2, z3, z4, zz⟩ := blk5 (heap_alloc_new w (.cells #[.int .i64 0, .int .i64 0, .int .i64 0, .int .i64 0, .slice none 0 0] 30))
  go_enter Tryd.func20, Tryd.ntmps20
  go_wp2_with fail
  refine bodyPost_ret (v := .agg #[.int .i64 id, .int .i64 0, .int .i64 0, .int .i64 (-1), .slice none 0 0]) ?_ rfl ⟨rfl, ?_⟩
  · simp [results, Tryd.results20, go_sem, z0, z1, z2, z3, z4]
  · first
    | exact (Fr.refl All w).alloc _
    | repeat (first | (with_reducible exact F0) | with_reducible refine Fr.setNew ?_ (by dsimp only; omega) _)
end Go.Proofs.YtppjpfgjophgkaaDoor
