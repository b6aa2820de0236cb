/- page.New. -/
import Derived.Test.YteikddopeplomaaDoorApply2
namespace Go.Proofs.YteikddopeplomaaDoor
open Go.RowKit
theorem page_new (id : Int) (w : World) : Calls Tryd.prog 78 #[.int .i64 id] w (Applied w ⟨id, 0, 0, -1, []⟩) := by
  go_enter Tryd.func78, Tryd.ntmps78
  go_wp2_with fail
  refine bodyPost_ret (v := .agg #[.int .i64 id, .int .i64 0, .int .i64 0, .int .i64 (-1), .slice none 0 0]) ?_ rfl ⟨none, 0, rfl, Own.nil_ _ _ _ _ _, ?_⟩
  · simp [results, Tryd.results78, go_sem]
  · exact (Fr.refl All w).alloc _
end Go.Proofs.YteikddopeplomaaDoor
