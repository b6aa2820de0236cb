/- page.New. -/
import Derived.Test.YtppjpfgjophgkaaDoorApply4
namespace Go.Proofs.YtppjpfgjophgkaaDoor
open Go.RowKit
theorem page_new (id : Int) (w : World) : Calls Tryd.prog 37 #[.int .i64 id] w (Applied w ⟨id, 0, 0, -1, []⟩) := by
  go_enter Tryd.func37, Tryd.ntmps37
  go_wp2_with fail
  refine bodyPost_ret (v := .agg #[.int .i64 id, .int .i64 0, .int .i64 0, .int .i64 (-1), .slice none 0 0]) ?_ rfl ⟨none, 0, rfl, Own.nil_ _ _ _ _ _, ?_⟩
  · simp [results, Tryd.results37, go_sem]
  · exact (Fr.refl All w).alloc _
end Go.Proofs.YtppjpfgjophgkaaDoor
