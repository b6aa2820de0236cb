/- page.New. -/
import Derived.Test.YtoaamcpiljoojaaDoorApply4
namespace Go.Proofs.YtoaamcpiljoojaaDoor
open Go.RowKit
theorem page_new (id : Int) (w : World) : Calls Tryd.prog 57 #[.int .i64 id] w (Applied w ⟨id, 0, 0, -1, []⟩) := by
  go_enter Tryd.func57, Tryd.ntmps57
  go_wp2_with fail
  refine bodyPost_ret (v := .agg #[.int .i64 id, .int .i64 0, .int .i64 0, .int .i64 (-1), .slice none 0 0]) ?_ rfl ⟨none, 0, rfl, Own.nil_ _ _ _ _ _, ?_⟩
  · simp [results, Tryd.results57, go_sem]
  · exact (Fr.refl All w).alloc _
end Go.Proofs.YtoaamcpiljoojaaDoor
