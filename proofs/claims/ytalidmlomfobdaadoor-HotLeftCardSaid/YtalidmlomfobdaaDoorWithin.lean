/- redo.within. -/
import Derived.Test.YtalidmlomfobdaaDoorVIx
import Derived.Test.YtalidmlomfobdaaDoorProg
import Derived.KernelRfl
import Derived.Outline
namespace Go.Proofs.YtalidmlomfobdaaDoor
open Go.RowKit

set_option maxRecDepth 100000 in
theorem within_call (n b : Int) (w : World) : Calls Tryd.prog 67 #[.int .i64 n, .int .i64 b] w fun e w' => e = .returned (.bool (inB n b)) ∧ w' = w := by
  cases h1 : decide (n ≥ 0) with
  | true =>
    go_enter Tryd.func67, Tryd.ntmps67
    go_wp2_with fail
    go_ret
    exact ⟨ret_bool (by have := of_decide_eq_true h1; simp [inB]; omega), rfl⟩
  | false =>
    go_enter Tryd.func67, Tryd.ntmps67
    go_wp2_with fail
    go_ret
    exact ⟨ret_bool (by have := of_decide_eq_false h1; simp [inB]; omega), rfl⟩

end Go.Proofs.YtalidmlomfobdaaDoor
