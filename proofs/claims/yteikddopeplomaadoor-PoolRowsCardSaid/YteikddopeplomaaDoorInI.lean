/- A row of numbers that comes in. -/
import Derived.Test.YteikddopeplomaaDoorIn
namespace Go.Proofs.YteikddopeplomaaDoor
open Go.RowKit
theorem topens_ints : Opens (kSl kInt) 50 := opens_slice Tryd.underlying50 (by kernel_rfl) (opens_int Tryd.underlying3)
end Go.Proofs.YteikddopeplomaaDoor
