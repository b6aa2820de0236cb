/- A row of numbers that comes in. -/
import Derived.Test.YtalidmlomfobdaaDoorIn
namespace Go.Proofs.YtalidmlomfobdaaDoor
open Go.RowKit
theorem topens_ints : Opens (kSl kInt) 52 := opens_slice Tryd.underlying52 (by kernel_rfl) (opens_int Tryd.underlying3)
end Go.Proofs.YtalidmlomfobdaaDoor
