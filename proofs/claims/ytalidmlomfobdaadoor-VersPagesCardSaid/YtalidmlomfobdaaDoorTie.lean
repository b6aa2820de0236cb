/-
  DERIVED. GIVEN WITH THE SEED: THE PROGRAM's TIES (one call each: nine closed facts by the kernel) AND EACH ROW's TIE, after the 31st guide's Derived/Test/Toyas{Tie, Card}.lean. No idea stands in it: it is a product of the set-up. Laid BY PROGRAM, IN A SANDBOX (cutbox-door.mjs). By AI agents, Wed Nov 11 2026. No macro, syntax, notation, axiom, sorry.
-/
import Derived.Test.YtalidmlomfobdaaDoorRows
import Derived.LaidByTextLater
import Derived.SevenTiedAt
import Derived.LaidSub
import Derived.LaidOnce
namespace Go.Proofs.YtalidmlomfobdaaDoor
open Go
set_option maxRecDepth 100000
theorem seatTie1 : Tryd.prog.laidByTextLater [("sextet/api.ErrEnd", Rows.laid_sextet_api_ErrEnd), ("sextet/api.ErrSum", Rows.laid_sextet_api_ErrSum), ("sextet/api.ErrShape", Rows.laid_sextet_api_ErrShape), ("sextet/api.ErrMany", Rows.laid_sextet_api_ErrMany), ("sextet/api.ErrRange", Rows.laid_sextet_api_ErrRange), ("sextet/api.ErrKind", Rows.laid_sextet_api_ErrKind), ("sextet/api.ErrNone", Rows.laid_sextet_api_ErrNone), ("sextet/api.ErrThere", Rows.laid_sextet_api_ErrThere), ("sextet/api.ErrFull", Rows.laid_sextet_api_ErrFull), ("sextet/api.ErrCrash", Rows.laid_sextet_api_ErrCrash), ("sextet/api.ErrState", Rows.laid_sextet_api_ErrState), ("sextet/api.ErrConflict", Rows.laid_sextet_api_ErrConflict), ("sextet/api.ErrWaits", Rows.laid_sextet_api_ErrWaits), ("sextet/api.ErrLimit", Rows.laid_sextet_api_ErrLimit), ("sextet/api.ErrFenced", Rows.laid_sextet_api_ErrFenced), ("sextet/api.ErrWord", Rows.laid_sextet_api_ErrWord), ("sextet/api.ErrNumber", Rows.laid_sextet_api_ErrNumber)] [.sentinel, .sentinel, .sentinel, .sentinel, .sentinel, .sentinel, .sentinel, .sentinel, .sentinel, .sentinel, .sentinel, .sentinel, .sentinel, .sentinel, .sentinel, .sentinel, .sentinel] true :=
  Program.laidByTextLater_by_one 332 8 2 (by kernel_rfl) (by kernel_rfl) (by kernel_rfl) (by kernel_rfl) (by kernel_rfl) (by kernel_rfl) (fun _ _ => by kernel_rfl)
theorem noOwnUnsafe : Tryd.pinned.checked.prog.headLifts.contains "ownunsafe" = false := by kernel_rfl
theorem tie : Tryd.prog.laidByTextLater [("sextet/api.ErrShape", Rows.laid_sextet_api_ErrShape), ("sextet/api.ErrMany", Rows.laid_sextet_api_ErrMany), ("sextet/api.ErrRange", Rows.laid_sextet_api_ErrRange), ("sextet/api.ErrKind", Rows.laid_sextet_api_ErrKind), ("sextet/api.ErrThere", Rows.laid_sextet_api_ErrThere), ("sextet/api.ErrFull", Rows.laid_sextet_api_ErrFull)] [.sentinel, .sentinel, .sentinel, .sentinel, .sentinel, .sentinel] true :=
  Program.laidByTextLater.sub seatTie1 ["sextet/api.ErrShape", "sextet/api.ErrMany", "sextet/api.ErrRange", "sextet/api.ErrKind", "sextet/api.ErrThere", "sextet/api.ErrFull"] (by kernel_rfl) (by kernel_rfl)
theorem hotGaps_row_tie : Rows.hotGapsRow.laidByTextAt .later Tryd.pinned [.sentinel, .sentinel, .sentinel, .sentinel, .sentinel, .sentinel] true :=
  OpenClaim.laidByTextAt_later rfl rfl tie noOwnUnsafe
theorem hotEpochs_row_tie : Rows.hotEpochsRow.laidByTextAt .later Tryd.pinned [.sentinel, .sentinel, .sentinel, .sentinel, .sentinel, .sentinel] true :=
  OpenClaim.laidByTextAt_later rfl rfl tie noOwnUnsafe
theorem hotAbove_row_tie : Rows.hotAboveRow.laidByTextAt .later Tryd.pinned [.sentinel, .sentinel, .sentinel, .sentinel, .sentinel, .sentinel] true :=
  OpenClaim.laidByTextAt_later rfl rfl tie noOwnUnsafe
theorem hotOrders_row_tie : Rows.hotOrdersRow.laidByTextAt .later Tryd.pinned [.sentinel, .sentinel, .sentinel, .sentinel, .sentinel, .sentinel] true :=
  OpenClaim.laidByTextAt_later rfl rfl tie noOwnUnsafe
theorem hotCuts_row_tie : Rows.hotCutsRow.laidByTextAt .later Tryd.pinned [.sentinel, .sentinel, .sentinel, .sentinel, .sentinel, .sentinel] true :=
  OpenClaim.laidByTextAt_later rfl rfl tie noOwnUnsafe
theorem tie2 : Tryd.prog.laidByTextLater [("sextet/api.ErrEnd", Rows.laid_sextet_api_ErrEnd), ("sextet/api.ErrSum", Rows.laid_sextet_api_ErrSum), ("sextet/api.ErrShape", Rows.laid_sextet_api_ErrShape), ("sextet/api.ErrMany", Rows.laid_sextet_api_ErrMany), ("sextet/api.ErrRange", Rows.laid_sextet_api_ErrRange), ("sextet/api.ErrKind", Rows.laid_sextet_api_ErrKind), ("sextet/api.ErrNone", Rows.laid_sextet_api_ErrNone), ("sextet/api.ErrThere", Rows.laid_sextet_api_ErrThere), ("sextet/api.ErrFull", Rows.laid_sextet_api_ErrFull), ("sextet/api.ErrCrash", Rows.laid_sextet_api_ErrCrash), ("sextet/api.ErrState", Rows.laid_sextet_api_ErrState), ("sextet/api.ErrConflict", Rows.laid_sextet_api_ErrConflict), ("sextet/api.ErrWaits", Rows.laid_sextet_api_ErrWaits), ("sextet/api.ErrLimit", Rows.laid_sextet_api_ErrLimit), ("sextet/api.ErrFenced", Rows.laid_sextet_api_ErrFenced), ("sextet/api.ErrWord", Rows.laid_sextet_api_ErrWord), ("sextet/api.ErrNumber", Rows.laid_sextet_api_ErrNumber)] [.sentinel, .sentinel, .sentinel, .sentinel, .sentinel, .sentinel, .sentinel, .sentinel, .sentinel, .sentinel, .sentinel, .sentinel, .sentinel, .sentinel, .sentinel, .sentinel, .sentinel] true :=
  Program.laidByTextLater.sub seatTie1 ["sextet/api.ErrEnd", "sextet/api.ErrSum", "sextet/api.ErrShape", "sextet/api.ErrMany", "sextet/api.ErrRange", "sextet/api.ErrKind", "sextet/api.ErrNone", "sextet/api.ErrThere", "sextet/api.ErrFull", "sextet/api.ErrCrash", "sextet/api.ErrState", "sextet/api.ErrConflict", "sextet/api.ErrWaits", "sextet/api.ErrLimit", "sextet/api.ErrFenced", "sextet/api.ErrWord", "sextet/api.ErrNumber"] (by kernel_rfl) (by kernel_rfl)
theorem hotLeft_row_tie : Rows.hotLeftRow.laidByTextAt .later Tryd.pinned [.sentinel, .sentinel, .sentinel, .sentinel, .sentinel, .sentinel, .sentinel, .sentinel, .sentinel, .sentinel, .sentinel, .sentinel, .sentinel, .sentinel, .sentinel, .sentinel, .sentinel] true :=
  OpenClaim.laidByTextAt_later rfl rfl tie2 noOwnUnsafe
theorem hotTwice_row_tie : Rows.hotTwiceRow.laidByTextAt .later Tryd.pinned [.sentinel, .sentinel, .sentinel, .sentinel, .sentinel, .sentinel, .sentinel, .sentinel, .sentinel, .sentinel, .sentinel, .sentinel, .sentinel, .sentinel, .sentinel, .sentinel, .sentinel] true :=
  OpenClaim.laidByTextAt_later rfl rfl tie2 noOwnUnsafe
theorem versRows_row_tie : Rows.versRowsRow.laidByTextAt .later Tryd.pinned [.sentinel, .sentinel, .sentinel, .sentinel, .sentinel, .sentinel, .sentinel, .sentinel, .sentinel, .sentinel, .sentinel, .sentinel, .sentinel, .sentinel, .sentinel, .sentinel, .sentinel] true :=
  OpenClaim.laidByTextAt_later rfl rfl tie2 noOwnUnsafe
theorem versPages_row_tie : Rows.versPagesRow.laidByTextAt .later Tryd.pinned [.sentinel, .sentinel, .sentinel, .sentinel, .sentinel, .sentinel, .sentinel, .sentinel, .sentinel, .sentinel, .sentinel, .sentinel, .sentinel, .sentinel, .sentinel, .sentinel, .sentinel] true :=
  OpenClaim.laidByTextAt_later rfl rfl tie2 noOwnUnsafe
theorem versFloors_row_tie : Rows.versFloorsRow.laidByTextAt .later Tryd.pinned [.sentinel, .sentinel, .sentinel, .sentinel, .sentinel, .sentinel, .sentinel, .sentinel, .sentinel, .sentinel, .sentinel, .sentinel, .sentinel, .sentinel, .sentinel, .sentinel, .sentinel] true :=
  OpenClaim.laidByTextAt_later rfl rfl tie2 noOwnUnsafe
theorem hotGapsUpto_row_tie : Rows.hotGapsUptoRow.laidByTextAt .later Tryd.pinned [.sentinel, .sentinel, .sentinel, .sentinel, .sentinel, .sentinel] true :=
  OpenClaim.laidByTextAt_later rfl rfl tie noOwnUnsafe
theorem hotEpochsUpto_row_tie : Rows.hotEpochsUptoRow.laidByTextAt .later Tryd.pinned [.sentinel, .sentinel, .sentinel, .sentinel, .sentinel, .sentinel] true :=
  OpenClaim.laidByTextAt_later rfl rfl tie noOwnUnsafe
theorem hotAboveUpto_row_tie : Rows.hotAboveUptoRow.laidByTextAt .later Tryd.pinned [.sentinel, .sentinel, .sentinel, .sentinel, .sentinel, .sentinel] true :=
  OpenClaim.laidByTextAt_later rfl rfl tie noOwnUnsafe
theorem hotLeftUpto_row_tie : Rows.hotLeftUptoRow.laidByTextAt .later Tryd.pinned [.sentinel, .sentinel, .sentinel, .sentinel, .sentinel, .sentinel, .sentinel, .sentinel, .sentinel, .sentinel, .sentinel, .sentinel, .sentinel, .sentinel, .sentinel, .sentinel, .sentinel] true :=
  OpenClaim.laidByTextAt_later rfl rfl tie2 noOwnUnsafe
theorem hotOrdersUpto_row_tie : Rows.hotOrdersUptoRow.laidByTextAt .later Tryd.pinned [.sentinel, .sentinel, .sentinel, .sentinel, .sentinel, .sentinel] true :=
  OpenClaim.laidByTextAt_later rfl rfl tie noOwnUnsafe
theorem hotTwiceUpto_row_tie : Rows.hotTwiceUptoRow.laidByTextAt .later Tryd.pinned [.sentinel, .sentinel, .sentinel, .sentinel, .sentinel, .sentinel, .sentinel, .sentinel, .sentinel, .sentinel, .sentinel, .sentinel, .sentinel, .sentinel, .sentinel, .sentinel, .sentinel] true :=
  OpenClaim.laidByTextAt_later rfl rfl tie2 noOwnUnsafe
theorem hotCutsUpto_row_tie : Rows.hotCutsUptoRow.laidByTextAt .later Tryd.pinned [.sentinel, .sentinel, .sentinel, .sentinel, .sentinel, .sentinel] true :=
  OpenClaim.laidByTextAt_later rfl rfl tie noOwnUnsafe
theorem versRowsUpto_row_tie : Rows.versRowsUptoRow.laidByTextAt .later Tryd.pinned [.sentinel, .sentinel, .sentinel, .sentinel, .sentinel, .sentinel, .sentinel, .sentinel, .sentinel, .sentinel, .sentinel, .sentinel, .sentinel, .sentinel, .sentinel, .sentinel, .sentinel] true :=
  OpenClaim.laidByTextAt_later rfl rfl tie2 noOwnUnsafe
theorem versPagesUpto_row_tie : Rows.versPagesUptoRow.laidByTextAt .later Tryd.pinned [.sentinel, .sentinel, .sentinel, .sentinel, .sentinel, .sentinel, .sentinel, .sentinel, .sentinel, .sentinel, .sentinel, .sentinel, .sentinel, .sentinel, .sentinel, .sentinel, .sentinel] true :=
  OpenClaim.laidByTextAt_later rfl rfl tie2 noOwnUnsafe
theorem versFloorsUpto_row_tie : Rows.versFloorsUptoRow.laidByTextAt .later Tryd.pinned [.sentinel, .sentinel, .sentinel, .sentinel, .sentinel, .sentinel, .sentinel, .sentinel, .sentinel, .sentinel, .sentinel, .sentinel, .sentinel, .sentinel, .sentinel, .sentinel, .sentinel] true :=
  OpenClaim.laidByTextAt_later rfl rfl tie2 noOwnUnsafe
end Go.Proofs.YtalidmlomfobdaaDoor
