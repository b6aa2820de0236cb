/-
  NARROWER THAN 'FOR EVERY INPUT', by the rows' own cells (each row's printed sentence says how): HotGaps: laid · HotEpochs: laid · HotAbove: laid · HotLeft: laid · HotOrders: laid · HotTwice: laid · HotCuts: laid · VersRows: laid · VersPages: laid · VersFloors: laid.
  DERIVED. THE GIVEN ROWS OF THIS SEAT. 10 by the template 'for every input the law returns true; each argument reads behind the call as it read before'; 0 by the template 'total and deterministic' (their statements: YtalidmlomfobdaaDoorTotals.lean).
  GIVEN WITH THE SEED: the statements are not yours to turn. If you find one false, say at which input.
  Laid BY PROGRAM, IN A SANDBOX (cutbox-rows.mjs): the forced cells as the released guide's own fill.sh prints them over the translation 2527ccdac0d66093… (all of the seat's roots in one cut). By AI agents, Wed Nov 11 2026. No macro, syntax, notation, axiom, sorry.
-/
import Derived.Test.YtalidmlomfobdaaDoorChecked
import GoSem.Claim
import GoSem.ClaimJoined
import GoSem.ClaimMapViews
import Derived.JoinedTies
import Derived.KernelRfl
namespace Go.Proofs.YtalidmlomfobdaaDoor
/- THE CELL 'sum', in the pinned program and in every row, IS THE sha256 OF THE DUMP (.gsa) THAT YtalidmlomfobdaaDoorProg.lean LOADS. Nothing in Lean hashes anything: it is a label: what it is worth is what the hold of that sum in a sandbox is worth. -/
noncomputable def Tryd.pinned : Pinned := { name := "ytalidmlomfobdaadoor", sum := "2527ccdac0d66093b9125eb6e807d76cce75674e76cd373276c0bb91d93b0412", checked := Tryd.checked }
namespace Rows
def none {H : Type} : Left H := { results := [], args := [] }

/- WHAT THE LISTED PACKAGE-LEVEL VARIABLES READ AS WHEN THE CALL BEGINS. Each datum BY PROGRAM (the guide's laid-datum.mjs) off the statement by which the dump's own 'gosem.cut.vars' lays the variable. In a bare row this is a premise. The card (YtalidmlomfobdaaDoorCards.lean) ties it to the program's text. -/
def laid_sextet_api_ErrShape {H : Type} : DataW H := .iface "*errors.errorString" (.ptr (.agg [.lit (.string [110, 111, 116, 32, 97, 115, 32, 105, 116, 32, 104, 97, 115, 32, 116, 111, 32, 98, 101])]))
def laid_sextet_api_ErrMany {H : Type} : DataW H := .iface "*errors.errorString" (.ptr (.agg [.lit (.string [116, 111, 111, 32, 109, 97, 110, 121])]))
def laid_sextet_api_ErrRange {H : Type} : DataW H := .iface "*errors.errorString" (.ptr (.agg [.lit (.string [97, 32, 110, 117, 109, 98, 101, 114, 32, 111, 117, 116, 32, 111, 102, 32, 105, 116, 115, 32, 114, 97, 110, 103, 101])]))
def laid_sextet_api_ErrKind {H : Type} : DataW H := .iface "*errors.errorString" (.ptr (.agg [.lit (.string [110, 111, 32, 115, 117, 99, 104, 32, 107, 105, 110, 100])]))
def laid_sextet_api_ErrThere {H : Type} : DataW H := .iface "*errors.errorString" (.ptr (.agg [.lit (.string [116, 104, 101, 114, 101, 32, 105, 115, 32, 111, 110, 101])]))
def laid_sextet_api_ErrFull {H : Type} : DataW H := .iface "*errors.errorString" (.ptr (.agg [.lit (.string [116, 104, 101, 114, 101, 32, 105, 115, 32, 110, 111, 32, 114, 111, 111, 109])]))
def laid_sextet_api_ErrEnd {H : Type} : DataW H := .iface "*errors.errorString" (.ptr (.agg [.lit (.string [105, 116, 32, 101, 110, 100, 115, 32, 116, 111, 111, 32, 101, 97, 114, 108, 121])]))
def laid_sextet_api_ErrSum {H : Type} : DataW H := .iface "*errors.errorString" (.ptr (.agg [.lit (.string [116, 104, 101, 32, 115, 117, 109, 32, 105, 115, 32, 97, 110, 111, 116, 104, 101, 114, 32, 111, 110, 101])]))
def laid_sextet_api_ErrNone {H : Type} : DataW H := .iface "*errors.errorString" (.ptr (.agg [.lit (.string [116, 104, 101, 114, 101, 32, 105, 115, 32, 110, 111, 110, 101])]))
def laid_sextet_api_ErrCrash {H : Type} : DataW H := .iface "*errors.errorString" (.ptr (.agg [.lit (.string [105, 116, 32, 105, 115, 32, 100, 111, 119, 110])]))
def laid_sextet_api_ErrState {H : Type} : DataW H := .iface "*errors.errorString" (.ptr (.agg [.lit (.string [110, 111, 116, 32, 105, 110, 32, 116, 104, 105, 115, 32, 115, 116, 97, 116, 101])]))
def laid_sextet_api_ErrConflict {H : Type} : DataW H := .iface "*errors.errorString" (.ptr (.agg [.lit (.string [97, 110, 111, 116, 104, 101, 114, 32, 111, 110, 101, 32, 119, 114, 105, 116, 101, 115, 32, 116, 104, 97, 116])]))
def laid_sextet_api_ErrWaits {H : Type} : DataW H := .iface "*errors.errorString" (.ptr (.agg [.lit (.string [105, 116, 32, 119, 97, 105, 116, 115, 32, 102, 111, 114, 32, 97, 32, 112, 97, 103, 101])]))
def laid_sextet_api_ErrLimit {H : Type} : DataW H := .iface "*errors.errorString" (.ptr (.agg [.lit (.string [116, 111, 111, 32, 102, 97, 114, 32, 97, 104, 101, 97, 100, 32, 111, 102, 32, 119, 104, 97, 116, 32, 105, 115, 32, 100, 117, 114, 97, 98, 108, 101])]))
def laid_sextet_api_ErrFenced {H : Type} : DataW H := .iface "*errors.errorString" (.ptr (.agg [.lit (.string [97, 32, 108, 97, 116, 101, 114, 32, 111, 110, 101, 32, 119, 114, 105, 116, 101, 115])]))
def laid_sextet_api_ErrWord {H : Type} : DataW H := .iface "*errors.errorString" (.ptr (.agg [.lit (.string [110, 111, 32, 115, 117, 99, 104, 32, 119, 111, 114, 100])]))
def laid_sextet_api_ErrNumber {H : Type} : DataW H := .iface "*errors.errorString" (.ptr (.agg [.lit (.string [110, 111, 32, 115, 117, 99, 104, 32, 110, 117, 109, 98, 101, 114])]))

/-- 'sextetlaw9.HotGaps': WHATEVER THE INPUT: true; the input reads as it did. -/
def hotGapsSpec : ChangeSpec := { name := "hotGaps", fn := fun _ => fun
  | [d] => { results := [.lit (.bool true)], args := [d] }
  | _ => none }
def hotGapsRow : OpenClaim := { program := "ytalidmlomfobdaadoor", sum := "2527ccdac0d66093b9125eb6e807d76cce75674e76cd373276c0bb91d93b0412", func := "sextet/sextetlaw9.HotGaps", spec := "hotGaps", inPlace := ["slices.overlaps[sextet/api.Redo]"], unfollowed := true, recurses := true, named := ["sextet/api.ErrShape", "sextet/api.ErrThere", "sextet/api.ErrFull", "sextet/api.ErrRange", "sextet/api.ErrKind", "sextet/api.ErrMany"], apart := false, laid := [("sextet/api.ErrShape", laid_sextet_api_ErrShape), ("sextet/api.ErrMany", laid_sextet_api_ErrMany), ("sextet/api.ErrRange", laid_sextet_api_ErrRange), ("sextet/api.ErrKind", laid_sextet_api_ErrKind), ("sextet/api.ErrThere", laid_sextet_api_ErrThere), ("sextet/api.ErrFull", laid_sextet_api_ErrFull)] }
def HotGapsSaid : Prop := hotGapsRow.holds Tryd.pinned (OpenSpec.ofChange hotGapsSpec)

/-- ITS FALSE NEIGHBOUR: 'it returns false'. Refute it at one input. -/
def hotGapsWrong : ChangeSpec := { name := "hotGaps", fn := fun _ => fun
  | [d] => { results := [.lit (.bool false)], args := [d] }
  | _ => none }
def HotGapsWrongFalsely : Prop := hotGapsRow.holds Tryd.pinned (OpenSpec.ofChange hotGapsWrong)

/-- 'sextetlaw9.HotEpochs': WHATEVER THE INPUT: true; the input reads as it did. -/
def hotEpochsSpec : ChangeSpec := { name := "hotEpochs", fn := fun _ => fun
  | [d1, d2, d3] => { results := [.lit (.bool true)], args := [d1, d2, d3] }
  | _ => none }
def hotEpochsRow : OpenClaim := { program := "ytalidmlomfobdaadoor", sum := "2527ccdac0d66093b9125eb6e807d76cce75674e76cd373276c0bb91d93b0412", func := "sextet/sextetlaw9.HotEpochs", spec := "hotEpochs", inPlace := ["slices.overlaps[sextet/api.Redo]"], unfollowed := true, recurses := true, named := ["sextet/api.ErrShape", "sextet/api.ErrThere", "sextet/api.ErrFull", "sextet/api.ErrRange", "sextet/api.ErrKind", "sextet/api.ErrMany"], apart := false, laid := [("sextet/api.ErrShape", laid_sextet_api_ErrShape), ("sextet/api.ErrMany", laid_sextet_api_ErrMany), ("sextet/api.ErrRange", laid_sextet_api_ErrRange), ("sextet/api.ErrKind", laid_sextet_api_ErrKind), ("sextet/api.ErrThere", laid_sextet_api_ErrThere), ("sextet/api.ErrFull", laid_sextet_api_ErrFull)] }
def HotEpochsSaid : Prop := hotEpochsRow.holds Tryd.pinned (OpenSpec.ofChange hotEpochsSpec)

/-- ITS FALSE NEIGHBOUR: 'it returns false'. Refute it at one input. -/
def hotEpochsWrong : ChangeSpec := { name := "hotEpochs", fn := fun _ => fun
  | [d1, d2, d3] => { results := [.lit (.bool false)], args := [d1, d2, d3] }
  | _ => none }
def HotEpochsWrongFalsely : Prop := hotEpochsRow.holds Tryd.pinned (OpenSpec.ofChange hotEpochsWrong)

/-- 'sextetlaw9.HotAbove': WHATEVER THE INPUT: true; the input reads as it did. -/
def hotAboveSpec : ChangeSpec := { name := "hotAbove", fn := fun _ => fun
  | [d1, d2, d3] => { results := [.lit (.bool true)], args := [d1, d2, d3] }
  | _ => none }
def hotAboveRow : OpenClaim := { program := "ytalidmlomfobdaadoor", sum := "2527ccdac0d66093b9125eb6e807d76cce75674e76cd373276c0bb91d93b0412", func := "sextet/sextetlaw9.HotAbove", spec := "hotAbove", inPlace := ["slices.overlaps[sextet/api.Redo]"], unfollowed := true, recurses := true, named := ["sextet/api.ErrShape", "sextet/api.ErrThere", "sextet/api.ErrFull", "sextet/api.ErrRange", "sextet/api.ErrKind", "sextet/api.ErrMany"], apart := false, laid := [("sextet/api.ErrShape", laid_sextet_api_ErrShape), ("sextet/api.ErrMany", laid_sextet_api_ErrMany), ("sextet/api.ErrRange", laid_sextet_api_ErrRange), ("sextet/api.ErrKind", laid_sextet_api_ErrKind), ("sextet/api.ErrThere", laid_sextet_api_ErrThere), ("sextet/api.ErrFull", laid_sextet_api_ErrFull)] }
def HotAboveSaid : Prop := hotAboveRow.holds Tryd.pinned (OpenSpec.ofChange hotAboveSpec)

/-- ITS FALSE NEIGHBOUR: 'it returns false'. Refute it at one input. -/
def hotAboveWrong : ChangeSpec := { name := "hotAbove", fn := fun _ => fun
  | [d1, d2, d3] => { results := [.lit (.bool false)], args := [d1, d2, d3] }
  | _ => none }
def HotAboveWrongFalsely : Prop := hotAboveRow.holds Tryd.pinned (OpenSpec.ofChange hotAboveWrong)

/-- 'sextetlaw9.HotLeft': WHATEVER THE INPUT: true; the input reads as it did. -/
def hotLeftSpec : ChangeSpec := { name := "hotLeft", fn := fun _ => fun
  | [d1, d2] => { results := [.lit (.bool true)], args := [d1, d2] }
  | _ => none }
def hotLeftRow : OpenClaim := { program := "ytalidmlomfobdaadoor", sum := "2527ccdac0d66093b9125eb6e807d76cce75674e76cd373276c0bb91d93b0412", func := "sextet/sextetlaw9.HotLeft", spec := "hotLeft", inPlace := ["slices.overlaps[sextet/api.Redo]"], unfollowed := true, recurses := true, named := ["sextet/api.ErrShape", "sextet/api.ErrThere", "sextet/api.ErrFull", "sextet/api.ErrRange", "sextet/api.ErrKind", "sextet/api.ErrMany", "sextet/api.ErrEnd", "sextet/api.ErrSum", "sextet/api.ErrNone", "sextet/api.ErrCrash", "sextet/api.ErrState", "sextet/api.ErrConflict", "sextet/api.ErrWaits", "sextet/api.ErrLimit", "sextet/api.ErrFenced", "sextet/api.ErrWord", "sextet/api.ErrNumber"], apart := false, laid := [("sextet/api.ErrEnd", laid_sextet_api_ErrEnd), ("sextet/api.ErrSum", laid_sextet_api_ErrSum), ("sextet/api.ErrShape", laid_sextet_api_ErrShape), ("sextet/api.ErrMany", laid_sextet_api_ErrMany), ("sextet/api.ErrRange", laid_sextet_api_ErrRange), ("sextet/api.ErrKind", laid_sextet_api_ErrKind), ("sextet/api.ErrNone", laid_sextet_api_ErrNone), ("sextet/api.ErrThere", laid_sextet_api_ErrThere), ("sextet/api.ErrFull", laid_sextet_api_ErrFull), ("sextet/api.ErrCrash", laid_sextet_api_ErrCrash), ("sextet/api.ErrState", laid_sextet_api_ErrState), ("sextet/api.ErrConflict", laid_sextet_api_ErrConflict), ("sextet/api.ErrWaits", laid_sextet_api_ErrWaits), ("sextet/api.ErrLimit", laid_sextet_api_ErrLimit), ("sextet/api.ErrFenced", laid_sextet_api_ErrFenced), ("sextet/api.ErrWord", laid_sextet_api_ErrWord), ("sextet/api.ErrNumber", laid_sextet_api_ErrNumber)] }
def HotLeftSaid : Prop := hotLeftRow.holds Tryd.pinned (OpenSpec.ofChange hotLeftSpec)

/-- ITS FALSE NEIGHBOUR: 'it returns false'. Refute it at one input. -/
def hotLeftWrong : ChangeSpec := { name := "hotLeft", fn := fun _ => fun
  | [d1, d2] => { results := [.lit (.bool false)], args := [d1, d2] }
  | _ => none }
def HotLeftWrongFalsely : Prop := hotLeftRow.holds Tryd.pinned (OpenSpec.ofChange hotLeftWrong)

/-- 'sextetlaw9.HotOrders': WHATEVER THE INPUT: true; the input reads as it did. -/
def hotOrdersSpec : ChangeSpec := { name := "hotOrders", fn := fun _ => fun
  | [d1, d2] => { results := [.lit (.bool true)], args := [d1, d2] }
  | _ => none }
def hotOrdersRow : OpenClaim := { program := "ytalidmlomfobdaadoor", sum := "2527ccdac0d66093b9125eb6e807d76cce75674e76cd373276c0bb91d93b0412", func := "sextet/sextetlaw9.HotOrders", spec := "hotOrders", inPlace := ["slices.overlaps[sextet/api.Redo]"], unfollowed := true, recurses := true, named := ["sextet/api.ErrShape", "sextet/api.ErrThere", "sextet/api.ErrFull", "sextet/api.ErrRange", "sextet/api.ErrKind", "sextet/api.ErrMany"], apart := false, laid := [("sextet/api.ErrShape", laid_sextet_api_ErrShape), ("sextet/api.ErrMany", laid_sextet_api_ErrMany), ("sextet/api.ErrRange", laid_sextet_api_ErrRange), ("sextet/api.ErrKind", laid_sextet_api_ErrKind), ("sextet/api.ErrThere", laid_sextet_api_ErrThere), ("sextet/api.ErrFull", laid_sextet_api_ErrFull)] }
def HotOrdersSaid : Prop := hotOrdersRow.holds Tryd.pinned (OpenSpec.ofChange hotOrdersSpec)

/-- ITS FALSE NEIGHBOUR: 'it returns false'. Refute it at one input. -/
def hotOrdersWrong : ChangeSpec := { name := "hotOrders", fn := fun _ => fun
  | [d1, d2] => { results := [.lit (.bool false)], args := [d1, d2] }
  | _ => none }
def HotOrdersWrongFalsely : Prop := hotOrdersRow.holds Tryd.pinned (OpenSpec.ofChange hotOrdersWrong)

/-- 'sextetlaw9.HotTwice': WHATEVER THE INPUT: true; the input reads as it did. -/
def hotTwiceSpec : ChangeSpec := { name := "hotTwice", fn := fun _ => fun
  | [d1, d2, d3] => { results := [.lit (.bool true)], args := [d1, d2, d3] }
  | _ => none }
def hotTwiceRow : OpenClaim := { program := "ytalidmlomfobdaadoor", sum := "2527ccdac0d66093b9125eb6e807d76cce75674e76cd373276c0bb91d93b0412", func := "sextet/sextetlaw9.HotTwice", spec := "hotTwice", inPlace := ["slices.overlaps[sextet/api.Redo]"], unfollowed := true, recurses := true, named := ["sextet/api.ErrShape", "sextet/api.ErrThere", "sextet/api.ErrFull", "sextet/api.ErrRange", "sextet/api.ErrKind", "sextet/api.ErrMany", "sextet/api.ErrEnd", "sextet/api.ErrSum", "sextet/api.ErrNone", "sextet/api.ErrCrash", "sextet/api.ErrState", "sextet/api.ErrConflict", "sextet/api.ErrWaits", "sextet/api.ErrLimit", "sextet/api.ErrFenced", "sextet/api.ErrWord", "sextet/api.ErrNumber"], apart := false, laid := [("sextet/api.ErrEnd", laid_sextet_api_ErrEnd), ("sextet/api.ErrSum", laid_sextet_api_ErrSum), ("sextet/api.ErrShape", laid_sextet_api_ErrShape), ("sextet/api.ErrMany", laid_sextet_api_ErrMany), ("sextet/api.ErrRange", laid_sextet_api_ErrRange), ("sextet/api.ErrKind", laid_sextet_api_ErrKind), ("sextet/api.ErrNone", laid_sextet_api_ErrNone), ("sextet/api.ErrThere", laid_sextet_api_ErrThere), ("sextet/api.ErrFull", laid_sextet_api_ErrFull), ("sextet/api.ErrCrash", laid_sextet_api_ErrCrash), ("sextet/api.ErrState", laid_sextet_api_ErrState), ("sextet/api.ErrConflict", laid_sextet_api_ErrConflict), ("sextet/api.ErrWaits", laid_sextet_api_ErrWaits), ("sextet/api.ErrLimit", laid_sextet_api_ErrLimit), ("sextet/api.ErrFenced", laid_sextet_api_ErrFenced), ("sextet/api.ErrWord", laid_sextet_api_ErrWord), ("sextet/api.ErrNumber", laid_sextet_api_ErrNumber)] }
def HotTwiceSaid : Prop := hotTwiceRow.holds Tryd.pinned (OpenSpec.ofChange hotTwiceSpec)

/-- ITS FALSE NEIGHBOUR: 'it returns false'. Refute it at one input. -/
def hotTwiceWrong : ChangeSpec := { name := "hotTwice", fn := fun _ => fun
  | [d1, d2, d3] => { results := [.lit (.bool false)], args := [d1, d2, d3] }
  | _ => none }
def HotTwiceWrongFalsely : Prop := hotTwiceRow.holds Tryd.pinned (OpenSpec.ofChange hotTwiceWrong)

/-- 'sextetlaw9.HotCuts': WHATEVER THE INPUT: true; the input reads as it did. -/
def hotCutsSpec : ChangeSpec := { name := "hotCuts", fn := fun _ => fun
  | [d1, d2, d3] => { results := [.lit (.bool true)], args := [d1, d2, d3] }
  | _ => none }
def hotCutsRow : OpenClaim := { program := "ytalidmlomfobdaadoor", sum := "2527ccdac0d66093b9125eb6e807d76cce75674e76cd373276c0bb91d93b0412", func := "sextet/sextetlaw9.HotCuts", spec := "hotCuts", inPlace := ["slices.overlaps[sextet/api.Redo]"], unfollowed := true, recurses := true, named := ["sextet/api.ErrShape", "sextet/api.ErrThere", "sextet/api.ErrFull", "sextet/api.ErrRange", "sextet/api.ErrKind", "sextet/api.ErrMany"], apart := false, laid := [("sextet/api.ErrShape", laid_sextet_api_ErrShape), ("sextet/api.ErrMany", laid_sextet_api_ErrMany), ("sextet/api.ErrRange", laid_sextet_api_ErrRange), ("sextet/api.ErrKind", laid_sextet_api_ErrKind), ("sextet/api.ErrThere", laid_sextet_api_ErrThere), ("sextet/api.ErrFull", laid_sextet_api_ErrFull)] }
def HotCutsSaid : Prop := hotCutsRow.holds Tryd.pinned (OpenSpec.ofChange hotCutsSpec)

/-- ITS FALSE NEIGHBOUR: 'it returns false'. Refute it at one input. -/
def hotCutsWrong : ChangeSpec := { name := "hotCuts", fn := fun _ => fun
  | [d1, d2, d3] => { results := [.lit (.bool false)], args := [d1, d2, d3] }
  | _ => none }
def HotCutsWrongFalsely : Prop := hotCutsRow.holds Tryd.pinned (OpenSpec.ofChange hotCutsWrong)

/-- 'sextetlaw11.VersRows': WHATEVER THE INPUT: true; the input reads as it did. -/
def versRowsSpec : ChangeSpec := { name := "versRows", fn := fun _ => fun
  | [d1, d2, d3] => { results := [.lit (.bool true)], args := [d1, d2, d3] }
  | _ => none }
def versRowsRow : OpenClaim := { program := "ytalidmlomfobdaadoor", sum := "2527ccdac0d66093b9125eb6e807d76cce75674e76cd373276c0bb91d93b0412", func := "sextet/sextetlaw11.VersRows", spec := "versRows", inPlace := ["slices.overlaps[sextet/api.Redo]", "slices.overlaps[sextet/api.Entry]"], unfollowed := true, recurses := true, named := ["sextet/api.ErrShape", "sextet/api.ErrThere", "sextet/api.ErrFull", "sextet/api.ErrRange", "sextet/api.ErrKind", "sextet/api.ErrMany", "sextet/api.ErrNone", "sextet/api.ErrEnd", "sextet/api.ErrSum", "sextet/api.ErrCrash", "sextet/api.ErrState", "sextet/api.ErrConflict", "sextet/api.ErrWaits", "sextet/api.ErrLimit", "sextet/api.ErrFenced", "sextet/api.ErrWord", "sextet/api.ErrNumber"], apart := false, laid := [("sextet/api.ErrEnd", laid_sextet_api_ErrEnd), ("sextet/api.ErrSum", laid_sextet_api_ErrSum), ("sextet/api.ErrShape", laid_sextet_api_ErrShape), ("sextet/api.ErrMany", laid_sextet_api_ErrMany), ("sextet/api.ErrRange", laid_sextet_api_ErrRange), ("sextet/api.ErrKind", laid_sextet_api_ErrKind), ("sextet/api.ErrNone", laid_sextet_api_ErrNone), ("sextet/api.ErrThere", laid_sextet_api_ErrThere), ("sextet/api.ErrFull", laid_sextet_api_ErrFull), ("sextet/api.ErrCrash", laid_sextet_api_ErrCrash), ("sextet/api.ErrState", laid_sextet_api_ErrState), ("sextet/api.ErrConflict", laid_sextet_api_ErrConflict), ("sextet/api.ErrWaits", laid_sextet_api_ErrWaits), ("sextet/api.ErrLimit", laid_sextet_api_ErrLimit), ("sextet/api.ErrFenced", laid_sextet_api_ErrFenced), ("sextet/api.ErrWord", laid_sextet_api_ErrWord), ("sextet/api.ErrNumber", laid_sextet_api_ErrNumber)] }
def VersRowsSaid : Prop := versRowsRow.holds Tryd.pinned (OpenSpec.ofChange versRowsSpec)

/-- ITS FALSE NEIGHBOUR: 'it returns false'. Refute it at one input. -/
def versRowsWrong : ChangeSpec := { name := "versRows", fn := fun _ => fun
  | [d1, d2, d3] => { results := [.lit (.bool false)], args := [d1, d2, d3] }
  | _ => none }
def VersRowsWrongFalsely : Prop := versRowsRow.holds Tryd.pinned (OpenSpec.ofChange versRowsWrong)

/-- 'sextetlaw11.VersPages': WHATEVER THE INPUT: true; the input reads as it did. -/
def versPagesSpec : ChangeSpec := { name := "versPages", fn := fun _ => fun
  | [d1, d2] => { results := [.lit (.bool true)], args := [d1, d2] }
  | _ => none }
def versPagesRow : OpenClaim := { program := "ytalidmlomfobdaadoor", sum := "2527ccdac0d66093b9125eb6e807d76cce75674e76cd373276c0bb91d93b0412", func := "sextet/sextetlaw11.VersPages", spec := "versPages", inPlace := ["slices.overlaps[sextet/api.Redo]", "slices.overlaps[sextet/api.Entry]"], unfollowed := true, recurses := true, named := ["sextet/api.ErrShape", "sextet/api.ErrThere", "sextet/api.ErrFull", "sextet/api.ErrRange", "sextet/api.ErrKind", "sextet/api.ErrMany", "sextet/api.ErrNone", "sextet/api.ErrEnd", "sextet/api.ErrSum", "sextet/api.ErrCrash", "sextet/api.ErrState", "sextet/api.ErrConflict", "sextet/api.ErrWaits", "sextet/api.ErrLimit", "sextet/api.ErrFenced", "sextet/api.ErrWord", "sextet/api.ErrNumber"], apart := false, laid := [("sextet/api.ErrEnd", laid_sextet_api_ErrEnd), ("sextet/api.ErrSum", laid_sextet_api_ErrSum), ("sextet/api.ErrShape", laid_sextet_api_ErrShape), ("sextet/api.ErrMany", laid_sextet_api_ErrMany), ("sextet/api.ErrRange", laid_sextet_api_ErrRange), ("sextet/api.ErrKind", laid_sextet_api_ErrKind), ("sextet/api.ErrNone", laid_sextet_api_ErrNone), ("sextet/api.ErrThere", laid_sextet_api_ErrThere), ("sextet/api.ErrFull", laid_sextet_api_ErrFull), ("sextet/api.ErrCrash", laid_sextet_api_ErrCrash), ("sextet/api.ErrState", laid_sextet_api_ErrState), ("sextet/api.ErrConflict", laid_sextet_api_ErrConflict), ("sextet/api.ErrWaits", laid_sextet_api_ErrWaits), ("sextet/api.ErrLimit", laid_sextet_api_ErrLimit), ("sextet/api.ErrFenced", laid_sextet_api_ErrFenced), ("sextet/api.ErrWord", laid_sextet_api_ErrWord), ("sextet/api.ErrNumber", laid_sextet_api_ErrNumber)] }
def VersPagesSaid : Prop := versPagesRow.holds Tryd.pinned (OpenSpec.ofChange versPagesSpec)

/-- ITS FALSE NEIGHBOUR: 'it returns false'. Refute it at one input. -/
def versPagesWrong : ChangeSpec := { name := "versPages", fn := fun _ => fun
  | [d1, d2] => { results := [.lit (.bool false)], args := [d1, d2] }
  | _ => none }
def VersPagesWrongFalsely : Prop := versPagesRow.holds Tryd.pinned (OpenSpec.ofChange versPagesWrong)

/-- 'sextetlaw11.VersFloors': WHATEVER THE INPUT: true; the input reads as it did. -/
def versFloorsSpec : ChangeSpec := { name := "versFloors", fn := fun _ => fun
  | [d1, d2, d3] => { results := [.lit (.bool true)], args := [d1, d2, d3] }
  | _ => none }
def versFloorsRow : OpenClaim := { program := "ytalidmlomfobdaadoor", sum := "2527ccdac0d66093b9125eb6e807d76cce75674e76cd373276c0bb91d93b0412", func := "sextet/sextetlaw11.VersFloors", spec := "versFloors", inPlace := ["slices.overlaps[sextet/api.Redo]", "slices.overlaps[sextet/api.Entry]"], unfollowed := true, recurses := true, named := ["sextet/api.ErrShape", "sextet/api.ErrThere", "sextet/api.ErrFull", "sextet/api.ErrRange", "sextet/api.ErrKind", "sextet/api.ErrMany", "sextet/api.ErrNone", "sextet/api.ErrEnd", "sextet/api.ErrSum", "sextet/api.ErrCrash", "sextet/api.ErrState", "sextet/api.ErrConflict", "sextet/api.ErrWaits", "sextet/api.ErrLimit", "sextet/api.ErrFenced", "sextet/api.ErrWord", "sextet/api.ErrNumber"], apart := false, laid := [("sextet/api.ErrEnd", laid_sextet_api_ErrEnd), ("sextet/api.ErrSum", laid_sextet_api_ErrSum), ("sextet/api.ErrShape", laid_sextet_api_ErrShape), ("sextet/api.ErrMany", laid_sextet_api_ErrMany), ("sextet/api.ErrRange", laid_sextet_api_ErrRange), ("sextet/api.ErrKind", laid_sextet_api_ErrKind), ("sextet/api.ErrNone", laid_sextet_api_ErrNone), ("sextet/api.ErrThere", laid_sextet_api_ErrThere), ("sextet/api.ErrFull", laid_sextet_api_ErrFull), ("sextet/api.ErrCrash", laid_sextet_api_ErrCrash), ("sextet/api.ErrState", laid_sextet_api_ErrState), ("sextet/api.ErrConflict", laid_sextet_api_ErrConflict), ("sextet/api.ErrWaits", laid_sextet_api_ErrWaits), ("sextet/api.ErrLimit", laid_sextet_api_ErrLimit), ("sextet/api.ErrFenced", laid_sextet_api_ErrFenced), ("sextet/api.ErrWord", laid_sextet_api_ErrWord), ("sextet/api.ErrNumber", laid_sextet_api_ErrNumber)] }
def VersFloorsSaid : Prop := versFloorsRow.holds Tryd.pinned (OpenSpec.ofChange versFloorsSpec)

/-- ITS FALSE NEIGHBOUR: 'it returns false'. Refute it at one input. -/
def versFloorsWrong : ChangeSpec := { name := "versFloors", fn := fun _ => fun
  | [d1, d2, d3] => { results := [.lit (.bool false)], args := [d1, d2, d3] }
  | _ => none }
def VersFloorsWrongFalsely : Prop := versFloorsRow.holds Tryd.pinned (OpenSpec.ofChange versFloorsWrong)

/- THE SECOND FORM. 'bulk': how many values and letters a reading holds, each counted each time it is reached (what is shared counts as often as it is met; a slice's spare places count too). A statement '..UptoSaid' is the law's where the arguments, and the package variables that the reading takes, are together of bulk at most 1048576: NARROWER than '..Said'. Prove '..Said' where nothing that the law and all that it calls make is longer than what came in: it says more and counts as full. Else prove '..UptoSaid'. A law counts once. -/
mutual
def uptoBulk {H : Type} : DataW H → Nat
  | .lit (.string bytes) => bytes.length + 1
  | .lit _ => 1
  | .nil => 1
  | .ptr d => uptoBulk d + 1
  | .slice elems spare => uptoBulkAll elems + uptoBulkAll spare + 1
  | .agg parts => uptoBulkAll parts + 1
  | .iface _ d => uptoBulk d + 1
  | .map entries => uptoBulkEntries entries + 1
  | .held _ => 1
def uptoBulkAll {H : Type} : List (DataW H) → Nat
  | [] => 0
  | d :: r => uptoBulk d + uptoBulkAll r
def uptoBulkEntries {H : Type} : List (Lit × DataW H) → Nat
  | [] => 0
  | x :: r => uptoBulkEntry x + uptoBulkEntries r
def uptoBulkEntry {H : Type} : Lit × DataW H → Nat
  | (.string bytes, d) => bytes.length + uptoBulk d + 1
  | (_, d) => uptoBulk d + 1
 end
def uptoSmall : (H : Type) → List (DataW H) → Bool := fun _ ds => decide (uptoBulkAll ds ≤ 1048576)
def OpenSpec.upto (s : _root_.Go.ChangeSpec) : _root_.Go.OpenSpec := { _root_.Go.OpenSpec.ofChange s with cond := some uptoSmall }

/-- 'sextetlaw9.HotGaps', WHERE WHAT IT READS IS OF BULK AT MOST 1048576: true; the input reads as it did. -/
def hotGapsUptoRow : OpenClaim := { program := "ytalidmlomfobdaadoor", sum := "2527ccdac0d66093b9125eb6e807d76cce75674e76cd373276c0bb91d93b0412", func := "sextet/sextetlaw9.HotGaps", spec := "hotGaps", inPlace := ["slices.overlaps[sextet/api.Redo]"], unfollowed := true, recurses := true, named := ["sextet/api.ErrShape", "sextet/api.ErrThere", "sextet/api.ErrFull", "sextet/api.ErrRange", "sextet/api.ErrKind", "sextet/api.ErrMany"], apart := false, laid := [("sextet/api.ErrShape", laid_sextet_api_ErrShape), ("sextet/api.ErrMany", laid_sextet_api_ErrMany), ("sextet/api.ErrRange", laid_sextet_api_ErrRange), ("sextet/api.ErrKind", laid_sextet_api_ErrKind), ("sextet/api.ErrThere", laid_sextet_api_ErrThere), ("sextet/api.ErrFull", laid_sextet_api_ErrFull)], narrowed := true }
def HotGapsUptoSaid : Prop := hotGapsUptoRow.holds Tryd.pinned (OpenSpec.upto hotGapsSpec)

/-- 'sextetlaw9.HotEpochs', WHERE WHAT IT READS IS OF BULK AT MOST 1048576: true; the input reads as it did. -/
def hotEpochsUptoRow : OpenClaim := { program := "ytalidmlomfobdaadoor", sum := "2527ccdac0d66093b9125eb6e807d76cce75674e76cd373276c0bb91d93b0412", func := "sextet/sextetlaw9.HotEpochs", spec := "hotEpochs", inPlace := ["slices.overlaps[sextet/api.Redo]"], unfollowed := true, recurses := true, named := ["sextet/api.ErrShape", "sextet/api.ErrThere", "sextet/api.ErrFull", "sextet/api.ErrRange", "sextet/api.ErrKind", "sextet/api.ErrMany"], apart := false, laid := [("sextet/api.ErrShape", laid_sextet_api_ErrShape), ("sextet/api.ErrMany", laid_sextet_api_ErrMany), ("sextet/api.ErrRange", laid_sextet_api_ErrRange), ("sextet/api.ErrKind", laid_sextet_api_ErrKind), ("sextet/api.ErrThere", laid_sextet_api_ErrThere), ("sextet/api.ErrFull", laid_sextet_api_ErrFull)], narrowed := true }
def HotEpochsUptoSaid : Prop := hotEpochsUptoRow.holds Tryd.pinned (OpenSpec.upto hotEpochsSpec)

/-- 'sextetlaw9.HotAbove', WHERE WHAT IT READS IS OF BULK AT MOST 1048576: true; the input reads as it did. -/
def hotAboveUptoRow : OpenClaim := { program := "ytalidmlomfobdaadoor", sum := "2527ccdac0d66093b9125eb6e807d76cce75674e76cd373276c0bb91d93b0412", func := "sextet/sextetlaw9.HotAbove", spec := "hotAbove", inPlace := ["slices.overlaps[sextet/api.Redo]"], unfollowed := true, recurses := true, named := ["sextet/api.ErrShape", "sextet/api.ErrThere", "sextet/api.ErrFull", "sextet/api.ErrRange", "sextet/api.ErrKind", "sextet/api.ErrMany"], apart := false, laid := [("sextet/api.ErrShape", laid_sextet_api_ErrShape), ("sextet/api.ErrMany", laid_sextet_api_ErrMany), ("sextet/api.ErrRange", laid_sextet_api_ErrRange), ("sextet/api.ErrKind", laid_sextet_api_ErrKind), ("sextet/api.ErrThere", laid_sextet_api_ErrThere), ("sextet/api.ErrFull", laid_sextet_api_ErrFull)], narrowed := true }
def HotAboveUptoSaid : Prop := hotAboveUptoRow.holds Tryd.pinned (OpenSpec.upto hotAboveSpec)

/-- 'sextetlaw9.HotLeft', WHERE WHAT IT READS IS OF BULK AT MOST 1048576: true; the input reads as it did. -/
def hotLeftUptoRow : OpenClaim := { program := "ytalidmlomfobdaadoor", sum := "2527ccdac0d66093b9125eb6e807d76cce75674e76cd373276c0bb91d93b0412", func := "sextet/sextetlaw9.HotLeft", spec := "hotLeft", inPlace := ["slices.overlaps[sextet/api.Redo]"], unfollowed := true, recurses := true, named := ["sextet/api.ErrShape", "sextet/api.ErrThere", "sextet/api.ErrFull", "sextet/api.ErrRange", "sextet/api.ErrKind", "sextet/api.ErrMany", "sextet/api.ErrEnd", "sextet/api.ErrSum", "sextet/api.ErrNone", "sextet/api.ErrCrash", "sextet/api.ErrState", "sextet/api.ErrConflict", "sextet/api.ErrWaits", "sextet/api.ErrLimit", "sextet/api.ErrFenced", "sextet/api.ErrWord", "sextet/api.ErrNumber"], apart := false, laid := [("sextet/api.ErrEnd", laid_sextet_api_ErrEnd), ("sextet/api.ErrSum", laid_sextet_api_ErrSum), ("sextet/api.ErrShape", laid_sextet_api_ErrShape), ("sextet/api.ErrMany", laid_sextet_api_ErrMany), ("sextet/api.ErrRange", laid_sextet_api_ErrRange), ("sextet/api.ErrKind", laid_sextet_api_ErrKind), ("sextet/api.ErrNone", laid_sextet_api_ErrNone), ("sextet/api.ErrThere", laid_sextet_api_ErrThere), ("sextet/api.ErrFull", laid_sextet_api_ErrFull), ("sextet/api.ErrCrash", laid_sextet_api_ErrCrash), ("sextet/api.ErrState", laid_sextet_api_ErrState), ("sextet/api.ErrConflict", laid_sextet_api_ErrConflict), ("sextet/api.ErrWaits", laid_sextet_api_ErrWaits), ("sextet/api.ErrLimit", laid_sextet_api_ErrLimit), ("sextet/api.ErrFenced", laid_sextet_api_ErrFenced), ("sextet/api.ErrWord", laid_sextet_api_ErrWord), ("sextet/api.ErrNumber", laid_sextet_api_ErrNumber)], narrowed := true }
def HotLeftUptoSaid : Prop := hotLeftUptoRow.holds Tryd.pinned (OpenSpec.upto hotLeftSpec)

/-- 'sextetlaw9.HotOrders', WHERE WHAT IT READS IS OF BULK AT MOST 1048576: true; the input reads as it did. -/
def hotOrdersUptoRow : OpenClaim := { program := "ytalidmlomfobdaadoor", sum := "2527ccdac0d66093b9125eb6e807d76cce75674e76cd373276c0bb91d93b0412", func := "sextet/sextetlaw9.HotOrders", spec := "hotOrders", inPlace := ["slices.overlaps[sextet/api.Redo]"], unfollowed := true, recurses := true, named := ["sextet/api.ErrShape", "sextet/api.ErrThere", "sextet/api.ErrFull", "sextet/api.ErrRange", "sextet/api.ErrKind", "sextet/api.ErrMany"], apart := false, laid := [("sextet/api.ErrShape", laid_sextet_api_ErrShape), ("sextet/api.ErrMany", laid_sextet_api_ErrMany), ("sextet/api.ErrRange", laid_sextet_api_ErrRange), ("sextet/api.ErrKind", laid_sextet_api_ErrKind), ("sextet/api.ErrThere", laid_sextet_api_ErrThere), ("sextet/api.ErrFull", laid_sextet_api_ErrFull)], narrowed := true }
def HotOrdersUptoSaid : Prop := hotOrdersUptoRow.holds Tryd.pinned (OpenSpec.upto hotOrdersSpec)

/-- 'sextetlaw9.HotTwice', WHERE WHAT IT READS IS OF BULK AT MOST 1048576: true; the input reads as it did. -/
def hotTwiceUptoRow : OpenClaim := { program := "ytalidmlomfobdaadoor", sum := "2527ccdac0d66093b9125eb6e807d76cce75674e76cd373276c0bb91d93b0412", func := "sextet/sextetlaw9.HotTwice", spec := "hotTwice", inPlace := ["slices.overlaps[sextet/api.Redo]"], unfollowed := true, recurses := true, named := ["sextet/api.ErrShape", "sextet/api.ErrThere", "sextet/api.ErrFull", "sextet/api.ErrRange", "sextet/api.ErrKind", "sextet/api.ErrMany", "sextet/api.ErrEnd", "sextet/api.ErrSum", "sextet/api.ErrNone", "sextet/api.ErrCrash", "sextet/api.ErrState", "sextet/api.ErrConflict", "sextet/api.ErrWaits", "sextet/api.ErrLimit", "sextet/api.ErrFenced", "sextet/api.ErrWord", "sextet/api.ErrNumber"], apart := false, laid := [("sextet/api.ErrEnd", laid_sextet_api_ErrEnd), ("sextet/api.ErrSum", laid_sextet_api_ErrSum), ("sextet/api.ErrShape", laid_sextet_api_ErrShape), ("sextet/api.ErrMany", laid_sextet_api_ErrMany), ("sextet/api.ErrRange", laid_sextet_api_ErrRange), ("sextet/api.ErrKind", laid_sextet_api_ErrKind), ("sextet/api.ErrNone", laid_sextet_api_ErrNone), ("sextet/api.ErrThere", laid_sextet_api_ErrThere), ("sextet/api.ErrFull", laid_sextet_api_ErrFull), ("sextet/api.ErrCrash", laid_sextet_api_ErrCrash), ("sextet/api.ErrState", laid_sextet_api_ErrState), ("sextet/api.ErrConflict", laid_sextet_api_ErrConflict), ("sextet/api.ErrWaits", laid_sextet_api_ErrWaits), ("sextet/api.ErrLimit", laid_sextet_api_ErrLimit), ("sextet/api.ErrFenced", laid_sextet_api_ErrFenced), ("sextet/api.ErrWord", laid_sextet_api_ErrWord), ("sextet/api.ErrNumber", laid_sextet_api_ErrNumber)], narrowed := true }
def HotTwiceUptoSaid : Prop := hotTwiceUptoRow.holds Tryd.pinned (OpenSpec.upto hotTwiceSpec)

/-- 'sextetlaw9.HotCuts', WHERE WHAT IT READS IS OF BULK AT MOST 1048576: true; the input reads as it did. -/
def hotCutsUptoRow : OpenClaim := { program := "ytalidmlomfobdaadoor", sum := "2527ccdac0d66093b9125eb6e807d76cce75674e76cd373276c0bb91d93b0412", func := "sextet/sextetlaw9.HotCuts", spec := "hotCuts", inPlace := ["slices.overlaps[sextet/api.Redo]"], unfollowed := true, recurses := true, named := ["sextet/api.ErrShape", "sextet/api.ErrThere", "sextet/api.ErrFull", "sextet/api.ErrRange", "sextet/api.ErrKind", "sextet/api.ErrMany"], apart := false, laid := [("sextet/api.ErrShape", laid_sextet_api_ErrShape), ("sextet/api.ErrMany", laid_sextet_api_ErrMany), ("sextet/api.ErrRange", laid_sextet_api_ErrRange), ("sextet/api.ErrKind", laid_sextet_api_ErrKind), ("sextet/api.ErrThere", laid_sextet_api_ErrThere), ("sextet/api.ErrFull", laid_sextet_api_ErrFull)], narrowed := true }
def HotCutsUptoSaid : Prop := hotCutsUptoRow.holds Tryd.pinned (OpenSpec.upto hotCutsSpec)

/-- 'sextetlaw11.VersRows', WHERE WHAT IT READS IS OF BULK AT MOST 1048576: true; the input reads as it did. -/
def versRowsUptoRow : OpenClaim := { program := "ytalidmlomfobdaadoor", sum := "2527ccdac0d66093b9125eb6e807d76cce75674e76cd373276c0bb91d93b0412", func := "sextet/sextetlaw11.VersRows", spec := "versRows", inPlace := ["slices.overlaps[sextet/api.Redo]", "slices.overlaps[sextet/api.Entry]"], unfollowed := true, recurses := true, named := ["sextet/api.ErrShape", "sextet/api.ErrThere", "sextet/api.ErrFull", "sextet/api.ErrRange", "sextet/api.ErrKind", "sextet/api.ErrMany", "sextet/api.ErrNone", "sextet/api.ErrEnd", "sextet/api.ErrSum", "sextet/api.ErrCrash", "sextet/api.ErrState", "sextet/api.ErrConflict", "sextet/api.ErrWaits", "sextet/api.ErrLimit", "sextet/api.ErrFenced", "sextet/api.ErrWord", "sextet/api.ErrNumber"], apart := false, laid := [("sextet/api.ErrEnd", laid_sextet_api_ErrEnd), ("sextet/api.ErrSum", laid_sextet_api_ErrSum), ("sextet/api.ErrShape", laid_sextet_api_ErrShape), ("sextet/api.ErrMany", laid_sextet_api_ErrMany), ("sextet/api.ErrRange", laid_sextet_api_ErrRange), ("sextet/api.ErrKind", laid_sextet_api_ErrKind), ("sextet/api.ErrNone", laid_sextet_api_ErrNone), ("sextet/api.ErrThere", laid_sextet_api_ErrThere), ("sextet/api.ErrFull", laid_sextet_api_ErrFull), ("sextet/api.ErrCrash", laid_sextet_api_ErrCrash), ("sextet/api.ErrState", laid_sextet_api_ErrState), ("sextet/api.ErrConflict", laid_sextet_api_ErrConflict), ("sextet/api.ErrWaits", laid_sextet_api_ErrWaits), ("sextet/api.ErrLimit", laid_sextet_api_ErrLimit), ("sextet/api.ErrFenced", laid_sextet_api_ErrFenced), ("sextet/api.ErrWord", laid_sextet_api_ErrWord), ("sextet/api.ErrNumber", laid_sextet_api_ErrNumber)], narrowed := true }
def VersRowsUptoSaid : Prop := versRowsUptoRow.holds Tryd.pinned (OpenSpec.upto versRowsSpec)

/-- 'sextetlaw11.VersPages', WHERE WHAT IT READS IS OF BULK AT MOST 1048576: true; the input reads as it did. -/
def versPagesUptoRow : OpenClaim := { program := "ytalidmlomfobdaadoor", sum := "2527ccdac0d66093b9125eb6e807d76cce75674e76cd373276c0bb91d93b0412", func := "sextet/sextetlaw11.VersPages", spec := "versPages", inPlace := ["slices.overlaps[sextet/api.Redo]", "slices.overlaps[sextet/api.Entry]"], unfollowed := true, recurses := true, named := ["sextet/api.ErrShape", "sextet/api.ErrThere", "sextet/api.ErrFull", "sextet/api.ErrRange", "sextet/api.ErrKind", "sextet/api.ErrMany", "sextet/api.ErrNone", "sextet/api.ErrEnd", "sextet/api.ErrSum", "sextet/api.ErrCrash", "sextet/api.ErrState", "sextet/api.ErrConflict", "sextet/api.ErrWaits", "sextet/api.ErrLimit", "sextet/api.ErrFenced", "sextet/api.ErrWord", "sextet/api.ErrNumber"], apart := false, laid := [("sextet/api.ErrEnd", laid_sextet_api_ErrEnd), ("sextet/api.ErrSum", laid_sextet_api_ErrSum), ("sextet/api.ErrShape", laid_sextet_api_ErrShape), ("sextet/api.ErrMany", laid_sextet_api_ErrMany), ("sextet/api.ErrRange", laid_sextet_api_ErrRange), ("sextet/api.ErrKind", laid_sextet_api_ErrKind), ("sextet/api.ErrNone", laid_sextet_api_ErrNone), ("sextet/api.ErrThere", laid_sextet_api_ErrThere), ("sextet/api.ErrFull", laid_sextet_api_ErrFull), ("sextet/api.ErrCrash", laid_sextet_api_ErrCrash), ("sextet/api.ErrState", laid_sextet_api_ErrState), ("sextet/api.ErrConflict", laid_sextet_api_ErrConflict), ("sextet/api.ErrWaits", laid_sextet_api_ErrWaits), ("sextet/api.ErrLimit", laid_sextet_api_ErrLimit), ("sextet/api.ErrFenced", laid_sextet_api_ErrFenced), ("sextet/api.ErrWord", laid_sextet_api_ErrWord), ("sextet/api.ErrNumber", laid_sextet_api_ErrNumber)], narrowed := true }
def VersPagesUptoSaid : Prop := versPagesUptoRow.holds Tryd.pinned (OpenSpec.upto versPagesSpec)

/-- 'sextetlaw11.VersFloors', WHERE WHAT IT READS IS OF BULK AT MOST 1048576: true; the input reads as it did. -/
def versFloorsUptoRow : OpenClaim := { program := "ytalidmlomfobdaadoor", sum := "2527ccdac0d66093b9125eb6e807d76cce75674e76cd373276c0bb91d93b0412", func := "sextet/sextetlaw11.VersFloors", spec := "versFloors", inPlace := ["slices.overlaps[sextet/api.Redo]", "slices.overlaps[sextet/api.Entry]"], unfollowed := true, recurses := true, named := ["sextet/api.ErrShape", "sextet/api.ErrThere", "sextet/api.ErrFull", "sextet/api.ErrRange", "sextet/api.ErrKind", "sextet/api.ErrMany", "sextet/api.ErrNone", "sextet/api.ErrEnd", "sextet/api.ErrSum", "sextet/api.ErrCrash", "sextet/api.ErrState", "sextet/api.ErrConflict", "sextet/api.ErrWaits", "sextet/api.ErrLimit", "sextet/api.ErrFenced", "sextet/api.ErrWord", "sextet/api.ErrNumber"], apart := false, laid := [("sextet/api.ErrEnd", laid_sextet_api_ErrEnd), ("sextet/api.ErrSum", laid_sextet_api_ErrSum), ("sextet/api.ErrShape", laid_sextet_api_ErrShape), ("sextet/api.ErrMany", laid_sextet_api_ErrMany), ("sextet/api.ErrRange", laid_sextet_api_ErrRange), ("sextet/api.ErrKind", laid_sextet_api_ErrKind), ("sextet/api.ErrNone", laid_sextet_api_ErrNone), ("sextet/api.ErrThere", laid_sextet_api_ErrThere), ("sextet/api.ErrFull", laid_sextet_api_ErrFull), ("sextet/api.ErrCrash", laid_sextet_api_ErrCrash), ("sextet/api.ErrState", laid_sextet_api_ErrState), ("sextet/api.ErrConflict", laid_sextet_api_ErrConflict), ("sextet/api.ErrWaits", laid_sextet_api_ErrWaits), ("sextet/api.ErrLimit", laid_sextet_api_ErrLimit), ("sextet/api.ErrFenced", laid_sextet_api_ErrFenced), ("sextet/api.ErrWord", laid_sextet_api_ErrWord), ("sextet/api.ErrNumber", laid_sextet_api_ErrNumber)], narrowed := true }
def VersFloorsUptoSaid : Prop := versFloorsUptoRow.holds Tryd.pinned (OpenSpec.upto versFloorsSpec)

end Rows
end Go.Proofs.YtalidmlomfobdaaDoor
