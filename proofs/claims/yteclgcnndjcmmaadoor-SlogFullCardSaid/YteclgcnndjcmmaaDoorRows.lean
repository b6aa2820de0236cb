/-
  NARROWER THAN 'FOR EVERY INPUT', by the rows' own cells (each row's printed sentence says how): SlogFull: laid · SlogSteps: laid · SlogBorn: laid.
  DERIVED. THE GIVEN ROWS OF THIS SEAT. 3 by the template 'for every input the law returns true; each argument reads behind the call as it read before'; 0 by the template 'total and deterministic' (their statements: YteclgcnndjcmmaaDoorTotals.lean).
  GIVEN WITH THE SEED: the statements are not yours to turn. If you find one false, say at which input.
  Laid BY PROGRAM, IN A SANDBOX (cutbox-rows.mjs): the forced cells as the released guide's own fill.sh prints them over the translation db31fe7bbcbd55bf… (all of the seat's roots in one cut). By AI agents, Wed Nov 11 2026. No macro, syntax, notation, axiom, sorry.
-/
import Derived.Test.YteclgcnndjcmmaaDoorChecked
import GoSem.Claim
import GoSem.ClaimJoined
import GoSem.ClaimMapViews
import Derived.JoinedTies
import Derived.KernelRfl
namespace Go.Proofs.YteclgcnndjcmmaaDoor
/- THE CELL 'sum', in the pinned program and in every row, IS THE sha256 OF THE DUMP (.gsa) THAT YteclgcnndjcmmaaDoorProg.lean LOADS. Nothing in Lean hashes anything: it is a label: what it is worth is what the hold of that sum in a sandbox is worth. -/
noncomputable def Tryd.pinned : Pinned := { name := "yteclgcnndjcmmaadoor", sum := "db31fe7bbcbd55bf3b479c85ad01db4d58a047d46bbec1f7c39666c2ebc2dcba", checked := Tryd.checked }
namespace Rows
def none {H : Type} : Left H := { results := [], args := [] }

/- WHAT THE LISTED PACKAGE-LEVEL VARIABLES READ AS WHEN THE CALL BEGINS. Each datum BY PROGRAM (the guide's laid-datum.mjs) off the statement by which the dump's own 'gosem.cut.vars' lays the variable. In a bare row this is a premise. The card (YteclgcnndjcmmaaDoorCards.lean) ties it to the program's text. -/
def laid_sextet_api_ErrEnd {H : Type} : DataW H := .iface "*errors.errorString" (.ptr (.agg [.lit (.string [105, 116, 32, 101, 110, 100, 115, 32, 116, 111, 111, 32, 101, 97, 114, 108, 121])]))
def laid_sextet_api_ErrSum {H : Type} : DataW H := .iface "*errors.errorString" (.ptr (.agg [.lit (.string [116, 104, 101, 32, 115, 117, 109, 32, 105, 115, 32, 97, 110, 111, 116, 104, 101, 114, 32, 111, 110, 101])]))
def laid_sextet_api_ErrShape {H : Type} : DataW H := .iface "*errors.errorString" (.ptr (.agg [.lit (.string [110, 111, 116, 32, 97, 115, 32, 105, 116, 32, 104, 97, 115, 32, 116, 111, 32, 98, 101])]))
def laid_sextet_api_ErrMany {H : Type} : DataW H := .iface "*errors.errorString" (.ptr (.agg [.lit (.string [116, 111, 111, 32, 109, 97, 110, 121])]))
def laid_sextet_api_ErrRange {H : Type} : DataW H := .iface "*errors.errorString" (.ptr (.agg [.lit (.string [97, 32, 110, 117, 109, 98, 101, 114, 32, 111, 117, 116, 32, 111, 102, 32, 105, 116, 115, 32, 114, 97, 110, 103, 101])]))
def laid_sextet_api_ErrKind {H : Type} : DataW H := .iface "*errors.errorString" (.ptr (.agg [.lit (.string [110, 111, 32, 115, 117, 99, 104, 32, 107, 105, 110, 100])]))
def laid_sextet_api_ErrNone {H : Type} : DataW H := .iface "*errors.errorString" (.ptr (.agg [.lit (.string [116, 104, 101, 114, 101, 32, 105, 115, 32, 110, 111, 110, 101])]))
def laid_sextet_api_ErrThere {H : Type} : DataW H := .iface "*errors.errorString" (.ptr (.agg [.lit (.string [116, 104, 101, 114, 101, 32, 105, 115, 32, 111, 110, 101])]))
def laid_sextet_api_ErrFull {H : Type} : DataW H := .iface "*errors.errorString" (.ptr (.agg [.lit (.string [116, 104, 101, 114, 101, 32, 105, 115, 32, 110, 111, 32, 114, 111, 111, 109])]))
def laid_sextet_api_ErrCrash {H : Type} : DataW H := .iface "*errors.errorString" (.ptr (.agg [.lit (.string [105, 116, 32, 105, 115, 32, 100, 111, 119, 110])]))
def laid_sextet_api_ErrState {H : Type} : DataW H := .iface "*errors.errorString" (.ptr (.agg [.lit (.string [110, 111, 116, 32, 105, 110, 32, 116, 104, 105, 115, 32, 115, 116, 97, 116, 101])]))
def laid_sextet_api_ErrConflict {H : Type} : DataW H := .iface "*errors.errorString" (.ptr (.agg [.lit (.string [97, 110, 111, 116, 104, 101, 114, 32, 111, 110, 101, 32, 119, 114, 105, 116, 101, 115, 32, 116, 104, 97, 116])]))
def laid_sextet_api_ErrWaits {H : Type} : DataW H := .iface "*errors.errorString" (.ptr (.agg [.lit (.string [105, 116, 32, 119, 97, 105, 116, 115, 32, 102, 111, 114, 32, 97, 32, 112, 97, 103, 101])]))
def laid_sextet_api_ErrLimit {H : Type} : DataW H := .iface "*errors.errorString" (.ptr (.agg [.lit (.string [116, 111, 111, 32, 102, 97, 114, 32, 97, 104, 101, 97, 100, 32, 111, 102, 32, 119, 104, 97, 116, 32, 105, 115, 32, 100, 117, 114, 97, 98, 108, 101])]))
def laid_sextet_api_ErrFenced {H : Type} : DataW H := .iface "*errors.errorString" (.ptr (.agg [.lit (.string [97, 32, 108, 97, 116, 101, 114, 32, 111, 110, 101, 32, 119, 114, 105, 116, 101, 115])]))
def laid_sextet_api_ErrWord {H : Type} : DataW H := .iface "*errors.errorString" (.ptr (.agg [.lit (.string [110, 111, 32, 115, 117, 99, 104, 32, 119, 111, 114, 100])]))
def laid_sextet_api_ErrNumber {H : Type} : DataW H := .iface "*errors.errorString" (.ptr (.agg [.lit (.string [110, 111, 32, 115, 117, 99, 104, 32, 110, 117, 109, 98, 101, 114])]))

/-- 'sextetlaw10.SlogFull': WHATEVER THE INPUT: true; the input reads as it did. -/
def slogFullSpec : ChangeSpec := { name := "slogFull", fn := fun _ => fun
  | [d1, d2] => { results := [.lit (.bool true)], args := [d1, d2] }
  | _ => none }
def slogFullRow : OpenClaim := { program := "yteclgcnndjcmmaadoor", sum := "db31fe7bbcbd55bf3b479c85ad01db4d58a047d46bbec1f7c39666c2ebc2dcba", func := "sextet/sextetlaw10.SlogFull", spec := "slogFull", inPlace := ["slices.overlaps[sextet/api.Redo]"], unfollowed := true, recurses := true, named := ["sextet/api.ErrRange", "sextet/api.ErrFull", "sextet/api.ErrCrash", "sextet/api.ErrEnd", "sextet/api.ErrShape", "sextet/api.ErrMany", "sextet/api.ErrThere", "sextet/api.ErrKind", "sextet/api.ErrSum", "sextet/api.ErrNone", "sextet/api.ErrState", "sextet/api.ErrConflict", "sextet/api.ErrWaits", "sextet/api.ErrLimit", "sextet/api.ErrFenced", "sextet/api.ErrWord", "sextet/api.ErrNumber"], apart := false, laid := [("sextet/api.ErrEnd", laid_sextet_api_ErrEnd), ("sextet/api.ErrSum", laid_sextet_api_ErrSum), ("sextet/api.ErrShape", laid_sextet_api_ErrShape), ("sextet/api.ErrMany", laid_sextet_api_ErrMany), ("sextet/api.ErrRange", laid_sextet_api_ErrRange), ("sextet/api.ErrKind", laid_sextet_api_ErrKind), ("sextet/api.ErrNone", laid_sextet_api_ErrNone), ("sextet/api.ErrThere", laid_sextet_api_ErrThere), ("sextet/api.ErrFull", laid_sextet_api_ErrFull), ("sextet/api.ErrCrash", laid_sextet_api_ErrCrash), ("sextet/api.ErrState", laid_sextet_api_ErrState), ("sextet/api.ErrConflict", laid_sextet_api_ErrConflict), ("sextet/api.ErrWaits", laid_sextet_api_ErrWaits), ("sextet/api.ErrLimit", laid_sextet_api_ErrLimit), ("sextet/api.ErrFenced", laid_sextet_api_ErrFenced), ("sextet/api.ErrWord", laid_sextet_api_ErrWord), ("sextet/api.ErrNumber", laid_sextet_api_ErrNumber)] }
def SlogFullSaid : Prop := slogFullRow.holds Tryd.pinned (OpenSpec.ofChange slogFullSpec)

/-- ITS FALSE NEIGHBOUR: 'it returns false'. Refute it at one input. -/
def slogFullWrong : ChangeSpec := { name := "slogFull", fn := fun _ => fun
  | [d1, d2] => { results := [.lit (.bool false)], args := [d1, d2] }
  | _ => none }
def SlogFullWrongFalsely : Prop := slogFullRow.holds Tryd.pinned (OpenSpec.ofChange slogFullWrong)

/-- 'sextetlaw10.SlogSteps': WHATEVER THE INPUT: true; the input reads as it did. -/
def slogStepsSpec : ChangeSpec := { name := "slogSteps", fn := fun _ => fun
  | [d] => { results := [.lit (.bool true)], args := [d] }
  | _ => none }
def slogStepsRow : OpenClaim := { program := "yteclgcnndjcmmaadoor", sum := "db31fe7bbcbd55bf3b479c85ad01db4d58a047d46bbec1f7c39666c2ebc2dcba", func := "sextet/sextetlaw10.SlogSteps", spec := "slogSteps", inPlace := ["slices.overlaps[sextet/api.Redo]"], unfollowed := true, recurses := true, named := ["sextet/api.ErrRange", "sextet/api.ErrFull", "sextet/api.ErrCrash", "sextet/api.ErrEnd", "sextet/api.ErrShape", "sextet/api.ErrMany", "sextet/api.ErrThere", "sextet/api.ErrKind", "sextet/api.ErrState", "sextet/api.ErrSum", "sextet/api.ErrNone", "sextet/api.ErrConflict", "sextet/api.ErrWaits", "sextet/api.ErrLimit", "sextet/api.ErrFenced", "sextet/api.ErrWord", "sextet/api.ErrNumber"], apart := false, laid := [("sextet/api.ErrEnd", laid_sextet_api_ErrEnd), ("sextet/api.ErrSum", laid_sextet_api_ErrSum), ("sextet/api.ErrShape", laid_sextet_api_ErrShape), ("sextet/api.ErrMany", laid_sextet_api_ErrMany), ("sextet/api.ErrRange", laid_sextet_api_ErrRange), ("sextet/api.ErrKind", laid_sextet_api_ErrKind), ("sextet/api.ErrNone", laid_sextet_api_ErrNone), ("sextet/api.ErrThere", laid_sextet_api_ErrThere), ("sextet/api.ErrFull", laid_sextet_api_ErrFull), ("sextet/api.ErrCrash", laid_sextet_api_ErrCrash), ("sextet/api.ErrState", laid_sextet_api_ErrState), ("sextet/api.ErrConflict", laid_sextet_api_ErrConflict), ("sextet/api.ErrWaits", laid_sextet_api_ErrWaits), ("sextet/api.ErrLimit", laid_sextet_api_ErrLimit), ("sextet/api.ErrFenced", laid_sextet_api_ErrFenced), ("sextet/api.ErrWord", laid_sextet_api_ErrWord), ("sextet/api.ErrNumber", laid_sextet_api_ErrNumber)] }
def SlogStepsSaid : Prop := slogStepsRow.holds Tryd.pinned (OpenSpec.ofChange slogStepsSpec)

/-- ITS FALSE NEIGHBOUR: 'it returns false'. Refute it at one input. -/
def slogStepsWrong : ChangeSpec := { name := "slogSteps", fn := fun _ => fun
  | [d] => { results := [.lit (.bool false)], args := [d] }
  | _ => none }
def SlogStepsWrongFalsely : Prop := slogStepsRow.holds Tryd.pinned (OpenSpec.ofChange slogStepsWrong)

/-- 'sextetlaw10.SlogBorn': WHATEVER THE INPUT: true; the input reads as it did. -/
def slogBornSpec : ChangeSpec := { name := "slogBorn", fn := fun _ => fun
  | [d1, d2, d3, d4] => { results := [.lit (.bool true)], args := [d1, d2, d3, d4] }
  | _ => none }
def slogBornRow : OpenClaim := { program := "yteclgcnndjcmmaadoor", sum := "db31fe7bbcbd55bf3b479c85ad01db4d58a047d46bbec1f7c39666c2ebc2dcba", func := "sextet/sextetlaw10.SlogBorn", spec := "slogBorn", inPlace := ["slices.overlaps[sextet/api.Redo]"], unfollowed := true, recurses := true, named := ["sextet/api.ErrRange", "sextet/api.ErrFull", "sextet/api.ErrCrash", "sextet/api.ErrEnd", "sextet/api.ErrShape", "sextet/api.ErrMany", "sextet/api.ErrThere", "sextet/api.ErrKind", "sextet/api.ErrState", "sextet/api.ErrSum", "sextet/api.ErrNone", "sextet/api.ErrConflict", "sextet/api.ErrWaits", "sextet/api.ErrLimit", "sextet/api.ErrFenced", "sextet/api.ErrWord", "sextet/api.ErrNumber"], apart := false, laid := [("sextet/api.ErrEnd", laid_sextet_api_ErrEnd), ("sextet/api.ErrSum", laid_sextet_api_ErrSum), ("sextet/api.ErrShape", laid_sextet_api_ErrShape), ("sextet/api.ErrMany", laid_sextet_api_ErrMany), ("sextet/api.ErrRange", laid_sextet_api_ErrRange), ("sextet/api.ErrKind", laid_sextet_api_ErrKind), ("sextet/api.ErrNone", laid_sextet_api_ErrNone), ("sextet/api.ErrThere", laid_sextet_api_ErrThere), ("sextet/api.ErrFull", laid_sextet_api_ErrFull), ("sextet/api.ErrCrash", laid_sextet_api_ErrCrash), ("sextet/api.ErrState", laid_sextet_api_ErrState), ("sextet/api.ErrConflict", laid_sextet_api_ErrConflict), ("sextet/api.ErrWaits", laid_sextet_api_ErrWaits), ("sextet/api.ErrLimit", laid_sextet_api_ErrLimit), ("sextet/api.ErrFenced", laid_sextet_api_ErrFenced), ("sextet/api.ErrWord", laid_sextet_api_ErrWord), ("sextet/api.ErrNumber", laid_sextet_api_ErrNumber)] }
def SlogBornSaid : Prop := slogBornRow.holds Tryd.pinned (OpenSpec.ofChange slogBornSpec)

/-- ITS FALSE NEIGHBOUR: 'it returns false'. Refute it at one input. -/
def slogBornWrong : ChangeSpec := { name := "slogBorn", fn := fun _ => fun
  | [d1, d2, d3, d4] => { results := [.lit (.bool false)], args := [d1, d2, d3, d4] }
  | _ => none }
def SlogBornWrongFalsely : Prop := slogBornRow.holds Tryd.pinned (OpenSpec.ofChange slogBornWrong)

/- THE SECOND FORM. 'bulk': how many values and letters a reading holds, each counted each time it is reached (what is shared counts as often as it is met; a slice's spare places count too). A statement '..UptoSaid' is the law's where the arguments, and the package variables that the reading takes, are together of bulk at most 1048576: NARROWER than '..Said'. Prove '..Said' where nothing that the law and all that it calls make is longer than what came in: it says more and counts as full. Else prove '..UptoSaid'. A law counts once. -/
mutual
def uptoBulk {H : Type} : DataW H → Nat
  | .lit (.string bytes) => bytes.length + 1
  | .lit _ => 1
  | .nil => 1
  | .ptr d => uptoBulk d + 1
  | .slice elems spare => uptoBulkAll elems + uptoBulkAll spare + 1
  | .agg parts => uptoBulkAll parts + 1
  | .iface _ d => uptoBulk d + 1
  | .map entries => uptoBulkEntries entries + 1
  | .held _ => 1
def uptoBulkAll {H : Type} : List (DataW H) → Nat
  | [] => 0
  | d :: r => uptoBulk d + uptoBulkAll r
def uptoBulkEntries {H : Type} : List (Lit × DataW H) → Nat
  | [] => 0
  | x :: r => uptoBulkEntry x + uptoBulkEntries r
def uptoBulkEntry {H : Type} : Lit × DataW H → Nat
  | (.string bytes, d) => bytes.length + uptoBulk d + 1
  | (_, d) => uptoBulk d + 1
 end
def uptoSmall : (H : Type) → List (DataW H) → Bool := fun _ ds => decide (uptoBulkAll ds ≤ 1048576)
def OpenSpec.upto (s : _root_.Go.ChangeSpec) : _root_.Go.OpenSpec := { _root_.Go.OpenSpec.ofChange s with cond := some uptoSmall }

/-- 'sextetlaw10.SlogFull', WHERE WHAT IT READS IS OF BULK AT MOST 1048576: true; the input reads as it did. -/
def slogFullUptoRow : OpenClaim := { program := "yteclgcnndjcmmaadoor", sum := "db31fe7bbcbd55bf3b479c85ad01db4d58a047d46bbec1f7c39666c2ebc2dcba", func := "sextet/sextetlaw10.SlogFull", spec := "slogFull", inPlace := ["slices.overlaps[sextet/api.Redo]"], unfollowed := true, recurses := true, named := ["sextet/api.ErrRange", "sextet/api.ErrFull", "sextet/api.ErrCrash", "sextet/api.ErrEnd", "sextet/api.ErrShape", "sextet/api.ErrMany", "sextet/api.ErrThere", "sextet/api.ErrKind", "sextet/api.ErrSum", "sextet/api.ErrNone", "sextet/api.ErrState", "sextet/api.ErrConflict", "sextet/api.ErrWaits", "sextet/api.ErrLimit", "sextet/api.ErrFenced", "sextet/api.ErrWord", "sextet/api.ErrNumber"], apart := false, laid := [("sextet/api.ErrEnd", laid_sextet_api_ErrEnd), ("sextet/api.ErrSum", laid_sextet_api_ErrSum), ("sextet/api.ErrShape", laid_sextet_api_ErrShape), ("sextet/api.ErrMany", laid_sextet_api_ErrMany), ("sextet/api.ErrRange", laid_sextet_api_ErrRange), ("sextet/api.ErrKind", laid_sextet_api_ErrKind), ("sextet/api.ErrNone", laid_sextet_api_ErrNone), ("sextet/api.ErrThere", laid_sextet_api_ErrThere), ("sextet/api.ErrFull", laid_sextet_api_ErrFull), ("sextet/api.ErrCrash", laid_sextet_api_ErrCrash), ("sextet/api.ErrState", laid_sextet_api_ErrState), ("sextet/api.ErrConflict", laid_sextet_api_ErrConflict), ("sextet/api.ErrWaits", laid_sextet_api_ErrWaits), ("sextet/api.ErrLimit", laid_sextet_api_ErrLimit), ("sextet/api.ErrFenced", laid_sextet_api_ErrFenced), ("sextet/api.ErrWord", laid_sextet_api_ErrWord), ("sextet/api.ErrNumber", laid_sextet_api_ErrNumber)], narrowed := true }
def SlogFullUptoSaid : Prop := slogFullUptoRow.holds Tryd.pinned (OpenSpec.upto slogFullSpec)

/-- 'sextetlaw10.SlogSteps', WHERE WHAT IT READS IS OF BULK AT MOST 1048576: true; the input reads as it did. -/
def slogStepsUptoRow : OpenClaim := { program := "yteclgcnndjcmmaadoor", sum := "db31fe7bbcbd55bf3b479c85ad01db4d58a047d46bbec1f7c39666c2ebc2dcba", func := "sextet/sextetlaw10.SlogSteps", spec := "slogSteps", inPlace := ["slices.overlaps[sextet/api.Redo]"], unfollowed := true, recurses := true, named := ["sextet/api.ErrRange", "sextet/api.ErrFull", "sextet/api.ErrCrash", "sextet/api.ErrEnd", "sextet/api.ErrShape", "sextet/api.ErrMany", "sextet/api.ErrThere", "sextet/api.ErrKind", "sextet/api.ErrState", "sextet/api.ErrSum", "sextet/api.ErrNone", "sextet/api.ErrConflict", "sextet/api.ErrWaits", "sextet/api.ErrLimit", "sextet/api.ErrFenced", "sextet/api.ErrWord", "sextet/api.ErrNumber"], apart := false, laid := [("sextet/api.ErrEnd", laid_sextet_api_ErrEnd), ("sextet/api.ErrSum", laid_sextet_api_ErrSum), ("sextet/api.ErrShape", laid_sextet_api_ErrShape), ("sextet/api.ErrMany", laid_sextet_api_ErrMany), ("sextet/api.ErrRange", laid_sextet_api_ErrRange), ("sextet/api.ErrKind", laid_sextet_api_ErrKind), ("sextet/api.ErrNone", laid_sextet_api_ErrNone), ("sextet/api.ErrThere", laid_sextet_api_ErrThere), ("sextet/api.ErrFull", laid_sextet_api_ErrFull), ("sextet/api.ErrCrash", laid_sextet_api_ErrCrash), ("sextet/api.ErrState", laid_sextet_api_ErrState), ("sextet/api.ErrConflict", laid_sextet_api_ErrConflict), ("sextet/api.ErrWaits", laid_sextet_api_ErrWaits), ("sextet/api.ErrLimit", laid_sextet_api_ErrLimit), ("sextet/api.ErrFenced", laid_sextet_api_ErrFenced), ("sextet/api.ErrWord", laid_sextet_api_ErrWord), ("sextet/api.ErrNumber", laid_sextet_api_ErrNumber)], narrowed := true }
def SlogStepsUptoSaid : Prop := slogStepsUptoRow.holds Tryd.pinned (OpenSpec.upto slogStepsSpec)

/-- 'sextetlaw10.SlogBorn', WHERE WHAT IT READS IS OF BULK AT MOST 1048576: true; the input reads as it did. -/
def slogBornUptoRow : OpenClaim := { program := "yteclgcnndjcmmaadoor", sum := "db31fe7bbcbd55bf3b479c85ad01db4d58a047d46bbec1f7c39666c2ebc2dcba", func := "sextet/sextetlaw10.SlogBorn", spec := "slogBorn", inPlace := ["slices.overlaps[sextet/api.Redo]"], unfollowed := true, recurses := true, named := ["sextet/api.ErrRange", "sextet/api.ErrFull", "sextet/api.ErrCrash", "sextet/api.ErrEnd", "sextet/api.ErrShape", "sextet/api.ErrMany", "sextet/api.ErrThere", "sextet/api.ErrKind", "sextet/api.ErrState", "sextet/api.ErrSum", "sextet/api.ErrNone", "sextet/api.ErrConflict", "sextet/api.ErrWaits", "sextet/api.ErrLimit", "sextet/api.ErrFenced", "sextet/api.ErrWord", "sextet/api.ErrNumber"], apart := false, laid := [("sextet/api.ErrEnd", laid_sextet_api_ErrEnd), ("sextet/api.ErrSum", laid_sextet_api_ErrSum), ("sextet/api.ErrShape", laid_sextet_api_ErrShape), ("sextet/api.ErrMany", laid_sextet_api_ErrMany), ("sextet/api.ErrRange", laid_sextet_api_ErrRange), ("sextet/api.ErrKind", laid_sextet_api_ErrKind), ("sextet/api.ErrNone", laid_sextet_api_ErrNone), ("sextet/api.ErrThere", laid_sextet_api_ErrThere), ("sextet/api.ErrFull", laid_sextet_api_ErrFull), ("sextet/api.ErrCrash", laid_sextet_api_ErrCrash), ("sextet/api.ErrState", laid_sextet_api_ErrState), ("sextet/api.ErrConflict", laid_sextet_api_ErrConflict), ("sextet/api.ErrWaits", laid_sextet_api_ErrWaits), ("sextet/api.ErrLimit", laid_sextet_api_ErrLimit), ("sextet/api.ErrFenced", laid_sextet_api_ErrFenced), ("sextet/api.ErrWord", laid_sextet_api_ErrWord), ("sextet/api.ErrNumber", laid_sextet_api_ErrNumber)], narrowed := true }
def SlogBornUptoSaid : Prop := slogBornUptoRow.holds Tryd.pinned (OpenSpec.upto slogBornSpec)

end Rows
end Go.Proofs.YteclgcnndjcmmaaDoor
