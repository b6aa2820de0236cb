/-
  No cell of these rows narrows 'for every input' (looked for: loops, veiled, ifaces, maps, wideKeys, modest, calm, conditions, laid).
  DERIVED. THE GIVEN ROWS OF THIS SEAT. 7 by the template 'for every input the law returns true; each argument reads behind the call as it read before'; 0 by the template 'total and deterministic' (their statements: YtblogahililddaaTotals.lean).
  GIVEN WITH THE SEED: the statements are not yours to turn. If you find one false, say at which input.
  Laid BY PROGRAM, IN A SANDBOX (cutbox-rows.mjs): the forced cells as the released guide's own fill.sh prints them over the translation 7e4704dfbcf75f6d… (all of the seat's roots in one cut). By AI agents, Wed Nov 11 2026. No macro, syntax, notation, axiom, sorry.
-/
import Derived.Test.YtblogahililddaaChecked
import GoSem.Claim
import GoSem.ClaimJoined
import GoSem.ClaimMapViews
import Derived.JoinedTies
import Derived.KernelRfl
namespace Go.Proofs.Ytblogahililddaa
/- THE CELL 'sum', in the pinned program and in every row, IS THE sha256 OF THE DUMP (.gsa) THAT YtblogahililddaaProg.lean LOADS. Nothing in Lean hashes anything: it is a label: what it is worth is what the hold of that sum in a sandbox is worth. -/
noncomputable def Try.pinned : Pinned := { name := "ytblogahililddaa", sum := "7e4704dfbcf75f6d3e1bee4b5e3933f28d1a908a276a77ae54174fd757efc6da", checked := Try.checked }
namespace Rows
def none {H : Type} : Left H := { results := [], args := [] }

/-- 'sextetlaw4.PageShapes': WHATEVER THE INPUT: true; the input reads as it did. -/
def pageShapesSpec : ChangeSpec := { name := "pageShapes", fn := fun _ => fun
  | [d] => { results := [.lit (.bool true)], args := [d] }
  | _ => none }
def pageShapesRow : OpenClaim := { program := "ytblogahililddaa", sum := "7e4704dfbcf75f6d3e1bee4b5e3933f28d1a908a276a77ae54174fd757efc6da", func := "sextet/sextetlaw4.PageShapes", spec := "pageShapes", inPlace := ["slices.overlaps[sextet/api.Entry]"], apart := false }
def PageShapesSaid : Prop := pageShapesRow.holds Try.pinned (OpenSpec.ofChange pageShapesSpec)

/-- ITS FALSE NEIGHBOUR: 'it returns false'. Refute it at one input. -/
def pageShapesWrong : ChangeSpec := { name := "pageShapes", fn := fun _ => fun
  | [d] => { results := [.lit (.bool false)], args := [d] }
  | _ => none }
def PageShapesWrongFalsely : Prop := pageShapesRow.holds Try.pinned (OpenSpec.ofChange pageShapesWrong)

/-- 'sextetlaw4.PageCuts': WHATEVER THE INPUT: true; the input reads as it did. -/
def pageCutsSpec : ChangeSpec := { name := "pageCuts", fn := fun _ => fun
  | [d1, d2, d3] => { results := [.lit (.bool true)], args := [d1, d2, d3] }
  | _ => none }
def pageCutsRow : OpenClaim := { program := "ytblogahililddaa", sum := "7e4704dfbcf75f6d3e1bee4b5e3933f28d1a908a276a77ae54174fd757efc6da", func := "sextet/sextetlaw4.PageCuts", spec := "pageCuts", inPlace := ["slices.overlaps[sextet/api.Entry]"], apart := false }
def PageCutsSaid : Prop := pageCutsRow.holds Try.pinned (OpenSpec.ofChange pageCutsSpec)

/-- ITS FALSE NEIGHBOUR: 'it returns false'. Refute it at one input. -/
def pageCutsWrong : ChangeSpec := { name := "pageCuts", fn := fun _ => fun
  | [d1, d2, d3] => { results := [.lit (.bool false)], args := [d1, d2, d3] }
  | _ => none }
def PageCutsWrongFalsely : Prop := pageCutsRow.holds Try.pinned (OpenSpec.ofChange pageCutsWrong)

/-- 'sextetlaw4.PageChanges': WHATEVER THE INPUT: true; the input reads as it did. -/
def pageChangesSpec : ChangeSpec := { name := "pageChanges", fn := fun _ => fun
  | [d1, d2, d3, d4] => { results := [.lit (.bool true)], args := [d1, d2, d3, d4] }
  | _ => none }
def pageChangesRow : OpenClaim := { program := "ytblogahililddaa", sum := "7e4704dfbcf75f6d3e1bee4b5e3933f28d1a908a276a77ae54174fd757efc6da", func := "sextet/sextetlaw4.PageChanges", spec := "pageChanges", inPlace := ["slices.overlaps[sextet/api.Entry]"], apart := false }
def PageChangesSaid : Prop := pageChangesRow.holds Try.pinned (OpenSpec.ofChange pageChangesSpec)

/-- ITS FALSE NEIGHBOUR: 'it returns false'. Refute it at one input. -/
def pageChangesWrong : ChangeSpec := { name := "pageChanges", fn := fun _ => fun
  | [d1, d2, d3, d4] => { results := [.lit (.bool false)], args := [d1, d2, d3, d4] }
  | _ => none }
def PageChangesWrongFalsely : Prop := pageChangesRow.holds Try.pinned (OpenSpec.ofChange pageChangesWrong)

/-- 'sextetlaw4.PageElder': WHATEVER THE INPUT: true; the input reads as it did. -/
def pageElderSpec : ChangeSpec := { name := "pageElder", fn := fun _ => fun
  | [d1, d2, d3, d4, d5] => { results := [.lit (.bool true)], args := [d1, d2, d3, d4, d5] }
  | _ => none }
def pageElderRow : OpenClaim := { program := "ytblogahililddaa", sum := "7e4704dfbcf75f6d3e1bee4b5e3933f28d1a908a276a77ae54174fd757efc6da", func := "sextet/sextetlaw4.PageElder", spec := "pageElder", inPlace := ["slices.overlaps[sextet/api.Entry]"], apart := false }
def PageElderSaid : Prop := pageElderRow.holds Try.pinned (OpenSpec.ofChange pageElderSpec)

/-- ITS FALSE NEIGHBOUR: 'it returns false'. Refute it at one input. -/
def pageElderWrong : ChangeSpec := { name := "pageElder", fn := fun _ => fun
  | [d1, d2, d3, d4, d5] => { results := [.lit (.bool false)], args := [d1, d2, d3, d4, d5] }
  | _ => none }
def PageElderWrongFalsely : Prop := pageElderRow.holds Try.pinned (OpenSpec.ofChange pageElderWrong)

/-- 'sextetlaw4.PageFinds': WHATEVER THE INPUT: true; the input reads as it did. -/
def pageFindsSpec : ChangeSpec := { name := "pageFinds", fn := fun _ => fun
  | [d1, d2] => { results := [.lit (.bool true)], args := [d1, d2] }
  | _ => none }
def pageFindsRow : OpenClaim := { program := "ytblogahililddaa", sum := "7e4704dfbcf75f6d3e1bee4b5e3933f28d1a908a276a77ae54174fd757efc6da", func := "sextet/sextetlaw4.PageFinds", spec := "pageFinds", inPlace := ["slices.overlaps[sextet/api.Entry]", "internal/bytealg.Compare"], apart := false }
def PageFindsSaid : Prop := pageFindsRow.holds Try.pinned (OpenSpec.ofChange pageFindsSpec)

/-- ITS FALSE NEIGHBOUR: 'it returns false'. Refute it at one input. -/
def pageFindsWrong : ChangeSpec := { name := "pageFinds", fn := fun _ => fun
  | [d1, d2] => { results := [.lit (.bool false)], args := [d1, d2] }
  | _ => none }
def PageFindsWrongFalsely : Prop := pageFindsRow.holds Try.pinned (OpenSpec.ofChange pageFindsWrong)

/-- 'sextetlaw4.PagePlaces': WHATEVER THE INPUT: true; the input reads as it did. -/
def pagePlacesSpec : ChangeSpec := { name := "pagePlaces", fn := fun _ => fun
  | [d1, d2] => { results := [.lit (.bool true)], args := [d1, d2] }
  | _ => none }
def pagePlacesRow : OpenClaim := { program := "ytblogahililddaa", sum := "7e4704dfbcf75f6d3e1bee4b5e3933f28d1a908a276a77ae54174fd757efc6da", func := "sextet/sextetlaw4.PagePlaces", spec := "pagePlaces", inPlace := ["slices.overlaps[sextet/api.Entry]", "internal/bytealg.Compare"], apart := false }
def PagePlacesSaid : Prop := pagePlacesRow.holds Try.pinned (OpenSpec.ofChange pagePlacesSpec)

/-- ITS FALSE NEIGHBOUR: 'it returns false'. Refute it at one input. -/
def pagePlacesWrong : ChangeSpec := { name := "pagePlaces", fn := fun _ => fun
  | [d1, d2] => { results := [.lit (.bool false)], args := [d1, d2] }
  | _ => none }
def PagePlacesWrongFalsely : Prop := pagePlacesRow.holds Try.pinned (OpenSpec.ofChange pagePlacesWrong)

/-- 'sextetlaw4.PageTwice': WHATEVER THE INPUT: true; the input reads as it did. -/
def pageTwiceSpec : ChangeSpec := { name := "pageTwice", fn := fun _ => fun
  | [d1, d2] => { results := [.lit (.bool true)], args := [d1, d2] }
  | _ => none }
def pageTwiceRow : OpenClaim := { program := "ytblogahililddaa", sum := "7e4704dfbcf75f6d3e1bee4b5e3933f28d1a908a276a77ae54174fd757efc6da", func := "sextet/sextetlaw4.PageTwice", spec := "pageTwice", inPlace := ["slices.overlaps[sextet/api.Entry]"], unfollowed := true, recurses := true, apart := false }
def PageTwiceSaid : Prop := pageTwiceRow.holds Try.pinned (OpenSpec.ofChange pageTwiceSpec)

/-- ITS FALSE NEIGHBOUR: 'it returns false'. Refute it at one input. -/
def pageTwiceWrong : ChangeSpec := { name := "pageTwice", fn := fun _ => fun
  | [d1, d2] => { results := [.lit (.bool false)], args := [d1, d2] }
  | _ => none }
def PageTwiceWrongFalsely : Prop := pageTwiceRow.holds Try.pinned (OpenSpec.ofChange pageTwiceWrong)

/- THE SECOND FORM. 'bulk': how many values and letters a reading holds, each counted each time it is reached (what is shared counts as often as it is met; a slice's spare places count too). A statement '..UptoSaid' is the law's where the arguments, and the package variables that the reading takes, are together of bulk at most 1048576: NARROWER than '..Said'. Prove '..Said' where nothing that the law and all that it calls make is longer than what came in: it says more and counts as full. Else prove '..UptoSaid'. A law counts once. -/
mutual
def uptoBulk {H : Type} : DataW H → Nat
  | .lit (.string bytes) => bytes.length + 1
  | .lit _ => 1
  | .nil => 1
  | .ptr d => uptoBulk d + 1
  | .slice elems spare => uptoBulkAll elems + uptoBulkAll spare + 1
  | .agg parts => uptoBulkAll parts + 1
  | .iface _ d => uptoBulk d + 1
  | .map entries => uptoBulkEntries entries + 1
  | .held _ => 1
def uptoBulkAll {H : Type} : List (DataW H) → Nat
  | [] => 0
  | d :: r => uptoBulk d + uptoBulkAll r
def uptoBulkEntries {H : Type} : List (Lit × DataW H) → Nat
  | [] => 0
  | x :: r => uptoBulkEntry x + uptoBulkEntries r
def uptoBulkEntry {H : Type} : Lit × DataW H → Nat
  | (.string bytes, d) => bytes.length + uptoBulk d + 1
  | (_, d) => uptoBulk d + 1
 end
def uptoSmall : (H : Type) → List (DataW H) → Bool := fun _ ds => decide (uptoBulkAll ds ≤ 1048576)
def OpenSpec.upto (s : _root_.Go.ChangeSpec) : _root_.Go.OpenSpec := { _root_.Go.OpenSpec.ofChange s with cond := some uptoSmall }

/-- 'sextetlaw4.PageShapes', WHERE WHAT IT READS IS OF BULK AT MOST 1048576: true; the input reads as it did. -/
def pageShapesUptoRow : OpenClaim := { program := "ytblogahililddaa", sum := "7e4704dfbcf75f6d3e1bee4b5e3933f28d1a908a276a77ae54174fd757efc6da", func := "sextet/sextetlaw4.PageShapes", spec := "pageShapes", inPlace := ["slices.overlaps[sextet/api.Entry]"], apart := false, narrowed := true }
def PageShapesUptoSaid : Prop := pageShapesUptoRow.holds Try.pinned (OpenSpec.upto pageShapesSpec)

/-- 'sextetlaw4.PageCuts', WHERE WHAT IT READS IS OF BULK AT MOST 1048576: true; the input reads as it did. -/
def pageCutsUptoRow : OpenClaim := { program := "ytblogahililddaa", sum := "7e4704dfbcf75f6d3e1bee4b5e3933f28d1a908a276a77ae54174fd757efc6da", func := "sextet/sextetlaw4.PageCuts", spec := "pageCuts", inPlace := ["slices.overlaps[sextet/api.Entry]"], apart := false, narrowed := true }
def PageCutsUptoSaid : Prop := pageCutsUptoRow.holds Try.pinned (OpenSpec.upto pageCutsSpec)

/-- 'sextetlaw4.PageChanges', WHERE WHAT IT READS IS OF BULK AT MOST 1048576: true; the input reads as it did. -/
def pageChangesUptoRow : OpenClaim := { program := "ytblogahililddaa", sum := "7e4704dfbcf75f6d3e1bee4b5e3933f28d1a908a276a77ae54174fd757efc6da", func := "sextet/sextetlaw4.PageChanges", spec := "pageChanges", inPlace := ["slices.overlaps[sextet/api.Entry]"], apart := false, narrowed := true }
def PageChangesUptoSaid : Prop := pageChangesUptoRow.holds Try.pinned (OpenSpec.upto pageChangesSpec)

/-- 'sextetlaw4.PageElder', WHERE WHAT IT READS IS OF BULK AT MOST 1048576: true; the input reads as it did. -/
def pageElderUptoRow : OpenClaim := { program := "ytblogahililddaa", sum := "7e4704dfbcf75f6d3e1bee4b5e3933f28d1a908a276a77ae54174fd757efc6da", func := "sextet/sextetlaw4.PageElder", spec := "pageElder", inPlace := ["slices.overlaps[sextet/api.Entry]"], apart := false, narrowed := true }
def PageElderUptoSaid : Prop := pageElderUptoRow.holds Try.pinned (OpenSpec.upto pageElderSpec)

/-- 'sextetlaw4.PageFinds', WHERE WHAT IT READS IS OF BULK AT MOST 1048576: true; the input reads as it did. -/
def pageFindsUptoRow : OpenClaim := { program := "ytblogahililddaa", sum := "7e4704dfbcf75f6d3e1bee4b5e3933f28d1a908a276a77ae54174fd757efc6da", func := "sextet/sextetlaw4.PageFinds", spec := "pageFinds", inPlace := ["slices.overlaps[sextet/api.Entry]", "internal/bytealg.Compare"], apart := false, narrowed := true }
def PageFindsUptoSaid : Prop := pageFindsUptoRow.holds Try.pinned (OpenSpec.upto pageFindsSpec)

/-- 'sextetlaw4.PagePlaces', WHERE WHAT IT READS IS OF BULK AT MOST 1048576: true; the input reads as it did. -/
def pagePlacesUptoRow : OpenClaim := { program := "ytblogahililddaa", sum := "7e4704dfbcf75f6d3e1bee4b5e3933f28d1a908a276a77ae54174fd757efc6da", func := "sextet/sextetlaw4.PagePlaces", spec := "pagePlaces", inPlace := ["slices.overlaps[sextet/api.Entry]", "internal/bytealg.Compare"], apart := false, narrowed := true }
def PagePlacesUptoSaid : Prop := pagePlacesUptoRow.holds Try.pinned (OpenSpec.upto pagePlacesSpec)

/-- 'sextetlaw4.PageTwice', WHERE WHAT IT READS IS OF BULK AT MOST 1048576: true; the input reads as it did. -/
def pageTwiceUptoRow : OpenClaim := { program := "ytblogahililddaa", sum := "7e4704dfbcf75f6d3e1bee4b5e3933f28d1a908a276a77ae54174fd757efc6da", func := "sextet/sextetlaw4.PageTwice", spec := "pageTwice", inPlace := ["slices.overlaps[sextet/api.Entry]"], unfollowed := true, recurses := true, apart := false, narrowed := true }
def PageTwiceUptoSaid : Prop := pageTwiceUptoRow.holds Try.pinned (OpenSpec.upto pageTwiceSpec)

end Rows
end Go.Proofs.Ytblogahililddaa
