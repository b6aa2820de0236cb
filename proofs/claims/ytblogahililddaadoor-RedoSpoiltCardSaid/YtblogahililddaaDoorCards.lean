/-
  DERIVED. GIVEN WITH THE SEED: THE CARDS: each row of YtblogahililddaaDoorRows.lean that lists a variable, with what it lists TIED to the program's text (the seventh form; the later family's looks); each row that meets fmt, with fmt's text TOLD by the authors' own Lean function (tested against real Go, not proved from fmt's source: count such statements apart). THE CARD IS WHAT COUNTS. Prove the row's statement (the work); the ties are given (YtblogahililddaaDoorTie.lean); close each card by the builder's one call (the guide's Derived/Test/ToyasCard.lean, 'card_holds'). Laid BY PROGRAM, IN A SANDBOX (cutbox-door.mjs). By AI agents, Wed Nov 11 2026. No macro, syntax, notation, axiom, sorry.
-/
import Derived.Test.YtblogahililddaaDoorRows
import GoSem.ClaimSeven
namespace Go.Proofs.YtblogahililddaaDoor
namespace Rows

/-- THE TIED CARD OF 'sextetlaw3.RedoBounds'. -/
def redoBoundsCard : Claim7 := { stood := { row := redoBoundsRow, standIns := [], harness := (true, "5be2f24d5364cfa9164125a87584e242e9ce75f46ab3191e463b2d1fb4e72e4a"), looks := true }, kinds := [], alts := [], laidByText := true, laidKinds := [.sentinel, .sentinel, .sentinel, .sentinel, .sentinel, .sentinel, .sentinel, .sentinel, .sentinel, .sentinel, .sentinel, .sentinel, .sentinel, .sentinel, .sentinel, .sentinel, .sentinel], laidTests := true, laidLooks := .later }
def RedoBoundsCardSaid : Prop := Claim7.holds Tryd.pinned (.plain (OpenSpec.ofChange redoBoundsSpec)) redoBoundsCard

/-- THE TIED CARD OF 'sextetlaw3.RedoUnlike'. -/
def redoUnlikeCard : Claim7 := { stood := { row := redoUnlikeRow, standIns := [], harness := (true, "5be2f24d5364cfa9164125a87584e242e9ce75f46ab3191e463b2d1fb4e72e4a"), looks := true }, kinds := [], alts := [], laidByText := true, laidKinds := [.sentinel, .sentinel, .sentinel, .sentinel, .sentinel, .sentinel, .sentinel, .sentinel, .sentinel, .sentinel, .sentinel, .sentinel, .sentinel, .sentinel, .sentinel, .sentinel, .sentinel], laidTests := true, laidLooks := .later }
def RedoUnlikeCardSaid : Prop := Claim7.holds Tryd.pinned (.plain (OpenSpec.ofChange redoUnlikeSpec)) redoUnlikeCard

/-- THE TIED CARD OF 'sextetlaw3.RedoBack'. -/
def redoBackCard : Claim7 := { stood := { row := redoBackRow, standIns := [], harness := (true, "5be2f24d5364cfa9164125a87584e242e9ce75f46ab3191e463b2d1fb4e72e4a"), looks := true }, kinds := [], alts := [], laidByText := true, laidKinds := [.sentinel, .sentinel, .sentinel, .sentinel, .sentinel, .sentinel, .sentinel, .sentinel, .sentinel, .sentinel, .sentinel, .sentinel, .sentinel, .sentinel, .sentinel, .sentinel, .sentinel], laidTests := true, laidLooks := .later }
def RedoBackCardSaid : Prop := Claim7.holds Tryd.pinned (.plain (OpenSpec.ofChange redoBackSpec)) redoBackCard

/-- THE TIED CARD OF 'sextetlaw3.RedoSpoilt'. -/
def redoSpoiltCard : Claim7 := { stood := { row := redoSpoiltRow, standIns := [], harness := (true, "5be2f24d5364cfa9164125a87584e242e9ce75f46ab3191e463b2d1fb4e72e4a"), looks := true }, kinds := [], alts := [], laidByText := true, laidKinds := [.sentinel, .sentinel, .sentinel, .sentinel, .sentinel, .sentinel, .sentinel, .sentinel, .sentinel, .sentinel, .sentinel, .sentinel, .sentinel, .sentinel, .sentinel, .sentinel, .sentinel], laidTests := true, laidLooks := .later }
def RedoSpoiltCardSaid : Prop := Claim7.holds Tryd.pinned (.plain (OpenSpec.ofChange redoSpoiltSpec)) redoSpoiltCard

/-- THE TIED CARD OF 'sextetlaw3.RedoSorts'. -/
def redoSortsCard : Claim7 := { stood := { row := redoSortsRow, standIns := [], harness := (true, "5be2f24d5364cfa9164125a87584e242e9ce75f46ab3191e463b2d1fb4e72e4a"), looks := true }, kinds := [], alts := [], laidByText := true, laidKinds := [.sentinel, .sentinel, .sentinel, .sentinel, .sentinel, .sentinel, .sentinel, .sentinel, .sentinel, .sentinel, .sentinel, .sentinel, .sentinel, .sentinel, .sentinel, .sentinel, .sentinel], laidTests := true, laidLooks := .later }
def RedoSortsCardSaid : Prop := Claim7.holds Tryd.pinned (.plain (OpenSpec.ofChange redoSortsSpec)) redoSortsCard

/-- THE TIED CARD OF 'sextetlaw4.PageBytes'. -/
def pageBytesCard : Claim7 := { stood := { row := pageBytesRow, standIns := [], harness := (true, "5be2f24d5364cfa9164125a87584e242e9ce75f46ab3191e463b2d1fb4e72e4a"), looks := true }, kinds := [], alts := [], laidByText := true, laidKinds := [.sentinel, .sentinel, .sentinel, .sentinel, .sentinel, .sentinel, .sentinel, .sentinel, .sentinel, .sentinel, .sentinel, .sentinel, .sentinel, .sentinel, .sentinel, .sentinel, .sentinel], laidTests := true, laidLooks := .later }
def PageBytesCardSaid : Prop := Claim7.holds Tryd.pinned (.plain (OpenSpec.ofChange pageBytesSpec)) pageBytesCard

/-- THE SECOND FORM's CARD OF 'sextetlaw3.RedoBounds'. -/
def redoBoundsUptoCard : Claim7 := { stood := { row := redoBoundsUptoRow, standIns := [], harness := (true, "5be2f24d5364cfa9164125a87584e242e9ce75f46ab3191e463b2d1fb4e72e4a"), looks := true }, kinds := [], alts := [], laidByText := true, laidKinds := [.sentinel, .sentinel, .sentinel, .sentinel, .sentinel, .sentinel, .sentinel, .sentinel, .sentinel, .sentinel, .sentinel, .sentinel, .sentinel, .sentinel, .sentinel, .sentinel, .sentinel], laidTests := true, laidLooks := .later }
def RedoBoundsUptoCardSaid : Prop := Claim7.holds Tryd.pinned (.plain (OpenSpec.upto redoBoundsSpec)) redoBoundsUptoCard

/-- THE SECOND FORM's CARD OF 'sextetlaw3.RedoUnlike'. -/
def redoUnlikeUptoCard : Claim7 := { stood := { row := redoUnlikeUptoRow, standIns := [], harness := (true, "5be2f24d5364cfa9164125a87584e242e9ce75f46ab3191e463b2d1fb4e72e4a"), looks := true }, kinds := [], alts := [], laidByText := true, laidKinds := [.sentinel, .sentinel, .sentinel, .sentinel, .sentinel, .sentinel, .sentinel, .sentinel, .sentinel, .sentinel, .sentinel, .sentinel, .sentinel, .sentinel, .sentinel, .sentinel, .sentinel], laidTests := true, laidLooks := .later }
def RedoUnlikeUptoCardSaid : Prop := Claim7.holds Tryd.pinned (.plain (OpenSpec.upto redoUnlikeSpec)) redoUnlikeUptoCard

/-- THE SECOND FORM's CARD OF 'sextetlaw3.RedoBack'. -/
def redoBackUptoCard : Claim7 := { stood := { row := redoBackUptoRow, standIns := [], harness := (true, "5be2f24d5364cfa9164125a87584e242e9ce75f46ab3191e463b2d1fb4e72e4a"), looks := true }, kinds := [], alts := [], laidByText := true, laidKinds := [.sentinel, .sentinel, .sentinel, .sentinel, .sentinel, .sentinel, .sentinel, .sentinel, .sentinel, .sentinel, .sentinel, .sentinel, .sentinel, .sentinel, .sentinel, .sentinel, .sentinel], laidTests := true, laidLooks := .later }
def RedoBackUptoCardSaid : Prop := Claim7.holds Tryd.pinned (.plain (OpenSpec.upto redoBackSpec)) redoBackUptoCard

/-- THE SECOND FORM's CARD OF 'sextetlaw3.RedoSpoilt'. -/
def redoSpoiltUptoCard : Claim7 := { stood := { row := redoSpoiltUptoRow, standIns := [], harness := (true, "5be2f24d5364cfa9164125a87584e242e9ce75f46ab3191e463b2d1fb4e72e4a"), looks := true }, kinds := [], alts := [], laidByText := true, laidKinds := [.sentinel, .sentinel, .sentinel, .sentinel, .sentinel, .sentinel, .sentinel, .sentinel, .sentinel, .sentinel, .sentinel, .sentinel, .sentinel, .sentinel, .sentinel, .sentinel, .sentinel], laidTests := true, laidLooks := .later }
def RedoSpoiltUptoCardSaid : Prop := Claim7.holds Tryd.pinned (.plain (OpenSpec.upto redoSpoiltSpec)) redoSpoiltUptoCard

/-- THE SECOND FORM's CARD OF 'sextetlaw3.RedoSorts'. -/
def redoSortsUptoCard : Claim7 := { stood := { row := redoSortsUptoRow, standIns := [], harness := (true, "5be2f24d5364cfa9164125a87584e242e9ce75f46ab3191e463b2d1fb4e72e4a"), looks := true }, kinds := [], alts := [], laidByText := true, laidKinds := [.sentinel, .sentinel, .sentinel, .sentinel, .sentinel, .sentinel, .sentinel, .sentinel, .sentinel, .sentinel, .sentinel, .sentinel, .sentinel, .sentinel, .sentinel, .sentinel, .sentinel], laidTests := true, laidLooks := .later }
def RedoSortsUptoCardSaid : Prop := Claim7.holds Tryd.pinned (.plain (OpenSpec.upto redoSortsSpec)) redoSortsUptoCard

/-- THE SECOND FORM's CARD OF 'sextetlaw4.PageBytes'. -/
def pageBytesUptoCard : Claim7 := { stood := { row := pageBytesUptoRow, standIns := [], harness := (true, "5be2f24d5364cfa9164125a87584e242e9ce75f46ab3191e463b2d1fb4e72e4a"), looks := true }, kinds := [], alts := [], laidByText := true, laidKinds := [.sentinel, .sentinel, .sentinel, .sentinel, .sentinel, .sentinel, .sentinel, .sentinel, .sentinel, .sentinel, .sentinel, .sentinel, .sentinel, .sentinel, .sentinel, .sentinel, .sentinel], laidTests := true, laidLooks := .later }
def PageBytesUptoCardSaid : Prop := Claim7.holds Tryd.pinned (.plain (OpenSpec.upto pageBytesSpec)) pageBytesUptoCard
end Rows
end Go.Proofs.YtblogahililddaaDoor
