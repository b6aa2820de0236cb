/-
  DERIVED. GIVEN WITH THE SEED: THE CARDS: each row of YtalidmlomfobdaaDoorRows.lean that lists a variable, with what it lists TIED to the program's text (the seventh form; the later family's looks); each row that meets fmt, with fmt's text TOLD by the authors' own Lean function (tested against real Go, not proved from fmt's source: count such statements apart). THE CARD IS WHAT COUNTS. Prove the row's statement (the work); the ties are given (YtalidmlomfobdaaDoorTie.lean); close each card by the builder's one call (the guide's Derived/Test/ToyasCard.lean, 'card_holds'). Laid BY PROGRAM, IN A SANDBOX (cutbox-door.mjs). By AI agents, Wed Nov 11 2026. No macro, syntax, notation, axiom, sorry.
-/
import Derived.Test.YtalidmlomfobdaaDoorRows
import GoSem.ClaimSeven
namespace Go.Proofs.YtalidmlomfobdaaDoor
namespace Rows

/-- THE TIED CARD OF 'sextetlaw9.HotGaps'. -/
def hotGapsCard : Claim7 := { stood := { row := hotGapsRow, standIns := [], harness := (true, "18bc007f5e4376f57ef0d34ce37f48fa99e06004771bf1a66a008b844ab0ce7a"), looks := true }, kinds := [], alts := [], laidByText := true, laidKinds := [.sentinel, .sentinel, .sentinel, .sentinel, .sentinel, .sentinel], laidTests := true, laidLooks := .later }
def HotGapsCardSaid : Prop := Claim7.holds Tryd.pinned (.plain (OpenSpec.ofChange hotGapsSpec)) hotGapsCard

/-- THE TIED CARD OF 'sextetlaw9.HotEpochs'. -/
def hotEpochsCard : Claim7 := { stood := { row := hotEpochsRow, standIns := [], harness := (true, "18bc007f5e4376f57ef0d34ce37f48fa99e06004771bf1a66a008b844ab0ce7a"), looks := true }, kinds := [], alts := [], laidByText := true, laidKinds := [.sentinel, .sentinel, .sentinel, .sentinel, .sentinel, .sentinel], laidTests := true, laidLooks := .later }
def HotEpochsCardSaid : Prop := Claim7.holds Tryd.pinned (.plain (OpenSpec.ofChange hotEpochsSpec)) hotEpochsCard

/-- THE TIED CARD OF 'sextetlaw9.HotAbove'. -/
def hotAboveCard : Claim7 := { stood := { row := hotAboveRow, standIns := [], harness := (true, "18bc007f5e4376f57ef0d34ce37f48fa99e06004771bf1a66a008b844ab0ce7a"), looks := true }, kinds := [], alts := [], laidByText := true, laidKinds := [.sentinel, .sentinel, .sentinel, .sentinel, .sentinel, .sentinel], laidTests := true, laidLooks := .later }
def HotAboveCardSaid : Prop := Claim7.holds Tryd.pinned (.plain (OpenSpec.ofChange hotAboveSpec)) hotAboveCard

/-- THE TIED CARD OF 'sextetlaw9.HotLeft'. -/
def hotLeftCard : Claim7 := { stood := { row := hotLeftRow, standIns := [], harness := (true, "18bc007f5e4376f57ef0d34ce37f48fa99e06004771bf1a66a008b844ab0ce7a"), looks := true }, kinds := [], alts := [], laidByText := true, laidKinds := [.sentinel, .sentinel, .sentinel, .sentinel, .sentinel, .sentinel, .sentinel, .sentinel, .sentinel, .sentinel, .sentinel, .sentinel, .sentinel, .sentinel, .sentinel, .sentinel, .sentinel], laidTests := true, laidLooks := .later }
def HotLeftCardSaid : Prop := Claim7.holds Tryd.pinned (.plain (OpenSpec.ofChange hotLeftSpec)) hotLeftCard

/-- THE TIED CARD OF 'sextetlaw9.HotOrders'. -/
def hotOrdersCard : Claim7 := { stood := { row := hotOrdersRow, standIns := [], harness := (true, "18bc007f5e4376f57ef0d34ce37f48fa99e06004771bf1a66a008b844ab0ce7a"), looks := true }, kinds := [], alts := [], laidByText := true, laidKinds := [.sentinel, .sentinel, .sentinel, .sentinel, .sentinel, .sentinel], laidTests := true, laidLooks := .later }
def HotOrdersCardSaid : Prop := Claim7.holds Tryd.pinned (.plain (OpenSpec.ofChange hotOrdersSpec)) hotOrdersCard

/-- THE TIED CARD OF 'sextetlaw9.HotTwice'. -/
def hotTwiceCard : Claim7 := { stood := { row := hotTwiceRow, standIns := [], harness := (true, "18bc007f5e4376f57ef0d34ce37f48fa99e06004771bf1a66a008b844ab0ce7a"), looks := true }, kinds := [], alts := [], laidByText := true, laidKinds := [.sentinel, .sentinel, .sentinel, .sentinel, .sentinel, .sentinel, .sentinel, .sentinel, .sentinel, .sentinel, .sentinel, .sentinel, .sentinel, .sentinel, .sentinel, .sentinel, .sentinel], laidTests := true, laidLooks := .later }
def HotTwiceCardSaid : Prop := Claim7.holds Tryd.pinned (.plain (OpenSpec.ofChange hotTwiceSpec)) hotTwiceCard

/-- THE TIED CARD OF 'sextetlaw9.HotCuts'. -/
def hotCutsCard : Claim7 := { stood := { row := hotCutsRow, standIns := [], harness := (true, "18bc007f5e4376f57ef0d34ce37f48fa99e06004771bf1a66a008b844ab0ce7a"), looks := true }, kinds := [], alts := [], laidByText := true, laidKinds := [.sentinel, .sentinel, .sentinel, .sentinel, .sentinel, .sentinel], laidTests := true, laidLooks := .later }
def HotCutsCardSaid : Prop := Claim7.holds Tryd.pinned (.plain (OpenSpec.ofChange hotCutsSpec)) hotCutsCard

/-- THE TIED CARD OF 'sextetlaw11.VersRows'. -/
def versRowsCard : Claim7 := { stood := { row := versRowsRow, standIns := [], harness := (true, "18bc007f5e4376f57ef0d34ce37f48fa99e06004771bf1a66a008b844ab0ce7a"), looks := true }, kinds := [], alts := [], laidByText := true, laidKinds := [.sentinel, .sentinel, .sentinel, .sentinel, .sentinel, .sentinel, .sentinel, .sentinel, .sentinel, .sentinel, .sentinel, .sentinel, .sentinel, .sentinel, .sentinel, .sentinel, .sentinel], laidTests := true, laidLooks := .later }
def VersRowsCardSaid : Prop := Claim7.holds Tryd.pinned (.plain (OpenSpec.ofChange versRowsSpec)) versRowsCard

/-- THE TIED CARD OF 'sextetlaw11.VersPages'. -/
def versPagesCard : Claim7 := { stood := { row := versPagesRow, standIns := [], harness := (true, "18bc007f5e4376f57ef0d34ce37f48fa99e06004771bf1a66a008b844ab0ce7a"), looks := true }, kinds := [], alts := [], laidByText := true, laidKinds := [.sentinel, .sentinel, .sentinel, .sentinel, .sentinel, .sentinel, .sentinel, .sentinel, .sentinel, .sentinel, .sentinel, .sentinel, .sentinel, .sentinel, .sentinel, .sentinel, .sentinel], laidTests := true, laidLooks := .later }
def VersPagesCardSaid : Prop := Claim7.holds Tryd.pinned (.plain (OpenSpec.ofChange versPagesSpec)) versPagesCard

/-- THE TIED CARD OF 'sextetlaw11.VersFloors'. -/
def versFloorsCard : Claim7 := { stood := { row := versFloorsRow, standIns := [], harness := (true, "18bc007f5e4376f57ef0d34ce37f48fa99e06004771bf1a66a008b844ab0ce7a"), looks := true }, kinds := [], alts := [], laidByText := true, laidKinds := [.sentinel, .sentinel, .sentinel, .sentinel, .sentinel, .sentinel, .sentinel, .sentinel, .sentinel, .sentinel, .sentinel, .sentinel, .sentinel, .sentinel, .sentinel, .sentinel, .sentinel], laidTests := true, laidLooks := .later }
def VersFloorsCardSaid : Prop := Claim7.holds Tryd.pinned (.plain (OpenSpec.ofChange versFloorsSpec)) versFloorsCard

/-- THE SECOND FORM's CARD OF 'sextetlaw9.HotGaps'. -/
def hotGapsUptoCard : Claim7 := { stood := { row := hotGapsUptoRow, standIns := [], harness := (true, "18bc007f5e4376f57ef0d34ce37f48fa99e06004771bf1a66a008b844ab0ce7a"), looks := true }, kinds := [], alts := [], laidByText := true, laidKinds := [.sentinel, .sentinel, .sentinel, .sentinel, .sentinel, .sentinel], laidTests := true, laidLooks := .later }
def HotGapsUptoCardSaid : Prop := Claim7.holds Tryd.pinned (.plain (OpenSpec.upto hotGapsSpec)) hotGapsUptoCard

/-- THE SECOND FORM's CARD OF 'sextetlaw9.HotEpochs'. -/
def hotEpochsUptoCard : Claim7 := { stood := { row := hotEpochsUptoRow, standIns := [], harness := (true, "18bc007f5e4376f57ef0d34ce37f48fa99e06004771bf1a66a008b844ab0ce7a"), looks := true }, kinds := [], alts := [], laidByText := true, laidKinds := [.sentinel, .sentinel, .sentinel, .sentinel, .sentinel, .sentinel], laidTests := true, laidLooks := .later }
def HotEpochsUptoCardSaid : Prop := Claim7.holds Tryd.pinned (.plain (OpenSpec.upto hotEpochsSpec)) hotEpochsUptoCard

/-- THE SECOND FORM's CARD OF 'sextetlaw9.HotAbove'. -/
def hotAboveUptoCard : Claim7 := { stood := { row := hotAboveUptoRow, standIns := [], harness := (true, "18bc007f5e4376f57ef0d34ce37f48fa99e06004771bf1a66a008b844ab0ce7a"), looks := true }, kinds := [], alts := [], laidByText := true, laidKinds := [.sentinel, .sentinel, .sentinel, .sentinel, .sentinel, .sentinel], laidTests := true, laidLooks := .later }
def HotAboveUptoCardSaid : Prop := Claim7.holds Tryd.pinned (.plain (OpenSpec.upto hotAboveSpec)) hotAboveUptoCard

/-- THE SECOND FORM's CARD OF 'sextetlaw9.HotLeft'. -/
def hotLeftUptoCard : Claim7 := { stood := { row := hotLeftUptoRow, standIns := [], harness := (true, "18bc007f5e4376f57ef0d34ce37f48fa99e06004771bf1a66a008b844ab0ce7a"), looks := true }, kinds := [], alts := [], laidByText := true, laidKinds := [.sentinel, .sentinel, .sentinel, .sentinel, .sentinel, .sentinel, .sentinel, .sentinel, .sentinel, .sentinel, .sentinel, .sentinel, .sentinel, .sentinel, .sentinel, .sentinel, .sentinel], laidTests := true, laidLooks := .later }
def HotLeftUptoCardSaid : Prop := Claim7.holds Tryd.pinned (.plain (OpenSpec.upto hotLeftSpec)) hotLeftUptoCard

/-- THE SECOND FORM's CARD OF 'sextetlaw9.HotOrders'. -/
def hotOrdersUptoCard : Claim7 := { stood := { row := hotOrdersUptoRow, standIns := [], harness := (true, "18bc007f5e4376f57ef0d34ce37f48fa99e06004771bf1a66a008b844ab0ce7a"), looks := true }, kinds := [], alts := [], laidByText := true, laidKinds := [.sentinel, .sentinel, .sentinel, .sentinel, .sentinel, .sentinel], laidTests := true, laidLooks := .later }
def HotOrdersUptoCardSaid : Prop := Claim7.holds Tryd.pinned (.plain (OpenSpec.upto hotOrdersSpec)) hotOrdersUptoCard

/-- THE SECOND FORM's CARD OF 'sextetlaw9.HotTwice'. -/
def hotTwiceUptoCard : Claim7 := { stood := { row := hotTwiceUptoRow, standIns := [], harness := (true, "18bc007f5e4376f57ef0d34ce37f48fa99e06004771bf1a66a008b844ab0ce7a"), looks := true }, kinds := [], alts := [], laidByText := true, laidKinds := [.sentinel, .sentinel, .sentinel, .sentinel, .sentinel, .sentinel, .sentinel, .sentinel, .sentinel, .sentinel, .sentinel, .sentinel, .sentinel, .sentinel, .sentinel, .sentinel, .sentinel], laidTests := true, laidLooks := .later }
def HotTwiceUptoCardSaid : Prop := Claim7.holds Tryd.pinned (.plain (OpenSpec.upto hotTwiceSpec)) hotTwiceUptoCard

/-- THE SECOND FORM's CARD OF 'sextetlaw9.HotCuts'. -/
def hotCutsUptoCard : Claim7 := { stood := { row := hotCutsUptoRow, standIns := [], harness := (true, "18bc007f5e4376f57ef0d34ce37f48fa99e06004771bf1a66a008b844ab0ce7a"), looks := true }, kinds := [], alts := [], laidByText := true, laidKinds := [.sentinel, .sentinel, .sentinel, .sentinel, .sentinel, .sentinel], laidTests := true, laidLooks := .later }
def HotCutsUptoCardSaid : Prop := Claim7.holds Tryd.pinned (.plain (OpenSpec.upto hotCutsSpec)) hotCutsUptoCard

/-- THE SECOND FORM's CARD OF 'sextetlaw11.VersRows'. -/
def versRowsUptoCard : Claim7 := { stood := { row := versRowsUptoRow, standIns := [], harness := (true, "18bc007f5e4376f57ef0d34ce37f48fa99e06004771bf1a66a008b844ab0ce7a"), looks := true }, kinds := [], alts := [], laidByText := true, laidKinds := [.sentinel, .sentinel, .sentinel, .sentinel, .sentinel, .sentinel, .sentinel, .sentinel, .sentinel, .sentinel, .sentinel, .sentinel, .sentinel, .sentinel, .sentinel, .sentinel, .sentinel], laidTests := true, laidLooks := .later }
def VersRowsUptoCardSaid : Prop := Claim7.holds Tryd.pinned (.plain (OpenSpec.upto versRowsSpec)) versRowsUptoCard

/-- THE SECOND FORM's CARD OF 'sextetlaw11.VersPages'. -/
def versPagesUptoCard : Claim7 := { stood := { row := versPagesUptoRow, standIns := [], harness := (true, "18bc007f5e4376f57ef0d34ce37f48fa99e06004771bf1a66a008b844ab0ce7a"), looks := true }, kinds := [], alts := [], laidByText := true, laidKinds := [.sentinel, .sentinel, .sentinel, .sentinel, .sentinel, .sentinel, .sentinel, .sentinel, .sentinel, .sentinel, .sentinel, .sentinel, .sentinel, .sentinel, .sentinel, .sentinel, .sentinel], laidTests := true, laidLooks := .later }
def VersPagesUptoCardSaid : Prop := Claim7.holds Tryd.pinned (.plain (OpenSpec.upto versPagesSpec)) versPagesUptoCard

/-- THE SECOND FORM's CARD OF 'sextetlaw11.VersFloors'. -/
def versFloorsUptoCard : Claim7 := { stood := { row := versFloorsUptoRow, standIns := [], harness := (true, "18bc007f5e4376f57ef0d34ce37f48fa99e06004771bf1a66a008b844ab0ce7a"), looks := true }, kinds := [], alts := [], laidByText := true, laidKinds := [.sentinel, .sentinel, .sentinel, .sentinel, .sentinel, .sentinel, .sentinel, .sentinel, .sentinel, .sentinel, .sentinel, .sentinel, .sentinel, .sentinel, .sentinel, .sentinel, .sentinel], laidTests := true, laidLooks := .later }
def VersFloorsUptoCardSaid : Prop := Claim7.holds Tryd.pinned (.plain (OpenSpec.upto versFloorsSpec)) versFloorsUptoCard
end Rows
end Go.Proofs.YtalidmlomfobdaaDoor
