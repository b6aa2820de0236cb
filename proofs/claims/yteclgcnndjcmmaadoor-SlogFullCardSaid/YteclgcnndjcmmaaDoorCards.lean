/-
  DERIVED. GIVEN WITH THE SEED: THE CARDS: each row of YteclgcnndjcmmaaDoorRows.lean that lists a variable, with what it lists TIED to the program's text (the seventh form; the later family's looks); each row that meets fmt, with fmt's text TOLD by the authors' own Lean function (tested against real Go, not proved from fmt's source: count such statements apart). THE CARD IS WHAT COUNTS. Prove the row's statement (the work); the ties are given (YteclgcnndjcmmaaDoorTie.lean); close each card by the builder's one call (the guide's Derived/Test/ToyasCard.lean, 'card_holds'). Laid BY PROGRAM, IN A SANDBOX (cutbox-door.mjs). By AI agents, Wed Nov 11 2026. No macro, syntax, notation, axiom, sorry.
-/
import Derived.Test.YteclgcnndjcmmaaDoorRows
import GoSem.ClaimSeven
namespace Go.Proofs.YteclgcnndjcmmaaDoor
namespace Rows

/-- THE TIED CARD OF 'sextetlaw10.SlogFull'. -/
def slogFullCard : Claim7 := { stood := { row := slogFullRow, standIns := [], harness := (true, "09e24638734cb09020f150eca6a8fa681df9be333796ed89c3a61973b4ce3630"), looks := true }, kinds := [], alts := [], laidByText := true, laidKinds := [.sentinel, .sentinel, .sentinel, .sentinel, .sentinel, .sentinel, .sentinel, .sentinel, .sentinel, .sentinel, .sentinel, .sentinel, .sentinel, .sentinel, .sentinel, .sentinel, .sentinel], laidTests := true, laidLooks := .later }
def SlogFullCardSaid : Prop := Claim7.holds Tryd.pinned (.plain (OpenSpec.ofChange slogFullSpec)) slogFullCard

/-- THE TIED CARD OF 'sextetlaw10.SlogSteps'. -/
def slogStepsCard : Claim7 := { stood := { row := slogStepsRow, standIns := [], harness := (true, "09e24638734cb09020f150eca6a8fa681df9be333796ed89c3a61973b4ce3630"), looks := true }, kinds := [], alts := [], laidByText := true, laidKinds := [.sentinel, .sentinel, .sentinel, .sentinel, .sentinel, .sentinel, .sentinel, .sentinel, .sentinel, .sentinel, .sentinel, .sentinel, .sentinel, .sentinel, .sentinel, .sentinel, .sentinel], laidTests := true, laidLooks := .later }
def SlogStepsCardSaid : Prop := Claim7.holds Tryd.pinned (.plain (OpenSpec.ofChange slogStepsSpec)) slogStepsCard

/-- THE TIED CARD OF 'sextetlaw10.SlogBorn'. -/
def slogBornCard : Claim7 := { stood := { row := slogBornRow, standIns := [], harness := (true, "09e24638734cb09020f150eca6a8fa681df9be333796ed89c3a61973b4ce3630"), looks := true }, kinds := [], alts := [], laidByText := true, laidKinds := [.sentinel, .sentinel, .sentinel, .sentinel, .sentinel, .sentinel, .sentinel, .sentinel, .sentinel, .sentinel, .sentinel, .sentinel, .sentinel, .sentinel, .sentinel, .sentinel, .sentinel], laidTests := true, laidLooks := .later }
def SlogBornCardSaid : Prop := Claim7.holds Tryd.pinned (.plain (OpenSpec.ofChange slogBornSpec)) slogBornCard

/-- THE SECOND FORM's CARD OF 'sextetlaw10.SlogFull'. -/
def slogFullUptoCard : Claim7 := { stood := { row := slogFullUptoRow, standIns := [], harness := (true, "09e24638734cb09020f150eca6a8fa681df9be333796ed89c3a61973b4ce3630"), looks := true }, kinds := [], alts := [], laidByText := true, laidKinds := [.sentinel, .sentinel, .sentinel, .sentinel, .sentinel, .sentinel, .sentinel, .sentinel, .sentinel, .sentinel, .sentinel, .sentinel, .sentinel, .sentinel, .sentinel, .sentinel, .sentinel], laidTests := true, laidLooks := .later }
def SlogFullUptoCardSaid : Prop := Claim7.holds Tryd.pinned (.plain (OpenSpec.upto slogFullSpec)) slogFullUptoCard

/-- THE SECOND FORM's CARD OF 'sextetlaw10.SlogSteps'. -/
def slogStepsUptoCard : Claim7 := { stood := { row := slogStepsUptoRow, standIns := [], harness := (true, "09e24638734cb09020f150eca6a8fa681df9be333796ed89c3a61973b4ce3630"), looks := true }, kinds := [], alts := [], laidByText := true, laidKinds := [.sentinel, .sentinel, .sentinel, .sentinel, .sentinel, .sentinel, .sentinel, .sentinel, .sentinel, .sentinel, .sentinel, .sentinel, .sentinel, .sentinel, .sentinel, .sentinel, .sentinel], laidTests := true, laidLooks := .later }
def SlogStepsUptoCardSaid : Prop := Claim7.holds Tryd.pinned (.plain (OpenSpec.upto slogStepsSpec)) slogStepsUptoCard

/-- THE SECOND FORM's CARD OF 'sextetlaw10.SlogBorn'. -/
def slogBornUptoCard : Claim7 := { stood := { row := slogBornUptoRow, standIns := [], harness := (true, "09e24638734cb09020f150eca6a8fa681df9be333796ed89c3a61973b4ce3630"), looks := true }, kinds := [], alts := [], laidByText := true, laidKinds := [.sentinel, .sentinel, .sentinel, .sentinel, .sentinel, .sentinel, .sentinel, .sentinel, .sentinel, .sentinel, .sentinel, .sentinel, .sentinel, .sentinel, .sentinel, .sentinel, .sentinel], laidTests := true, laidLooks := .later }
def SlogBornUptoCardSaid : Prop := Claim7.holds Tryd.pinned (.plain (OpenSpec.upto slogBornSpec)) slogBornUptoCard
end Rows
end Go.Proofs.YteclgcnndjcmmaaDoor
