/-
  DERIVED. GIVEN WITH THE SEED: THE CARDS: each row of YtoaamcpiljoojaaGreatDoorRows.lean that lists a variable, with what it lists TIED to the program's text (the seventh form; the later family's looks); each row that meets fmt, with fmt's text TOLD by the authors' own Lean function (tested against real Go, not proved from fmt's source: count such statements apart). THE CARD IS WHAT COUNTS. Prove the row's statement (the work); the ties are given (YtoaamcpiljoojaaGreatDoorTie.lean); close each card by the builder's one call (the guide's Derived/Test/ToyasCard.lean, 'card_holds'). Laid BY PROGRAM, IN A SANDBOX (cutbox-door.mjs). By AI agents, Wed Nov 11 2026. No macro, syntax, notation, axiom, sorry.
-/
import Derived.Test.YtoaamcpiljoojaaGreatDoorRows
import GoSem.ClaimSeven
namespace Go.Proofs.YtoaamcpiljoojaaGreatDoor
namespace Rows

/-- THE TIED CARD OF 'sextetlaw9.HotPlays'. -/
def hotPlaysCard : Claim7 := { stood := { row := hotPlaysRow, standIns := [], harness := (true, "505966256c0a9798d5a48b2ad5fa8b87d64bfa2a480b9d8b93b36b48c07cca92"), looks := true }, kinds := [], alts := [], laidByText := true, laidKinds := [.sentinel, .sentinel, .sentinel, .sentinel, .sentinel, .sentinel, .sentinel, .sentinel, .sentinel, .sentinel, .sentinel, .sentinel, .sentinel, .sentinel, .sentinel, .sentinel, .sentinel], laidTests := true, laidLooks := .later }
def HotPlaysCardSaid : Prop := Claim7.holds Tryz.pinned (.plain (OpenSpec.ofChange hotPlaysSpec)) hotPlaysCard

/-- THE TIED CARD OF 'sextetlaw11.VersSays'. -/
def versSaysCard : Claim7 := { stood := { row := versSaysRow, standIns := [], harness := (true, "505966256c0a9798d5a48b2ad5fa8b87d64bfa2a480b9d8b93b36b48c07cca92"), looks := true }, kinds := [], alts := [], laidByText := true, laidKinds := [.sentinel, .sentinel, .sentinel, .sentinel, .sentinel, .sentinel, .sentinel, .sentinel, .sentinel, .sentinel, .sentinel, .sentinel, .sentinel, .sentinel, .sentinel, .sentinel, .sentinel], laidTests := true, laidLooks := .later }
def VersSaysCardSaid : Prop := Claim7.holds Tryz.pinned (.plain (OpenSpec.ofChange versSaysSpec)) versSaysCard

/-- THE SECOND FORM's CARD OF 'sextetlaw9.HotPlays'. -/
def hotPlaysUptoCard : Claim7 := { stood := { row := hotPlaysUptoRow, standIns := [], harness := (true, "505966256c0a9798d5a48b2ad5fa8b87d64bfa2a480b9d8b93b36b48c07cca92"), looks := true }, kinds := [], alts := [], laidByText := true, laidKinds := [.sentinel, .sentinel, .sentinel, .sentinel, .sentinel, .sentinel, .sentinel, .sentinel, .sentinel, .sentinel, .sentinel, .sentinel, .sentinel, .sentinel, .sentinel, .sentinel, .sentinel], laidTests := true, laidLooks := .later }
def HotPlaysUptoCardSaid : Prop := Claim7.holds Tryz.pinned (.plain (OpenSpec.upto hotPlaysSpec)) hotPlaysUptoCard

/-- THE SECOND FORM's CARD OF 'sextetlaw11.VersSays'. -/
def versSaysUptoCard : Claim7 := { stood := { row := versSaysUptoRow, standIns := [], harness := (true, "505966256c0a9798d5a48b2ad5fa8b87d64bfa2a480b9d8b93b36b48c07cca92"), looks := true }, kinds := [], alts := [], laidByText := true, laidKinds := [.sentinel, .sentinel, .sentinel, .sentinel, .sentinel, .sentinel, .sentinel, .sentinel, .sentinel, .sentinel, .sentinel, .sentinel, .sentinel, .sentinel, .sentinel, .sentinel, .sentinel], laidTests := true, laidLooks := .later }
def VersSaysUptoCardSaid : Prop := Claim7.holds Tryz.pinned (.plain (OpenSpec.upto versSaysSpec)) versSaysUptoCard
end Rows
end Go.Proofs.YtoaamcpiljoojaaGreatDoor
