/-
  DERIVED. GIVEN WITH THE SEED: THE CARDS: each row of YtoaamcpiljoojaaDoorRows.lean that lists a variable, with what it lists TIED to the program's text (the seventh form; the later family's looks); each row that meets fmt, with fmt's text TOLD by the authors' own Lean function (tested against real Go, not proved from fmt's source: count such statements apart). THE CARD IS WHAT COUNTS. Prove the row's statement (the work); the ties are given (YtoaamcpiljoojaaDoorTie.lean); close each card by the builder's one call (the guide's Derived/Test/ToyasCard.lean, 'card_holds'). Laid BY PROGRAM, IN A SANDBOX (cutbox-door.mjs). By AI agents, Wed Nov 11 2026. No macro, syntax, notation, axiom, sorry.
-/
import Derived.Test.YtoaamcpiljoojaaDoorRows
import GoSem.ClaimSeven
namespace Go.Proofs.YtoaamcpiljoojaaDoor
namespace Rows

/-- THE TIED CARD OF 'sextetlaw3.RedoSorts'. -/
def redoSortsCard : Claim7 := { stood := { row := redoSortsRow, standIns := [], harness := (true, "1d3d3e8ce29d1288ac06740141fa1fb98ee0d3a0989cddda9375a956e88d8463"), looks := true }, kinds := [], alts := [], laidByText := true, laidKinds := [.sentinel, .sentinel, .sentinel, .sentinel, .sentinel, .sentinel, .sentinel, .sentinel, .sentinel, .sentinel, .sentinel, .sentinel, .sentinel, .sentinel, .sentinel, .sentinel, .sentinel], laidTests := true, laidLooks := .later }
def RedoSortsCardSaid : Prop := Claim7.holds Tryd.pinned (.plain (OpenSpec.ofChange redoSortsSpec)) redoSortsCard

/-- THE TIED CARD OF 'sextetlaw4.PageBytes'. -/
def pageBytesCard : Claim7 := { stood := { row := pageBytesRow, standIns := [], harness := (true, "1d3d3e8ce29d1288ac06740141fa1fb98ee0d3a0989cddda9375a956e88d8463"), looks := true }, kinds := [], alts := [], laidByText := true, laidKinds := [.sentinel, .sentinel, .sentinel, .sentinel, .sentinel, .sentinel, .sentinel, .sentinel, .sentinel, .sentinel, .sentinel, .sentinel, .sentinel, .sentinel, .sentinel, .sentinel, .sentinel], laidTests := true, laidLooks := .later }
def PageBytesCardSaid : Prop := Claim7.holds Tryd.pinned (.plain (OpenSpec.ofChange pageBytesSpec)) pageBytesCard

/-- THE TIED CARD OF 'sextetlaw20.PoolPlays'. -/
def poolPlaysCard : Claim7 := { stood := { row := poolPlaysRow, standIns := [], harness := (true, "1d3d3e8ce29d1288ac06740141fa1fb98ee0d3a0989cddda9375a956e88d8463"), looks := true }, kinds := [], alts := [], laidByText := true, laidKinds := [.sentinel, .sentinel, .sentinel, .sentinel, .sentinel, .sentinel, .sentinel, .sentinel, .sentinel, .sentinel, .sentinel, .sentinel, .sentinel, .sentinel, .sentinel, .sentinel, .sentinel], laidTests := true, laidLooks := .later }
def PoolPlaysCardSaid : Prop := Claim7.holds Tryd.pinned (.plain (OpenSpec.ofChange poolPlaysSpec)) poolPlaysCard

/-- THE SECOND FORM's CARD OF 'sextetlaw3.RedoSorts'. -/
def redoSortsUptoCard : Claim7 := { stood := { row := redoSortsUptoRow, standIns := [], harness := (true, "1d3d3e8ce29d1288ac06740141fa1fb98ee0d3a0989cddda9375a956e88d8463"), looks := true }, kinds := [], alts := [], laidByText := true, laidKinds := [.sentinel, .sentinel, .sentinel, .sentinel, .sentinel, .sentinel, .sentinel, .sentinel, .sentinel, .sentinel, .sentinel, .sentinel, .sentinel, .sentinel, .sentinel, .sentinel, .sentinel], laidTests := true, laidLooks := .later }
def RedoSortsUptoCardSaid : Prop := Claim7.holds Tryd.pinned (.plain (OpenSpec.upto redoSortsSpec)) redoSortsUptoCard

/-- THE SECOND FORM's CARD OF 'sextetlaw4.PageBytes'. -/
def pageBytesUptoCard : Claim7 := { stood := { row := pageBytesUptoRow, standIns := [], harness := (true, "1d3d3e8ce29d1288ac06740141fa1fb98ee0d3a0989cddda9375a956e88d8463"), looks := true }, kinds := [], alts := [], laidByText := true, laidKinds := [.sentinel, .sentinel, .sentinel, .sentinel, .sentinel, .sentinel, .sentinel, .sentinel, .sentinel, .sentinel, .sentinel, .sentinel, .sentinel, .sentinel, .sentinel, .sentinel, .sentinel], laidTests := true, laidLooks := .later }
def PageBytesUptoCardSaid : Prop := Claim7.holds Tryd.pinned (.plain (OpenSpec.upto pageBytesSpec)) pageBytesUptoCard

/-- THE SECOND FORM's CARD OF 'sextetlaw20.PoolPlays'. -/
def poolPlaysUptoCard : Claim7 := { stood := { row := poolPlaysUptoRow, standIns := [], harness := (true, "1d3d3e8ce29d1288ac06740141fa1fb98ee0d3a0989cddda9375a956e88d8463"), looks := true }, kinds := [], alts := [], laidByText := true, laidKinds := [.sentinel, .sentinel, .sentinel, .sentinel, .sentinel, .sentinel, .sentinel, .sentinel, .sentinel, .sentinel, .sentinel, .sentinel, .sentinel, .sentinel, .sentinel, .sentinel, .sentinel], laidTests := true, laidLooks := .later }
def PoolPlaysUptoCardSaid : Prop := Claim7.holds Tryd.pinned (.plain (OpenSpec.upto poolPlaysSpec)) poolPlaysUptoCard
end Rows
end Go.Proofs.YtoaamcpiljoojaaDoor
