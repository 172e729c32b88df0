/-
  DERIVED. GIVEN WITH THE SEED: THE CARDS: each row of YtdomjjpinjdfgaaDoorRows.lean that lists a variable, with what it lists TIED to the program's text (the seventh form; the later family's looks); each row that meets fmt, with fmt's text TOLD by the authors' own Lean function (tested against real Go, not proved from fmt's source: count such statements apart). THE CARD IS WHAT COUNTS. Prove the row's statement (the work); the ties are given (YtdomjjpinjdfgaaDoorTie.lean); close each card by the builder's one call (the guide's Derived/Test/ToyasCard.lean, 'card_holds'). Laid BY PROGRAM, IN A SANDBOX (cutbox-door.mjs). By AI agents, Wed Nov 11 2026. No macro, syntax, notation, axiom, sorry.
-/
import Derived.Test.YtdomjjpinjdfgaaDoorRows
import GoSem.ClaimSeven
namespace Go.Proofs.YtdomjjpinjdfgaaDoor
namespace Rows

/-- THE TIED CARD OF 'liaisonlaw01.FloatsPlain'. -/
def floatsPlainCard : Claim7 := { stood := { row := floatsPlainRow, standIns := [], harness := (true, "7aa100933ec46de4161c9307bc796b1ce1c163affa5fabbff3eb1c6457e638f9"), looks := true }, kinds := [], alts := [], laidByText := true, laidKinds := [.sentinel, .sentinel, .sentinel, .sentinel, .sentinel, .sentinel, .sentinel, .sentinel, .sentinel, .sentinel, .sentinel, .sentinel, .sentinel, .sentinel], laidTests := true, laidLooks := .later }
def FloatsPlainCardSaid : Prop := Claim7.holds Tryd.pinned (.plain (OpenSpec.ofChange floatsPlainSpec)) floatsPlainCard

/-- THE SECOND FORM's CARD OF 'liaisonlaw01.FloatsPlain'. -/
def floatsPlainUptoCard : Claim7 := { stood := { row := floatsPlainUptoRow, standIns := [], harness := (true, "7aa100933ec46de4161c9307bc796b1ce1c163affa5fabbff3eb1c6457e638f9"), looks := true }, kinds := [], alts := [], laidByText := true, laidKinds := [.sentinel, .sentinel, .sentinel, .sentinel, .sentinel, .sentinel, .sentinel, .sentinel, .sentinel, .sentinel, .sentinel, .sentinel, .sentinel, .sentinel], laidTests := true, laidLooks := .later }
def FloatsPlainUptoCardSaid : Prop := Claim7.holds Tryd.pinned (.plain (OpenSpec.upto floatsPlainSpec)) floatsPlainUptoCard
end Rows
end Go.Proofs.YtdomjjpinjdfgaaDoor
