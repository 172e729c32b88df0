/-
  DERIVED. GIVEN WITH THE SEED: THE CARDS: each row of YtjklcbdlfmmllaaGreatDoorRows.lean that lists a variable, with what it lists TIED to the program's text (the seventh form; the later family's looks); each row that meets fmt, with fmt's text TOLD by the authors' own Lean function (tested against real Go, not proved from fmt's source: count such statements apart). THE CARD IS WHAT COUNTS. Prove the row's statement (the work); the ties are given (YtjklcbdlfmmllaaGreatDoorTie.lean); close each card by the builder's one call (the guide's Derived/Test/ToyasCard.lean, 'card_holds'). Laid BY PROGRAM, IN A SANDBOX (cutbox-door.mjs). By AI agents, Wed Nov 11 2026. No macro, syntax, notation, axiom, sorry.
-/
import Derived.Test.YtjklcbdlfmmllaaGreatDoorRows
import GoSem.ClaimSeven
namespace Go.Proofs.YtjklcbdlfmmllaaGreatDoor
namespace Rows

/-- THE TIED CARD OF 'liaisonlaw14.FactsBytes'. -/
def factsBytesCard : Claim7 := { stood := { row := factsBytesRow, standIns := [], harness := (true, "4b0b7566fb0abe0c6238be5896f9070af2d2e4c25ca5b4e5d3e98fce49409e8e"), looks := true }, kinds := [], alts := [], laidByText := true, laidKinds := [.data, .data, .data, .sentinel, .sentinel, .sentinel, .sentinel, .sentinel, .sentinel, .sentinel, .sentinel, .sentinel, .sentinel, .sentinel, .sentinel, .sentinel, .sentinel], laidTests := true, laidLooks := .later }
def FactsBytesCardSaid : Prop := Claim7.holds Tryz.pinned (.plain (OpenSpec.ofChange factsBytesSpec)) factsBytesCard

/-- THE TIED CARD OF 'liaisonlaw14.FactsReads'. -/
def factsReadsCard : Claim7 := { stood := { row := factsReadsRow, standIns := [], harness := (true, "4b0b7566fb0abe0c6238be5896f9070af2d2e4c25ca5b4e5d3e98fce49409e8e"), looks := true }, kinds := [], alts := [], laidByText := true, laidKinds := [.data, .data, .data, .sentinel, .sentinel, .sentinel, .sentinel, .sentinel, .sentinel, .sentinel, .sentinel, .sentinel, .sentinel, .sentinel, .sentinel, .sentinel, .sentinel], laidTests := true, laidLooks := .later }
def FactsReadsCardSaid : Prop := Claim7.holds Tryz.pinned (.plain (OpenSpec.ofChange factsReadsSpec)) factsReadsCard

/-- THE SECOND FORM's CARD OF 'liaisonlaw14.FactsBytes'. -/
def factsBytesUptoCard : Claim7 := { stood := { row := factsBytesUptoRow, standIns := [], harness := (true, "4b0b7566fb0abe0c6238be5896f9070af2d2e4c25ca5b4e5d3e98fce49409e8e"), looks := true }, kinds := [], alts := [], laidByText := true, laidKinds := [.data, .data, .data, .sentinel, .sentinel, .sentinel, .sentinel, .sentinel, .sentinel, .sentinel, .sentinel, .sentinel, .sentinel, .sentinel, .sentinel, .sentinel, .sentinel], laidTests := true, laidLooks := .later }
def FactsBytesUptoCardSaid : Prop := Claim7.holds Tryz.pinned (.plain (OpenSpec.upto factsBytesSpec)) factsBytesUptoCard

/-- THE SECOND FORM's CARD OF 'liaisonlaw14.FactsReads'. -/
def factsReadsUptoCard : Claim7 := { stood := { row := factsReadsUptoRow, standIns := [], harness := (true, "4b0b7566fb0abe0c6238be5896f9070af2d2e4c25ca5b4e5d3e98fce49409e8e"), looks := true }, kinds := [], alts := [], laidByText := true, laidKinds := [.data, .data, .data, .sentinel, .sentinel, .sentinel, .sentinel, .sentinel, .sentinel, .sentinel, .sentinel, .sentinel, .sentinel, .sentinel, .sentinel, .sentinel, .sentinel], laidTests := true, laidLooks := .later }
def FactsReadsUptoCardSaid : Prop := Claim7.holds Tryz.pinned (.plain (OpenSpec.upto factsReadsSpec)) factsReadsUptoCard
end Rows
end Go.Proofs.YtjklcbdlfmmllaaGreatDoor
