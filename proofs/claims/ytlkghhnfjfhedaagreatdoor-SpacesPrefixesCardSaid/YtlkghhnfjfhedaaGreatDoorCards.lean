/-
  DERIVED. GIVEN WITH THE SEED: THE CARDS: each row of YtlkghhnfjfhedaaGreatDoorRows.lean that lists a variable, with what it lists TIED to the program's text (the seventh form; the later family's looks); each row that meets fmt, with fmt's text TOLD by the authors' own Lean function (tested against real Go, not proved from fmt's source: count such statements apart). THE CARD IS WHAT COUNTS. Prove the row's statement (the work); the ties are given (YtlkghhnfjfhedaaGreatDoorTie.lean); close each card by the builder's one call (the guide's Derived/Test/ToyasCard.lean, 'card_holds'). Laid BY PROGRAM, IN A SANDBOX (cutbox-door.mjs). By AI agents, Wed Nov 11 2026. No macro, syntax, notation, axiom, sorry.
-/
import Derived.Test.YtlkghhnfjfhedaaGreatDoorRows
import GoSem.ClaimSeven
namespace Go.Proofs.YtlkghhnfjfhedaaGreatDoor
namespace Rows

/-- THE TIED CARD OF 'liaisonlaw24.SpacesResolves'. -/
def spacesResolvesCard : Claim7 := { stood := { row := spacesResolvesRow, standIns := [], harness := (true, "af9cb64423791471922b4f1d141a3a16dc74b8b8c4ebb09147da7239c6b9f7d6"), looks := true }, kinds := [], alts := [], laidByText := true, laidKinds := [.data, .data, .data, .data, .sentinel, .sentinel, .sentinel, .sentinel, .sentinel, .sentinel, .sentinel, .sentinel, .sentinel, .sentinel, .sentinel, .sentinel, .sentinel, .sentinel, .pinned], laidTests := true, laidLooks := .later }
def SpacesResolvesCardSaid : Prop := Claim7.holds Tryz.pinned (.plain (OpenSpec.ofChange spacesResolvesSpec)) spacesResolvesCard

/-- THE TIED CARD OF 'liaisonlaw24.SpacesWrites'. -/
def spacesWritesCard : Claim7 := { stood := { row := spacesWritesRow, standIns := [], harness := (true, "af9cb64423791471922b4f1d141a3a16dc74b8b8c4ebb09147da7239c6b9f7d6"), looks := true }, kinds := [], alts := [], laidByText := true, laidKinds := [.data, .data, .data, .data, .sentinel, .sentinel, .sentinel, .sentinel, .sentinel, .sentinel, .sentinel, .sentinel, .sentinel, .sentinel, .sentinel, .sentinel, .sentinel, .sentinel, .pinned], laidTests := true, laidLooks := .later }
def SpacesWritesCardSaid : Prop := Claim7.holds Tryz.pinned (.plain (OpenSpec.ofChange spacesWritesSpec)) spacesWritesCard

/-- THE TIED CARD OF 'liaisonlaw24.SpacesPrefixes'. -/
def spacesPrefixesCard : Claim7 := { stood := { row := spacesPrefixesRow, standIns := [], harness := (true, "af9cb64423791471922b4f1d141a3a16dc74b8b8c4ebb09147da7239c6b9f7d6"), looks := true }, kinds := [], alts := [], laidByText := true, laidKinds := [.data, .data, .data, .data, .sentinel, .sentinel, .sentinel, .sentinel, .sentinel, .sentinel, .sentinel, .sentinel, .sentinel, .sentinel, .sentinel, .sentinel, .sentinel, .sentinel, .pinned], laidTests := true, laidLooks := .later }
def SpacesPrefixesCardSaid : Prop := Claim7.holds Tryz.pinned (.plain (OpenSpec.ofChange spacesPrefixesSpec)) spacesPrefixesCard

/-- THE SECOND FORM's CARD OF 'liaisonlaw24.SpacesResolves'. -/
def spacesResolvesUptoCard : Claim7 := { stood := { row := spacesResolvesUptoRow, standIns := [], harness := (true, "af9cb64423791471922b4f1d141a3a16dc74b8b8c4ebb09147da7239c6b9f7d6"), looks := true }, kinds := [], alts := [], laidByText := true, laidKinds := [.data, .data, .data, .data, .sentinel, .sentinel, .sentinel, .sentinel, .sentinel, .sentinel, .sentinel, .sentinel, .sentinel, .sentinel, .sentinel, .sentinel, .sentinel, .sentinel, .pinned], laidTests := true, laidLooks := .later }
def SpacesResolvesUptoCardSaid : Prop := Claim7.holds Tryz.pinned (.plain (OpenSpec.upto spacesResolvesSpec)) spacesResolvesUptoCard

/-- THE SECOND FORM's CARD OF 'liaisonlaw24.SpacesWrites'. -/
def spacesWritesUptoCard : Claim7 := { stood := { row := spacesWritesUptoRow, standIns := [], harness := (true, "af9cb64423791471922b4f1d141a3a16dc74b8b8c4ebb09147da7239c6b9f7d6"), looks := true }, kinds := [], alts := [], laidByText := true, laidKinds := [.data, .data, .data, .data, .sentinel, .sentinel, .sentinel, .sentinel, .sentinel, .sentinel, .sentinel, .sentinel, .sentinel, .sentinel, .sentinel, .sentinel, .sentinel, .sentinel, .pinned], laidTests := true, laidLooks := .later }
def SpacesWritesUptoCardSaid : Prop := Claim7.holds Tryz.pinned (.plain (OpenSpec.upto spacesWritesSpec)) spacesWritesUptoCard

/-- THE SECOND FORM's CARD OF 'liaisonlaw24.SpacesPrefixes'. -/
def spacesPrefixesUptoCard : Claim7 := { stood := { row := spacesPrefixesUptoRow, standIns := [], harness := (true, "af9cb64423791471922b4f1d141a3a16dc74b8b8c4ebb09147da7239c6b9f7d6"), looks := true }, kinds := [], alts := [], laidByText := true, laidKinds := [.data, .data, .data, .data, .sentinel, .sentinel, .sentinel, .sentinel, .sentinel, .sentinel, .sentinel, .sentinel, .sentinel, .sentinel, .sentinel, .sentinel, .sentinel, .sentinel, .pinned], laidTests := true, laidLooks := .later }
def SpacesPrefixesUptoCardSaid : Prop := Claim7.holds Tryz.pinned (.plain (OpenSpec.upto spacesPrefixesSpec)) spacesPrefixesUptoCard
end Rows
end Go.Proofs.YtlkghhnfjfhedaaGreatDoor
