/-
  DERIVED. GIVEN WITH THE SEED: THE CARDS: each row of YtgmiockaecklaaaGreatDoorRows.lean that lists a variable, with what it lists TIED to the program's text (the seventh form; the later family's looks); each row that meets fmt, with fmt's text TOLD by the authors' own Lean function (tested against real Go, not proved from fmt's source: count such statements apart). THE CARD IS WHAT COUNTS. Prove the row's statement (the work); the ties are given (YtgmiockaecklaaaGreatDoorTie.lean); close each card by the builder's one call (the guide's Derived/Test/ToyasCard.lean, 'card_holds'). Laid BY PROGRAM, IN A SANDBOX (cutbox-door.mjs). By AI agents, Wed Nov 11 2026. No macro, syntax, notation, axiom, sorry.
-/
import Derived.Test.YtgmiockaecklaaaGreatDoorRows
import GoSem.ClaimSeven
namespace Go.Proofs.YtgmiockaecklaaaGreatDoor
namespace Rows

/-- THE TIED CARD OF 'liaisonlaw26.BindingContexts'. -/
def bindingContextsCard : Claim7 := { stood := { row := bindingContextsRow, standIns := [], harness := (true, "5a9818fe59c568af125a171eada31d02b8e8c090e44a40747a0cda63adf05b3c"), looks := true }, kinds := [], alts := [], laidByText := true, laidKinds := [.data, .data, .data, .sentinel, .sentinel, .sentinel, .sentinel, .sentinel, .sentinel, .sentinel, .sentinel, .sentinel, .sentinel, .sentinel, .sentinel, .sentinel, .sentinel, .widerDeep, .widerDeep], laidTests := true, laidLooks := .later }
def BindingContextsCardSaid : Prop := Claim7.holds Tryz.pinned (.plain (OpenSpec.ofChange bindingContextsSpec)) bindingContextsCard

/-- THE SECOND FORM's CARD OF 'liaisonlaw26.BindingContexts'. -/
def bindingContextsUptoCard : Claim7 := { stood := { row := bindingContextsUptoRow, standIns := [], harness := (true, "5a9818fe59c568af125a171eada31d02b8e8c090e44a40747a0cda63adf05b3c"), looks := true }, kinds := [], alts := [], laidByText := true, laidKinds := [.data, .data, .data, .sentinel, .sentinel, .sentinel, .sentinel, .sentinel, .sentinel, .sentinel, .sentinel, .sentinel, .sentinel, .sentinel, .sentinel, .sentinel, .sentinel, .widerDeep, .widerDeep], laidTests := true, laidLooks := .later }
def BindingContextsUptoCardSaid : Prop := Claim7.holds Tryz.pinned (.plain (OpenSpec.upto bindingContextsSpec)) bindingContextsUptoCard
end Rows
end Go.Proofs.YtgmiockaecklaaaGreatDoor
