/-
  DERIVED. GIVEN WITH THE SEED: THE CARDS: each row of YtdhcflghijeloaaDoorRows.lean that lists a variable, with what it lists TIED to the program's text (the seventh form; the later family's looks); each row that meets fmt, with fmt's text TOLD by the authors' own Lean function (tested against real Go, not proved from fmt's source: count such statements apart). THE CARD IS WHAT COUNTS. Prove the row's statement (the work); the ties are given (YtdhcflghijeloaaDoorTie.lean); close each card by the builder's one call (the guide's Derived/Test/ToyasCard.lean, 'card_holds'). Laid BY PROGRAM, IN A SANDBOX (cutbox-door.mjs). By AI agents, Wed Nov 11 2026. No macro, syntax, notation, axiom, sorry.
-/
import Derived.Test.YtdhcflghijeloaaDoorRows
import GoSem.ClaimSeven
namespace Go.Proofs.YtdhcflghijeloaaDoor
namespace Rows

/-- THE TIED CARD OF 'liaisonlaw26.BindingNames'. -/
def bindingNamesCard : Claim7 := { stood := { row := bindingNamesRow, standIns := [], harness := (true, "9290311c7c2c11f146238866d1d332ef2c13234fa248bebbbbe7942961e29d96"), looks := true }, kinds := [], alts := [], laidByText := true, laidKinds := [.sentinel, .sentinel, .sentinel, .sentinel, .sentinel, .sentinel, .sentinel, .sentinel, .sentinel, .sentinel, .sentinel, .sentinel, .sentinel, .sentinel, .widerDeep, .widerDeep, .widerDeep], laidTests := true, laidLooks := .later }
def BindingNamesCardSaid : Prop := Claim7.holds Tryd.pinned (.plain (OpenSpec.ofChange bindingNamesSpec)) bindingNamesCard

/-- THE SECOND FORM's CARD OF 'liaisonlaw26.BindingNames'. -/
def bindingNamesUptoCard : Claim7 := { stood := { row := bindingNamesUptoRow, standIns := [], harness := (true, "9290311c7c2c11f146238866d1d332ef2c13234fa248bebbbbe7942961e29d96"), looks := true }, kinds := [], alts := [], laidByText := true, laidKinds := [.sentinel, .sentinel, .sentinel, .sentinel, .sentinel, .sentinel, .sentinel, .sentinel, .sentinel, .sentinel, .sentinel, .sentinel, .sentinel, .sentinel, .widerDeep, .widerDeep, .widerDeep], laidTests := true, laidLooks := .later }
def BindingNamesUptoCardSaid : Prop := Claim7.holds Tryd.pinned (.plain (OpenSpec.upto bindingNamesSpec)) bindingNamesUptoCard
end Rows
end Go.Proofs.YtdhcflghijeloaaDoor
