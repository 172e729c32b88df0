/-
  DERIVED. GIVEN WITH THE SEED: THE CARDS: each row of YtliapmjocgohfaaDoorRows.lean that lists a variable, with what it lists TIED to the program's text (the seventh form; the later family's looks); each row that meets fmt, with fmt's text TOLD by the authors' own Lean function (tested against real Go, not proved from fmt's source: count such statements apart). THE CARD IS WHAT COUNTS. Prove the row's statement (the work); the ties are given (YtliapmjocgohfaaDoorTie.lean); close each card by the builder's one call (the guide's Derived/Test/ToyasCard.lean, 'card_holds'). Laid BY PROGRAM, IN A SANDBOX (cutbox-door.mjs). By AI agents, Wed Nov 11 2026. No macro, syntax, notation, axiom, sorry.
-/
import Derived.Test.YtliapmjocgohfaaDoorRows
import GoSem.ClaimSeven
namespace Go.Proofs.YtliapmjocgohfaaDoor
namespace Rows

/-- THE TIED CARD OF 'liaisonlaw02.CatchMust'. -/
def catchMustCard : Claim7 := { stood := { row := catchMustRow, standIns := [], harness := (true, "9cbec70d55a6d996667599daac44914ff307d60a3e437b5a326b3ea8b01bf558"), looks := true }, kinds := [], alts := [], laidByText := true, laidKinds := [.sentinel, .sentinel, .sentinel, .sentinel, .sentinel, .sentinel, .sentinel, .sentinel, .sentinel, .sentinel, .sentinel, .sentinel, .sentinel, .sentinel], laidTests := true, laidLooks := .later }
def CatchMustCardSaid : Prop := Claim7.holds Tryd.pinned (.plain (OpenSpec.ofChange catchMustSpec)) catchMustCard

/-- THE TIED CARD OF 'liaisonlaw02.CatchTries'. -/
def catchTriesCard : Claim7 := { stood := { row := catchTriesRow, standIns := [], harness := (true, "9cbec70d55a6d996667599daac44914ff307d60a3e437b5a326b3ea8b01bf558"), looks := true }, kinds := [], alts := [], laidByText := true, laidKinds := [.data, .data, .data, .sentinel, .sentinel, .sentinel, .sentinel, .sentinel, .sentinel, .sentinel, .sentinel, .sentinel, .sentinel, .sentinel, .sentinel, .sentinel, .sentinel, .sentinel, .sentinel], laidTests := true, laidLooks := .later }
def CatchTriesCardSaid : Prop := Claim7.holds Tryd.pinned (.plain (OpenSpec.ofChange catchTriesSpec)) catchTriesCard

/-- THE TIED CARD OF 'liaisonlaw02.CatchGoes'. -/
def catchGoesCard : Claim7 := { stood := { row := catchGoesRow, standIns := [], harness := (true, "9cbec70d55a6d996667599daac44914ff307d60a3e437b5a326b3ea8b01bf558"), looks := true }, kinds := [], alts := [], laidByText := true, laidKinds := [.data, .data, .data, .sentinel, .sentinel, .sentinel, .sentinel, .sentinel, .sentinel, .sentinel, .sentinel, .sentinel, .sentinel, .sentinel, .sentinel, .sentinel, .sentinel, .sentinel, .sentinel], laidTests := true, laidLooks := .later }
def CatchGoesCardSaid : Prop := Claim7.holds Tryd.pinned (.plain (OpenSpec.ofChange catchGoesSpec)) catchGoesCard

/-- THE TIED CARD OF 'liaisonlaw02.CatchWithin'. -/
def catchWithinCard : Claim7 := { stood := { row := catchWithinRow, standIns := [], harness := (true, "9cbec70d55a6d996667599daac44914ff307d60a3e437b5a326b3ea8b01bf558"), looks := true }, kinds := [], alts := [], laidByText := true, laidKinds := [.data, .data, .data, .sentinel, .sentinel, .sentinel, .sentinel, .sentinel, .sentinel, .sentinel, .sentinel, .sentinel, .sentinel, .sentinel, .sentinel, .sentinel, .sentinel, .sentinel, .sentinel], laidTests := true, laidLooks := .later }
def CatchWithinCardSaid : Prop := Claim7.holds Tryd.pinned (.plain (OpenSpec.ofChange catchWithinSpec)) catchWithinCard

/-- THE TIED CARD OF 'liaisonlaw02.CatchAll'. -/
def catchAllCard : Claim7 := { stood := { row := catchAllRow, standIns := [], harness := (true, "9cbec70d55a6d996667599daac44914ff307d60a3e437b5a326b3ea8b01bf558"), looks := true }, kinds := [], alts := [], laidByText := true, laidKinds := [.data, .data, .data, .sentinel, .sentinel, .sentinel, .sentinel, .sentinel, .sentinel, .sentinel, .sentinel, .sentinel, .sentinel, .sentinel, .sentinel, .sentinel, .sentinel, .sentinel, .sentinel], laidTests := true, laidLooks := .later }
def CatchAllCardSaid : Prop := Claim7.holds Tryd.pinned (.plain (OpenSpec.ofChange catchAllSpec)) catchAllCard

/-- THE SECOND FORM's CARD OF 'liaisonlaw02.CatchMust'. -/
def catchMustUptoCard : Claim7 := { stood := { row := catchMustUptoRow, standIns := [], harness := (true, "9cbec70d55a6d996667599daac44914ff307d60a3e437b5a326b3ea8b01bf558"), looks := true }, kinds := [], alts := [], laidByText := true, laidKinds := [.sentinel, .sentinel, .sentinel, .sentinel, .sentinel, .sentinel, .sentinel, .sentinel, .sentinel, .sentinel, .sentinel, .sentinel, .sentinel, .sentinel], laidTests := true, laidLooks := .later }
def CatchMustUptoCardSaid : Prop := Claim7.holds Tryd.pinned (.plain (OpenSpec.upto catchMustSpec)) catchMustUptoCard

/-- THE SECOND FORM's CARD OF 'liaisonlaw02.CatchTries'. -/
def catchTriesUptoCard : Claim7 := { stood := { row := catchTriesUptoRow, standIns := [], harness := (true, "9cbec70d55a6d996667599daac44914ff307d60a3e437b5a326b3ea8b01bf558"), looks := true }, kinds := [], alts := [], laidByText := true, laidKinds := [.data, .data, .data, .sentinel, .sentinel, .sentinel, .sentinel, .sentinel, .sentinel, .sentinel, .sentinel, .sentinel, .sentinel, .sentinel, .sentinel, .sentinel, .sentinel, .sentinel, .sentinel], laidTests := true, laidLooks := .later }
def CatchTriesUptoCardSaid : Prop := Claim7.holds Tryd.pinned (.plain (OpenSpec.upto catchTriesSpec)) catchTriesUptoCard

/-- THE SECOND FORM's CARD OF 'liaisonlaw02.CatchGoes'. -/
def catchGoesUptoCard : Claim7 := { stood := { row := catchGoesUptoRow, standIns := [], harness := (true, "9cbec70d55a6d996667599daac44914ff307d60a3e437b5a326b3ea8b01bf558"), looks := true }, kinds := [], alts := [], laidByText := true, laidKinds := [.data, .data, .data, .sentinel, .sentinel, .sentinel, .sentinel, .sentinel, .sentinel, .sentinel, .sentinel, .sentinel, .sentinel, .sentinel, .sentinel, .sentinel, .sentinel, .sentinel, .sentinel], laidTests := true, laidLooks := .later }
def CatchGoesUptoCardSaid : Prop := Claim7.holds Tryd.pinned (.plain (OpenSpec.upto catchGoesSpec)) catchGoesUptoCard

/-- THE SECOND FORM's CARD OF 'liaisonlaw02.CatchWithin'. -/
def catchWithinUptoCard : Claim7 := { stood := { row := catchWithinUptoRow, standIns := [], harness := (true, "9cbec70d55a6d996667599daac44914ff307d60a3e437b5a326b3ea8b01bf558"), looks := true }, kinds := [], alts := [], laidByText := true, laidKinds := [.data, .data, .data, .sentinel, .sentinel, .sentinel, .sentinel, .sentinel, .sentinel, .sentinel, .sentinel, .sentinel, .sentinel, .sentinel, .sentinel, .sentinel, .sentinel, .sentinel, .sentinel], laidTests := true, laidLooks := .later }
def CatchWithinUptoCardSaid : Prop := Claim7.holds Tryd.pinned (.plain (OpenSpec.upto catchWithinSpec)) catchWithinUptoCard

/-- THE SECOND FORM's CARD OF 'liaisonlaw02.CatchAll'. -/
def catchAllUptoCard : Claim7 := { stood := { row := catchAllUptoRow, standIns := [], harness := (true, "9cbec70d55a6d996667599daac44914ff307d60a3e437b5a326b3ea8b01bf558"), looks := true }, kinds := [], alts := [], laidByText := true, laidKinds := [.data, .data, .data, .sentinel, .sentinel, .sentinel, .sentinel, .sentinel, .sentinel, .sentinel, .sentinel, .sentinel, .sentinel, .sentinel, .sentinel, .sentinel, .sentinel, .sentinel, .sentinel], laidTests := true, laidLooks := .later }
def CatchAllUptoCardSaid : Prop := Claim7.holds Tryd.pinned (.plain (OpenSpec.upto catchAllSpec)) catchAllUptoCard
end Rows
end Go.Proofs.YtliapmjocgohfaaDoor
