/-
  DERIVED. GIVEN WITH THE SEED: THE CARDS: each row of YtehdbiilbbbbpaaDoorRows.lean that lists a variable, with what it lists TIED to the program's text (the seventh form; the later family's looks); each row that meets fmt, with fmt's text TOLD by the authors' own Lean function (tested against real Go, not proved from fmt's source: count such statements apart). THE CARD IS WHAT COUNTS. Prove the row's statement (the work); the ties are given (YtehdbiilbbbbpaaDoorTie.lean); close each card by the builder's one call (the guide's Derived/Test/ToyasCard.lean, 'card_holds'). Laid BY PROGRAM, IN A SANDBOX (cutbox-door.mjs). By AI agents, Wed Nov 11 2026. No macro, syntax, notation, axiom, sorry.
-/
import Derived.Test.YtehdbiilbbbbpaaDoorRows
import GoSem.ClaimSeven
namespace Go.Proofs.YtehdbiilbbbbpaaDoor
namespace Rows

/-- THE TIED CARD OF 'liaisonlaw05.IdsUnlike'. -/
def idsUnlikeCard : Claim7 := { stood := { row := idsUnlikeRow, standIns := [], harness := (true, "2e77fb979b876720119beee4fce2d83339f0d6b95e398cceb4ef8b1c530f9156"), looks := true }, kinds := [], alts := [], laidByText := true, laidKinds := [.data, .data, .data, .sentinel, .sentinel, .sentinel, .sentinel, .sentinel, .sentinel, .sentinel, .sentinel, .sentinel, .sentinel, .sentinel, .sentinel, .sentinel, .sentinel], laidTests := true, laidLooks := .later }
def IdsUnlikeCardSaid : Prop := Claim7.holds Tryd.pinned (.plain (OpenSpec.ofChange idsUnlikeSpec)) idsUnlikeCard

/-- THE TIED CARD OF 'liaisonlaw05.IdsTexts'. -/
def idsTextsCard : Claim7 := { stood := { row := idsTextsRow, standIns := [], harness := (true, "2e77fb979b876720119beee4fce2d83339f0d6b95e398cceb4ef8b1c530f9156"), looks := true }, kinds := [], alts := [], laidByText := true, laidKinds := [.data, .data, .data, .sentinel, .sentinel, .sentinel, .sentinel, .sentinel, .sentinel, .sentinel, .sentinel, .sentinel, .sentinel, .sentinel, .sentinel, .sentinel, .sentinel], laidTests := true, laidLooks := .later }
def IdsTextsCardSaid : Prop := Claim7.holds Tryd.pinned (.plain (OpenSpec.ofChange idsTextsSpec)) idsTextsCard

/-- THE TIED CARD OF 'liaisonlaw05.IdsReads'. -/
def idsReadsCard : Claim7 := { stood := { row := idsReadsRow, standIns := [], harness := (true, "2e77fb979b876720119beee4fce2d83339f0d6b95e398cceb4ef8b1c530f9156"), looks := true }, kinds := [], alts := [], laidByText := true, laidKinds := [.data, .data, .data, .sentinel, .sentinel, .sentinel, .sentinel, .sentinel, .sentinel, .sentinel, .sentinel, .sentinel, .sentinel, .sentinel, .sentinel, .sentinel, .sentinel], laidTests := true, laidLooks := .later }
def IdsReadsCardSaid : Prop := Claim7.holds Tryd.pinned (.plain (OpenSpec.ofChange idsReadsSpec)) idsReadsCard

/-- THE TIED CARD OF 'liaisonlaw05.IdsBack'. -/
def idsBackCard : Claim7 := { stood := { row := idsBackRow, standIns := [], harness := (true, "2e77fb979b876720119beee4fce2d83339f0d6b95e398cceb4ef8b1c530f9156"), looks := true }, kinds := [], alts := [], laidByText := true, laidKinds := [.data, .data, .data, .sentinel, .sentinel, .sentinel, .sentinel, .sentinel, .sentinel, .sentinel, .sentinel, .sentinel, .sentinel, .sentinel, .sentinel, .sentinel, .sentinel], laidTests := true, laidLooks := .later }
def IdsBackCardSaid : Prop := Claim7.holds Tryd.pinned (.plain (OpenSpec.ofChange idsBackSpec)) idsBackCard

/-- THE SECOND FORM's CARD OF 'liaisonlaw05.IdsUnlike'. -/
def idsUnlikeUptoCard : Claim7 := { stood := { row := idsUnlikeUptoRow, standIns := [], harness := (true, "2e77fb979b876720119beee4fce2d83339f0d6b95e398cceb4ef8b1c530f9156"), looks := true }, kinds := [], alts := [], laidByText := true, laidKinds := [.data, .data, .data, .sentinel, .sentinel, .sentinel, .sentinel, .sentinel, .sentinel, .sentinel, .sentinel, .sentinel, .sentinel, .sentinel, .sentinel, .sentinel, .sentinel], laidTests := true, laidLooks := .later }
def IdsUnlikeUptoCardSaid : Prop := Claim7.holds Tryd.pinned (.plain (OpenSpec.upto idsUnlikeSpec)) idsUnlikeUptoCard

/-- THE SECOND FORM's CARD OF 'liaisonlaw05.IdsTexts'. -/
def idsTextsUptoCard : Claim7 := { stood := { row := idsTextsUptoRow, standIns := [], harness := (true, "2e77fb979b876720119beee4fce2d83339f0d6b95e398cceb4ef8b1c530f9156"), looks := true }, kinds := [], alts := [], laidByText := true, laidKinds := [.data, .data, .data, .sentinel, .sentinel, .sentinel, .sentinel, .sentinel, .sentinel, .sentinel, .sentinel, .sentinel, .sentinel, .sentinel, .sentinel, .sentinel, .sentinel], laidTests := true, laidLooks := .later }
def IdsTextsUptoCardSaid : Prop := Claim7.holds Tryd.pinned (.plain (OpenSpec.upto idsTextsSpec)) idsTextsUptoCard

/-- THE SECOND FORM's CARD OF 'liaisonlaw05.IdsReads'. -/
def idsReadsUptoCard : Claim7 := { stood := { row := idsReadsUptoRow, standIns := [], harness := (true, "2e77fb979b876720119beee4fce2d83339f0d6b95e398cceb4ef8b1c530f9156"), looks := true }, kinds := [], alts := [], laidByText := true, laidKinds := [.data, .data, .data, .sentinel, .sentinel, .sentinel, .sentinel, .sentinel, .sentinel, .sentinel, .sentinel, .sentinel, .sentinel, .sentinel, .sentinel, .sentinel, .sentinel], laidTests := true, laidLooks := .later }
def IdsReadsUptoCardSaid : Prop := Claim7.holds Tryd.pinned (.plain (OpenSpec.upto idsReadsSpec)) idsReadsUptoCard

/-- THE SECOND FORM's CARD OF 'liaisonlaw05.IdsBack'. -/
def idsBackUptoCard : Claim7 := { stood := { row := idsBackUptoRow, standIns := [], harness := (true, "2e77fb979b876720119beee4fce2d83339f0d6b95e398cceb4ef8b1c530f9156"), looks := true }, kinds := [], alts := [], laidByText := true, laidKinds := [.data, .data, .data, .sentinel, .sentinel, .sentinel, .sentinel, .sentinel, .sentinel, .sentinel, .sentinel, .sentinel, .sentinel, .sentinel, .sentinel, .sentinel, .sentinel], laidTests := true, laidLooks := .later }
def IdsBackUptoCardSaid : Prop := Claim7.holds Tryd.pinned (.plain (OpenSpec.upto idsBackSpec)) idsBackUptoCard
end Rows
end Go.Proofs.YtehdbiilbbbbpaaDoor
