/-
  DERIVED. GIVEN WITH THE SEED: THE CARDS: each row of YtchclmimdpnkaaaDoorRows.lean that lists a variable, with what it lists TIED to the program's text (the seventh form; the later family's looks); each row that meets fmt, with fmt's text TOLD by the authors' own Lean function (tested against real Go, not proved from fmt's source: count such statements apart). THE CARD IS WHAT COUNTS. Prove the row's statement (the work); the ties are given (YtchclmimdpnkaaaDoorTie.lean); close each card by the builder's one call (the guide's Derived/Test/ToyasCard.lean, 'card_holds'). Laid BY PROGRAM, IN A SANDBOX (cutbox-door.mjs). By AI agents, Wed Nov 11 2026. No macro, syntax, notation, axiom, sorry.
-/
import Derived.Test.YtchclmimdpnkaaaDoorRows
import GoSem.ClaimSeven
namespace Go.Proofs.YtchclmimdpnkaaaDoor
namespace Rows

/-- THE TIED CARD OF 'liaisonlaw03.FieldsUnlike'. -/
def fieldsUnlikeCard : Claim7 := { stood := { row := fieldsUnlikeRow, standIns := [], harness := (true, "2667cb2b23544f1a2b3a75773320978f0107a5f15033f210d9e0b5bfb7b3e1c9"), looks := true }, kinds := [], alts := [], laidByText := true, laidKinds := [.sentinel, .sentinel], laidTests := true, laidLooks := .later }
def FieldsUnlikeCardSaid : Prop := Claim7.holds Tryd.pinned (.plain (OpenSpec.ofChange fieldsUnlikeSpec)) fieldsUnlikeCard

/-- THE TIED CARD OF 'liaisonlaw03.FieldsNumbers'. -/
def fieldsNumbersCard : Claim7 := { stood := { row := fieldsNumbersRow, standIns := [], harness := (true, "2667cb2b23544f1a2b3a75773320978f0107a5f15033f210d9e0b5bfb7b3e1c9"), looks := true }, kinds := [], alts := [], laidByText := true, laidKinds := [.sentinel, .sentinel, .sentinel, .sentinel, .sentinel, .sentinel, .sentinel, .sentinel, .sentinel, .sentinel, .sentinel, .sentinel, .sentinel, .sentinel], laidTests := true, laidLooks := .later }
def FieldsNumbersCardSaid : Prop := Claim7.holds Tryd.pinned (.plain (OpenSpec.ofChange fieldsNumbersSpec)) fieldsNumbersCard

/-- THE TIED CARD OF 'liaisonlaw03.FieldsFloats'. -/
def fieldsFloatsCard : Claim7 := { stood := { row := fieldsFloatsRow, standIns := [], harness := (true, "2667cb2b23544f1a2b3a75773320978f0107a5f15033f210d9e0b5bfb7b3e1c9"), looks := true }, kinds := [], alts := [], laidByText := true, laidKinds := [.sentinel, .sentinel, .sentinel, .sentinel, .sentinel, .sentinel, .sentinel, .sentinel, .sentinel, .sentinel, .sentinel, .sentinel, .sentinel, .sentinel], laidTests := true, laidLooks := .later }
def FieldsFloatsCardSaid : Prop := Claim7.holds Tryd.pinned (.plain (OpenSpec.ofChange fieldsFloatsSpec)) fieldsFloatsCard

/-- THE TIED CARD OF 'liaisonlaw03.FieldsSplit'. -/
def fieldsSplitCard : Claim7 := { stood := { row := fieldsSplitRow, standIns := [], harness := (true, "2667cb2b23544f1a2b3a75773320978f0107a5f15033f210d9e0b5bfb7b3e1c9"), looks := true }, kinds := [], alts := [], laidByText := true, laidKinds := [.sentinel, .sentinel, .sentinel, .sentinel, .sentinel, .sentinel, .sentinel, .sentinel, .sentinel, .sentinel, .sentinel, .sentinel, .sentinel, .sentinel], laidTests := true, laidLooks := .later }
def FieldsSplitCardSaid : Prop := Claim7.holds Tryd.pinned (.plain (OpenSpec.ofChange fieldsSplitSpec)) fieldsSplitCard

/-- THE TIED CARD OF 'liaisonlaw03.FieldsCut'. -/
def fieldsCutCard : Claim7 := { stood := { row := fieldsCutRow, standIns := [], harness := (true, "2667cb2b23544f1a2b3a75773320978f0107a5f15033f210d9e0b5bfb7b3e1c9"), looks := true }, kinds := [], alts := [], laidByText := true, laidKinds := [.sentinel, .sentinel, .sentinel, .sentinel, .sentinel, .sentinel, .sentinel, .sentinel, .sentinel, .sentinel, .sentinel, .sentinel, .sentinel, .sentinel], laidTests := true, laidLooks := .later }
def FieldsCutCardSaid : Prop := Claim7.holds Tryd.pinned (.plain (OpenSpec.ofChange fieldsCutSpec)) fieldsCutCard

/-- THE TIED CARD OF 'liaisonlaw03.FieldsJoin'. -/
def fieldsJoinCard : Claim7 := { stood := { row := fieldsJoinRow, standIns := [], harness := (true, "2667cb2b23544f1a2b3a75773320978f0107a5f15033f210d9e0b5bfb7b3e1c9"), looks := true }, kinds := [], alts := [], laidByText := true, laidKinds := [.sentinel, .sentinel, .sentinel, .sentinel, .sentinel, .sentinel, .sentinel, .sentinel, .sentinel, .sentinel, .sentinel, .sentinel, .sentinel, .sentinel], laidTests := true, laidLooks := .later }
def FieldsJoinCardSaid : Prop := Claim7.holds Tryd.pinned (.plain (OpenSpec.ofChange fieldsJoinSpec)) fieldsJoinCard

/-- THE SECOND FORM's CARD OF 'liaisonlaw03.FieldsUnlike'. -/
def fieldsUnlikeUptoCard : Claim7 := { stood := { row := fieldsUnlikeUptoRow, standIns := [], harness := (true, "2667cb2b23544f1a2b3a75773320978f0107a5f15033f210d9e0b5bfb7b3e1c9"), looks := true }, kinds := [], alts := [], laidByText := true, laidKinds := [.sentinel, .sentinel], laidTests := true, laidLooks := .later }
def FieldsUnlikeUptoCardSaid : Prop := Claim7.holds Tryd.pinned (.plain (OpenSpec.upto fieldsUnlikeSpec)) fieldsUnlikeUptoCard

/-- THE SECOND FORM's CARD OF 'liaisonlaw03.FieldsNumbers'. -/
def fieldsNumbersUptoCard : Claim7 := { stood := { row := fieldsNumbersUptoRow, standIns := [], harness := (true, "2667cb2b23544f1a2b3a75773320978f0107a5f15033f210d9e0b5bfb7b3e1c9"), looks := true }, kinds := [], alts := [], laidByText := true, laidKinds := [.sentinel, .sentinel, .sentinel, .sentinel, .sentinel, .sentinel, .sentinel, .sentinel, .sentinel, .sentinel, .sentinel, .sentinel, .sentinel, .sentinel], laidTests := true, laidLooks := .later }
def FieldsNumbersUptoCardSaid : Prop := Claim7.holds Tryd.pinned (.plain (OpenSpec.upto fieldsNumbersSpec)) fieldsNumbersUptoCard

/-- THE SECOND FORM's CARD OF 'liaisonlaw03.FieldsFloats'. -/
def fieldsFloatsUptoCard : Claim7 := { stood := { row := fieldsFloatsUptoRow, standIns := [], harness := (true, "2667cb2b23544f1a2b3a75773320978f0107a5f15033f210d9e0b5bfb7b3e1c9"), looks := true }, kinds := [], alts := [], laidByText := true, laidKinds := [.sentinel, .sentinel, .sentinel, .sentinel, .sentinel, .sentinel, .sentinel, .sentinel, .sentinel, .sentinel, .sentinel, .sentinel, .sentinel, .sentinel], laidTests := true, laidLooks := .later }
def FieldsFloatsUptoCardSaid : Prop := Claim7.holds Tryd.pinned (.plain (OpenSpec.upto fieldsFloatsSpec)) fieldsFloatsUptoCard

/-- THE SECOND FORM's CARD OF 'liaisonlaw03.FieldsSplit'. -/
def fieldsSplitUptoCard : Claim7 := { stood := { row := fieldsSplitUptoRow, standIns := [], harness := (true, "2667cb2b23544f1a2b3a75773320978f0107a5f15033f210d9e0b5bfb7b3e1c9"), looks := true }, kinds := [], alts := [], laidByText := true, laidKinds := [.sentinel, .sentinel, .sentinel, .sentinel, .sentinel, .sentinel, .sentinel, .sentinel, .sentinel, .sentinel, .sentinel, .sentinel, .sentinel, .sentinel], laidTests := true, laidLooks := .later }
def FieldsSplitUptoCardSaid : Prop := Claim7.holds Tryd.pinned (.plain (OpenSpec.upto fieldsSplitSpec)) fieldsSplitUptoCard

/-- THE SECOND FORM's CARD OF 'liaisonlaw03.FieldsCut'. -/
def fieldsCutUptoCard : Claim7 := { stood := { row := fieldsCutUptoRow, standIns := [], harness := (true, "2667cb2b23544f1a2b3a75773320978f0107a5f15033f210d9e0b5bfb7b3e1c9"), looks := true }, kinds := [], alts := [], laidByText := true, laidKinds := [.sentinel, .sentinel, .sentinel, .sentinel, .sentinel, .sentinel, .sentinel, .sentinel, .sentinel, .sentinel, .sentinel, .sentinel, .sentinel, .sentinel], laidTests := true, laidLooks := .later }
def FieldsCutUptoCardSaid : Prop := Claim7.holds Tryd.pinned (.plain (OpenSpec.upto fieldsCutSpec)) fieldsCutUptoCard

/-- THE SECOND FORM's CARD OF 'liaisonlaw03.FieldsJoin'. -/
def fieldsJoinUptoCard : Claim7 := { stood := { row := fieldsJoinUptoRow, standIns := [], harness := (true, "2667cb2b23544f1a2b3a75773320978f0107a5f15033f210d9e0b5bfb7b3e1c9"), looks := true }, kinds := [], alts := [], laidByText := true, laidKinds := [.sentinel, .sentinel, .sentinel, .sentinel, .sentinel, .sentinel, .sentinel, .sentinel, .sentinel, .sentinel, .sentinel, .sentinel, .sentinel, .sentinel], laidTests := true, laidLooks := .later }
def FieldsJoinUptoCardSaid : Prop := Claim7.holds Tryd.pinned (.plain (OpenSpec.upto fieldsJoinSpec)) fieldsJoinUptoCard
end Rows
end Go.Proofs.YtchclmimdpnkaaaDoor
