/-
  DERIVED. GIVEN WITH THE SEED: THE CARDS: each row of YthboiahdheehkaaGreatDoorRows.lean that lists a variable, with what it lists TIED to the program's text (the seventh form; the later family's looks); each row that meets fmt, with fmt's text TOLD by the authors' own Lean function (tested against real Go, not proved from fmt's source: count such statements apart). THE CARD IS WHAT COUNTS. Prove the row's statement (the work); the ties are given (YthboiahdheehkaaGreatDoorTie.lean); close each card by the builder's one call (the guide's Derived/Test/ToyasCard.lean, 'card_holds'). Laid BY PROGRAM, IN A SANDBOX (cutbox-door.mjs). By AI agents, Wed Nov 11 2026. No macro, syntax, notation, axiom, sorry.
-/
import Derived.Test.YthboiahdheehkaaGreatDoorRows
import GoSem.ClaimSeven
namespace Go.Proofs.YthboiahdheehkaaGreatDoor
namespace Rows

/-- THE TIED CARD OF 'liaisonlaw26.BindingUnlike'. -/
def bindingUnlikeCard : Claim7 := { stood := { row := bindingUnlikeRow, standIns := [], harness := (true, "237b59a956d449d53db2a6357f0583c88128b4a194c7fcc6dbeeb2c3497911b1"), looks := true }, kinds := [], alts := [], laidByText := true, laidKinds := [.data, .data, .data, .data, .sentinel, .sentinel, .sentinel, .sentinel, .sentinel, .sentinel, .sentinel, .sentinel, .sentinel, .sentinel, .sentinel, .sentinel, .sentinel, .sentinel, .widerDeep, .widerDeep, .widerDeep, .widerDeep, .pinned], laidTests := true, laidLooks := .later }
def BindingUnlikeCardSaid : Prop := Claim7.holds Tryz.pinned (.plain (OpenSpec.ofChange bindingUnlikeSpec)) bindingUnlikeCard

/-- THE TIED CARD OF 'liaisonlaw25.SoapReplies'. -/
def soapRepliesCard : Claim7 := { stood := { row := soapRepliesRow, standIns := [], harness := (true, "237b59a956d449d53db2a6357f0583c88128b4a194c7fcc6dbeeb2c3497911b1"), looks := true }, kinds := [], alts := [], laidByText := true, laidKinds := [.data, .data, .data, .data, .sentinel, .sentinel, .sentinel, .sentinel, .sentinel, .sentinel, .sentinel, .sentinel, .sentinel, .sentinel, .sentinel, .sentinel, .sentinel, .sentinel, .pinned], laidTests := true, laidLooks := .later }
def SoapRepliesCardSaid : Prop := Claim7.holds Tryz.pinned (.plain (OpenSpec.ofChange soapRepliesSpec)) soapRepliesCard

/-- THE TIED CARD OF 'liaisonlaw25.SoapBacks'. -/
def soapBacksCard : Claim7 := { stood := { row := soapBacksRow, standIns := [], harness := (true, "237b59a956d449d53db2a6357f0583c88128b4a194c7fcc6dbeeb2c3497911b1"), looks := true }, kinds := [], alts := [], laidByText := true, laidKinds := [.data, .data, .data, .data, .sentinel, .sentinel, .sentinel, .sentinel, .sentinel, .sentinel, .sentinel, .sentinel, .sentinel, .sentinel, .sentinel, .sentinel, .sentinel, .sentinel, .pinned], laidTests := true, laidLooks := .later }
def SoapBacksCardSaid : Prop := Claim7.holds Tryz.pinned (.plain (OpenSpec.ofChange soapBacksSpec)) soapBacksCard

/-- THE TIED CARD OF 'liaisonlaw26.BindingWraps'. -/
def bindingWrapsCard : Claim7 := { stood := { row := bindingWrapsRow, standIns := [], harness := (true, "237b59a956d449d53db2a6357f0583c88128b4a194c7fcc6dbeeb2c3497911b1"), looks := true }, kinds := [], alts := [], laidByText := true, laidKinds := [.data, .data, .data, .data, .sentinel, .sentinel, .sentinel, .sentinel, .sentinel, .sentinel, .sentinel, .sentinel, .sentinel, .sentinel, .sentinel, .sentinel, .sentinel, .sentinel, .widerDeep, .widerDeep, .widerDeep, .widerDeep, .pinned], laidTests := true, laidLooks := .later }
def BindingWrapsCardSaid : Prop := Claim7.holds Tryz.pinned (.plain (OpenSpec.ofChange bindingWrapsSpec)) bindingWrapsCard

/-- THE SECOND FORM's CARD OF 'liaisonlaw26.BindingUnlike'. -/
def bindingUnlikeUptoCard : Claim7 := { stood := { row := bindingUnlikeUptoRow, standIns := [], harness := (true, "237b59a956d449d53db2a6357f0583c88128b4a194c7fcc6dbeeb2c3497911b1"), looks := true }, kinds := [], alts := [], laidByText := true, laidKinds := [.data, .data, .data, .data, .sentinel, .sentinel, .sentinel, .sentinel, .sentinel, .sentinel, .sentinel, .sentinel, .sentinel, .sentinel, .sentinel, .sentinel, .sentinel, .sentinel, .widerDeep, .widerDeep, .widerDeep, .widerDeep, .pinned], laidTests := true, laidLooks := .later }
def BindingUnlikeUptoCardSaid : Prop := Claim7.holds Tryz.pinned (.plain (OpenSpec.upto bindingUnlikeSpec)) bindingUnlikeUptoCard

/-- THE SECOND FORM's CARD OF 'liaisonlaw25.SoapReplies'. -/
def soapRepliesUptoCard : Claim7 := { stood := { row := soapRepliesUptoRow, standIns := [], harness := (true, "237b59a956d449d53db2a6357f0583c88128b4a194c7fcc6dbeeb2c3497911b1"), looks := true }, kinds := [], alts := [], laidByText := true, laidKinds := [.data, .data, .data, .data, .sentinel, .sentinel, .sentinel, .sentinel, .sentinel, .sentinel, .sentinel, .sentinel, .sentinel, .sentinel, .sentinel, .sentinel, .sentinel, .sentinel, .pinned], laidTests := true, laidLooks := .later }
def SoapRepliesUptoCardSaid : Prop := Claim7.holds Tryz.pinned (.plain (OpenSpec.upto soapRepliesSpec)) soapRepliesUptoCard

/-- THE SECOND FORM's CARD OF 'liaisonlaw25.SoapBacks'. -/
def soapBacksUptoCard : Claim7 := { stood := { row := soapBacksUptoRow, standIns := [], harness := (true, "237b59a956d449d53db2a6357f0583c88128b4a194c7fcc6dbeeb2c3497911b1"), looks := true }, kinds := [], alts := [], laidByText := true, laidKinds := [.data, .data, .data, .data, .sentinel, .sentinel, .sentinel, .sentinel, .sentinel, .sentinel, .sentinel, .sentinel, .sentinel, .sentinel, .sentinel, .sentinel, .sentinel, .sentinel, .pinned], laidTests := true, laidLooks := .later }
def SoapBacksUptoCardSaid : Prop := Claim7.holds Tryz.pinned (.plain (OpenSpec.upto soapBacksSpec)) soapBacksUptoCard

/-- THE SECOND FORM's CARD OF 'liaisonlaw26.BindingWraps'. -/
def bindingWrapsUptoCard : Claim7 := { stood := { row := bindingWrapsUptoRow, standIns := [], harness := (true, "237b59a956d449d53db2a6357f0583c88128b4a194c7fcc6dbeeb2c3497911b1"), looks := true }, kinds := [], alts := [], laidByText := true, laidKinds := [.data, .data, .data, .data, .sentinel, .sentinel, .sentinel, .sentinel, .sentinel, .sentinel, .sentinel, .sentinel, .sentinel, .sentinel, .sentinel, .sentinel, .sentinel, .sentinel, .widerDeep, .widerDeep, .widerDeep, .widerDeep, .pinned], laidTests := true, laidLooks := .later }
def BindingWrapsUptoCardSaid : Prop := Claim7.holds Tryz.pinned (.plain (OpenSpec.upto bindingWrapsSpec)) bindingWrapsUptoCard
end Rows
end Go.Proofs.YthboiahdheehkaaGreatDoor
