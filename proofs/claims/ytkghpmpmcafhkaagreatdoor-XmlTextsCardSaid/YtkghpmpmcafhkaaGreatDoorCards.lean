/-
  DERIVED. GIVEN WITH THE SEED: THE CARDS: each row of YtkghpmpmcafhkaaGreatDoorRows.lean that lists a variable, with what it lists TIED to the program's text (the seventh form; the later family's looks); each row that meets fmt, with fmt's text TOLD by the authors' own Lean function (tested against real Go, not proved from fmt's source: count such statements apart). THE CARD IS WHAT COUNTS. Prove the row's statement (the work); the ties are given (YtkghpmpmcafhkaaGreatDoorTie.lean); close each card by the builder's one call (the guide's Derived/Test/ToyasCard.lean, 'card_holds'). Laid BY PROGRAM, IN A SANDBOX (cutbox-door.mjs). By AI agents, Wed Nov 11 2026. No macro, syntax, notation, axiom, sorry.
-/
import Derived.Test.YtkghpmpmcafhkaaGreatDoorRows
import GoSem.ClaimSeven
namespace Go.Proofs.YtkghpmpmcafhkaaGreatDoor
namespace Rows

/-- THE TIED CARD OF 'liaisonlaw24.SpacesResolves'. -/
def spacesResolvesCard : Claim7 := { stood := { row := spacesResolvesRow, standIns := [], harness := (true, "4e337b6cf4c2c4dc933e8620f0669b14d36019db29090e3f5d2b08c2c3744f60"), looks := true }, kinds := [], alts := [], laidByText := true, laidKinds := [.data, .data, .data, .data, .sentinel, .sentinel, .sentinel, .sentinel, .sentinel, .sentinel, .sentinel, .sentinel, .sentinel, .sentinel, .sentinel, .sentinel, .sentinel, .sentinel, .pinned], laidTests := true, laidLooks := .later }
def SpacesResolvesCardSaid : Prop := Claim7.holds Tryz.pinned (.plain (OpenSpec.ofChange spacesResolvesSpec)) spacesResolvesCard

/-- THE TIED CARD OF 'liaisonlaw24.SpacesWrites'. -/
def spacesWritesCard : Claim7 := { stood := { row := spacesWritesRow, standIns := [], harness := (true, "4e337b6cf4c2c4dc933e8620f0669b14d36019db29090e3f5d2b08c2c3744f60"), looks := true }, kinds := [], alts := [], laidByText := true, laidKinds := [.data, .data, .data, .data, .sentinel, .sentinel, .sentinel, .sentinel, .sentinel, .sentinel, .sentinel, .sentinel, .sentinel, .sentinel, .sentinel, .sentinel, .sentinel, .sentinel, .pinned], laidTests := true, laidLooks := .later }
def SpacesWritesCardSaid : Prop := Claim7.holds Tryz.pinned (.plain (OpenSpec.ofChange spacesWritesSpec)) spacesWritesCard

/-- THE TIED CARD OF 'liaisonlaw23.XmlEscapes'. -/
def xmlEscapesCard : Claim7 := { stood := { row := xmlEscapesRow, standIns := [], harness := (true, "4e337b6cf4c2c4dc933e8620f0669b14d36019db29090e3f5d2b08c2c3744f60"), looks := true }, kinds := [], alts := [], laidByText := true, laidKinds := [.data, .data, .data, .data, .sentinel, .sentinel, .sentinel, .sentinel, .sentinel, .sentinel, .sentinel, .sentinel, .sentinel, .sentinel, .sentinel, .sentinel, .sentinel, .sentinel, .pinned], laidTests := true, laidLooks := .later }
def XmlEscapesCardSaid : Prop := Claim7.holds Tryz.pinned (.plain (OpenSpec.ofChange xmlEscapesSpec)) xmlEscapesCard

/-- THE TIED CARD OF 'liaisonlaw23.XmlBlanks'. -/
def xmlBlanksCard : Claim7 := { stood := { row := xmlBlanksRow, standIns := [], harness := (true, "4e337b6cf4c2c4dc933e8620f0669b14d36019db29090e3f5d2b08c2c3744f60"), looks := true }, kinds := [], alts := [], laidByText := true, laidKinds := [.data, .data, .data, .data, .sentinel, .sentinel, .sentinel, .sentinel, .sentinel, .sentinel, .sentinel, .sentinel, .sentinel, .sentinel, .sentinel, .sentinel, .sentinel, .sentinel, .pinned], laidTests := true, laidLooks := .later }
def XmlBlanksCardSaid : Prop := Claim7.holds Tryz.pinned (.plain (OpenSpec.ofChange xmlBlanksSpec)) xmlBlanksCard

/-- THE TIED CARD OF 'liaisonlaw23.XmlDeep'. -/
def xmlDeepCard : Claim7 := { stood := { row := xmlDeepRow, standIns := [], harness := (true, "4e337b6cf4c2c4dc933e8620f0669b14d36019db29090e3f5d2b08c2c3744f60"), looks := true }, kinds := [], alts := [], laidByText := true, laidKinds := [.data, .data, .data, .data, .sentinel, .sentinel, .sentinel, .sentinel, .sentinel, .sentinel, .sentinel, .sentinel, .sentinel, .sentinel, .sentinel, .sentinel, .sentinel, .sentinel, .pinned], laidTests := true, laidLooks := .later }
def XmlDeepCardSaid : Prop := Claim7.holds Tryz.pinned (.plain (OpenSpec.ofChange xmlDeepSpec)) xmlDeepCard

/-- THE TIED CARD OF 'liaisonlaw23.XmlAgain'. -/
def xmlAgainCard : Claim7 := { stood := { row := xmlAgainRow, standIns := [], harness := (true, "4e337b6cf4c2c4dc933e8620f0669b14d36019db29090e3f5d2b08c2c3744f60"), looks := true }, kinds := [], alts := [], laidByText := true, laidKinds := [.data, .data, .data, .data, .sentinel, .sentinel, .sentinel, .sentinel, .sentinel, .sentinel, .sentinel, .sentinel, .sentinel, .sentinel, .sentinel, .sentinel, .sentinel, .sentinel, .pinned], laidTests := true, laidLooks := .later }
def XmlAgainCardSaid : Prop := Claim7.holds Tryz.pinned (.plain (OpenSpec.ofChange xmlAgainSpec)) xmlAgainCard

/-- THE TIED CARD OF 'liaisonlaw23.XmlTexts'. -/
def xmlTextsCard : Claim7 := { stood := { row := xmlTextsRow, standIns := [], harness := (true, "4e337b6cf4c2c4dc933e8620f0669b14d36019db29090e3f5d2b08c2c3744f60"), looks := true }, kinds := [], alts := [], laidByText := true, laidKinds := [.data, .data, .data, .data, .sentinel, .sentinel, .sentinel, .sentinel, .sentinel, .sentinel, .sentinel, .sentinel, .sentinel, .sentinel, .sentinel, .sentinel, .sentinel, .sentinel, .pinned], laidTests := true, laidLooks := .later }
def XmlTextsCardSaid : Prop := Claim7.holds Tryz.pinned (.plain (OpenSpec.ofChange xmlTextsSpec)) xmlTextsCard

/-- THE SECOND FORM's CARD OF 'liaisonlaw24.SpacesResolves'. -/
def spacesResolvesUptoCard : Claim7 := { stood := { row := spacesResolvesUptoRow, standIns := [], harness := (true, "4e337b6cf4c2c4dc933e8620f0669b14d36019db29090e3f5d2b08c2c3744f60"), looks := true }, kinds := [], alts := [], laidByText := true, laidKinds := [.data, .data, .data, .data, .sentinel, .sentinel, .sentinel, .sentinel, .sentinel, .sentinel, .sentinel, .sentinel, .sentinel, .sentinel, .sentinel, .sentinel, .sentinel, .sentinel, .pinned], laidTests := true, laidLooks := .later }
def SpacesResolvesUptoCardSaid : Prop := Claim7.holds Tryz.pinned (.plain (OpenSpec.upto spacesResolvesSpec)) spacesResolvesUptoCard

/-- THE SECOND FORM's CARD OF 'liaisonlaw24.SpacesWrites'. -/
def spacesWritesUptoCard : Claim7 := { stood := { row := spacesWritesUptoRow, standIns := [], harness := (true, "4e337b6cf4c2c4dc933e8620f0669b14d36019db29090e3f5d2b08c2c3744f60"), looks := true }, kinds := [], alts := [], laidByText := true, laidKinds := [.data, .data, .data, .data, .sentinel, .sentinel, .sentinel, .sentinel, .sentinel, .sentinel, .sentinel, .sentinel, .sentinel, .sentinel, .sentinel, .sentinel, .sentinel, .sentinel, .pinned], laidTests := true, laidLooks := .later }
def SpacesWritesUptoCardSaid : Prop := Claim7.holds Tryz.pinned (.plain (OpenSpec.upto spacesWritesSpec)) spacesWritesUptoCard

/-- THE SECOND FORM's CARD OF 'liaisonlaw23.XmlEscapes'. -/
def xmlEscapesUptoCard : Claim7 := { stood := { row := xmlEscapesUptoRow, standIns := [], harness := (true, "4e337b6cf4c2c4dc933e8620f0669b14d36019db29090e3f5d2b08c2c3744f60"), looks := true }, kinds := [], alts := [], laidByText := true, laidKinds := [.data, .data, .data, .data, .sentinel, .sentinel, .sentinel, .sentinel, .sentinel, .sentinel, .sentinel, .sentinel, .sentinel, .sentinel, .sentinel, .sentinel, .sentinel, .sentinel, .pinned], laidTests := true, laidLooks := .later }
def XmlEscapesUptoCardSaid : Prop := Claim7.holds Tryz.pinned (.plain (OpenSpec.upto xmlEscapesSpec)) xmlEscapesUptoCard

/-- THE SECOND FORM's CARD OF 'liaisonlaw23.XmlBlanks'. -/
def xmlBlanksUptoCard : Claim7 := { stood := { row := xmlBlanksUptoRow, standIns := [], harness := (true, "4e337b6cf4c2c4dc933e8620f0669b14d36019db29090e3f5d2b08c2c3744f60"), looks := true }, kinds := [], alts := [], laidByText := true, laidKinds := [.data, .data, .data, .data, .sentinel, .sentinel, .sentinel, .sentinel, .sentinel, .sentinel, .sentinel, .sentinel, .sentinel, .sentinel, .sentinel, .sentinel, .sentinel, .sentinel, .pinned], laidTests := true, laidLooks := .later }
def XmlBlanksUptoCardSaid : Prop := Claim7.holds Tryz.pinned (.plain (OpenSpec.upto xmlBlanksSpec)) xmlBlanksUptoCard

/-- THE SECOND FORM's CARD OF 'liaisonlaw23.XmlDeep'. -/
def xmlDeepUptoCard : Claim7 := { stood := { row := xmlDeepUptoRow, standIns := [], harness := (true, "4e337b6cf4c2c4dc933e8620f0669b14d36019db29090e3f5d2b08c2c3744f60"), looks := true }, kinds := [], alts := [], laidByText := true, laidKinds := [.data, .data, .data, .data, .sentinel, .sentinel, .sentinel, .sentinel, .sentinel, .sentinel, .sentinel, .sentinel, .sentinel, .sentinel, .sentinel, .sentinel, .sentinel, .sentinel, .pinned], laidTests := true, laidLooks := .later }
def XmlDeepUptoCardSaid : Prop := Claim7.holds Tryz.pinned (.plain (OpenSpec.upto xmlDeepSpec)) xmlDeepUptoCard

/-- THE SECOND FORM's CARD OF 'liaisonlaw23.XmlAgain'. -/
def xmlAgainUptoCard : Claim7 := { stood := { row := xmlAgainUptoRow, standIns := [], harness := (true, "4e337b6cf4c2c4dc933e8620f0669b14d36019db29090e3f5d2b08c2c3744f60"), looks := true }, kinds := [], alts := [], laidByText := true, laidKinds := [.data, .data, .data, .data, .sentinel, .sentinel, .sentinel, .sentinel, .sentinel, .sentinel, .sentinel, .sentinel, .sentinel, .sentinel, .sentinel, .sentinel, .sentinel, .sentinel, .pinned], laidTests := true, laidLooks := .later }
def XmlAgainUptoCardSaid : Prop := Claim7.holds Tryz.pinned (.plain (OpenSpec.upto xmlAgainSpec)) xmlAgainUptoCard

/-- THE SECOND FORM's CARD OF 'liaisonlaw23.XmlTexts'. -/
def xmlTextsUptoCard : Claim7 := { stood := { row := xmlTextsUptoRow, standIns := [], harness := (true, "4e337b6cf4c2c4dc933e8620f0669b14d36019db29090e3f5d2b08c2c3744f60"), looks := true }, kinds := [], alts := [], laidByText := true, laidKinds := [.data, .data, .data, .data, .sentinel, .sentinel, .sentinel, .sentinel, .sentinel, .sentinel, .sentinel, .sentinel, .sentinel, .sentinel, .sentinel, .sentinel, .sentinel, .sentinel, .pinned], laidTests := true, laidLooks := .later }
def XmlTextsUptoCardSaid : Prop := Claim7.holds Tryz.pinned (.plain (OpenSpec.upto xmlTextsSpec)) xmlTextsUptoCard
end Rows
end Go.Proofs.YtkghpmpmcafhkaaGreatDoor
