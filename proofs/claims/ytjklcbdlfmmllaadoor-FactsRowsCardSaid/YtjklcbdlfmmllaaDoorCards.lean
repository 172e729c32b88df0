/-
  DERIVED. GIVEN WITH THE SEED: THE CARDS: each row of YtjklcbdlfmmllaaDoorRows.lean that lists a variable, with what it lists TIED to the program's text (the seventh form; the later family's looks); each row that meets fmt, with fmt's text TOLD by the authors' own Lean function (tested against real Go, not proved from fmt's source: count such statements apart). THE CARD IS WHAT COUNTS. Prove the row's statement (the work); the ties are given (YtjklcbdlfmmllaaDoorTie.lean); close each card by the builder's one call (the guide's Derived/Test/ToyasCard.lean, 'card_holds'). Laid BY PROGRAM, IN A SANDBOX (cutbox-door.mjs). By AI agents, Wed Nov 11 2026. No macro, syntax, notation, axiom, sorry.
-/
import Derived.Test.YtjklcbdlfmmllaaDoorRows
import GoSem.ClaimSeven
namespace Go.Proofs.YtjklcbdlfmmllaaDoor
namespace Rows

/-- THE TIED CARD OF 'liaisonlaw14.FactsRows'. -/
def factsRowsCard : Claim7 := { stood := { row := factsRowsRow, standIns := [], harness := (true, "e85aeb4cecab36fe330821ba81371b61f1ea773fdbabde0b878700e4f2c38d44"), looks := true }, kinds := [], alts := [], laidByText := true, laidKinds := [.data, .data, .data, .sentinel, .sentinel, .sentinel, .sentinel, .sentinel, .sentinel, .sentinel, .sentinel, .sentinel, .sentinel, .sentinel, .sentinel, .sentinel, .sentinel], laidTests := true, laidLooks := .later }
def FactsRowsCardSaid : Prop := Claim7.holds Tryd.pinned (.plain (OpenSpec.ofChange factsRowsSpec)) factsRowsCard

/-- THE TIED CARD OF 'liaisonlaw14.FactsUnlike'. -/
def factsUnlikeCard : Claim7 := { stood := { row := factsUnlikeRow, standIns := [], harness := (true, "e85aeb4cecab36fe330821ba81371b61f1ea773fdbabde0b878700e4f2c38d44"), looks := true }, kinds := [], alts := [], laidByText := true, laidKinds := [.data, .data, .data, .sentinel, .sentinel, .sentinel, .sentinel, .sentinel, .sentinel, .sentinel, .sentinel, .sentinel, .sentinel, .sentinel, .sentinel, .sentinel, .sentinel], laidTests := true, laidLooks := .later }
def FactsUnlikeCardSaid : Prop := Claim7.holds Tryd.pinned (.plain (OpenSpec.ofChange factsUnlikeSpec)) factsUnlikeCard

/-- THE SECOND FORM's CARD OF 'liaisonlaw14.FactsRows'. -/
def factsRowsUptoCard : Claim7 := { stood := { row := factsRowsUptoRow, standIns := [], harness := (true, "e85aeb4cecab36fe330821ba81371b61f1ea773fdbabde0b878700e4f2c38d44"), looks := true }, kinds := [], alts := [], laidByText := true, laidKinds := [.data, .data, .data, .sentinel, .sentinel, .sentinel, .sentinel, .sentinel, .sentinel, .sentinel, .sentinel, .sentinel, .sentinel, .sentinel, .sentinel, .sentinel, .sentinel], laidTests := true, laidLooks := .later }
def FactsRowsUptoCardSaid : Prop := Claim7.holds Tryd.pinned (.plain (OpenSpec.upto factsRowsSpec)) factsRowsUptoCard

/-- THE SECOND FORM's CARD OF 'liaisonlaw14.FactsUnlike'. -/
def factsUnlikeUptoCard : Claim7 := { stood := { row := factsUnlikeUptoRow, standIns := [], harness := (true, "e85aeb4cecab36fe330821ba81371b61f1ea773fdbabde0b878700e4f2c38d44"), looks := true }, kinds := [], alts := [], laidByText := true, laidKinds := [.data, .data, .data, .sentinel, .sentinel, .sentinel, .sentinel, .sentinel, .sentinel, .sentinel, .sentinel, .sentinel, .sentinel, .sentinel, .sentinel, .sentinel, .sentinel], laidTests := true, laidLooks := .later }
def FactsUnlikeUptoCardSaid : Prop := Claim7.holds Tryd.pinned (.plain (OpenSpec.upto factsUnlikeSpec)) factsUnlikeUptoCard
end Rows
end Go.Proofs.YtjklcbdlfmmllaaDoor
