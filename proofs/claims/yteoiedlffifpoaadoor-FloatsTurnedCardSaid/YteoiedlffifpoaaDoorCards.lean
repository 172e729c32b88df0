/-
  DERIVED. GIVEN WITH THE SEED: THE CARDS: each row of YteoiedlffifpoaaDoorRows.lean that lists a variable, with what it lists TIED to the program's text (the seventh form; the later family's looks); each row that meets fmt, with fmt's text TOLD by the authors' own Lean function (tested against real Go, not proved from fmt's source: count such statements apart). THE CARD IS WHAT COUNTS. Prove the row's statement (the work); the ties are given (YteoiedlffifpoaaDoorTie.lean); close each card by the builder's one call (the guide's Derived/Test/ToyasCard.lean, 'card_holds'). Laid BY PROGRAM, IN A SANDBOX (cutbox-door.mjs). By AI agents, Wed Nov 11 2026. No macro, syntax, notation, axiom, sorry.
-/
import Derived.Test.YteoiedlffifpoaaDoorRows
import GoSem.ClaimSeven
namespace Go.Proofs.YteoiedlffifpoaaDoor
namespace Rows

/-- THE TIED CARD OF 'liaisonlaw01.FloatsOrder'. -/
def floatsOrderCard : Claim7 := { stood := { row := floatsOrderRow, standIns := [], harness := (true, "427de061881e297d65c5ed0277c1af04942b7a113a477cea281d398fd9129226"), looks := true }, kinds := [], alts := [], laidByText := true, laidKinds := [.sentinel, .sentinel], laidTests := true, laidLooks := .later }
def FloatsOrderCardSaid : Prop := Claim7.holds Tryd.pinned (.plain (OpenSpec.ofChange floatsOrderSpec)) floatsOrderCard

/-- THE TIED CARD OF 'liaisonlaw01.FloatsOne'. -/
def floatsOneCard : Claim7 := { stood := { row := floatsOneRow, standIns := [], harness := (true, "427de061881e297d65c5ed0277c1af04942b7a113a477cea281d398fd9129226"), looks := true }, kinds := [], alts := [], laidByText := true, laidKinds := [.sentinel, .sentinel], laidTests := true, laidLooks := .later }
def FloatsOneCardSaid : Prop := Claim7.holds Tryd.pinned (.plain (OpenSpec.ofChange floatsOneSpec)) floatsOneCard

/-- THE TIED CARD OF 'liaisonlaw01.FloatsLeast'. -/
def floatsLeastCard : Claim7 := { stood := { row := floatsLeastRow, standIns := [], harness := (true, "427de061881e297d65c5ed0277c1af04942b7a113a477cea281d398fd9129226"), looks := true }, kinds := [], alts := [], laidByText := true, laidKinds := [.sentinel, .sentinel], laidTests := true, laidLooks := .later }
def FloatsLeastCardSaid : Prop := Claim7.holds Tryd.pinned (.plain (OpenSpec.ofChange floatsLeastSpec)) floatsLeastCard

/-- THE TIED CARD OF 'liaisonlaw01.FloatsGrow'. -/
def floatsGrowCard : Claim7 := { stood := { row := floatsGrowRow, standIns := [], harness := (true, "427de061881e297d65c5ed0277c1af04942b7a113a477cea281d398fd9129226"), looks := true }, kinds := [], alts := [], laidByText := true, laidKinds := [.sentinel, .sentinel], laidTests := true, laidLooks := .later }
def FloatsGrowCardSaid : Prop := Claim7.holds Tryd.pinned (.plain (OpenSpec.ofChange floatsGrowSpec)) floatsGrowCard

/-- THE TIED CARD OF 'liaisonlaw01.FloatsTurned'. -/
def floatsTurnedCard : Claim7 := { stood := { row := floatsTurnedRow, standIns := [], harness := (true, "427de061881e297d65c5ed0277c1af04942b7a113a477cea281d398fd9129226"), looks := true }, kinds := [], alts := [], laidByText := true, laidKinds := [.sentinel, .sentinel], laidTests := true, laidLooks := .later }
def FloatsTurnedCardSaid : Prop := Claim7.holds Tryd.pinned (.plain (OpenSpec.ofChange floatsTurnedSpec)) floatsTurnedCard

/-- THE TIED CARD OF 'liaisonlaw01.FloatsBackoff'. -/
def floatsBackoffCard : Claim7 := { stood := { row := floatsBackoffRow, standIns := [], harness := (true, "427de061881e297d65c5ed0277c1af04942b7a113a477cea281d398fd9129226"), looks := true }, kinds := [], alts := [], laidByText := true, laidKinds := [.sentinel, .sentinel, .sentinel, .sentinel, .sentinel, .sentinel, .sentinel, .sentinel, .sentinel, .sentinel, .sentinel, .sentinel, .sentinel, .sentinel], laidTests := true, laidLooks := .later }
def FloatsBackoffCardSaid : Prop := Claim7.holds Tryd.pinned (.plain (OpenSpec.ofChange floatsBackoffSpec)) floatsBackoffCard

/-- THE TIED CARD OF 'liaisonlaw01.FloatsPlain'. -/
def floatsPlainCard : Claim7 := { stood := { row := floatsPlainRow, standIns := [], harness := (true, "427de061881e297d65c5ed0277c1af04942b7a113a477cea281d398fd9129226"), looks := true }, kinds := [], alts := [], laidByText := true, laidKinds := [.sentinel, .sentinel, .sentinel, .sentinel, .sentinel, .sentinel, .sentinel, .sentinel, .sentinel, .sentinel, .sentinel, .sentinel, .sentinel, .sentinel], laidTests := true, laidLooks := .later }
def FloatsPlainCardSaid : Prop := Claim7.holds Tryd.pinned (.plain (OpenSpec.ofChange floatsPlainSpec)) floatsPlainCard

/-- THE SECOND FORM's CARD OF 'liaisonlaw01.FloatsOrder'. -/
def floatsOrderUptoCard : Claim7 := { stood := { row := floatsOrderUptoRow, standIns := [], harness := (true, "427de061881e297d65c5ed0277c1af04942b7a113a477cea281d398fd9129226"), looks := true }, kinds := [], alts := [], laidByText := true, laidKinds := [.sentinel, .sentinel], laidTests := true, laidLooks := .later }
def FloatsOrderUptoCardSaid : Prop := Claim7.holds Tryd.pinned (.plain (OpenSpec.upto floatsOrderSpec)) floatsOrderUptoCard

/-- THE SECOND FORM's CARD OF 'liaisonlaw01.FloatsOne'. -/
def floatsOneUptoCard : Claim7 := { stood := { row := floatsOneUptoRow, standIns := [], harness := (true, "427de061881e297d65c5ed0277c1af04942b7a113a477cea281d398fd9129226"), looks := true }, kinds := [], alts := [], laidByText := true, laidKinds := [.sentinel, .sentinel], laidTests := true, laidLooks := .later }
def FloatsOneUptoCardSaid : Prop := Claim7.holds Tryd.pinned (.plain (OpenSpec.upto floatsOneSpec)) floatsOneUptoCard

/-- THE SECOND FORM's CARD OF 'liaisonlaw01.FloatsLeast'. -/
def floatsLeastUptoCard : Claim7 := { stood := { row := floatsLeastUptoRow, standIns := [], harness := (true, "427de061881e297d65c5ed0277c1af04942b7a113a477cea281d398fd9129226"), looks := true }, kinds := [], alts := [], laidByText := true, laidKinds := [.sentinel, .sentinel], laidTests := true, laidLooks := .later }
def FloatsLeastUptoCardSaid : Prop := Claim7.holds Tryd.pinned (.plain (OpenSpec.upto floatsLeastSpec)) floatsLeastUptoCard

/-- THE SECOND FORM's CARD OF 'liaisonlaw01.FloatsGrow'. -/
def floatsGrowUptoCard : Claim7 := { stood := { row := floatsGrowUptoRow, standIns := [], harness := (true, "427de061881e297d65c5ed0277c1af04942b7a113a477cea281d398fd9129226"), looks := true }, kinds := [], alts := [], laidByText := true, laidKinds := [.sentinel, .sentinel], laidTests := true, laidLooks := .later }
def FloatsGrowUptoCardSaid : Prop := Claim7.holds Tryd.pinned (.plain (OpenSpec.upto floatsGrowSpec)) floatsGrowUptoCard

/-- THE SECOND FORM's CARD OF 'liaisonlaw01.FloatsTurned'. -/
def floatsTurnedUptoCard : Claim7 := { stood := { row := floatsTurnedUptoRow, standIns := [], harness := (true, "427de061881e297d65c5ed0277c1af04942b7a113a477cea281d398fd9129226"), looks := true }, kinds := [], alts := [], laidByText := true, laidKinds := [.sentinel, .sentinel], laidTests := true, laidLooks := .later }
def FloatsTurnedUptoCardSaid : Prop := Claim7.holds Tryd.pinned (.plain (OpenSpec.upto floatsTurnedSpec)) floatsTurnedUptoCard

/-- THE SECOND FORM's CARD OF 'liaisonlaw01.FloatsBackoff'. -/
def floatsBackoffUptoCard : Claim7 := { stood := { row := floatsBackoffUptoRow, standIns := [], harness := (true, "427de061881e297d65c5ed0277c1af04942b7a113a477cea281d398fd9129226"), looks := true }, kinds := [], alts := [], laidByText := true, laidKinds := [.sentinel, .sentinel, .sentinel, .sentinel, .sentinel, .sentinel, .sentinel, .sentinel, .sentinel, .sentinel, .sentinel, .sentinel, .sentinel, .sentinel], laidTests := true, laidLooks := .later }
def FloatsBackoffUptoCardSaid : Prop := Claim7.holds Tryd.pinned (.plain (OpenSpec.upto floatsBackoffSpec)) floatsBackoffUptoCard

/-- THE SECOND FORM's CARD OF 'liaisonlaw01.FloatsPlain'. -/
def floatsPlainUptoCard : Claim7 := { stood := { row := floatsPlainUptoRow, standIns := [], harness := (true, "427de061881e297d65c5ed0277c1af04942b7a113a477cea281d398fd9129226"), looks := true }, kinds := [], alts := [], laidByText := true, laidKinds := [.sentinel, .sentinel, .sentinel, .sentinel, .sentinel, .sentinel, .sentinel, .sentinel, .sentinel, .sentinel, .sentinel, .sentinel, .sentinel, .sentinel], laidTests := true, laidLooks := .later }
def FloatsPlainUptoCardSaid : Prop := Claim7.holds Tryd.pinned (.plain (OpenSpec.upto floatsPlainSpec)) floatsPlainUptoCard
end Rows
end Go.Proofs.YteoiedlffifpoaaDoor
