/-
  NARROWER THAN 'FOR EVERY INPUT', by the rows' own cells (each row's printed sentence says how): FloatsOrder: laid · FloatsOne: laid · FloatsLeast: laid · FloatsGrow: laid · FloatsTurned: laid · FloatsBackoff: laid · FloatsPlain: laid.
  DERIVED. THE GIVEN ROWS OF THIS SEAT. 7 by the template 'for every input the law returns true; each argument reads behind the call as it read before'; 0 by the template 'total and deterministic' (their statements: YteoiedlffifpoaaDoorTotals.lean).
  GIVEN WITH THE SEED: the statements are not yours to turn. If you find one false, say at which input.
  Laid BY PROGRAM, IN A SANDBOX (cutbox-rows.mjs): the forced cells as the released guide's own fill.sh prints them over the translation c1430dcef628b1b1… (all of the seat's roots in one cut). By AI agents, Wed Nov 11 2026. No macro, syntax, notation, axiom, sorry.
-/
import Derived.Test.YteoiedlffifpoaaDoorChecked
import GoSem.Claim
import GoSem.ClaimJoined
import GoSem.ClaimMapViews
import Derived.JoinedTies
import Derived.KernelRfl
namespace Go.Proofs.YteoiedlffifpoaaDoor
/- THE CELL 'sum', in the pinned program and in every row, IS THE sha256 OF THE DUMP (.gsa) THAT YteoiedlffifpoaaDoorProg.lean LOADS. Nothing in Lean hashes anything: it is a label: what it is worth is what the hold of that sum in a sandbox is worth. -/
noncomputable def Tryd.pinned : Pinned := { name := "yteoiedlffifpoaadoor", sum := "c1430dcef628b1b16568dbf7cfc175336f5226dc3ddedfb52598ff1c63a29768", checked := Tryd.checked }
namespace Rows
def none {H : Type} : Left H := { results := [], args := [] }

/- WHAT THE LISTED PACKAGE-LEVEL VARIABLES READ AS WHEN THE CALL BEGINS. Each datum BY PROGRAM (the guide's laid-datum.mjs) off the statement by which the dump's own 'gosem.cut.vars' lays the variable. In a bare row this is a premise. The card (YteoiedlffifpoaaDoorCards.lean) ties it to the program's text. -/
def laid_liaison_api_ErrRange {H : Type} : DataW H := .iface "*errors.errorString" (.ptr (.agg [.lit (.string [108, 105, 97, 105, 115, 111, 110, 58, 32, 114, 97, 110, 103, 101])]))
def laid_liaison_api_ErrForm {H : Type} : DataW H := .iface "*errors.errorString" (.ptr (.agg [.lit (.string [108, 105, 97, 105, 115, 111, 110, 58, 32, 102, 111, 114, 109])]))
def laid_liaison_api_ErrShort {H : Type} : DataW H := .iface "*errors.errorString" (.ptr (.agg [.lit (.string [108, 105, 97, 105, 115, 111, 110, 58, 32, 115, 104, 111, 114, 116])]))
def laid_liaison_api_ErrLong {H : Type} : DataW H := .iface "*errors.errorString" (.ptr (.agg [.lit (.string [108, 105, 97, 105, 115, 111, 110, 58, 32, 108, 111, 110, 103])]))
def laid_liaison_api_ErrCheck {H : Type} : DataW H := .iface "*errors.errorString" (.ptr (.agg [.lit (.string [108, 105, 97, 105, 115, 111, 110, 58, 32, 99, 104, 101, 99, 107])]))
def laid_liaison_api_ErrFull {H : Type} : DataW H := .iface "*errors.errorString" (.ptr (.agg [.lit (.string [108, 105, 97, 105, 115, 111, 110, 58, 32, 102, 117, 108, 108])]))
def laid_liaison_api_ErrPower {H : Type} : DataW H := .iface "*errors.errorString" (.ptr (.agg [.lit (.string [108, 105, 97, 105, 115, 111, 110, 58, 32, 112, 111, 119, 101, 114])]))
def laid_liaison_api_ErrNone {H : Type} : DataW H := .iface "*errors.errorString" (.ptr (.agg [.lit (.string [108, 105, 97, 105, 115, 111, 110, 58, 32, 110, 111, 110, 101])]))
def laid_liaison_api_ErrState {H : Type} : DataW H := .iface "*errors.errorString" (.ptr (.agg [.lit (.string [108, 105, 97, 105, 115, 111, 110, 58, 32, 115, 116, 97, 116, 101])]))
def laid_liaison_api_ErrTwice {H : Type} : DataW H := .iface "*errors.errorString" (.ptr (.agg [.lit (.string [108, 105, 97, 105, 115, 111, 110, 58, 32, 116, 119, 105, 99, 101])]))
def laid_liaison_api_ErrDepth {H : Type} : DataW H := .iface "*errors.errorString" (.ptr (.agg [.lit (.string [108, 105, 97, 105, 115, 111, 110, 58, 32, 100, 101, 112, 116, 104])]))
def laid_liaison_api_ErrExpired {H : Type} : DataW H := .iface "*errors.errorString" (.ptr (.agg [.lit (.string [108, 105, 97, 105, 115, 111, 110, 58, 32, 101, 120, 112, 105, 114, 101, 100])]))
def laid_liaison_api_ErrPanic {H : Type} : DataW H := .iface "*errors.errorString" (.ptr (.agg [.lit (.string [108, 105, 97, 105, 115, 111, 110, 58, 32, 112, 97, 110, 105, 99])]))
def laid_liaison_api_ErrProtocol {H : Type} : DataW H := .iface "*errors.errorString" (.ptr (.agg [.lit (.string [108, 105, 97, 105, 115, 111, 110, 58, 32, 112, 114, 111, 116, 111, 99, 111, 108])]))

/-- 'liaisonlaw01.FloatsOrder': WHATEVER THE INPUT: true; the input reads as it did. -/
def floatsOrderSpec : ChangeSpec := { name := "floatsOrder", fn := fun _ => fun
  | [d1, d2] => { results := [.lit (.bool true)], args := [d1, d2] }
  | _ => none }
def floatsOrderRow : OpenClaim := { program := "yteoiedlffifpoaadoor", sum := "c1430dcef628b1b16568dbf7cfc175336f5226dc3ddedfb52598ff1c63a29768", func := "liaison/liaisonlaw01.FloatsOrder", spec := "floatsOrder", inPlace := ["math.Float64bits", "math.Float64frombits"], named := ["liaison/api.ErrForm", "liaison/api.ErrRange"], apart := false, laid := [("liaison/api.ErrRange", laid_liaison_api_ErrRange), ("liaison/api.ErrForm", laid_liaison_api_ErrForm)] }
def FloatsOrderSaid : Prop := floatsOrderRow.holds Tryd.pinned (OpenSpec.ofChange floatsOrderSpec)

/-- ITS FALSE NEIGHBOUR: 'it returns false'. Refute it at one input. -/
def floatsOrderWrong : ChangeSpec := { name := "floatsOrder", fn := fun _ => fun
  | [d1, d2] => { results := [.lit (.bool false)], args := [d1, d2] }
  | _ => none }
def FloatsOrderWrongFalsely : Prop := floatsOrderRow.holds Tryd.pinned (OpenSpec.ofChange floatsOrderWrong)

/-- 'liaisonlaw01.FloatsOne': WHATEVER THE INPUT: true; the input reads as it did. -/
def floatsOneSpec : ChangeSpec := { name := "floatsOne", fn := fun _ => fun
  | [d1, d2, d3] => { results := [.lit (.bool true)], args := [d1, d2, d3] }
  | _ => none }
def floatsOneRow : OpenClaim := { program := "yteoiedlffifpoaadoor", sum := "c1430dcef628b1b16568dbf7cfc175336f5226dc3ddedfb52598ff1c63a29768", func := "liaison/liaisonlaw01.FloatsOne", spec := "floatsOne", inPlace := ["math.Float64bits", "math.Float64frombits"], named := ["liaison/api.ErrForm", "liaison/api.ErrRange"], apart := false, laid := [("liaison/api.ErrRange", laid_liaison_api_ErrRange), ("liaison/api.ErrForm", laid_liaison_api_ErrForm)] }
def FloatsOneSaid : Prop := floatsOneRow.holds Tryd.pinned (OpenSpec.ofChange floatsOneSpec)

/-- ITS FALSE NEIGHBOUR: 'it returns false'. Refute it at one input. -/
def floatsOneWrong : ChangeSpec := { name := "floatsOne", fn := fun _ => fun
  | [d1, d2, d3] => { results := [.lit (.bool false)], args := [d1, d2, d3] }
  | _ => none }
def FloatsOneWrongFalsely : Prop := floatsOneRow.holds Tryd.pinned (OpenSpec.ofChange floatsOneWrong)

/-- 'liaisonlaw01.FloatsLeast': WHATEVER THE INPUT: true; the input reads as it did. -/
def floatsLeastSpec : ChangeSpec := { name := "floatsLeast", fn := fun _ => fun
  | [d] => { results := [.lit (.bool true)], args := [d] }
  | _ => none }
def floatsLeastRow : OpenClaim := { program := "yteoiedlffifpoaadoor", sum := "c1430dcef628b1b16568dbf7cfc175336f5226dc3ddedfb52598ff1c63a29768", func := "liaison/liaisonlaw01.FloatsLeast", spec := "floatsLeast", inPlace := ["math.Float64bits", "math.Float64frombits"], named := ["liaison/api.ErrForm", "liaison/api.ErrRange"], apart := false, laid := [("liaison/api.ErrRange", laid_liaison_api_ErrRange), ("liaison/api.ErrForm", laid_liaison_api_ErrForm)] }
def FloatsLeastSaid : Prop := floatsLeastRow.holds Tryd.pinned (OpenSpec.ofChange floatsLeastSpec)

/-- ITS FALSE NEIGHBOUR: 'it returns false'. Refute it at one input. -/
def floatsLeastWrong : ChangeSpec := { name := "floatsLeast", fn := fun _ => fun
  | [d] => { results := [.lit (.bool false)], args := [d] }
  | _ => none }
def FloatsLeastWrongFalsely : Prop := floatsLeastRow.holds Tryd.pinned (OpenSpec.ofChange floatsLeastWrong)

/-- 'liaisonlaw01.FloatsGrow': WHATEVER THE INPUT: true; the input reads as it did. -/
def floatsGrowSpec : ChangeSpec := { name := "floatsGrow", fn := fun _ => fun
  | [d1, d2, d3] => { results := [.lit (.bool true)], args := [d1, d2, d3] }
  | _ => none }
def floatsGrowRow : OpenClaim := { program := "yteoiedlffifpoaadoor", sum := "c1430dcef628b1b16568dbf7cfc175336f5226dc3ddedfb52598ff1c63a29768", func := "liaison/liaisonlaw01.FloatsGrow", spec := "floatsGrow", inPlace := ["math.Float64bits", "math.Float64frombits"], named := ["liaison/api.ErrForm", "liaison/api.ErrRange"], apart := false, laid := [("liaison/api.ErrRange", laid_liaison_api_ErrRange), ("liaison/api.ErrForm", laid_liaison_api_ErrForm)] }
def FloatsGrowSaid : Prop := floatsGrowRow.holds Tryd.pinned (OpenSpec.ofChange floatsGrowSpec)

/-- ITS FALSE NEIGHBOUR: 'it returns false'. Refute it at one input. -/
def floatsGrowWrong : ChangeSpec := { name := "floatsGrow", fn := fun _ => fun
  | [d1, d2, d3] => { results := [.lit (.bool false)], args := [d1, d2, d3] }
  | _ => none }
def FloatsGrowWrongFalsely : Prop := floatsGrowRow.holds Tryd.pinned (OpenSpec.ofChange floatsGrowWrong)

/-- 'liaisonlaw01.FloatsTurned': WHATEVER THE INPUT: true; the input reads as it did. -/
def floatsTurnedSpec : ChangeSpec := { name := "floatsTurned", fn := fun _ => fun
  | [d1, d2, d3] => { results := [.lit (.bool true)], args := [d1, d2, d3] }
  | _ => none }
def floatsTurnedRow : OpenClaim := { program := "yteoiedlffifpoaadoor", sum := "c1430dcef628b1b16568dbf7cfc175336f5226dc3ddedfb52598ff1c63a29768", func := "liaison/liaisonlaw01.FloatsTurned", spec := "floatsTurned", inPlace := ["math.Float64bits", "math.Float64frombits"], named := ["liaison/api.ErrForm", "liaison/api.ErrRange"], apart := false, laid := [("liaison/api.ErrRange", laid_liaison_api_ErrRange), ("liaison/api.ErrForm", laid_liaison_api_ErrForm)] }
def FloatsTurnedSaid : Prop := floatsTurnedRow.holds Tryd.pinned (OpenSpec.ofChange floatsTurnedSpec)

/-- ITS FALSE NEIGHBOUR: 'it returns false'. Refute it at one input. -/
def floatsTurnedWrong : ChangeSpec := { name := "floatsTurned", fn := fun _ => fun
  | [d1, d2, d3] => { results := [.lit (.bool false)], args := [d1, d2, d3] }
  | _ => none }
def FloatsTurnedWrongFalsely : Prop := floatsTurnedRow.holds Tryd.pinned (OpenSpec.ofChange floatsTurnedWrong)

/-- 'liaisonlaw01.FloatsBackoff': WHATEVER THE INPUT: true; the input reads as it did. -/
def floatsBackoffSpec : ChangeSpec := { name := "floatsBackoff", fn := fun _ => fun
  | [d1, d2, d3] => { results := [.lit (.bool true)], args := [d1, d2, d3] }
  | _ => none }
def floatsBackoffRow : OpenClaim := { program := "yteoiedlffifpoaadoor", sum := "c1430dcef628b1b16568dbf7cfc175336f5226dc3ddedfb52598ff1c63a29768", func := "liaison/liaisonlaw01.FloatsBackoff", spec := "floatsBackoff", inPlace := ["math.Float64bits", "math.Float64frombits", "internal/reflectlite.TypeOf"], unfollowed := true, recurses := true, named := ["liaison/api.ErrForm", "liaison/api.ErrRange", "liaison/api.ErrShort", "liaison/api.ErrLong", "liaison/api.ErrCheck", "liaison/api.ErrFull", "liaison/api.ErrPower", "liaison/api.ErrNone", "liaison/api.ErrState", "liaison/api.ErrTwice", "liaison/api.ErrDepth", "liaison/api.ErrExpired", "liaison/api.ErrPanic", "liaison/api.ErrProtocol"], apart := false, laid := [("liaison/api.ErrRange", laid_liaison_api_ErrRange), ("liaison/api.ErrShort", laid_liaison_api_ErrShort), ("liaison/api.ErrLong", laid_liaison_api_ErrLong), ("liaison/api.ErrForm", laid_liaison_api_ErrForm), ("liaison/api.ErrCheck", laid_liaison_api_ErrCheck), ("liaison/api.ErrFull", laid_liaison_api_ErrFull), ("liaison/api.ErrPower", laid_liaison_api_ErrPower), ("liaison/api.ErrNone", laid_liaison_api_ErrNone), ("liaison/api.ErrState", laid_liaison_api_ErrState), ("liaison/api.ErrTwice", laid_liaison_api_ErrTwice), ("liaison/api.ErrDepth", laid_liaison_api_ErrDepth), ("liaison/api.ErrExpired", laid_liaison_api_ErrExpired), ("liaison/api.ErrPanic", laid_liaison_api_ErrPanic), ("liaison/api.ErrProtocol", laid_liaison_api_ErrProtocol)] }
def FloatsBackoffSaid : Prop := floatsBackoffRow.holds Tryd.pinned (OpenSpec.ofChange floatsBackoffSpec)

/-- ITS FALSE NEIGHBOUR: 'it returns false'. Refute it at one input. -/
def floatsBackoffWrong : ChangeSpec := { name := "floatsBackoff", fn := fun _ => fun
  | [d1, d2, d3] => { results := [.lit (.bool false)], args := [d1, d2, d3] }
  | _ => none }
def FloatsBackoffWrongFalsely : Prop := floatsBackoffRow.holds Tryd.pinned (OpenSpec.ofChange floatsBackoffWrong)

/-- 'liaisonlaw01.FloatsPlain': WHATEVER THE INPUT: true; the input reads as it did. -/
def floatsPlainSpec : ChangeSpec := { name := "floatsPlain", fn := fun _ => fun
  | [d1, d2] => { results := [.lit (.bool true)], args := [d1, d2] }
  | _ => none }
def floatsPlainRow : OpenClaim := { program := "yteoiedlffifpoaadoor", sum := "c1430dcef628b1b16568dbf7cfc175336f5226dc3ddedfb52598ff1c63a29768", func := "liaison/liaisonlaw01.FloatsPlain", spec := "floatsPlain", inPlace := ["math.Float64bits", "math.Float64frombits", "internal/reflectlite.TypeOf"], unfollowed := true, recurses := true, named := ["liaison/api.ErrForm", "liaison/api.ErrRange", "liaison/api.ErrShort", "liaison/api.ErrLong", "liaison/api.ErrCheck", "liaison/api.ErrFull", "liaison/api.ErrPower", "liaison/api.ErrNone", "liaison/api.ErrState", "liaison/api.ErrTwice", "liaison/api.ErrDepth", "liaison/api.ErrExpired", "liaison/api.ErrPanic", "liaison/api.ErrProtocol"], apart := false, laid := [("liaison/api.ErrRange", laid_liaison_api_ErrRange), ("liaison/api.ErrShort", laid_liaison_api_ErrShort), ("liaison/api.ErrLong", laid_liaison_api_ErrLong), ("liaison/api.ErrForm", laid_liaison_api_ErrForm), ("liaison/api.ErrCheck", laid_liaison_api_ErrCheck), ("liaison/api.ErrFull", laid_liaison_api_ErrFull), ("liaison/api.ErrPower", laid_liaison_api_ErrPower), ("liaison/api.ErrNone", laid_liaison_api_ErrNone), ("liaison/api.ErrState", laid_liaison_api_ErrState), ("liaison/api.ErrTwice", laid_liaison_api_ErrTwice), ("liaison/api.ErrDepth", laid_liaison_api_ErrDepth), ("liaison/api.ErrExpired", laid_liaison_api_ErrExpired), ("liaison/api.ErrPanic", laid_liaison_api_ErrPanic), ("liaison/api.ErrProtocol", laid_liaison_api_ErrProtocol)] }
def FloatsPlainSaid : Prop := floatsPlainRow.holds Tryd.pinned (OpenSpec.ofChange floatsPlainSpec)

/-- ITS FALSE NEIGHBOUR: 'it returns false'. Refute it at one input. -/
def floatsPlainWrong : ChangeSpec := { name := "floatsPlain", fn := fun _ => fun
  | [d1, d2] => { results := [.lit (.bool false)], args := [d1, d2] }
  | _ => none }
def FloatsPlainWrongFalsely : Prop := floatsPlainRow.holds Tryd.pinned (OpenSpec.ofChange floatsPlainWrong)

/- THE SECOND FORM. 'bulk': how many values and letters a reading holds, each counted each time it is reached (what is shared counts as often as it is met; a slice's spare places count too). A statement '..UptoSaid' is the law's where the arguments, and the package variables that the reading takes, are together of bulk at most 1048576: NARROWER than '..Said'. Prove '..Said' where nothing that the law and all that it calls make is longer than what came in: it says more and counts as full. Else prove '..UptoSaid'. A law counts once. -/
mutual
def uptoBulk {H : Type} : DataW H → Nat
  | .lit (.string bytes) => bytes.length + 1
  | .lit _ => 1
  | .nil => 1
  | .ptr d => uptoBulk d + 1
  | .slice elems spare => uptoBulkAll elems + uptoBulkAll spare + 1
  | .agg parts => uptoBulkAll parts + 1
  | .iface _ d => uptoBulk d + 1
  | .map entries => uptoBulkEntries entries + 1
  | .held _ => 1
def uptoBulkAll {H : Type} : List (DataW H) → Nat
  | [] => 0
  | d :: r => uptoBulk d + uptoBulkAll r
def uptoBulkEntries {H : Type} : List (Lit × DataW H) → Nat
  | [] => 0
  | x :: r => uptoBulkEntry x + uptoBulkEntries r
def uptoBulkEntry {H : Type} : Lit × DataW H → Nat
  | (.string bytes, d) => bytes.length + uptoBulk d + 1
  | (_, d) => uptoBulk d + 1
 end
def uptoSmall : (H : Type) → List (DataW H) → Bool := fun _ ds => decide (uptoBulkAll ds ≤ 1048576)
def OpenSpec.upto (s : _root_.Go.ChangeSpec) : _root_.Go.OpenSpec := { _root_.Go.OpenSpec.ofChange s with cond := some uptoSmall }

/-- 'liaisonlaw01.FloatsOrder', WHERE WHAT IT READS IS OF BULK AT MOST 1048576: true; the input reads as it did. -/
def floatsOrderUptoRow : OpenClaim := { program := "yteoiedlffifpoaadoor", sum := "c1430dcef628b1b16568dbf7cfc175336f5226dc3ddedfb52598ff1c63a29768", func := "liaison/liaisonlaw01.FloatsOrder", spec := "floatsOrder", inPlace := ["math.Float64bits", "math.Float64frombits"], named := ["liaison/api.ErrForm", "liaison/api.ErrRange"], apart := false, laid := [("liaison/api.ErrRange", laid_liaison_api_ErrRange), ("liaison/api.ErrForm", laid_liaison_api_ErrForm)], narrowed := true }
def FloatsOrderUptoSaid : Prop := floatsOrderUptoRow.holds Tryd.pinned (OpenSpec.upto floatsOrderSpec)

/-- 'liaisonlaw01.FloatsOne', WHERE WHAT IT READS IS OF BULK AT MOST 1048576: true; the input reads as it did. -/
def floatsOneUptoRow : OpenClaim := { program := "yteoiedlffifpoaadoor", sum := "c1430dcef628b1b16568dbf7cfc175336f5226dc3ddedfb52598ff1c63a29768", func := "liaison/liaisonlaw01.FloatsOne", spec := "floatsOne", inPlace := ["math.Float64bits", "math.Float64frombits"], named := ["liaison/api.ErrForm", "liaison/api.ErrRange"], apart := false, laid := [("liaison/api.ErrRange", laid_liaison_api_ErrRange), ("liaison/api.ErrForm", laid_liaison_api_ErrForm)], narrowed := true }
def FloatsOneUptoSaid : Prop := floatsOneUptoRow.holds Tryd.pinned (OpenSpec.upto floatsOneSpec)

/-- 'liaisonlaw01.FloatsLeast', WHERE WHAT IT READS IS OF BULK AT MOST 1048576: true; the input reads as it did. -/
def floatsLeastUptoRow : OpenClaim := { program := "yteoiedlffifpoaadoor", sum := "c1430dcef628b1b16568dbf7cfc175336f5226dc3ddedfb52598ff1c63a29768", func := "liaison/liaisonlaw01.FloatsLeast", spec := "floatsLeast", inPlace := ["math.Float64bits", "math.Float64frombits"], named := ["liaison/api.ErrForm", "liaison/api.ErrRange"], apart := false, laid := [("liaison/api.ErrRange", laid_liaison_api_ErrRange), ("liaison/api.ErrForm", laid_liaison_api_ErrForm)], narrowed := true }
def FloatsLeastUptoSaid : Prop := floatsLeastUptoRow.holds Tryd.pinned (OpenSpec.upto floatsLeastSpec)

/-- 'liaisonlaw01.FloatsGrow', WHERE WHAT IT READS IS OF BULK AT MOST 1048576: true; the input reads as it did. -/
def floatsGrowUptoRow : OpenClaim := { program := "yteoiedlffifpoaadoor", sum := "c1430dcef628b1b16568dbf7cfc175336f5226dc3ddedfb52598ff1c63a29768", func := "liaison/liaisonlaw01.FloatsGrow", spec := "floatsGrow", inPlace := ["math.Float64bits", "math.Float64frombits"], named := ["liaison/api.ErrForm", "liaison/api.ErrRange"], apart := false, laid := [("liaison/api.ErrRange", laid_liaison_api_ErrRange), ("liaison/api.ErrForm", laid_liaison_api_ErrForm)], narrowed := true }
def FloatsGrowUptoSaid : Prop := floatsGrowUptoRow.holds Tryd.pinned (OpenSpec.upto floatsGrowSpec)

/-- 'liaisonlaw01.FloatsTurned', WHERE WHAT IT READS IS OF BULK AT MOST 1048576: true; the input reads as it did. -/
def floatsTurnedUptoRow : OpenClaim := { program := "yteoiedlffifpoaadoor", sum := "c1430dcef628b1b16568dbf7cfc175336f5226dc3ddedfb52598ff1c63a29768", func := "liaison/liaisonlaw01.FloatsTurned", spec := "floatsTurned", inPlace := ["math.Float64bits", "math.Float64frombits"], named := ["liaison/api.ErrForm", "liaison/api.ErrRange"], apart := false, laid := [("liaison/api.ErrRange", laid_liaison_api_ErrRange), ("liaison/api.ErrForm", laid_liaison_api_ErrForm)], narrowed := true }
def FloatsTurnedUptoSaid : Prop := floatsTurnedUptoRow.holds Tryd.pinned (OpenSpec.upto floatsTurnedSpec)

/-- 'liaisonlaw01.FloatsBackoff', WHERE WHAT IT READS IS OF BULK AT MOST 1048576: true; the input reads as it did. -/
def floatsBackoffUptoRow : OpenClaim := { program := "yteoiedlffifpoaadoor", sum := "c1430dcef628b1b16568dbf7cfc175336f5226dc3ddedfb52598ff1c63a29768", func := "liaison/liaisonlaw01.FloatsBackoff", spec := "floatsBackoff", inPlace := ["math.Float64bits", "math.Float64frombits", "internal/reflectlite.TypeOf"], unfollowed := true, recurses := true, named := ["liaison/api.ErrForm", "liaison/api.ErrRange", "liaison/api.ErrShort", "liaison/api.ErrLong", "liaison/api.ErrCheck", "liaison/api.ErrFull", "liaison/api.ErrPower", "liaison/api.ErrNone", "liaison/api.ErrState", "liaison/api.ErrTwice", "liaison/api.ErrDepth", "liaison/api.ErrExpired", "liaison/api.ErrPanic", "liaison/api.ErrProtocol"], apart := false, laid := [("liaison/api.ErrRange", laid_liaison_api_ErrRange), ("liaison/api.ErrShort", laid_liaison_api_ErrShort), ("liaison/api.ErrLong", laid_liaison_api_ErrLong), ("liaison/api.ErrForm", laid_liaison_api_ErrForm), ("liaison/api.ErrCheck", laid_liaison_api_ErrCheck), ("liaison/api.ErrFull", laid_liaison_api_ErrFull), ("liaison/api.ErrPower", laid_liaison_api_ErrPower), ("liaison/api.ErrNone", laid_liaison_api_ErrNone), ("liaison/api.ErrState", laid_liaison_api_ErrState), ("liaison/api.ErrTwice", laid_liaison_api_ErrTwice), ("liaison/api.ErrDepth", laid_liaison_api_ErrDepth), ("liaison/api.ErrExpired", laid_liaison_api_ErrExpired), ("liaison/api.ErrPanic", laid_liaison_api_ErrPanic), ("liaison/api.ErrProtocol", laid_liaison_api_ErrProtocol)], narrowed := true }
def FloatsBackoffUptoSaid : Prop := floatsBackoffUptoRow.holds Tryd.pinned (OpenSpec.upto floatsBackoffSpec)

/-- 'liaisonlaw01.FloatsPlain', WHERE WHAT IT READS IS OF BULK AT MOST 1048576: true; the input reads as it did. -/
def floatsPlainUptoRow : OpenClaim := { program := "yteoiedlffifpoaadoor", sum := "c1430dcef628b1b16568dbf7cfc175336f5226dc3ddedfb52598ff1c63a29768", func := "liaison/liaisonlaw01.FloatsPlain", spec := "floatsPlain", inPlace := ["math.Float64bits", "math.Float64frombits", "internal/reflectlite.TypeOf"], unfollowed := true, recurses := true, named := ["liaison/api.ErrForm", "liaison/api.ErrRange", "liaison/api.ErrShort", "liaison/api.ErrLong", "liaison/api.ErrCheck", "liaison/api.ErrFull", "liaison/api.ErrPower", "liaison/api.ErrNone", "liaison/api.ErrState", "liaison/api.ErrTwice", "liaison/api.ErrDepth", "liaison/api.ErrExpired", "liaison/api.ErrPanic", "liaison/api.ErrProtocol"], apart := false, laid := [("liaison/api.ErrRange", laid_liaison_api_ErrRange), ("liaison/api.ErrShort", laid_liaison_api_ErrShort), ("liaison/api.ErrLong", laid_liaison_api_ErrLong), ("liaison/api.ErrForm", laid_liaison_api_ErrForm), ("liaison/api.ErrCheck", laid_liaison_api_ErrCheck), ("liaison/api.ErrFull", laid_liaison_api_ErrFull), ("liaison/api.ErrPower", laid_liaison_api_ErrPower), ("liaison/api.ErrNone", laid_liaison_api_ErrNone), ("liaison/api.ErrState", laid_liaison_api_ErrState), ("liaison/api.ErrTwice", laid_liaison_api_ErrTwice), ("liaison/api.ErrDepth", laid_liaison_api_ErrDepth), ("liaison/api.ErrExpired", laid_liaison_api_ErrExpired), ("liaison/api.ErrPanic", laid_liaison_api_ErrPanic), ("liaison/api.ErrProtocol", laid_liaison_api_ErrProtocol)], narrowed := true }
def FloatsPlainUptoSaid : Prop := floatsPlainUptoRow.holds Tryd.pinned (OpenSpec.upto floatsPlainSpec)

end Rows
end Go.Proofs.YteoiedlffifpoaaDoor
