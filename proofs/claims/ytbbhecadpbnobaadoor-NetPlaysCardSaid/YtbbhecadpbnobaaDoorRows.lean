/-
  NARROWER THAN 'FOR EVERY INPUT', by the rows' own cells (each row's printed sentence says how): NetKeeps: laid · NetMoves: laid · NetFull: laid · NetPlays: laid.
  DERIVED. THE GIVEN ROWS OF THIS SEAT. 4 by the template 'for every input the law returns true; each argument reads behind the call as it read before'; 0 by the template 'total and deterministic' (their statements: YtbbhecadpbnobaaDoorTotals.lean).
  GIVEN WITH THE SEED: the statements are not yours to turn. If you find one false, say at which input.
  Laid BY PROGRAM, IN A SANDBOX (cutbox-rows.mjs): the forced cells as the released guide's own fill.sh prints them over the translation c2a2af34f0cfb9e2… (all of the seat's roots in one cut). By AI agents, Wed Nov 11 2026. No macro, syntax, notation, axiom, sorry.
-/
import Derived.Test.YtbbhecadpbnobaaDoorChecked
import GoSem.Claim
import GoSem.ClaimJoined
import GoSem.ClaimMapViews
import Derived.JoinedTies
import Derived.KernelRfl
namespace Go.Proofs.YtbbhecadpbnobaaDoor
/- THE CELL 'sum', in the pinned program and in every row, IS THE sha256 OF THE DUMP (.gsa) THAT YtbbhecadpbnobaaDoorProg.lean LOADS. Nothing in Lean hashes anything: it is a label: what it is worth is what the hold of that sum in a sandbox is worth. -/
noncomputable def Tryd.pinned : Pinned := { name := "ytbbhecadpbnobaadoor", sum := "c2a2af34f0cfb9e276be386b21f8062e2946c65bc694452df9780e07a1069813", checked := Tryd.checked }
namespace Rows
def none {H : Type} : Left H := { results := [], args := [] }

/- WHAT THE LISTED PACKAGE-LEVEL VARIABLES READ AS WHEN THE CALL BEGINS. Each datum BY PROGRAM (the guide's laid-datum.mjs) off the statement by which the dump's own 'gosem.cut.vars' lays the variable. In a bare row this is a premise. The card (YtbbhecadpbnobaaDoorCards.lean) ties it to the program's text. -/
def laid_liaison_api_ErrRange {H : Type} : DataW H := .iface "*errors.errorString" (.ptr (.agg [.lit (.string [108, 105, 97, 105, 115, 111, 110, 58, 32, 114, 97, 110, 103, 101])]))
def laid_liaison_api_ErrLong {H : Type} : DataW H := .iface "*errors.errorString" (.ptr (.agg [.lit (.string [108, 105, 97, 105, 115, 111, 110, 58, 32, 108, 111, 110, 103])]))
def laid_liaison_api_ErrFull {H : Type} : DataW H := .iface "*errors.errorString" (.ptr (.agg [.lit (.string [108, 105, 97, 105, 115, 111, 110, 58, 32, 102, 117, 108, 108])]))
def laid_liaison_api_ErrShort {H : Type} : DataW H := .iface "*errors.errorString" (.ptr (.agg [.lit (.string [108, 105, 97, 105, 115, 111, 110, 58, 32, 115, 104, 111, 114, 116])]))
def laid_liaison_api_ErrForm {H : Type} : DataW H := .iface "*errors.errorString" (.ptr (.agg [.lit (.string [108, 105, 97, 105, 115, 111, 110, 58, 32, 102, 111, 114, 109])]))
def laid_liaison_api_ErrCheck {H : Type} : DataW H := .iface "*errors.errorString" (.ptr (.agg [.lit (.string [108, 105, 97, 105, 115, 111, 110, 58, 32, 99, 104, 101, 99, 107])]))
def laid_liaison_api_ErrPower {H : Type} : DataW H := .iface "*errors.errorString" (.ptr (.agg [.lit (.string [108, 105, 97, 105, 115, 111, 110, 58, 32, 112, 111, 119, 101, 114])]))
def laid_liaison_api_ErrNone {H : Type} : DataW H := .iface "*errors.errorString" (.ptr (.agg [.lit (.string [108, 105, 97, 105, 115, 111, 110, 58, 32, 110, 111, 110, 101])]))
def laid_liaison_api_ErrState {H : Type} : DataW H := .iface "*errors.errorString" (.ptr (.agg [.lit (.string [108, 105, 97, 105, 115, 111, 110, 58, 32, 115, 116, 97, 116, 101])]))
def laid_liaison_api_ErrTwice {H : Type} : DataW H := .iface "*errors.errorString" (.ptr (.agg [.lit (.string [108, 105, 97, 105, 115, 111, 110, 58, 32, 116, 119, 105, 99, 101])]))
def laid_liaison_api_ErrDepth {H : Type} : DataW H := .iface "*errors.errorString" (.ptr (.agg [.lit (.string [108, 105, 97, 105, 115, 111, 110, 58, 32, 100, 101, 112, 116, 104])]))
def laid_liaison_api_ErrExpired {H : Type} : DataW H := .iface "*errors.errorString" (.ptr (.agg [.lit (.string [108, 105, 97, 105, 115, 111, 110, 58, 32, 101, 120, 112, 105, 114, 101, 100])]))
def laid_liaison_api_ErrPanic {H : Type} : DataW H := .iface "*errors.errorString" (.ptr (.agg [.lit (.string [108, 105, 97, 105, 115, 111, 110, 58, 32, 112, 97, 110, 105, 99])]))
def laid_liaison_api_ErrProtocol {H : Type} : DataW H := .iface "*errors.errorString" (.ptr (.agg [.lit (.string [108, 105, 97, 105, 115, 111, 110, 58, 32, 112, 114, 111, 116, 111, 99, 111, 108])]))

/-- 'liaisonlaw12.NetKeeps': WHATEVER THE INPUT: true; the input reads as it did. -/
def netKeepsSpec : ChangeSpec := { name := "netKeeps", fn := fun _ => fun
  | [d1, d2, d3] => { results := [.lit (.bool true)], args := [d1, d2, d3] }
  | _ => none }
def netKeepsRow : OpenClaim := { program := "ytbbhecadpbnobaadoor", sum := "c2a2af34f0cfb9e276be386b21f8062e2946c65bc694452df9780e07a1069813", func := "liaison/liaisonlaw12.NetKeeps", spec := "netKeeps", inPlace := ["slices.overlaps[liaison/net.Letter]"], named := ["liaison/api.ErrRange", "liaison/api.ErrLong", "liaison/api.ErrFull"], plainKeys := false, apart := false, laid := [("liaison/api.ErrRange", laid_liaison_api_ErrRange), ("liaison/api.ErrLong", laid_liaison_api_ErrLong), ("liaison/api.ErrFull", laid_liaison_api_ErrFull)] }
def NetKeepsSaid : Prop := netKeepsRow.holds Tryd.pinned (OpenSpec.ofChange netKeepsSpec)

/-- ITS FALSE NEIGHBOUR: 'it returns false'. Refute it at one input. -/
def netKeepsWrong : ChangeSpec := { name := "netKeeps", fn := fun _ => fun
  | [d1, d2, d3] => { results := [.lit (.bool false)], args := [d1, d2, d3] }
  | _ => none }
def NetKeepsWrongFalsely : Prop := netKeepsRow.holds Tryd.pinned (OpenSpec.ofChange netKeepsWrong)

/-- 'liaisonlaw12.NetMoves': WHATEVER THE INPUT: true; the input reads as it did. -/
def netMovesSpec : ChangeSpec := { name := "netMoves", fn := fun _ => fun
  | [d1, d2, d3] => { results := [.lit (.bool true)], args := [d1, d2, d3] }
  | _ => none }
def netMovesRow : OpenClaim := { program := "ytbbhecadpbnobaadoor", sum := "c2a2af34f0cfb9e276be386b21f8062e2946c65bc694452df9780e07a1069813", func := "liaison/liaisonlaw12.NetMoves", spec := "netMoves", inPlace := ["slices.overlaps[liaison/net.Letter]"], unfollowed := true, recurses := true, named := ["liaison/api.ErrRange", "liaison/api.ErrLong", "liaison/api.ErrFull"], plainKeys := false, apart := false, laid := [("liaison/api.ErrRange", laid_liaison_api_ErrRange), ("liaison/api.ErrLong", laid_liaison_api_ErrLong), ("liaison/api.ErrFull", laid_liaison_api_ErrFull)] }
def NetMovesSaid : Prop := netMovesRow.holds Tryd.pinned (OpenSpec.ofChange netMovesSpec)

/-- ITS FALSE NEIGHBOUR: 'it returns false'. Refute it at one input. -/
def netMovesWrong : ChangeSpec := { name := "netMoves", fn := fun _ => fun
  | [d1, d2, d3] => { results := [.lit (.bool false)], args := [d1, d2, d3] }
  | _ => none }
def NetMovesWrongFalsely : Prop := netMovesRow.holds Tryd.pinned (OpenSpec.ofChange netMovesWrong)

/-- 'liaisonlaw12.NetFull': WHATEVER THE INPUT: true; the input reads as it did. -/
def netFullSpec : ChangeSpec := { name := "netFull", fn := fun _ => fun
  | [d] => { results := [.lit (.bool true)], args := [d] }
  | _ => none }
def netFullRow : OpenClaim := { program := "ytbbhecadpbnobaadoor", sum := "c2a2af34f0cfb9e276be386b21f8062e2946c65bc694452df9780e07a1069813", func := "liaison/liaisonlaw12.NetFull", spec := "netFull", inPlace := ["slices.overlaps[liaison/net.Letter]", "internal/reflectlite.TypeOf"], unfollowed := true, recurses := true, named := ["liaison/api.ErrRange", "liaison/api.ErrLong", "liaison/api.ErrFull", "liaison/api.ErrShort", "liaison/api.ErrForm", "liaison/api.ErrCheck", "liaison/api.ErrPower", "liaison/api.ErrNone", "liaison/api.ErrState", "liaison/api.ErrTwice", "liaison/api.ErrDepth", "liaison/api.ErrExpired", "liaison/api.ErrPanic", "liaison/api.ErrProtocol"], plainKeys := false, apart := false, laid := [("liaison/api.ErrRange", laid_liaison_api_ErrRange), ("liaison/api.ErrShort", laid_liaison_api_ErrShort), ("liaison/api.ErrLong", laid_liaison_api_ErrLong), ("liaison/api.ErrForm", laid_liaison_api_ErrForm), ("liaison/api.ErrCheck", laid_liaison_api_ErrCheck), ("liaison/api.ErrFull", laid_liaison_api_ErrFull), ("liaison/api.ErrPower", laid_liaison_api_ErrPower), ("liaison/api.ErrNone", laid_liaison_api_ErrNone), ("liaison/api.ErrState", laid_liaison_api_ErrState), ("liaison/api.ErrTwice", laid_liaison_api_ErrTwice), ("liaison/api.ErrDepth", laid_liaison_api_ErrDepth), ("liaison/api.ErrExpired", laid_liaison_api_ErrExpired), ("liaison/api.ErrPanic", laid_liaison_api_ErrPanic), ("liaison/api.ErrProtocol", laid_liaison_api_ErrProtocol)] }
def NetFullSaid : Prop := netFullRow.holds Tryd.pinned (OpenSpec.ofChange netFullSpec)

/-- ITS FALSE NEIGHBOUR: 'it returns false'. Refute it at one input. -/
def netFullWrong : ChangeSpec := { name := "netFull", fn := fun _ => fun
  | [d] => { results := [.lit (.bool false)], args := [d] }
  | _ => none }
def NetFullWrongFalsely : Prop := netFullRow.holds Tryd.pinned (OpenSpec.ofChange netFullWrong)

/-- 'liaisonlaw12.NetPlays': WHATEVER THE INPUT: true; the input reads as it did. -/
def netPlaysSpec : ChangeSpec := { name := "netPlays", fn := fun _ => fun
  | [d1, d2] => { results := [.lit (.bool true)], args := [d1, d2] }
  | _ => none }
def netPlaysRow : OpenClaim := { program := "ytbbhecadpbnobaadoor", sum := "c2a2af34f0cfb9e276be386b21f8062e2946c65bc694452df9780e07a1069813", func := "liaison/liaisonlaw12.NetPlays", spec := "netPlays", inPlace := ["slices.overlaps[liaison/net.Letter]", "internal/reflectlite.TypeOf"], unfollowed := true, recurses := true, named := ["liaison/api.ErrRange", "liaison/api.ErrLong", "liaison/api.ErrFull", "liaison/api.ErrShort", "liaison/api.ErrForm", "liaison/api.ErrCheck", "liaison/api.ErrPower", "liaison/api.ErrNone", "liaison/api.ErrState", "liaison/api.ErrTwice", "liaison/api.ErrDepth", "liaison/api.ErrExpired", "liaison/api.ErrPanic", "liaison/api.ErrProtocol"], plainKeys := false, apart := false, laid := [("liaison/api.ErrRange", laid_liaison_api_ErrRange), ("liaison/api.ErrShort", laid_liaison_api_ErrShort), ("liaison/api.ErrLong", laid_liaison_api_ErrLong), ("liaison/api.ErrForm", laid_liaison_api_ErrForm), ("liaison/api.ErrCheck", laid_liaison_api_ErrCheck), ("liaison/api.ErrFull", laid_liaison_api_ErrFull), ("liaison/api.ErrPower", laid_liaison_api_ErrPower), ("liaison/api.ErrNone", laid_liaison_api_ErrNone), ("liaison/api.ErrState", laid_liaison_api_ErrState), ("liaison/api.ErrTwice", laid_liaison_api_ErrTwice), ("liaison/api.ErrDepth", laid_liaison_api_ErrDepth), ("liaison/api.ErrExpired", laid_liaison_api_ErrExpired), ("liaison/api.ErrPanic", laid_liaison_api_ErrPanic), ("liaison/api.ErrProtocol", laid_liaison_api_ErrProtocol)] }
def NetPlaysSaid : Prop := netPlaysRow.holds Tryd.pinned (OpenSpec.ofChange netPlaysSpec)

/-- ITS FALSE NEIGHBOUR: 'it returns false'. Refute it at one input. -/
def netPlaysWrong : ChangeSpec := { name := "netPlays", fn := fun _ => fun
  | [d1, d2] => { results := [.lit (.bool false)], args := [d1, d2] }
  | _ => none }
def NetPlaysWrongFalsely : Prop := netPlaysRow.holds Tryd.pinned (OpenSpec.ofChange netPlaysWrong)

/- THE SECOND FORM. 'bulk': how many values and letters a reading holds, each counted each time it is reached (what is shared counts as often as it is met; a slice's spare places count too). A statement '..UptoSaid' is the law's where the arguments, and the package variables that the reading takes, are together of bulk at most 1048576: NARROWER than '..Said'. Prove '..Said' where nothing that the law and all that it calls make is longer than what came in: it says more and counts as full. Else prove '..UptoSaid'. A law counts once. -/
mutual
def uptoBulk {H : Type} : DataW H → Nat
  | .lit (.string bytes) => bytes.length + 1
  | .lit _ => 1
  | .nil => 1
  | .ptr d => uptoBulk d + 1
  | .slice elems spare => uptoBulkAll elems + uptoBulkAll spare + 1
  | .agg parts => uptoBulkAll parts + 1
  | .iface _ d => uptoBulk d + 1
  | .map entries => uptoBulkEntries entries + 1
  | .held _ => 1
def uptoBulkAll {H : Type} : List (DataW H) → Nat
  | [] => 0
  | d :: r => uptoBulk d + uptoBulkAll r
def uptoBulkEntries {H : Type} : List (Lit × DataW H) → Nat
  | [] => 0
  | x :: r => uptoBulkEntry x + uptoBulkEntries r
def uptoBulkEntry {H : Type} : Lit × DataW H → Nat
  | (.string bytes, d) => bytes.length + uptoBulk d + 1
  | (_, d) => uptoBulk d + 1
 end
def uptoSmall : (H : Type) → List (DataW H) → Bool := fun _ ds => decide (uptoBulkAll ds ≤ 1048576)
def OpenSpec.upto (s : _root_.Go.ChangeSpec) : _root_.Go.OpenSpec := { _root_.Go.OpenSpec.ofChange s with cond := some uptoSmall }

/-- 'liaisonlaw12.NetKeeps', WHERE WHAT IT READS IS OF BULK AT MOST 1048576: true; the input reads as it did. -/
def netKeepsUptoRow : OpenClaim := { program := "ytbbhecadpbnobaadoor", sum := "c2a2af34f0cfb9e276be386b21f8062e2946c65bc694452df9780e07a1069813", func := "liaison/liaisonlaw12.NetKeeps", spec := "netKeeps", inPlace := ["slices.overlaps[liaison/net.Letter]"], named := ["liaison/api.ErrRange", "liaison/api.ErrLong", "liaison/api.ErrFull"], plainKeys := false, apart := false, laid := [("liaison/api.ErrRange", laid_liaison_api_ErrRange), ("liaison/api.ErrLong", laid_liaison_api_ErrLong), ("liaison/api.ErrFull", laid_liaison_api_ErrFull)], narrowed := true }
def NetKeepsUptoSaid : Prop := netKeepsUptoRow.holds Tryd.pinned (OpenSpec.upto netKeepsSpec)

/-- 'liaisonlaw12.NetMoves', WHERE WHAT IT READS IS OF BULK AT MOST 1048576: true; the input reads as it did. -/
def netMovesUptoRow : OpenClaim := { program := "ytbbhecadpbnobaadoor", sum := "c2a2af34f0cfb9e276be386b21f8062e2946c65bc694452df9780e07a1069813", func := "liaison/liaisonlaw12.NetMoves", spec := "netMoves", inPlace := ["slices.overlaps[liaison/net.Letter]"], unfollowed := true, recurses := true, named := ["liaison/api.ErrRange", "liaison/api.ErrLong", "liaison/api.ErrFull"], plainKeys := false, apart := false, laid := [("liaison/api.ErrRange", laid_liaison_api_ErrRange), ("liaison/api.ErrLong", laid_liaison_api_ErrLong), ("liaison/api.ErrFull", laid_liaison_api_ErrFull)], narrowed := true }
def NetMovesUptoSaid : Prop := netMovesUptoRow.holds Tryd.pinned (OpenSpec.upto netMovesSpec)

/-- 'liaisonlaw12.NetFull', WHERE WHAT IT READS IS OF BULK AT MOST 1048576: true; the input reads as it did. -/
def netFullUptoRow : OpenClaim := { program := "ytbbhecadpbnobaadoor", sum := "c2a2af34f0cfb9e276be386b21f8062e2946c65bc694452df9780e07a1069813", func := "liaison/liaisonlaw12.NetFull", spec := "netFull", inPlace := ["slices.overlaps[liaison/net.Letter]", "internal/reflectlite.TypeOf"], unfollowed := true, recurses := true, named := ["liaison/api.ErrRange", "liaison/api.ErrLong", "liaison/api.ErrFull", "liaison/api.ErrShort", "liaison/api.ErrForm", "liaison/api.ErrCheck", "liaison/api.ErrPower", "liaison/api.ErrNone", "liaison/api.ErrState", "liaison/api.ErrTwice", "liaison/api.ErrDepth", "liaison/api.ErrExpired", "liaison/api.ErrPanic", "liaison/api.ErrProtocol"], plainKeys := false, apart := false, laid := [("liaison/api.ErrRange", laid_liaison_api_ErrRange), ("liaison/api.ErrShort", laid_liaison_api_ErrShort), ("liaison/api.ErrLong", laid_liaison_api_ErrLong), ("liaison/api.ErrForm", laid_liaison_api_ErrForm), ("liaison/api.ErrCheck", laid_liaison_api_ErrCheck), ("liaison/api.ErrFull", laid_liaison_api_ErrFull), ("liaison/api.ErrPower", laid_liaison_api_ErrPower), ("liaison/api.ErrNone", laid_liaison_api_ErrNone), ("liaison/api.ErrState", laid_liaison_api_ErrState), ("liaison/api.ErrTwice", laid_liaison_api_ErrTwice), ("liaison/api.ErrDepth", laid_liaison_api_ErrDepth), ("liaison/api.ErrExpired", laid_liaison_api_ErrExpired), ("liaison/api.ErrPanic", laid_liaison_api_ErrPanic), ("liaison/api.ErrProtocol", laid_liaison_api_ErrProtocol)], narrowed := true }
def NetFullUptoSaid : Prop := netFullUptoRow.holds Tryd.pinned (OpenSpec.upto netFullSpec)

/-- 'liaisonlaw12.NetPlays', WHERE WHAT IT READS IS OF BULK AT MOST 1048576: true; the input reads as it did. -/
def netPlaysUptoRow : OpenClaim := { program := "ytbbhecadpbnobaadoor", sum := "c2a2af34f0cfb9e276be386b21f8062e2946c65bc694452df9780e07a1069813", func := "liaison/liaisonlaw12.NetPlays", spec := "netPlays", inPlace := ["slices.overlaps[liaison/net.Letter]", "internal/reflectlite.TypeOf"], unfollowed := true, recurses := true, named := ["liaison/api.ErrRange", "liaison/api.ErrLong", "liaison/api.ErrFull", "liaison/api.ErrShort", "liaison/api.ErrForm", "liaison/api.ErrCheck", "liaison/api.ErrPower", "liaison/api.ErrNone", "liaison/api.ErrState", "liaison/api.ErrTwice", "liaison/api.ErrDepth", "liaison/api.ErrExpired", "liaison/api.ErrPanic", "liaison/api.ErrProtocol"], plainKeys := false, apart := false, laid := [("liaison/api.ErrRange", laid_liaison_api_ErrRange), ("liaison/api.ErrShort", laid_liaison_api_ErrShort), ("liaison/api.ErrLong", laid_liaison_api_ErrLong), ("liaison/api.ErrForm", laid_liaison_api_ErrForm), ("liaison/api.ErrCheck", laid_liaison_api_ErrCheck), ("liaison/api.ErrFull", laid_liaison_api_ErrFull), ("liaison/api.ErrPower", laid_liaison_api_ErrPower), ("liaison/api.ErrNone", laid_liaison_api_ErrNone), ("liaison/api.ErrState", laid_liaison_api_ErrState), ("liaison/api.ErrTwice", laid_liaison_api_ErrTwice), ("liaison/api.ErrDepth", laid_liaison_api_ErrDepth), ("liaison/api.ErrExpired", laid_liaison_api_ErrExpired), ("liaison/api.ErrPanic", laid_liaison_api_ErrPanic), ("liaison/api.ErrProtocol", laid_liaison_api_ErrProtocol)], narrowed := true }
def NetPlaysUptoSaid : Prop := netPlaysUptoRow.holds Tryd.pinned (OpenSpec.upto netPlaysSpec)

end Rows
end Go.Proofs.YtbbhecadpbnobaaDoor
