/-
  LawIReads: the walk of IdsReads.
-/
import Derived.Test.YtehdbiilbbbbpaaDoorLawIReadsNode
import Derived.Test.YtehdbiilbbbbpaaDoorLawIReadsAct
import Derived.Test.YtehdbiilbbbbpaaDoorLawIReadsReg
import Derived.Test.YtehdbiilbbbbpaaDoorLawIReadsPart
import Derived.Test.YtehdbiilbbbbpaaDoorLawIReadsNone
namespace Go.Proofs.YtehdbiilbbbbpaaDoor
open Go.RowKit Go.Extern.Stop Go.Stop Go.Extern

set_option maxRecDepth 20000 in
theorem reads_long (s : List UInt8) (hs : ¬ s.length ≤ 200) (w : World) (E : Nat → Addr) (h : IdsG w E) :
    Calls Tryd.prog 5 #[.string (bs s)] w fun e w' => e = .returned (.bool true) ∧ Below w.heap.size w w' := by
  have hsz := bs_size s
  have dsz : decide (200 < ((bs s).size : Int)) = true := decide_eq_true (by omega)
  have dsz2 : decide (200 < s.length) = true := decide_eq_true (by omega)
  have HAL := Lib.hid (alive_any w E h)
  clear h hs hsz
  go_enter Tryd.func5, Tryd.ntmps5
  go_wp2_with fail
  refine HAL.out.mono ?_
  rintro e w' ⟨rfl, hb⟩
  have B := Lib.hid hb
  clear hb
  go_wp2_with fail
  go_ret
  exact ⟨rfl, B.out⟩
theorem reads_law (s : List UInt8) (w : World) (E : Nat → Addr) (h : IdsG w E) :
    Calls Tryd.prog 5 #[.string (bs s)] w fun e w' => e = .returned (.bool true) ∧ Below w.heap.size w w' := by
  by_cases hs : s.length ≤ 200
  · cases h1 : toNodeT s with
    | ok n =>
      obtain ⟨t, ht⟩ := node_head h1
      cases h2 : toActT s with
      | ok p => obtain ⟨t2, e, _⟩ := act_head h2; rw [ht] at e; cases e
      | error e2 =>
        cases h3 : toRegT s with
        | ok p => obtain ⟨t2, e, _⟩ := reg_head h3; rw [ht] at e; cases e
        | error e3 =>
          cases h4 : toPartT s with
          | ok p => obtain ⟨t2, e⟩ := part_head h4; rw [ht] at e; cases e
          | error e4 => exact reads_node s hs n h1 e2 h2 e3 h3 e4 h4 w E h
    | error e1 =>
      cases h2 : toActT s with
      | ok p =>
        obtain ⟨t, ht, hn⟩ := act_head h2
        cases h3 : toRegT s with
        | ok q => obtain ⟨t2, _, hm⟩ := reg_head h3; exact absurd hm hn
        | error e3 =>
          cases h4 : toPartT s with
          | ok q => obtain ⟨t2, e⟩ := part_head h4; rw [ht] at e; cases e
          | error e4 => exact reads_act s hs p.1 p.2 e1 h1 h2 e3 h3 e4 h4 w E h
      | error e2 =>
        cases h3 : toRegT s with
        | ok p =>
          obtain ⟨t, ht, _⟩ := reg_head h3
          cases h4 : toPartT s with
          | ok q => obtain ⟨t2, e⟩ := part_head h4; rw [ht] at e; cases e
          | error e4 => exact reads_reg s hs p.1 p.2.1 p.2.2 e1 h1 e2 h2 h3 e4 h4 w E h
        | error e3 =>
          cases h4 : toPartT s with
          | ok p => exact reads_part s hs p.1 p.2 e1 h1 e2 h2 e3 h3 h4 w E h
          | error e4 => exact reads_none s hs e1 h1 e2 h2 e3 h3 e4 h4 w E h
  · exact reads_long s hs w E h
theorem reads_ba (s : ByteArray) (w : World) (E : Nat → Addr) (h : IdsG w E) :
    Calls Tryd.prog 5 #[.string s] w fun e w' => e = .returned (.bool true) ∧ Below w.heap.size w w' := by
  have e : s = bs s.data.toList := by
    unfold bs
    rw [show s.data.toList.toArray = s.data from Array.toArray_toList]
  rw [e]
  exact reads_law _ w E h
end Go.Proofs.YtehdbiilbbbbpaaDoor
