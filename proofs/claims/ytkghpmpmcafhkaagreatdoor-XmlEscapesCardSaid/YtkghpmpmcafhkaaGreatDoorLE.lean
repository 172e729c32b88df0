/-
  LawXE: XmlEscapes: the walk.
-/
import Derived.Test.YtkghpmpmcafhkaaGreatDoorQF
import Derived.Test.YtkghpmpmcafhkaaGreatDoorRB
namespace Go.Proofs.YtkghpmpmcafhkaaGreatDoor
open Go.RowKit Go.Extern.Stop Go.Stop Go.Extern
attribute [local go_sem] bs_toList
attribute [local irreducible] wpPhi

set_option maxRecDepth 40000 in
set_option maxHeartbeats 4000000 in
theorem escapes_any (E : Nat → Addr) (s : List UInt8) (v : Bool) (w : World) (hg : LibG w) (hE : Errs w E) (hs : s.length ≤ maxLen) :
    Calls Tryz.prog 5 #[.string (bs s), .bool v] w (fun e w' => e = .returned (.bool true) ∧ Below w.heap.size w w') := by
  have HAL := Lib.hid (alive23_any E w hg hE)
  have hz := bs_size s
  by_cases hbig : 1000 < s.length
  · have hb1 : (1000 : Int) < ((bs s).size : Int) := by rw [hz]; omega
    clear hg hE hz hbig hs
    go_enter Tryz.func5, Tryz.ntmps5
    go_wp2_with fail
    refine HAL.out.mono ?_
    rintro e w1 ⟨rfl, hb1⟩
    have HB1 := Lib.hid hb1
    clear hb1
    go_wp2_with fail
    go_ret
    exact ⟨rfl, HB1.out⟩
  · have hb1 : ¬ (1000 : Int) < ((bs s).size : Int) := by rw [hz]; omega
    have HES := Lib.hid (fun w1 (hb : Below w.heap.size w w1) => escape_any s v (by omega) w1 (hg.below hb))
    have HRE := Lib.hid (fun w1 => resc_any s v (by omega) w1)
    clear hg hE hz hbig hs
    go_enter Tryz.func5, Tryz.ntmps5
    go_wp2_with fail
    refine HAL.out.mono ?_
    rintro e w1 ⟨rfl, hb1⟩
    have HB1 := Lib.hid hb1
    clear hb1
    go_wp2_with fail
    refine (HES.out w1 HB1.out).mono ?_
    rintro e w2 ⟨rfl, hb2⟩
    have HB2 := Lib.hid (HB1.out.trans (hb2.mono HB1.out.size))
    clear hb2
    go_wp2_with fail
    refine (HRE.out w2).mono ?_
    rintro e w3 ⟨rfl, rfl⟩
    go_wp2_with fail
    go_ret
    exact ⟨rfl, HB2.out⟩
theorem escapes_ba (E : Nat → Addr) (s : ByteArray) (v : Bool) (w : World) (hg : LibG w) (hE : Errs w E) (hs : s.size ≤ maxLen) :
    Calls Tryz.prog 5 #[.string s, .bool v] w (fun e w' => e = .returned (.bool true) ∧ Below w.heap.size w w') := by
  have e : s = bs s.data.toList := by
    unfold bs
    rw [show s.data.toList.toArray = s.data from Array.toArray_toList]
  rw [e]
  exact escapes_any E s.data.toList v w hg hE hs
end Go.Proofs.YtkghpmpmcafhkaaGreatDoor
