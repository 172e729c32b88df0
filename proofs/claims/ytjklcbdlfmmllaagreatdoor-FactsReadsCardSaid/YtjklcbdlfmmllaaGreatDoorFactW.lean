/-
  FactW: small functions of package facts; a fact with its kind's fields alone.
-/
import Derived.Test.YtjklcbdlfmmllaaGreatDoorFactP
namespace Go.Proofs.YtjklcbdlfmmllaaGreatDoor
open Go.RowKit Go.Extern.Stop Go.Stop Go.Extern Ieee
attribute [local go_sem] flt_def fgt_def feq_def fne_def

theorem run_store_flt {P : Program} {w : World} {a : Addr} (k : FloatKind) (x : Nat) (m : Mode) : (store a (.float k x) m).run P w = stored P w a (.float k x) m := run_store P w a _ m rfl
attribute [local go_sem] run_store_flt

theorem within_any (x a b : Int) (w : World) : Calls Tryz.prog 50 #[.int .i64 x, .int .i64 a, .int .i64 b] w fun e w' => e = .returned (.bool (inR x a b)) ∧ Below w.heap.size w w' := by
  have HR := Lib.hid (show inR x a b = (decide (a ≤ x) && decide (x ≤ b)) from rfl)
  cases h1 : decide (a ≤ x)
  all_goals
    cases h2 : decide (x ≤ b)
    all_goals
      rw [h1, h2] at HR
      go_enter Tryz.func50, Tryz.ntmps50
      go_wp2_with fail
      go_ret
      exact ⟨by rw [HR.out]; rfl, Below.refl _ _⟩
theorem isreg_any (x : Int) (w : World) : Calls Tryz.prog 52 #[.int .i64 x] w fun e w' => e = .returned (.bool (inR x 0 5)) ∧ Below w.heap.size w w' := by
  have HW := Lib.hid (fun w' => within_any x 0 5 w')
  go_enter Tryz.func52, Tryz.ntmps52
  go_wp2_with fail
  refine (HW.out _).mono ?_
  rintro e w' ⟨rfl, hb⟩
  have B := Lib.hid hb
  clear hb
  go_wp2_with fail
  go_ret
  exact ⟨rfl, B.out⟩
theorem ispart_any (x : Int) (w : World) : Calls Tryz.prog 53 #[.int .i64 x] w fun e w' => e = .returned (.bool (inR x 0 7)) ∧ Below w.heap.size w w' := by
  have HW := Lib.hid (fun w' => within_any x 0 7 w')
  go_enter Tryz.func53, Tryz.ntmps53
  go_wp2_with fail
  refine (HW.out _).mono ?_
  rintro e w' ⟨rfl, hb⟩
  have B := Lib.hid hb
  clear hb
  go_wp2_with fail
  go_ret
  exact ⟨rfl, B.out⟩
theorem isstate_any (st hw : Int) (w : World) : Calls Tryz.prog 54 #[.int .i64 st, .int .i64 hw] w fun e w' => e = .returned (.bool (stB st hw)) ∧ Below w.heap.size w w' := by
  have H1 := Lib.hid (fun w' => within_any hw 4 8 w')
  have H2 := Lib.hid (fun w' => within_any st 1 13 w')
  by_cases h : st = 14
  · have HR := Lib.hid (show stB st hw = ((hw == 1) || inR hw 4 8) by unfold stB; rw [if_pos h])
    have d : (st == 14) = true := by simpa using h
    clear h
    cases h1 : (hw == 1)
    · rw [h1] at HR
      go_enter Tryz.func54, Tryz.ntmps54
      go_wp2_with fail
      refine (H1.out _).mono ?_
      rintro e w' ⟨rfl, hb⟩
      have B := Lib.hid hb
      clear hb
      go_wp2_with fail
      go_ret
      exact ⟨by rw [HR.out]; rfl, B.out⟩
    · rw [h1] at HR
      go_enter Tryz.func54, Tryz.ntmps54
      go_wp2_with fail
      go_ret
      exact ⟨by rw [HR.out]; rfl, Below.refl _ _⟩
  · have HR := Lib.hid (show stB st hw = (inR st 1 13 && (hw == 0)) by unfold stB; rw [if_neg h])
    have d : (st == 14) = false := by simpa using h
    clear h
    cases h1 : inR st 1 13
    · rw [h1] at HR H2
      go_enter Tryz.func54, Tryz.ntmps54
      go_wp2_with fail
      refine (H2.out _).mono ?_
      rintro e w' ⟨rfl, hb⟩
      have B := Lib.hid hb
      clear hb
      go_wp2_with fail
      go_ret
      exact ⟨by rw [HR.out]; rfl, B.out⟩
    · rw [h1] at HR H2
      cases h2 : (hw == 0)
      all_goals
        rw [h2] at HR
        go_enter Tryz.func54, Tryz.ntmps54
        go_wp2_with fail
        refine (H2.out _).mono ?_
        rintro e w' ⟨rfl, hb⟩
        have B := Lib.hid hb
        clear hb
        go_wp2_with fail
        go_ret
        exact ⟨by rw [HR.out]; rfl, B.out⟩
end Go.Proofs.YtjklcbdlfmmllaaGreatDoor
