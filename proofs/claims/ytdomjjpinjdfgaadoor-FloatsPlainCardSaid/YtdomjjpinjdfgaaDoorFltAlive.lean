/-
  FltAlive: the walk of liaisonlaw01's alive.
-/
import Derived.Test.YtdomjjpinjdfgaaDoorFltPlain
namespace Go.Proofs.YtdomjjpinjdfgaaDoor
open Go.RowKit Ieee
attribute [local go_sem] flt_def fgt_def feq_def fne_def

theorem copysign_one (w : World) : Calls Tryd.prog 18 #[.float .f64 0, .float .f64 13830554455654793216] w (Gives w (.float .f64 9223372036854775808)) := by
  have b1 := run_bits 0
  have b2 := run_bits 13830554455654793216
  have c1 : bits .andNot .u64 0 9223372036854775808 = 0 := by decide
  have c2 : bits .and .u64 13830554455654793216 9223372036854775808 = 9223372036854775808 := by decide
  have c3 : bits .or .u64 0 9223372036854775808 = 9223372036854775808 := by decide
  have h1 := run_frombits 9223372036854775808
  have e1 : ((9223372036854775808 : Nat) : Int) = 9223372036854775808 := rfl
  have e2 : ((13830554455654793216 : Nat) : Int) = 13830554455654793216 := rfl
  have e3 : ((0 : Nat) : Int) = 0 := rfl
  rw [e1] at h1
  rw [e2] at b2
  rw [e3] at b1
  go_enter Tryd.func18, Tryd.ntmps18
  go_wp2_with fail
  go_ret
  exact ⟨rfl, Below.refl _ _⟩
theorem alive_any (w : World) (E : Nat → Addr) (he : ErrsOn [0, 3] w E) :
    Calls Tryd.prog 4 #[] w (Gives w (.bool true)) := by
  have HB := backoff_any 4607182418800017408 4617315517961601024 3 (by decide) (by decide) (by decide) w E he
  have e1 : boffN 4607182418800017408 4617315517961601024 3 = 4617315517961601024 := by kernel_rfl
  have e2 : boffE 4607182418800017408 4617315517961601024 3 = 0 := by kernel_rfl
  have e3 : feq 4617315517961601024 4617315517961601024 = true := by kernel_rfl
  have e4 : cmpI (place 9223372036854775808) (place 0) = -1 := by kernel_rfl
  rw [e1, e2, errV_zero] at HB
  clear e1 e2
  go_enter Tryd.func4, Tryd.ntmps4
  go_wp2_with fail
  refine HB.mono ?_
  rintro e w1 ⟨rfl, hb1⟩
  go_wp2_with fail
  refine (copysign_one w1).mono ?_
  rintro e w2 ⟨rfl, hb2⟩
  have hb12 := hb1.trans (hb2.mono hb1.size)
  go_wp2_with fail
  refine (order_any 9223372036854775808 0 (by decide) (by decide) w2).mono ?_
  rintro e w3 ⟨rfl, hb3⟩
  rw [e4]
  go_wp2_with fail
  go_ret
  exact ⟨rfl, hb12.trans (hb3.mono hb12.size)⟩
end Go.Proofs.YtdomjjpinjdfgaaDoor
