/-
  FltWalk0: the walks of floats' order.
-/
import Derived.Test.YtejdnpbkljdahaaDoorFltDef
import Derived.Test.YtejdnpbkljdahaaDoorProg
namespace Go.Proofs.YtejdnpbkljdahaaDoor
open Go.RowKit

def Gives (w : World) (v : Value) (e : Ending) (w' : World) : Prop := e = .returned v ∧ Below w.heap.size w w'
attribute [local go_sem] flt_def fgt_def feq_def fne_def

theorem run_bits (x : Nat) (w : World) : (callFunc 43 #[.float .f64 x]).run Tryd.prog w = .ok (.value (.int .u64 (x : Int))) w := by
  rw [@run_callFunc_extern Tryd.prog 43 _ Extern.MathFloatBits.float64bits Tryd.func43 (by kernel_rfl) (by kernel_rfl) (by kernel_rfl) (by kernel_rfl)]
  rfl
theorem run_frombits (x : Nat) (w : World) : (callFunc 35 #[.int .u64 (x : Int)]).run Tryd.prog w = .ok (.value (.float .f64 x)) w := by
  rw [@run_callFunc_extern Tryd.prog 35 _ Extern.MathFloatBits.float64frombits Tryd.func35 (by kernel_rfl) (by kernel_rfl) (by kernel_rfl) (by kernel_rfl)]
  rfl
theorem i64_neg {x : Nat} (hx : x < 18446744073709551616) : decide (wrap64 (x : Int) < 0) = decide (9223372036854775808 ≤ x) := by
  unfold wrap64; rw [decide_eq_decide]; omega
theorem signbit_any (x : Nat) (hx : x < 18446744073709551616) (w : World) :
    Calls Tryd.prog 42 #[.float .f64 x] w (Gives w (.bool (decide (9223372036854775808 ≤ x)))) := by
  have h1 := run_bits x
  have h2 := i64_neg hx
  go_enter Tryd.func42, Tryd.ntmps42
  go_wp2_with fail
  go_ret
  exact ⟨by rw [← h2]; rfl, Below.refl _ _⟩
theorem isnanint_any (x : Int) (w : World) :
    Calls Tryd.prog 41 #[.int .i64 x] w (Gives w (.bool false)) := by
  go_enter Tryd.func41, Tryd.ntmps41
  go_wp2_with fail
  go_ret
  exact ⟨rfl, Below.refl _ _⟩
theorem compareint_any (x y : Int) (w : World) :
    Calls Tryd.prog 30 #[.int .i64 x, .int .i64 y] w (Gives w (.int .i64 (cmpI x y))) := by
  go_enter Tryd.func30, Tryd.ntmps30
  go_wp2_with fail
  refine (isnanint_any x w).mono ?_
  rintro e w1 ⟨rfl, hb1⟩
  go_wp2_with fail
  refine (isnanint_any y w1).mono ?_
  rintro e w2 ⟨rfl, hb2⟩
  have hb := hb1.trans (hb2.mono hb1.size)
  by_cases h1 : x < y
  · have d1 : decide (x < y) = true := by simp [h1]
    have HC := Lib.hid (show cmpI x y = -1 by unfold cmpI; rw [if_pos h1])
    go_wp2_with fail
    go_ret
    exact ⟨by rw [HC.out]; rfl, hb⟩
  · have d1 : decide (x < y) = false := by simp; omega
    by_cases h2 : y < x
    · have d2 : decide (y < x) = true := by simp [h2]
      have HC := Lib.hid (show cmpI x y = 1 by unfold cmpI; rw [if_neg h1, if_pos h2])
      go_wp2_with fail
      go_ret
      exact ⟨by rw [HC.out]; rfl, hb⟩
    · have d2 : decide (y < x) = false := by simp; omega
      have HC := Lib.hid (show cmpI x y = 0 by unfold cmpI; rw [if_neg h1, if_neg h2])
      go_wp2_with fail
      go_ret
      exact ⟨by rw [HC.out]; rfl, hb⟩
theorem fne_self (x : Nat) : fne x x = isNan x := by
  rw [fne_eq, feq_eq]; cases isNan x <;> simp
theorem key_zero : key 0 = 0 := by decide
theorem feq_zero {x : Nat} (hx : x < 18446744073709551616) : feq x 0 = (decide (x = 0) || decide (x = 9223372036854775808)) := by
  rw [feq_eq, key_zero, key_big hx, show isNan 0 = false from by decide]
  cases h : isNan x
  · by_cases h0 : x = 0
    · subst h0; rfl
    · by_cases h1 : x = 9223372036854775808
      · subst h1; rfl
      · simp only [h0, h1, decide_false, Bool.or_false, Bool.not_false, Bool.true_and, decide_eq_false_iff_not]
        split <;> omega
  · by_cases h0 : x = 0
    · subst h0; revert h; decide
    · by_cases h1 : x = 9223372036854775808
      · subst h1; revert h; decide
      · simp [h0, h1]
theorem class_any (x : Nat) (hx : x < 18446744073709551616) (w : World) :
    Calls Tryd.prog 31 #[.float .f64 x] w (Gives w (.int .i64 (clsN x))) := by
  go_enter Tryd.func31, Tryd.ntmps31
  cases h1 : fne x x
  · have hn : isNan x = false := by rw [← fne_self]; exact h1
    cases h2 : feq x 0
    · rw [feq_zero hx] at h2
      have HC := Lib.hid (show clsN x = 1 by unfold clsN; rw [hn]; simp_all)
      rw [← feq_zero hx] at h2
      go_wp2_with fail
      go_ret
      exact ⟨by rw [HC.out]; rfl, Below.refl _ _⟩
    · go_wp2_with fail
      refine (signbit_any x hx w).mono ?_
      rintro e w1 ⟨rfl, hb1⟩
      rw [feq_zero hx] at h2
      by_cases h3 : x = 9223372036854775808
      · have hd : decide (9223372036854775808 ≤ x) = true := by simp; omega
        have HC := Lib.hid (show clsN x = 0 by unfold clsN; rw [hn, if_pos h3]; rfl)
        clear h2 h3
        go_wp2_with fail
        go_ret
        exact ⟨by rw [HC.out]; rfl, hb1⟩
      · have h4 : x = 0 := by simpa [h3] using h2
        have hd : decide (9223372036854775808 ≤ x) = false := by simp; omega
        have HC := Lib.hid (show clsN x = 1 by unfold clsN; rw [hn, if_neg h3]; rfl)
        clear h2 h3 h4
        go_wp2_with fail
        go_ret
        exact ⟨by rw [HC.out]; rfl, hb1⟩
  · have hn : isNan x = true := by rw [← fne_self]; exact h1
    have HC := Lib.hid (show clsN x = 2 by unfold clsN; rw [hn]; rfl)
    go_wp2_with fail
    go_ret
    exact ⟨by rw [HC.out]; rfl, Below.refl _ _⟩
theorem order_any (x y : Nat) (hx : x < 18446744073709551616) (hy : y < 18446744073709551616) (w : World) :
    Calls Tryd.prog 13 #[.float .f64 x, .float .f64 y] w (Gives w (.int .i64 (cmpI (place x) (place y)))) := by
  rw [← ordN_eq hx hy]
  go_enter Tryd.func13, Tryd.ntmps13
  cases h1 : flt x y
  · cases h2 : fgt x y
    · have HC := Lib.hid (show ordN x y = cmpI (clsN x) (clsN y) by unfold ordN; rw [h1, h2]; rfl)
      go_wp2_with fail
      refine (class_any x hx w).mono ?_
      rintro e w1 ⟨rfl, hb1⟩
      go_wp2_with fail
      refine (class_any y hy w1).mono ?_
      rintro e w2 ⟨rfl, hb2⟩
      have hb := hb1.trans (hb2.mono hb1.size)
      go_wp2_with fail
      refine (compareint_any (clsN x) (clsN y) w2).mono ?_
      rintro e w3 ⟨rfl, hb3⟩
      go_wp2_with fail
      go_ret
      exact ⟨by rw [HC.out]; rfl, hb.trans (hb3.mono hb.size)⟩
    · have HC := Lib.hid (show ordN x y = 1 by unfold ordN; rw [h1, h2]; rfl)
      go_wp2_with fail
      go_ret
      exact ⟨by rw [HC.out]; rfl, Below.refl _ _⟩
  · have HC := Lib.hid (show ordN x y = -1 by unfold ordN; rw [h1]; rfl)
    go_wp2_with fail
    go_ret
    exact ⟨by rw [HC.out]; rfl, Below.refl _ _⟩

/-! ### the document's order -/
theorem and_mask (x : Nat) : bits .and .u64 (x : Int) 9223372036854775807 = ((x % 9223372036854775808 : Nat) : Int) := by
  show IntKind.u64.wrap ((BitVec.ofInt 64 (x : Int) &&& BitVec.ofInt 64 9223372036854775807).toNat : Int) = _
  rw [BitVec.toNat_and, BitVec.ofInt_natCast, BitVec.toNat_ofNat, show (BitVec.ofInt 64 9223372036854775807).toNat = 2 ^ 63 - 1 from by decide, Nat.and_two_pow_sub_one_eq_mod, IntKind.wrap_u64]
  omega
theorem raw_any (x : Nat) (w : World) :
    Calls Tryd.prog 32 #[.float .f64 x] w (Gives w (.int .u64 (x : Int))) := by
  have h1 := run_bits x
  go_enter Tryd.func32, Tryd.ntmps32
  go_wp2_with fail
  go_ret
  exact ⟨rfl, Below.refl _ _⟩
theorem refnan_any (x : Nat) (w : World) :
    Calls Tryd.prog 37 #[.float .f64 x] w (Gives w (.bool (isNan x))) := by
  have h1 := and_mask x
  have HC := Lib.hid (show decide (9218868437227405312 < ((x % 9223372036854775808 : Nat) : Int)) = isNan x by unfold isNan rung infR; rw [decide_eq_decide]; omega)
  go_enter Tryd.func37, Tryd.ntmps37
  go_wp2_with fail
  refine (raw_any x w).mono ?_
  rintro e w1 ⟨rfl, hb1⟩
  go_wp2_with fail
  go_ret
  exact ⟨by rw [← HC.out]; rfl, hb1⟩
end Go.Proofs.YtejdnpbkljdahaaDoor
