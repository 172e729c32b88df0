/-
  FltBits: floats by their bits: the walks of floats.Plain, Bits, From, and of the reference's NaN, Raw, Bits.
-/
import Derived.Test.YtchclmimdpnkaaaDoorFltDef
import Derived.Test.YtchclmimdpnkaaaDoorProg
import Derived.Laws.Externs
namespace Go.Proofs.YtchclmimdpnkaaaDoor
open Go.RowKit Ieee
attribute [local go_sem] flt_def fgt_def feq_def fne_def

def Gives (w : World) (v : Value) (e : Ending) (w' : World) : Prop := e = .returned v ∧ Below w.heap.size w w'
theorem run_bits (x : Nat) (w : World) : (callFunc 38 #[.float .f64 x]).run Tryd.prog w = .ok (.value (.int .u64 (x : Int))) w := by
  rw [@run_callFunc_extern Tryd.prog 38 _ Extern.MathFloatBits.float64bits Tryd.func38 (by kernel_rfl) (by kernel_rfl) (by kernel_rfl) (by kernel_rfl)]
  rfl
theorem run_frombits (x : Nat) (w : World) : (callFunc 40 #[.int .u64 (x : Int)]).run Tryd.prog w = .ok (.value (.float .f64 x)) w := by
  rw [@run_callFunc_extern Tryd.prog 40 _ Extern.MathFloatBits.float64frombits Tryd.func40 (by kernel_rfl) (by kernel_rfl) (by kernel_rfl) (by kernel_rfl)]
  rfl
theorem i64_neg {x : Nat} (hx : x < 18446744073709551616) : decide (wrap64 (x : Int) < 0) = decide (9223372036854775808 ≤ x) := by
  unfold wrap64; rw [decide_eq_decide]; omega
theorem signbit_any (x : Nat) (hx : x < 18446744073709551616) (w : World) :
    Calls Tryd.prog 58 #[.float .f64 x] w (Gives w (.bool (decide (9223372036854775808 ≤ x)))) := by
  have h1 := run_bits x
  have h2 := i64_neg hx
  go_enter Tryd.func58, Tryd.ntmps58
  go_wp2_with fail
  go_ret
  exact ⟨by rw [← h2]; rfl, Below.refl _ _⟩
theorem fne_self (x : Nat) : fne x x = isNan x := by
  rw [fne_eq, feq_eq]; cases isNan x <;> simp
theorem key_zero : key 0 = 0 := by decide
theorem feq_zero {x : Nat} (hx : x < 18446744073709551616) : feq x 0 = (decide (x = 0) || decide (x = 9223372036854775808)) := by
  rw [feq_eq, key_zero, key_big hx, show isNan 0 = false from by decide]
  cases h : isNan x
  · by_cases h0 : x = 0
    · subst h0; rfl
    · by_cases h1 : x = 9223372036854775808
      · subst h1; rfl
      · simp only [h0, h1, decide_false, Bool.or_false, Bool.not_false, Bool.true_and, decide_eq_false_iff_not]
        split <;> omega
  · by_cases h0 : x = 0
    · subst h0; revert h; decide
    · by_cases h1 : x = 9223372036854775808
      · subst h1; revert h; decide
      · simp [h0, h1]
theorem class_any (x : Nat) (hx : x < 18446744073709551616) (w : World) :
    Calls Tryd.prog 53 #[.float .f64 x] w (Gives w (.int .i64 (clsN x))) := by
  go_enter Tryd.func53, Tryd.ntmps53
  cases h1 : fne x x
  · have hn : isNan x = false := by rw [← fne_self]; exact h1
    cases h2 : feq x 0
    · rw [feq_zero hx] at h2
      have HC := Lib.hid (show clsN x = 1 by unfold clsN; rw [hn]; simp_all)
      rw [← feq_zero hx] at h2
      go_wp2_with fail
      go_ret
      exact ⟨by rw [HC.out]; rfl, Below.refl _ _⟩
    · go_wp2_with fail
      refine (signbit_any x hx w).mono ?_
      rintro e w1 ⟨rfl, hb1⟩
      rw [feq_zero hx] at h2
      by_cases h3 : x = 9223372036854775808
      · have hd : decide (9223372036854775808 ≤ x) = true := by simp; omega
        have HC := Lib.hid (show clsN x = 0 by unfold clsN; rw [hn, if_pos h3]; rfl)
        clear h2 h3
        go_wp2_with fail
        go_ret
        exact ⟨by rw [HC.out]; rfl, hb1⟩
      · have h4 : x = 0 := by simpa [h3] using h2
        have hd : decide (9223372036854775808 ≤ x) = false := by simp; omega
        have HC := Lib.hid (show clsN x = 1 by unfold clsN; rw [hn, if_neg h3]; rfl)
        clear h2 h3 h4
        go_wp2_with fail
        go_ret
        exact ⟨by rw [HC.out]; rfl, hb1⟩
  · have hn : isNan x = true := by rw [← fne_self]; exact h1
    have HC := Lib.hid (show clsN x = 2 by unfold clsN; rw [hn]; rfl)
    go_wp2_with fail
    go_ret
    exact ⟨by rw [HC.out]; rfl, Below.refl _ _⟩
/-! ### the document's order -/
theorem and_mask (x : Nat) : bits .and .u64 (x : Int) 9223372036854775807 = ((x % 9223372036854775808 : Nat) : Int) := by
  show IntKind.u64.wrap ((BitVec.ofInt 64 (x : Int) &&& BitVec.ofInt 64 9223372036854775807).toNat : Int) = _
  rw [BitVec.toNat_and, BitVec.ofInt_natCast, BitVec.toNat_ofNat, show (BitVec.ofInt 64 9223372036854775807).toNat = 2 ^ 63 - 1 from by decide, Nat.and_two_pow_sub_one_eq_mod, IntKind.wrap_u64]
  omega
theorem raw_any (x : Nat) (w : World) :
    Calls Tryd.prog 20 #[.float .f64 x] w (Gives w (.int .u64 (x : Int))) := by
  have h1 := run_bits x
  go_enter Tryd.func20, Tryd.ntmps20
  go_wp2_with fail
  go_ret
  exact ⟨rfl, Below.refl _ _⟩
theorem refnan_any (x : Nat) (w : World) :
    Calls Tryd.prog 39 #[.float .f64 x] w (Gives w (.bool (isNan x))) := by
  have h1 := and_mask x
  have HC := Lib.hid (show decide (9218868437227405312 < ((x % 9223372036854775808 : Nat) : Int)) = isNan x by unfold isNan rung infR; rw [decide_eq_decide]; omega)
  go_enter Tryd.func39, Tryd.ntmps39
  go_wp2_with fail
  refine (raw_any x w).mono ?_
  rintro e w1 ⟨rfl, hb1⟩
  go_wp2_with fail
  go_ret
  exact ⟨by rw [← HC.out]; rfl, hb1⟩
def nanC : Nat := 9221120237041090561
def plainN (x : Nat) : Nat := if isNan x then nanC else if x = 9223372036854775808 then 0 else x
theorem nan_any (w : World) : Calls Tryd.prog 54 #[] w (Gives w (.float .f64 nanC)) := by
  have h1 := run_frombits nanC
  have h2 : ((nanC : Nat) : Int) = 9221120237041090561 := rfl
  rw [h2] at h1
  go_enter Tryd.func54, Tryd.ntmps54
  go_wp2_with fail
  go_ret
  exact ⟨rfl, Below.refl _ _⟩
theorem plain_any (x : Nat) (hx : x < 18446744073709551616) (w : World) :
    Calls Tryd.prog 49 #[.float .f64 x] w (Gives w (.float .f64 (plainN x))) := by
  go_enter Tryd.func49, Tryd.ntmps49
  go_wp2_with fail
  refine (class_any x hx w).mono ?_
  rintro e w1 ⟨rfl, hb1⟩
  cases hn : isNan x
  · by_cases h0 : x = 9223372036854775808
    · have hc : clsN x = 0 := by unfold clsN; rw [hn, if_pos h0]; rfl
      have HC := Lib.hid (show plainN x = 0 by unfold plainN; rw [hn, if_pos h0]; rfl)
      rw [hc]
      clear h0
      go_wp2_with fail
      go_ret
      exact ⟨by rw [HC.out]; rfl, hb1⟩
    · have hc : clsN x = 1 := by unfold clsN; rw [hn, if_neg h0]; rfl
      have HC := Lib.hid (show plainN x = x by unfold plainN; rw [hn, if_neg h0]; rfl)
      rw [hc]
      clear h0
      go_wp2_with fail
      go_ret
      exact ⟨by rw [HC.out]; rfl, hb1⟩
  · have hc : clsN x = 2 := by unfold clsN; rw [hn]; rfl
    have HC := Lib.hid (show plainN x = nanC by unfold plainN; rw [hn]; rfl)
    rw [hc]
    go_wp2_with fail
    refine (nan_any w1).mono ?_
    rintro e w2 ⟨rfl, hb2⟩
    go_wp2_with fail
    go_ret
    exact ⟨by rw [HC.out]; rfl, hb1.trans (hb2.mono hb1.size)⟩
theorem bits_any (x : Nat) (hx : x < 18446744073709551616) (w : World) :
    Calls Tryd.prog 36 #[.float .f64 x] w (Gives w (.int .u64 (plainN x : Int))) := by
  have h1 := run_bits (plainN x)
  go_enter Tryd.func36, Tryd.ntmps36
  go_wp2_with fail
  refine (plain_any x hx w).mono ?_
  rintro e w1 ⟨rfl, hb1⟩
  go_wp2_with fail
  go_ret
  exact ⟨rfl, hb1⟩
theorem refbits_any (x : Nat) (hx : x < 18446744073709551616) (w : World) :
    Calls Tryd.prog 21 #[.float .f64 x] w (Gives w (.int .u64 (plainN x : Int))) := by
  go_enter Tryd.func21, Tryd.ntmps21
  go_wp2_with fail
  refine (refnan_any x w).mono ?_
  rintro e w1 ⟨rfl, hb1⟩
  cases hn : isNan x
  · go_wp2_with fail
    refine (raw_any x w1).mono ?_
    rintro e w2 ⟨rfl, hb2'⟩
    have hb2 := hb1.trans (hb2'.mono hb1.size)
    clear hb2'
    by_cases h0 : x = 9223372036854775808
    · have hd : ((x : Int) == 9223372036854775808) = true := by simp; omega
      have HC := Lib.hid (show plainN x = 0 by unfold plainN; rw [hn, if_pos h0]; rfl)
      clear h0
      go_wp2_with fail
      go_ret
      exact ⟨by rw [HC.out]; rfl, hb2⟩
    · have hd : ((x : Int) == 9223372036854775808) = false := by simp; omega
      have HC := Lib.hid (show plainN x = x by unfold plainN; rw [hn, if_neg h0]; rfl)
      clear h0
      go_wp2_with fail
      refine (raw_any x w2).mono ?_
      rintro e w3 ⟨rfl, hb3'⟩
      have hb3 := hb2.trans (hb3'.mono hb2.size)
      clear hb3'
      go_wp2_with fail
      go_ret
      exact ⟨by rw [HC.out]; rfl, hb3⟩
  · have HC := Lib.hid (show plainN x = nanC by unfold plainN; rw [hn]; rfl)
    go_wp2_with fail
    go_ret
    exact ⟨by rw [HC.out]; rfl, hb1⟩
theorem from_any (x : Nat) (hx : x < 18446744073709551616) (w : World) :
    Calls Tryd.prog 37 #[.int .u64 (x : Int)] w (Gives w (.float .f64 (plainN x))) := by
  have h1 := run_frombits x
  go_enter Tryd.func37, Tryd.ntmps37
  go_wp2_with fail
  refine (plain_any x hx w).mono ?_
  rintro e w1 ⟨rfl, hb1⟩
  go_wp2_with fail
  go_ret
  exact ⟨rfl, hb1⟩
end Go.Proofs.YtchclmimdpnkaaaDoor
