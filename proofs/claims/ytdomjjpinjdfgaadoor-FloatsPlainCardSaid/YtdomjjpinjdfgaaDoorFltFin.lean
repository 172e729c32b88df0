/-
  FltFin: x - x, and the walk of floats.Finite.
-/
import Derived.Test.YtdomjjpinjdfgaaDoorFltPlain
namespace Go.Proofs.YtdomjjpinjdfgaaDoor
open Go.RowKit Ieee
attribute [local go_sem] flt_def fgt_def feq_def fne_def

def isFin (x : Nat) : Bool := decide (rung x < infR)
theorem rnd_zero : rnd 0 = 0 := by decide
theorem sub_fin {x : Nat} (h : rung x < infR) : double.sub x x = some 0 := by
  obtain ⟨m, u, e, _⟩ := read_num x h
  unfold Format.sub
  rw [e]
  have hw : double.write (.number false 0 (-1074 + (u : Int))) = 0 := by rw [write_pos, Nat.zero_mul, rnd_zero]
  have : (Datum.number (fneg x) m (-1074 + (u : Int))).sum (Datum.number (fneg x) m (-1074 + (u : Int))).opposite = some (.number false 0 (-1074 + (u : Int))) := by
    cases fneg x <;> simp [Datum.opposite, Datum.sum, signed] <;> omega
  rw [this]
  simp [hw]
theorem sub_not {x : Nat} (h : ¬ rung x < infR) : double.sub x x = none := by
  unfold Format.sub
  by_cases h1 : rung x = infR
  · rw [read_inf x h1]
    cases fneg x <;> rfl
  · obtain ⟨t, e⟩ := read_nan x (by omega)
    rw [e]
    rfl
/-- a NaN's bits, whichever are drawn -/
theorem cut_nan (t : Nat) : isNan ((t % 2) * 2 ^ 63 + 0x7ff0000000000000 + 1 + (t / 2) % (2 ^ 52 - 1)) = true := by
  unfold isNan rung infR
  rw [decide_eq_true_eq]
  have h1 : t % 2 = 0 ∨ t % 2 = 1 := by omega
  have h2 : t / 2 % (2 ^ 52 - 1) < 2 ^ 52 - 1 := Nat.mod_lt _ (by decide)
  generalize t / 2 % (2 ^ 52 - 1) = e at *
  rcases h1 with h1 | h1 <;> rw [h1] <;> omega
theorem feq_nan {x y : Nat} (h : isNan x = true) : feq x y = false := by rw [feq_eq, h]; rfl
theorem feq_00 : feq 0 0 = true := by decide
theorem and_exp (b : Nat) : b &&& 9218868437227405312 = (b / 4503599627370496 % 2048) * 4503599627370496 := by
  apply Nat.eq_of_testBit_eq
  intro i
  have e1 : (9218868437227405312 : Nat) = (2 ^ 11 - 1) * 2 ^ 52 := by decide
  have e2 : (4503599627370496 : Nat) = 2 ^ 52 := by decide
  have e3 : (2048 : Nat) = 2 ^ 11 := by decide
  rw [e1, e2, e3, Nat.testBit_and, Nat.testBit_mul_two_pow, Nat.testBit_mul_two_pow, Nat.testBit_two_pow_sub_one, Nat.testBit_mod_two_pow, Nat.testBit_div_two_pow]
  by_cases h : 52 ≤ i
  · rw [show i - 52 + 52 = i by omega]
    cases b.testBit i <;> simp [h]
  · simp [h]
theorem fin_bits {b : Nat} (hb : b < 18446744073709551616) : (bits .and .u64 (b : Int) 9218868437227405312 != 9218868437227405312) = isFin b := by
  have e : bits .and .u64 (b : Int) 9218868437227405312 = ((b / 4503599627370496 % 2048 * 4503599627370496 : Nat) : Int) := by
    rw [← and_exp]
    show IntKind.u64.wrap ((BitVec.ofInt 64 (b : Int) &&& BitVec.ofInt 64 9218868437227405312).toNat : Int) = _
    rw [BitVec.toNat_and, BitVec.ofInt_natCast, BitVec.toNat_ofNat, show (BitVec.ofInt 64 9218868437227405312).toNat = 9218868437227405312 from by decide, Nat.mod_eq_of_lt hb, IntKind.wrap_u64]
    have : b &&& 9218868437227405312 ≤ b := Nat.and_le_left
    omega
  rw [e]
  unfold isFin rung infR
  rw [Bool.eq_iff_iff]
  simp only [bne_iff_ne, ne_eq, decide_eq_true_eq]
  omega
theorem run_sub_fin {x : Nat} (h : rung x < infR) (w : World) : (binOp .sub 22 (.float .f64 x) (.float .f64 x)).run Tryd.prog w = .ok (.float .f64 0) w := by
  have h' : FloatKind.f64.format.sub x x = some 0 := sub_fin h
  simp [binOp, Op.floatArith, h']
theorem run_sub_nan {x : Nat} (h : ¬ rung x < infR) (w : World) : ∃ r, isNan r = true ∧ (binOp .sub 22 (.float .f64 x) (.float .f64 x)).run Tryd.prog w = .ok (.float .f64 r) w.drew := by
  have h' : FloatKind.f64.format.sub x x = none := sub_not h
  refine ⟨_, cut_nan (w.tape w.drawn (.nanBits .f64 x x)), ?_⟩
  simp [binOp, Op.floatArith, h', Question.forced, Question.cut]
theorem finite_any (x : Nat) (w : World) :
    Calls Tryd.prog 15 #[.float .f64 x] w (Gives w (.bool (isFin x))) := by
  by_cases h : rung x < infR
  · have h1 := run_sub_fin h
    have h2 := feq_00
    have HC := Lib.hid (show isFin x = true by unfold isFin; simpa using h)
    clear h
    go_enter Tryd.func15, Tryd.ntmps15
    go_wp2_with fail
    go_ret
    exact ⟨by rw [HC.out]; rfl, Below.refl _ _⟩
  · obtain ⟨r, hr, h1⟩ := run_sub_nan h w
    have h2 := feq_nan (y := 0) hr
    have HC := Lib.hid (show isFin x = false by unfold isFin; simpa using h)
    clear h
    go_enter Tryd.func15, Tryd.ntmps15
    go_wp2_with fail
    go_ret
    exact ⟨by rw [HC.out]; rfl, (Below.refl _ _).drew⟩
end Go.Proofs.YtdomjjpinjdfgaaDoor
