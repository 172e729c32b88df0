/-
  FltWalk: the walks of floats' order.
-/
import Derived.Test.YteoiedlffifpoaaDoorFltDef
import Derived.Test.YteoiedlffifpoaaDoorProg
namespace Go.Proofs.YteoiedlffifpoaaDoor
open Go.RowKit

def Gives (w : World) (v : Value) (e : Ending) (w' : World) : Prop := e = .returned v ∧ Below w.heap.size w w'
attribute [local go_sem] flt_def fgt_def feq_def fne_def

theorem run_bits (x : Nat) (w : World) : (callFunc 36 #[.float .f64 x]).run Tryd.prog w = .ok (.value (.int .u64 (x : Int))) w := by
  rw [@run_callFunc_extern Tryd.prog 36 _ Extern.MathFloatBits.float64bits Tryd.func36 (by kernel_rfl) (by kernel_rfl) (by kernel_rfl) (by kernel_rfl)]
  rfl
theorem run_frombits (x : Nat) (w : World) : (callFunc 30 #[.int .u64 (x : Int)]).run Tryd.prog w = .ok (.value (.float .f64 x)) w := by
  rw [@run_callFunc_extern Tryd.prog 30 _ Extern.MathFloatBits.float64frombits Tryd.func30 (by kernel_rfl) (by kernel_rfl) (by kernel_rfl) (by kernel_rfl)]
  rfl
theorem i64_neg {x : Nat} (hx : x < 18446744073709551616) : decide (wrap64 (x : Int) < 0) = decide (9223372036854775808 ≤ x) := by
  unfold wrap64; rw [decide_eq_decide]; omega
theorem signbit_any (x : Nat) (hx : x < 18446744073709551616) (w : World) :
    Calls Tryd.prog 40 #[.float .f64 x] w (Gives w (.bool (decide (9223372036854775808 ≤ x)))) := by
  have h1 := run_bits x
  have h2 := i64_neg hx
  go_enter Tryd.func40, Tryd.ntmps40
  go_wp2_with fail
  go_ret
  exact ⟨by rw [← h2]; rfl, Below.refl _ _⟩
theorem isnanint_any (x : Int) (w : World) :
    Calls Tryd.prog 39 #[.int .i64 x] w (Gives w (.bool false)) := by
  go_enter Tryd.func39, Tryd.ntmps39
  go_wp2_with fail
  go_ret
  exact ⟨rfl, Below.refl _ _⟩
theorem compareint_any (x y : Int) (w : World) :
    Calls Tryd.prog 33 #[.int .i64 x, .int .i64 y] w (Gives w (.int .i64 (cmpI x y))) := by
  go_enter Tryd.func33, Tryd.ntmps33
  go_wp2_with fail
  refine (isnanint_any x w).mono ?_
  rintro e w1 ⟨rfl, hb1⟩
  go_wp2_with fail
  refine (isnanint_any y w1).mono ?_
  rintro e w2 ⟨rfl, hb2⟩
  have hb := hb1.trans (hb2.mono hb1.size)
  by_cases h1 : x < y
  · have d1 : decide (x < y) = true := by simp [h1]
    have HC := Lib.hid (show cmpI x y = -1 by unfold cmpI; rw [if_pos h1])
    go_wp2_with fail
    go_ret
    exact ⟨by rw [HC.out]; rfl, hb⟩
  · have d1 : decide (x < y) = false := by simp; omega
    by_cases h2 : y < x
    · have d2 : decide (y < x) = true := by simp [h2]
      have HC := Lib.hid (show cmpI x y = 1 by unfold cmpI; rw [if_neg h1, if_pos h2])
      go_wp2_with fail
      go_ret
      exact ⟨by rw [HC.out]; rfl, hb⟩
    · have d2 : decide (y < x) = false := by simp; omega
      have HC := Lib.hid (show cmpI x y = 0 by unfold cmpI; rw [if_neg h1, if_neg h2])
      go_wp2_with fail
      go_ret
      exact ⟨by rw [HC.out]; rfl, hb⟩
theorem fne_self (x : Nat) : fne x x = isNan x := by
  rw [fne_eq, feq_eq]; cases isNan x <;> simp
theorem key_zero : key 0 = 0 := by decide
theorem feq_zero {x : Nat} (hx : x < 18446744073709551616) : feq x 0 = (decide (x = 0) || decide (x = 9223372036854775808)) := by
  rw [feq_eq, key_zero, key_big hx, show isNan 0 = false from by decide]
  cases h : isNan x
  · by_cases h0 : x = 0
    · subst h0; rfl
    · by_cases h1 : x = 9223372036854775808
      · subst h1; rfl
      · simp only [h0, h1, decide_false, Bool.or_false, Bool.not_false, Bool.true_and, decide_eq_false_iff_not]
        split <;> omega
  · by_cases h0 : x = 0
    · subst h0; revert h; decide
    · by_cases h1 : x = 9223372036854775808
      · subst h1; revert h; decide
      · simp [h0, h1]
theorem class_any (x : Nat) (hx : x < 18446744073709551616) (w : World) :
    Calls Tryd.prog 34 #[.float .f64 x] w (Gives w (.int .i64 (clsN x))) := by
  go_enter Tryd.func34, Tryd.ntmps34
  cases h1 : fne x x
  · have hn : isNan x = false := by rw [← fne_self]; exact h1
    cases h2 : feq x 0
    · rw [feq_zero hx] at h2
      have HC := Lib.hid (show clsN x = 1 by unfold clsN; rw [hn]; simp_all)
      rw [← feq_zero hx] at h2
      go_wp2_with fail
      go_ret
      exact ⟨by rw [HC.out]; rfl, Below.refl _ _⟩
    · go_wp2_with fail
      refine (signbit_any x hx w).mono ?_
      rintro e w1 ⟨rfl, hb1⟩
      rw [feq_zero hx] at h2
      by_cases h3 : x = 9223372036854775808
      · have hd : decide (9223372036854775808 ≤ x) = true := by simp; omega
        have HC := Lib.hid (show clsN x = 0 by unfold clsN; rw [hn, if_pos h3]; rfl)
        clear h2 h3
        go_wp2_with fail
        go_ret
        exact ⟨by rw [HC.out]; rfl, hb1⟩
      · have h4 : x = 0 := by simpa [h3] using h2
        have hd : decide (9223372036854775808 ≤ x) = false := by simp; omega
        have HC := Lib.hid (show clsN x = 1 by unfold clsN; rw [hn, if_neg h3]; rfl)
        clear h2 h3 h4
        go_wp2_with fail
        go_ret
        exact ⟨by rw [HC.out]; rfl, hb1⟩
  · have hn : isNan x = true := by rw [← fne_self]; exact h1
    have HC := Lib.hid (show clsN x = 2 by unfold clsN; rw [hn]; rfl)
    go_wp2_with fail
    go_ret
    exact ⟨by rw [HC.out]; rfl, Below.refl _ _⟩
theorem order_any (x y : Nat) (hx : x < 18446744073709551616) (hy : y < 18446744073709551616) (w : World) :
    Calls Tryd.prog 11 #[.float .f64 x, .float .f64 y] w (Gives w (.int .i64 (cmpI (place x) (place y)))) := by
  rw [← ordN_eq hx hy]
  go_enter Tryd.func11, Tryd.ntmps11
  cases h1 : flt x y
  · cases h2 : fgt x y
    · have HC := Lib.hid (show ordN x y = cmpI (clsN x) (clsN y) by unfold ordN; rw [h1, h2]; rfl)
      go_wp2_with fail
      refine (class_any x hx w).mono ?_
      rintro e w1 ⟨rfl, hb1⟩
      go_wp2_with fail
      refine (class_any y hy w1).mono ?_
      rintro e w2 ⟨rfl, hb2⟩
      have hb := hb1.trans (hb2.mono hb1.size)
      go_wp2_with fail
      refine (compareint_any (clsN x) (clsN y) w2).mono ?_
      rintro e w3 ⟨rfl, hb3⟩
      go_wp2_with fail
      go_ret
      exact ⟨by rw [HC.out]; rfl, hb.trans (hb3.mono hb.size)⟩
    · have HC := Lib.hid (show ordN x y = 1 by unfold ordN; rw [h1, h2]; rfl)
      go_wp2_with fail
      go_ret
      exact ⟨by rw [HC.out]; rfl, Below.refl _ _⟩
  · have HC := Lib.hid (show ordN x y = -1 by unfold ordN; rw [h1]; rfl)
    go_wp2_with fail
    go_ret
    exact ⟨by rw [HC.out]; rfl, Below.refl _ _⟩

/-! ### the document's order -/
theorem and_mask (x : Nat) : bits .and .u64 (x : Int) 9223372036854775807 = ((x % 9223372036854775808 : Nat) : Int) := by
  show IntKind.u64.wrap ((BitVec.ofInt 64 (x : Int) &&& BitVec.ofInt 64 9223372036854775807).toNat : Int) = _
  rw [BitVec.toNat_and, BitVec.ofInt_natCast, BitVec.toNat_ofNat, show (BitVec.ofInt 64 9223372036854775807).toNat = 2 ^ 63 - 1 from by decide, Nat.and_two_pow_sub_one_eq_mod, IntKind.wrap_u64]
  omega
theorem raw_any (x : Nat) (w : World) :
    Calls Tryd.prog 22 #[.float .f64 x] w (Gives w (.int .u64 (x : Int))) := by
  have h1 := run_bits x
  go_enter Tryd.func22, Tryd.ntmps22
  go_wp2_with fail
  go_ret
  exact ⟨rfl, Below.refl _ _⟩
theorem refnan_any (x : Nat) (w : World) :
    Calls Tryd.prog 15 #[.float .f64 x] w (Gives w (.bool (isNan x))) := by
  have h1 := and_mask x
  have HC := Lib.hid (show decide (9218868437227405312 < ((x % 9223372036854775808 : Nat) : Int)) = isNan x by unfold isNan rung infR; rw [decide_eq_decide]; omega)
  go_enter Tryd.func15, Tryd.ntmps15
  go_wp2_with fail
  refine (raw_any x w).mono ?_
  rintro e w1 ⟨rfl, hb1⟩
  go_wp2_with fail
  go_ret
  exact ⟨by rw [← HC.out]; rfl, hb1⟩
theorem rank_any (x : Nat) (hx : x < 18446744073709551616) (w : World) :
    Calls Tryd.prog 35 #[.float .f64 x] w (Gives w (.tuple #[.bool (rankF x), .int .u64 (rankN x)])) := by
  go_enter Tryd.func35, Tryd.ntmps35
  go_wp2_with fail
  refine (refnan_any x w).mono ?_
  rintro e w1 ⟨rfl, hb1⟩
  cases hn : isNan x
  · go_wp2_with fail
    refine (raw_any x w1).mono ?_
    rintro e w2 ⟨rfl, hb2⟩
    have hb := hb1.trans (hb2.mono hb1.size)
    by_cases h3 : 9223372036854775808 ≤ x
    · have hd : decide ((9223372036854775808 : Int) ≤ (x : Int)) = true := by simp; omega
      have HC := Lib.hid (show rankF x = false ∧ rankN x = 9223372036854775807 - ((x : Int) - 9223372036854775808) by unfold rankF rankN; rw [hn, if_pos h3]; simp; omega)
      have HX := Lib.hid hx
      go_wp2_with fail
      go_ret2
      exact ⟨by rw [HC.out.1, HC.out.2]; rfl, hb⟩
    · have hd : decide ((9223372036854775808 : Int) ≤ (x : Int)) = false := by simp; omega
      have HC := Lib.hid (show rankF x = true ∧ rankN x = (x : Int) by unfold rankF rankN; rw [hn, if_neg h3]; simp; omega)
      go_wp2_with fail
      go_ret2
      exact ⟨by rw [HC.out.1, HC.out.2]; rfl, hb⟩
  · have HC := Lib.hid (show rankF x = true ∧ rankN x = 18446744073709551615 by unfold rankF rankN; rw [hn]; simp)
    go_wp2_with fail
    go_ret2
    exact ⟨by rw [HC.out.1, HC.out.2]; rfl, hb1⟩
def refPick (p q : Bool) (c : Int) : Int := if !p && q then -1 else if p && !q then 1 else c
theorem reforder_any (x y : Nat) (hx : x < 18446744073709551616) (hy : y < 18446744073709551616) (w : World) :
    Calls Tryd.prog 12 #[.float .f64 x, .float .f64 y] w (Gives w (.int .i64 (cmpI (place x) (place y)))) := by
  rw [← refOrdN_eq hx hy]
  go_enter Tryd.func12, Tryd.ntmps12
  go_wp2_with fail
  refine (rank_any x hx w).mono ?_
  rintro e w1 ⟨rfl, hb1⟩
  go_wp2_with fail
  refine (rank_any y hy w1).mono ?_
  rintro e w2 ⟨rfl, hb2⟩
  have hb := hb1.trans (hb2.mono hb1.size)
  have HC := Lib.hid (show refOrdN x y = refPick (rankF x) (rankF y) (cmpI (rankN x) (rankN y)) from rfl)
  generalize rankF x = p at *
  generalize rankF y = q at *
  generalize rankN x = m at *
  generalize rankN y = n at *
  cases p <;> cases q
  case false.true =>
    go_wp2_with fail
    go_ret
    exact ⟨by rw [HC.out]; rfl, hb⟩
  case true.false =>
    go_wp2_with fail
    go_ret
    exact ⟨by rw [HC.out]; rfl, hb⟩
  all_goals
    by_cases h1 : m < n
    · have d1 : decide (m < n) = true := by simp [h1]
      have HD := Lib.hid (show cmpI m n = -1 by unfold cmpI; rw [if_pos h1])
      clear h1
      go_wp2_with fail
      go_ret
      exact ⟨by rw [HC.out, HD.out]; rfl, hb⟩
    · have d1 : decide (m < n) = false := by simp; omega
      by_cases h2 : n < m
      · have d2 : decide (n < m) = true := by simp [h2]
        have HD := Lib.hid (show cmpI m n = 1 by unfold cmpI; rw [if_neg h1, if_pos h2])
        clear h1 h2
        go_wp2_with fail
        go_ret
        exact ⟨by rw [HC.out, HD.out]; rfl, hb⟩
      · have d2 : decide (n < m) = false := by simp; omega
        have HD := Lib.hid (show cmpI m n = 0 by unfold cmpI; rw [if_neg h1, if_neg h2])
        clear h1 h2
        go_wp2_with fail
        go_ret
        exact ⟨by rw [HC.out, HD.out]; rfl, hb⟩
end Go.Proofs.YteoiedlffifpoaaDoor
