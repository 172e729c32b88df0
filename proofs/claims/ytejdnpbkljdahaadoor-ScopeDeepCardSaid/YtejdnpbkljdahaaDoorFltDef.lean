/-
  FltDef: floats' order, told by places. No program.
-/
import Derived.Test.YtejdnpbkljdahaaDoorFloat
import Derived.WalkLawsBesides
namespace Go.Proofs.YtejdnpbkljdahaaDoor
open Go.RowKit Ieee

def flt (a b : Nat) : Bool := FloatKind.f64.format.order a b == some .lt
def fgt (a b : Nat) : Bool := FloatKind.f64.format.order a b == some .gt
def feq (a b : Nat) : Bool := FloatKind.f64.format.order a b == some .eq
def fne (a b : Nat) : Bool := FloatKind.f64.format.order a b != some .eq
theorem flt_def (a b : Nat) : (FloatKind.f64.format.order a b == some .lt) = flt a b := rfl
theorem fgt_def (a b : Nat) : (FloatKind.f64.format.order a b == some .gt) = fgt a b := rfl
theorem feq_def (a b : Nat) : (FloatKind.f64.format.order a b == some .eq) = feq a b := rfl
theorem fne_def (a b : Nat) : (FloatKind.f64.format.order a b != some .eq) = fne a b := rfl

theorem flt_eq (a b : Nat) : flt a b = (!isNan a && !isNan b && decide (key a < key b)) := by
  unfold flt
  show (double.order a b == some .lt) = _
  cases ha : isNan a
  · cases hb : isNan b
    · rw [order_key a b ha hb]
      rcases Int.lt_trichotomy (key a) (key b) with h | h | h
      · rw [cmp_lt h]; simp [h]
      · rw [h, cmp_self]; simp
      · rw [cmp_gt h]; simp; omega
    · rw [order_nan_right a b hb]; rfl
  · rw [order_nan_left a b ha]; rfl
theorem fgt_eq (a b : Nat) : fgt a b = (!isNan a && !isNan b && decide (key b < key a)) := by
  unfold fgt
  show (double.order a b == some .gt) = _
  cases ha : isNan a
  · cases hb : isNan b
    · rw [order_key a b ha hb]
      rcases Int.lt_trichotomy (key a) (key b) with h | h | h
      · rw [cmp_lt h]; simp; omega
      · rw [h, cmp_self]; simp
      · rw [cmp_gt h]; simp [h]
    · rw [order_nan_right a b hb]; rfl
  · rw [order_nan_left a b ha]; rfl
theorem feq_eq (a b : Nat) : feq a b = (!isNan a && !isNan b && decide (key a = key b)) := by
  unfold feq
  show (double.order a b == some .eq) = _
  cases ha : isNan a
  · cases hb : isNan b
    · rw [order_key a b ha hb]
      rcases Int.lt_trichotomy (key a) (key b) with h | h | h
      · rw [cmp_lt h]; simp; omega
      · rw [h, cmp_self]; simp
      · rw [cmp_gt h]; simp; omega
    · rw [order_nan_right a b hb]; rfl
  · rw [order_nan_left a b ha]; rfl
theorem fne_eq (a b : Nat) : fne a b = !(feq a b) := rfl

/-! ### the place of a float -/
def clsN (x : Nat) : Int := if isNan x then 2 else if x = 9223372036854775808 then 0 else 1
def place (x : Nat) : Int := if isNan x then 18446744073709551616 else if 9223372036854775808 ≤ x then 9223372036854775807 - (x : Int) else (x : Int)
def cmpI (p q : Int) : Int := if p < q then -1 else if q < p then 1 else 0
theorem cmpI_neg (p q : Int) : cmpI q p = - cmpI p q := by
  unfold cmpI; split <;> split <;> omega
theorem key_big {x : Nat} (hx : x < 18446744073709551616) : key x = if 9223372036854775808 ≤ x then 9223372036854775808 - (x : Int) else (x : Int) := by
  unfold key fneg rung
  by_cases h : 9223372036854775808 ≤ x
  · have h1 : x / 9223372036854775808 = 1 := by omega
    have h2 : x % 9223372036854775808 = x - 9223372036854775808 := by omega
    rw [h1, h2, if_pos h]; simp; omega
  · have h1 : x / 9223372036854775808 = 0 := by omega
    have h2 : x % 9223372036854775808 = x := by omega
    rw [h1, h2, if_neg h]; simp
theorem place_nan {x : Nat} (h : isNan x = true) : place x = 18446744073709551616 := by unfold place; rw [if_pos h]
theorem place_num {x : Nat} (h : isNan x = false) : place x = if 9223372036854775808 ≤ x then 9223372036854775807 - (x : Int) else (x : Int) := by unfold place; rw [h]; simp
theorem place_lt {x : Nat} (hx : x < 18446744073709551616) (h : isNan x = false) : place x < 9223372036854775808 := by
  rw [place_num h]; split <;> omega
theorem nan_zero {x : Nat} (h : isNan x = true) : (x = 9223372036854775808) = False := by
  simp only [eq_iff_iff, iff_false]; intro e; subst e; revert h; decide

/-- floats.Order, by its own text -/
def ordN (a b : Nat) : Int := if flt a b then -1 else if fgt a b then 1 else cmpI (clsN a) (clsN b)
theorem ordN_eq {a b : Nat} (ha : a < 18446744073709551616) (hb : b < 18446744073709551616) : ordN a b = cmpI (place a) (place b) := by
  unfold ordN
  rw [flt_eq, fgt_eq]
  cases na : isNan a
  · cases nb : isNan b
    · have pa := place_num na
      have pb := place_num nb
      have ka := key_big ha
      have kb := key_big hb
      simp only [Bool.not_false, Bool.true_and, decide_eq_true_eq]
      unfold cmpI clsN
      simp only [na, nb, Bool.false_eq_true, if_false]
      rw [ka, kb, pa, pb]
      repeat' split
      all_goals omega
    · have pa := place_lt ha na
      rw [place_nan nb]
      simp only [Bool.not_true, Bool.and_false, Bool.false_and, Bool.false_eq_true, if_false]
      unfold cmpI clsN
      simp only [na, nb, Bool.false_eq_true, if_false, if_true]
      repeat' split
      all_goals omega
  · simp only [Bool.not_true, Bool.false_and, Bool.false_eq_true, if_false]
    cases nb : isNan b
    · have pb := place_lt hb nb
      rw [place_nan na]
      unfold cmpI clsN
      simp only [na, nb, Bool.false_eq_true, if_false, if_true]
      repeat' split
      all_goals omega
    · rw [place_nan na, place_nan nb]
      unfold cmpI clsN
      simp [na, nb]

/-- liaisonref01.rank, by its own text -/
def rankF (x : Nat) : Bool := isNan x || decide (x < 9223372036854775808)
def rankN (x : Nat) : Int := if isNan x then 18446744073709551615 else if 9223372036854775808 ≤ x then 9223372036854775807 - ((x : Int) - 9223372036854775808) else (x : Int)
def refOrdN (a b : Nat) : Int :=
  if !(rankF a) && rankF b then -1 else if rankF a && !(rankF b) then 1 else cmpI (rankN a) (rankN b)
theorem refOrdN_eq {a b : Nat} (ha : a < 18446744073709551616) (hb : b < 18446744073709551616) : refOrdN a b = cmpI (place a) (place b) := by
  unfold refOrdN rankF rankN
  cases na : isNan a
  · cases nb : isNan b
    · rw [place_num na, place_num nb]
      simp only [Bool.false_or, Bool.and_eq_true, Bool.not_eq_true', decide_eq_true_eq, decide_eq_false_iff_not, Bool.false_eq_true, if_false]
      unfold cmpI
      repeat' split
      all_goals omega
    · have pa := place_num na
      have pa' := place_lt ha na
      rw [place_nan nb]
      simp only [Bool.false_or, Bool.true_or, Bool.and_eq_true, Bool.not_eq_true', decide_eq_true_eq, decide_eq_false_iff_not, Bool.false_eq_true, if_false, if_true, Bool.not_true, and_true, and_false]
      unfold cmpI
      rw [pa]
      repeat' split
      all_goals omega
  · cases nb : isNan b
    · have pb := place_num nb
      have pb' := place_lt hb nb
      rw [place_nan na]
      simp only [Bool.false_or, Bool.true_or, Bool.and_eq_true, Bool.not_eq_true', decide_eq_true_eq, decide_eq_false_iff_not, Bool.false_eq_true, if_false, if_true, Bool.not_true, true_and, false_and]
      unfold cmpI
      rw [pb]
      repeat' split
      all_goals omega
    · rw [place_nan na, place_nan nb]
      simp [cmpI]
end Go.Proofs.YtejdnpbkljdahaaDoor
