/-
  Float: the order of the model's float64s, told by their bits. No program.
  FltDef: floats' order, told by places. No program.
  FltWalk0: the walks of floats' order.
  FltArith: sums and doubles of floats that are not negative, told by their rungs. No program.
  FltPlain0: the walks of floats' plain form and delays.
  FltRef: the document's plain form and delays by bits; floats.Bits.
  FltFrom: floats.From.
  FltFin: x - x, and the walk of floats.Finite.
-/
import Derived.Test.YtgmiockaecklaaaGreatDoorBA
import Ieee.Arith
import Derived.WalkLawsBesides
import Derived.Test.YtgmiockaecklaaaGreatDoorProg
namespace Go.Proofs.YtgmiockaecklaaaGreatDoor
open Go.RowKit Ieee

/-! ### a magnitude by its rung -/
def magOf (B r : Nat) : Nat := if r < B then r else (B + r % B) * 2 ^ (r / B - 1)
theorem magOf_step (B r : Nat) (hB : 0 < B) : magOf B r < magOf B (r + 1) := by
  unfold magOf
  by_cases h1 : r + 1 < B
  · rw [if_pos (by omega), if_pos h1]; omega
  · by_cases h2 : r < B
    · have e : r + 1 = B := by omega
      rw [if_pos h2, if_neg h1, e, Nat.mod_self, Nat.div_self hB]; simp; omega
    · rw [if_neg h2, if_neg h1]
      have hq : 1 ≤ r / B := (Nat.le_div_iff_mul_le hB).2 (by omega)
      have hm := Nat.mod_lt r hB
      have hd := Nat.div_add_mod r B
      by_cases h3 : r % B + 1 < B
      · have e1 : (r + 1) / B = r / B := by
          have hs : r + 1 = B * (r / B) + (r % B + 1) := by omega
          rw [hs, Nat.mul_add_div hB, Nat.div_eq_of_lt h3, Nat.add_zero]
        have e2 : (r + 1) % B = r % B + 1 := by
          conv => lhs; rw [← hd]
          rw [Nat.add_assoc, Nat.mul_add_mod, Nat.mod_eq_of_lt h3]
        rw [e1, e2]
        exact Nat.mul_lt_mul_of_pos_right (by omega) (Nat.pow_pos (by omega))
      · have e0 : r % B = B - 1 := by omega
        have e1 : (r + 1) / B = r / B + 1 := by
          have hs : r + 1 = B * (r / B + 1) := by rw [Nat.mul_succ]; omega
          rw [hs, Nat.mul_div_cancel_left _ hB]
        have e2 : (r + 1) % B = 0 := by
          have hs : r + 1 = B * (r / B + 1) := by rw [Nat.mul_succ]; omega
          rw [hs, Nat.mul_mod_right]
        rw [e1, e2, e0]
        obtain ⟨q, hq'⟩ : ∃ q, r / B = q + 1 := ⟨r / B - 1, by omega⟩
        rw [hq', Nat.add_sub_cancel, Nat.add_sub_cancel, Nat.pow_succ]
        have hp : 0 < 2 ^ q := Nat.pow_pos (by omega)
        calc (B + (B - 1)) * 2 ^ q < (B * 2) * 2 ^ q := Nat.mul_lt_mul_of_pos_right (by omega) hp
          _ = (B + 0) * (2 ^ q * 2) := by rw [Nat.add_zero, Nat.mul_assoc, Nat.mul_comm 2]
theorem magOf_lt {B : Nat} (hB : 0 < B) {r s : Nat} (h : r < s) : magOf B r < magOf B s := by
  induction s with
  | zero => omega
  | succ s ih =>
    by_cases e : r = s
    · subst e; exact magOf_step B r hB
    · exact Nat.lt_trans (ih (by omega)) (magOf_step B s hB)
theorem magOf_inj {B : Nat} (hB : 0 < B) {r s : Nat} (h : magOf B r = magOf B s) : r = s := by
  rcases Nat.lt_trichotomy r s with h1 | h1 | h1
  · have := magOf_lt hB h1; omega
  · exact h1
  · have := magOf_lt hB h1; omega
theorem magOf_zero {B : Nat} (hB : 0 < B) : magOf B 0 = 0 := by unfold magOf; rw [if_pos hB]

/-! ### a word's key -/
def fneg (b : Nat) : Bool := b / 9223372036854775808 % 2 == 1
def rung (b : Nat) : Nat := b % 9223372036854775808
def infR : Nat := 9218868437227405312
def isNan (b : Nat) : Bool := decide (infR < rung b)
def key (b : Nat) : Int := if fneg b then -(rung b : Int) else (rung b : Int)
def binB : Nat := 4503599627370496

theorem read_eq (b : Nat) : double.read b = if rung b < binB then .number (fneg b) (rung b) (-1074) else if rung b < infR then .number (fneg b) (binB + rung b % binB) (-1074 + (rung b / binB - 1 : Nat)) else if rung b = infR then .infinity (fneg b) else .nan (fneg b) (rung b - infR) := by rfl
theorem read_num (b : Nat) (h : rung b < infR) : ∃ m : Nat, ∃ u : Nat, double.read b = .number (fneg b) m (-1074 + (u : Int)) ∧ m * 2 ^ u = magOf binB (rung b) := by
  rw [read_eq]
  unfold magOf
  by_cases h1 : rung b < binB
  · rw [if_pos h1, if_pos h1]; exact ⟨rung b, 0, by simp, by simp⟩
  · rw [if_neg h1, if_neg h1, if_pos h]; exact ⟨_, _, rfl, rfl⟩
theorem read_inf (b : Nat) (h : rung b = infR) : double.read b = .infinity (fneg b) := by
  rw [read_eq, if_neg (by rw [h]; decide), if_neg (by omega), if_pos h]
theorem read_nan (b : Nat) (h : infR < rung b) : ∃ t, double.read b = .nan (fneg b) t := by
  have hB : binB ≤ infR := by decide
  rw [read_eq, if_neg (by omega), if_neg (by omega), if_neg (by omega)]; exact ⟨_, rfl⟩

theorem cmp_lt {a b : Int} (h : a < b) : compare a b = .lt := by show compareOfLessAndEq a b = .lt; unfold compareOfLessAndEq; rw [if_pos h]
theorem cmp_gt {a b : Int} (h : b < a) : compare a b = .gt := by show compareOfLessAndEq a b = .gt; unfold compareOfLessAndEq; rw [if_neg (by omega), if_neg (by omega)]
theorem cmp_self (a : Int) : compare a a = .eq := by show compareOfLessAndEq a a = .eq; unfold compareOfLessAndEq; rw [if_neg (by omega), if_pos rfl]
def sgn (neg : Bool) (n : Nat) : Int := if neg then -(n : Int) else (n : Int)
theorem signed_eq (s : Bool) (m u : Nat) : signed s m u = sgn s (m * 2 ^ u) := by
  unfold signed sgn; rw [Nat.shiftLeft_eq]
theorem sgn_mul (s : Bool) (n k : Nat) : sgn s (n * k) = sgn s n * (k : Int) := by
  unfold sgn; cases s <;> simp [Int.neg_mul]
theorem compare_mul (a b : Int) (k : Nat) (hk : 0 < k) : compare (a * (k : Int)) (b * (k : Int)) = compare a b := by
  have hk' : (0 : Int) < (k : Int) := by omega
  rcases Int.lt_trichotomy a b with h | h | h
  · rw [cmp_lt h, cmp_lt (Int.mul_lt_mul_of_pos_right h hk')]
  · rw [h, cmp_self, cmp_self]
  · rw [cmp_gt h, cmp_gt (Int.mul_lt_mul_of_pos_right h hk')]
theorem compare_sgn {B : Nat} (hB : 0 < B) (s t : Bool) (r q : Nat) : compare (sgn s (magOf B r)) (sgn t (magOf B q)) = compare (sgn s r) (sgn t q) := by
  have mono : ∀ r q : Nat, (magOf B r < magOf B q ↔ r < q) := fun r q => ⟨fun h => by
    rcases Nat.lt_trichotomy r q with h1 | h1 | h1
    · exact h1
    · subst h1; omega
    · have := magOf_lt hB h1; omega, magOf_lt hB⟩
  have hz := magOf_zero hB
  have pos : ∀ r : Nat, (0 < magOf B r ↔ 0 < r) := fun r => by have := mono 0 r; rw [hz] at this; exact this
  have h1 := mono r q
  have h2 := mono q r
  have h3 := pos r
  have h4 := pos q
  have key : ∀ a b c d : Int, (a < b ↔ c < d) → (b < a ↔ d < c) → compare a b = compare c d := by
    intro a b c d e1 e2
    rcases Int.lt_trichotomy a b with h | h | h
    · rw [cmp_lt h, cmp_lt (e1.1 h)]
    · have : c = d := by
        rcases Int.lt_trichotomy c d with h' | h' | h'
        · have := e1.2 h'; omega
        · exact h'
        · have := e2.2 h'; omega
      rw [h, this, cmp_self, cmp_self]
    · rw [cmp_gt h, cmp_gt (e2.1 h)]
  apply key
  · unfold sgn; cases s <;> cases t <;> simp only [Bool.false_eq_true, if_false, if_true] <;> omega
  · unfold sgn; cases s <;> cases t <;> simp only [Bool.false_eq_true, if_false, if_true] <;> omega
theorem binB_pos : 0 < binB := by decide
theorem key_eq (b : Nat) : key b = sgn (fneg b) (rung b) := rfl

/-- the order of two words neither of which is a NaN is that of their keys -/
theorem order_key (x y : Nat) (hx : isNan x = false) (hy : isNan y = false) : double.order x y = some (compare (key x) (key y)) := by
  have hx' : rung x ≤ infR := by simpa [isNan] using hx
  have hy' : rung y ≤ infR := by simpa [isNan] using hy
  have hi : (0 : Int) < (infR : Int) := by decide
  unfold Format.order
  rw [key_eq, key_eq]
  rcases Nat.lt_or_eq_of_le hx' with h1 | h1 <;> rcases Nat.lt_or_eq_of_le hy' with h2 | h2
  · obtain ⟨m, u, e1, e2⟩ := read_num x h1
    obtain ⟨n, v, e3, e4⟩ := read_num y h2
    rw [e1, e3]
    simp only [Datum.order]
    congr 1
    rw [signed_eq, signed_eq]
    refine Eq.trans ?_ (compare_sgn binB_pos (fneg x) (fneg y) (rung x) (rung y))
    rw [← e2, ← e4]
    generalize hb : min (-1074 + (u : Int)) (-1074 + (v : Int)) = base
    obtain ⟨d, hd⟩ : ∃ d : Nat, base = -1074 + (d : Int) := ⟨min u v, by omega⟩
    have hdu : d ≤ u := by omega
    have hdv : d ≤ v := by omega
    have a1 : (-1074 + (u : Int) - base).toNat = u - d := by omega
    have a2 : (-1074 + (v : Int) - base).toNat = v - d := by omega
    rw [a1, a2, ← compare_mul _ _ (2 ^ d) (Nat.pow_pos (by omega)), ← sgn_mul, ← sgn_mul, Nat.mul_assoc, Nat.mul_assoc, ← Nat.pow_add, ← Nat.pow_add, Nat.sub_add_cancel hdu, Nat.sub_add_cancel hdv]
  · obtain ⟨m, u, e1, e2⟩ := read_num x h1
    rw [e1, read_inf y h2, h2]
    simp only [Datum.order]
    congr 1
    unfold sgn
    cases fneg y <;> cases fneg x <;> simp only [Bool.false_eq_true, if_false, if_true] <;> symm <;> first | (exact cmp_lt (by omega)) | (exact cmp_gt (by omega))
  · obtain ⟨n, v, e3, e4⟩ := read_num y h2
    rw [read_inf x h1, e3, h1]
    simp only [Datum.order]
    congr 1
    unfold sgn
    cases fneg y <;> cases fneg x <;> simp only [Bool.false_eq_true, if_false, if_true] <;> symm <;> first | (exact cmp_lt (by omega)) | (exact cmp_gt (by omega))
  · rw [read_inf x h1, read_inf y h2, h1, h2]
    simp only [Datum.order]
    congr 1
    cases fneg y <;> cases fneg x <;> decide
theorem order_nan_left (x y : Nat) (hx : isNan x = true) : double.order x y = none := by
  obtain ⟨t, e⟩ := read_nan x (by simpa [isNan] using hx)
  unfold Format.order
  rw [e]; rfl
theorem order_nan_right (x y : Nat) (hy : isNan y = true) : double.order x y = none := by
  obtain ⟨t, e⟩ := read_nan y (by simpa [isNan] using hy)
  unfold Format.order
  rw [e]
  cases double.read x <;> rfl
end Go.Proofs.YtgmiockaecklaaaGreatDoor

namespace Go.Proofs.YtgmiockaecklaaaGreatDoor
open Go.RowKit Ieee

def flt (a b : Nat) : Bool := FloatKind.f64.format.order a b == some .lt
def fgt (a b : Nat) : Bool := FloatKind.f64.format.order a b == some .gt
def feq (a b : Nat) : Bool := FloatKind.f64.format.order a b == some .eq
def fne (a b : Nat) : Bool := FloatKind.f64.format.order a b != some .eq
theorem flt_def (a b : Nat) : (FloatKind.f64.format.order a b == some .lt) = flt a b := rfl
theorem fgt_def (a b : Nat) : (FloatKind.f64.format.order a b == some .gt) = fgt a b := rfl
theorem feq_def (a b : Nat) : (FloatKind.f64.format.order a b == some .eq) = feq a b := rfl
theorem fne_def (a b : Nat) : (FloatKind.f64.format.order a b != some .eq) = fne a b := rfl

theorem flt_eq (a b : Nat) : flt a b = (!isNan a && !isNan b && decide (key a < key b)) := by
  unfold flt
  show (double.order a b == some .lt) = _
  cases ha : isNan a
  · cases hb : isNan b
    · rw [order_key a b ha hb]
      rcases Int.lt_trichotomy (key a) (key b) with h | h | h
      · rw [cmp_lt h]; simp [h]
      · rw [h, cmp_self]; simp
      · rw [cmp_gt h]; simp; omega
    · rw [order_nan_right a b hb]; rfl
  · rw [order_nan_left a b ha]; rfl
theorem fgt_eq (a b : Nat) : fgt a b = (!isNan a && !isNan b && decide (key b < key a)) := by
  unfold fgt
  show (double.order a b == some .gt) = _
  cases ha : isNan a
  · cases hb : isNan b
    · rw [order_key a b ha hb]
      rcases Int.lt_trichotomy (key a) (key b) with h | h | h
      · rw [cmp_lt h]; simp; omega
      · rw [h, cmp_self]; simp
      · rw [cmp_gt h]; simp [h]
    · rw [order_nan_right a b hb]; rfl
  · rw [order_nan_left a b ha]; rfl
theorem feq_eq (a b : Nat) : feq a b = (!isNan a && !isNan b && decide (key a = key b)) := by
  unfold feq
  show (double.order a b == some .eq) = _
  cases ha : isNan a
  · cases hb : isNan b
    · rw [order_key a b ha hb]
      rcases Int.lt_trichotomy (key a) (key b) with h | h | h
      · rw [cmp_lt h]; simp; omega
      · rw [h, cmp_self]; simp
      · rw [cmp_gt h]; simp; omega
    · rw [order_nan_right a b hb]; rfl
  · rw [order_nan_left a b ha]; rfl
theorem fne_eq (a b : Nat) : fne a b = !(feq a b) := rfl

/-! ### the place of a float -/
def clsN (x : Nat) : Int := if isNan x then 2 else if x = 9223372036854775808 then 0 else 1
def place (x : Nat) : Int := if isNan x then 18446744073709551616 else if 9223372036854775808 ≤ x then 9223372036854775807 - (x : Int) else (x : Int)
def cmpI (p q : Int) : Int := if p < q then -1 else if q < p then 1 else 0
theorem cmpI_neg (p q : Int) : cmpI q p = - cmpI p q := by
  unfold cmpI; split <;> split <;> omega
theorem key_big {x : Nat} (hx : x < 18446744073709551616) : key x = if 9223372036854775808 ≤ x then 9223372036854775808 - (x : Int) else (x : Int) := by
  unfold key fneg rung
  by_cases h : 9223372036854775808 ≤ x
  · have h1 : x / 9223372036854775808 = 1 := by omega
    have h2 : x % 9223372036854775808 = x - 9223372036854775808 := by omega
    rw [h1, h2, if_pos h]; simp; omega
  · have h1 : x / 9223372036854775808 = 0 := by omega
    have h2 : x % 9223372036854775808 = x := by omega
    rw [h1, h2, if_neg h]; simp
theorem place_nan {x : Nat} (h : isNan x = true) : place x = 18446744073709551616 := by unfold place; rw [if_pos h]
theorem place_num {x : Nat} (h : isNan x = false) : place x = if 9223372036854775808 ≤ x then 9223372036854775807 - (x : Int) else (x : Int) := by unfold place; rw [h]; simp
theorem place_lt {x : Nat} (hx : x < 18446744073709551616) (h : isNan x = false) : place x < 9223372036854775808 := by
  rw [place_num h]; split <;> omega
theorem nan_zero {x : Nat} (h : isNan x = true) : (x = 9223372036854775808) = False := by
  simp only [eq_iff_iff, iff_false]; intro e; subst e; revert h; decide

/-- floats.Order, by its own text -/
def ordN (a b : Nat) : Int := if flt a b then -1 else if fgt a b then 1 else cmpI (clsN a) (clsN b)
theorem ordN_eq {a b : Nat} (ha : a < 18446744073709551616) (hb : b < 18446744073709551616) : ordN a b = cmpI (place a) (place b) := by
  unfold ordN
  rw [flt_eq, fgt_eq]
  cases na : isNan a
  · cases nb : isNan b
    · have pa := place_num na
      have pb := place_num nb
      have ka := key_big ha
      have kb := key_big hb
      simp only [Bool.not_false, Bool.true_and, decide_eq_true_eq]
      unfold cmpI clsN
      simp only [na, nb, Bool.false_eq_true, if_false]
      rw [ka, kb, pa, pb]
      repeat' split
      all_goals omega
    · have pa := place_lt ha na
      rw [place_nan nb]
      simp only [Bool.not_true, Bool.and_false, Bool.false_and, Bool.false_eq_true, if_false]
      unfold cmpI clsN
      simp only [na, nb, Bool.false_eq_true, if_false, if_true]
      repeat' split
      all_goals omega
  · simp only [Bool.not_true, Bool.false_and, Bool.false_eq_true, if_false]
    cases nb : isNan b
    · have pb := place_lt hb nb
      rw [place_nan na]
      unfold cmpI clsN
      simp only [na, nb, Bool.false_eq_true, if_false, if_true]
      repeat' split
      all_goals omega
    · rw [place_nan na, place_nan nb]
      unfold cmpI clsN
      simp [na, nb]

/-- liaisonref01.rank, by its own text -/
def rankF (x : Nat) : Bool := isNan x || decide (x < 9223372036854775808)
def rankN (x : Nat) : Int := if isNan x then 18446744073709551615 else if 9223372036854775808 ≤ x then 9223372036854775807 - ((x : Int) - 9223372036854775808) else (x : Int)
def refOrdN (a b : Nat) : Int :=
  if !(rankF a) && rankF b then -1 else if rankF a && !(rankF b) then 1 else cmpI (rankN a) (rankN b)
theorem refOrdN_eq {a b : Nat} (ha : a < 18446744073709551616) (hb : b < 18446744073709551616) : refOrdN a b = cmpI (place a) (place b) := by
  unfold refOrdN rankF rankN
  cases na : isNan a
  · cases nb : isNan b
    · rw [place_num na, place_num nb]
      simp only [Bool.false_or, Bool.and_eq_true, Bool.not_eq_true', decide_eq_true_eq, decide_eq_false_iff_not, Bool.false_eq_true, if_false]
      unfold cmpI
      repeat' split
      all_goals omega
    · have pa := place_num na
      have pa' := place_lt ha na
      rw [place_nan nb]
      simp only [Bool.false_or, Bool.true_or, Bool.and_eq_true, Bool.not_eq_true', decide_eq_true_eq, decide_eq_false_iff_not, Bool.false_eq_true, if_false, if_true, Bool.not_true, and_true, and_false]
      unfold cmpI
      rw [pa]
      repeat' split
      all_goals omega
  · cases nb : isNan b
    · have pb := place_num nb
      have pb' := place_lt hb nb
      rw [place_nan na]
      simp only [Bool.false_or, Bool.true_or, Bool.and_eq_true, Bool.not_eq_true', decide_eq_true_eq, decide_eq_false_iff_not, Bool.false_eq_true, if_false, if_true, Bool.not_true, true_and, false_and]
      unfold cmpI
      rw [pb]
      repeat' split
      all_goals omega
    · rw [place_nan na, place_nan nb]
      simp [cmpI]
end Go.Proofs.YtgmiockaecklaaaGreatDoor

namespace Go.Proofs.YtgmiockaecklaaaGreatDoor
open Go.RowKit

def Gives (w : World) (v : Value) (e : Ending) (w' : World) : Prop := e = .returned v ∧ Below w.heap.size w w'
attribute [local go_sem] flt_def fgt_def feq_def fne_def

theorem run_bits (x : Nat) (w : World) : (callFunc 58 #[.float .f64 x]).run Tryz.prog w = .ok (.value (.int .u64 (x : Int))) w := by
  rw [@run_callFunc_extern Tryz.prog 58 _ Extern.MathFloatBits.float64bits Tryz.func58 (by kernel_rfl) (by kernel_rfl) (by kernel_rfl) (by kernel_rfl)]
  rfl
theorem run_frombits (x : Nat) (w : World) : (callFunc 50 #[.int .u64 (x : Int)]).run Tryz.prog w = .ok (.value (.float .f64 x)) w := by
  rw [@run_callFunc_extern Tryz.prog 50 _ Extern.MathFloatBits.float64frombits Tryz.func50 (by kernel_rfl) (by kernel_rfl) (by kernel_rfl) (by kernel_rfl)]
  rfl
theorem i64_neg {x : Nat} (hx : x < 18446744073709551616) : decide (wrap64 (x : Int) < 0) = decide (9223372036854775808 ≤ x) := by
  unfold wrap64; rw [decide_eq_decide]; omega
theorem signbit_any (x : Nat) (hx : x < 18446744073709551616) (w : World) :
    Calls Tryz.prog 91 #[.float .f64 x] w (Gives w (.bool (decide (9223372036854775808 ≤ x)))) := by
  have h1 := run_bits x
  have h2 := i64_neg hx
  go_enter Tryz.func91, Tryz.ntmps91
  go_wp2_with fail
  go_ret
  exact ⟨by rw [← h2]; rfl, Below.refl _ _⟩
theorem isnanint_any (x : Int) (w : World) :
    Calls Tryz.prog 90 #[.int .i64 x] w (Gives w (.bool false)) := by
  go_enter Tryz.func90, Tryz.ntmps90
  go_wp2_with fail
  go_ret
  exact ⟨rfl, Below.refl _ _⟩
theorem compareint_any (x y : Int) (w : World) :
    Calls Tryz.prog 77 #[.int .i64 x, .int .i64 y] w (Gives w (.int .i64 (cmpI x y))) := by
  go_enter Tryz.func77, Tryz.ntmps77
  go_wp2_with fail
  refine (isnanint_any x w).mono ?_
  rintro e w1 ⟨rfl, hb1⟩
  go_wp2_with fail
  refine (isnanint_any y w1).mono ?_
  rintro e w2 ⟨rfl, hb2⟩
  have hb := hb1.trans (hb2.mono hb1.size)
  by_cases h1 : x < y
  · have d1 : decide (x < y) = true := by simp [h1]
    have HC := Lib.hid (show cmpI x y = -1 by unfold cmpI; rw [if_pos h1])
    go_wp2_with fail
    go_ret
    exact ⟨by rw [HC.out]; rfl, hb⟩
  · have d1 : decide (x < y) = false := by simp; omega
    by_cases h2 : y < x
    · have d2 : decide (y < x) = true := by simp [h2]
      have HC := Lib.hid (show cmpI x y = 1 by unfold cmpI; rw [if_neg h1, if_pos h2])
      go_wp2_with fail
      go_ret
      exact ⟨by rw [HC.out]; rfl, hb⟩
    · have d2 : decide (y < x) = false := by simp; omega
      have HC := Lib.hid (show cmpI x y = 0 by unfold cmpI; rw [if_neg h1, if_neg h2])
      go_wp2_with fail
      go_ret
      exact ⟨by rw [HC.out]; rfl, hb⟩
theorem fne_self (x : Nat) : fne x x = isNan x := by
  rw [fne_eq, feq_eq]; cases isNan x <;> simp
theorem key_zero : key 0 = 0 := by decide
theorem feq_zero {x : Nat} (hx : x < 18446744073709551616) : feq x 0 = (decide (x = 0) || decide (x = 9223372036854775808)) := by
  rw [feq_eq, key_zero, key_big hx, show isNan 0 = false from by decide]
  cases h : isNan x
  · by_cases h0 : x = 0
    · subst h0; rfl
    · by_cases h1 : x = 9223372036854775808
      · subst h1; rfl
      · simp only [h0, h1, decide_false, Bool.or_false, Bool.not_false, Bool.true_and, decide_eq_false_iff_not]
        split <;> omega
  · by_cases h0 : x = 0
    · subst h0; revert h; decide
    · by_cases h1 : x = 9223372036854775808
      · subst h1; revert h; decide
      · simp [h0, h1]
theorem class_any (x : Nat) (hx : x < 18446744073709551616) (w : World) :
    Calls Tryz.prog 78 #[.float .f64 x] w (Gives w (.int .i64 (clsN x))) := by
  go_enter Tryz.func78, Tryz.ntmps78
  cases h1 : fne x x
  · have hn : isNan x = false := by rw [← fne_self]; exact h1
    cases h2 : feq x 0
    · rw [feq_zero hx] at h2
      have HC := Lib.hid (show clsN x = 1 by unfold clsN; rw [hn]; simp_all)
      rw [← feq_zero hx] at h2
      go_wp2_with fail
      go_ret
      exact ⟨by rw [HC.out]; rfl, Below.refl _ _⟩
    · go_wp2_with fail
      refine (signbit_any x hx w).mono ?_
      rintro e w1 ⟨rfl, hb1⟩
      rw [feq_zero hx] at h2
      by_cases h3 : x = 9223372036854775808
      · have hd : decide (9223372036854775808 ≤ x) = true := by simp; omega
        have HC := Lib.hid (show clsN x = 0 by unfold clsN; rw [hn, if_pos h3]; rfl)
        clear h2 h3
        go_wp2_with fail
        go_ret
        exact ⟨by rw [HC.out]; rfl, hb1⟩
      · have h4 : x = 0 := by simpa [h3] using h2
        have hd : decide (9223372036854775808 ≤ x) = false := by simp; omega
        have HC := Lib.hid (show clsN x = 1 by unfold clsN; rw [hn, if_neg h3]; rfl)
        clear h2 h3 h4
        go_wp2_with fail
        go_ret
        exact ⟨by rw [HC.out]; rfl, hb1⟩
  · have hn : isNan x = true := by rw [← fne_self]; exact h1
    have HC := Lib.hid (show clsN x = 2 by unfold clsN; rw [hn]; rfl)
    go_wp2_with fail
    go_ret
    exact ⟨by rw [HC.out]; rfl, Below.refl _ _⟩
theorem order_any (x y : Nat) (hx : x < 18446744073709551616) (hy : y < 18446744073709551616) (w : World) :
    Calls Tryz.prog 53 #[.float .f64 x, .float .f64 y] w (Gives w (.int .i64 (cmpI (place x) (place y)))) := by
  rw [← ordN_eq hx hy]
  go_enter Tryz.func53, Tryz.ntmps53
  cases h1 : flt x y
  · cases h2 : fgt x y
    · have HC := Lib.hid (show ordN x y = cmpI (clsN x) (clsN y) by unfold ordN; rw [h1, h2]; rfl)
      go_wp2_with fail
      refine (class_any x hx w).mono ?_
      rintro e w1 ⟨rfl, hb1⟩
      go_wp2_with fail
      refine (class_any y hy w1).mono ?_
      rintro e w2 ⟨rfl, hb2⟩
      have hb := hb1.trans (hb2.mono hb1.size)
      go_wp2_with fail
      refine (compareint_any (clsN x) (clsN y) w2).mono ?_
      rintro e w3 ⟨rfl, hb3⟩
      go_wp2_with fail
      go_ret
      exact ⟨by rw [HC.out]; rfl, hb.trans (hb3.mono hb.size)⟩
    · have HC := Lib.hid (show ordN x y = 1 by unfold ordN; rw [h1, h2]; rfl)
      go_wp2_with fail
      go_ret
      exact ⟨by rw [HC.out]; rfl, Below.refl _ _⟩
  · have HC := Lib.hid (show ordN x y = -1 by unfold ordN; rw [h1]; rfl)
    go_wp2_with fail
    go_ret
    exact ⟨by rw [HC.out]; rfl, Below.refl _ _⟩

/-! ### the document's order -/
theorem and_mask (x : Nat) : bits .and .u64 (x : Int) 9223372036854775807 = ((x % 9223372036854775808 : Nat) : Int) := by
  show IntKind.u64.wrap ((BitVec.ofInt 64 (x : Int) &&& BitVec.ofInt 64 9223372036854775807).toNat : Int) = _
  rw [BitVec.toNat_and, BitVec.ofInt_natCast, BitVec.toNat_ofNat, show (BitVec.ofInt 64 9223372036854775807).toNat = 2 ^ 63 - 1 from by decide, Nat.and_two_pow_sub_one_eq_mod, IntKind.wrap_u64]
  omega
theorem raw_any (x : Nat) (w : World) :
    Calls Tryz.prog 29 #[.float .f64 x] w (Gives w (.int .u64 (x : Int))) := by
  have h1 := run_bits x
  go_enter Tryz.func29, Tryz.ntmps29
  go_wp2_with fail
  go_ret
  exact ⟨rfl, Below.refl _ _⟩
theorem refnan_any (x : Nat) (w : World) :
    Calls Tryz.prog 65 #[.float .f64 x] w (Gives w (.bool (isNan x))) := by
  have h1 := and_mask x
  have HC := Lib.hid (show decide (9218868437227405312 < ((x % 9223372036854775808 : Nat) : Int)) = isNan x by unfold isNan rung infR; rw [decide_eq_decide]; omega)
  go_enter Tryz.func65, Tryz.ntmps65
  go_wp2_with fail
  refine (raw_any x w).mono ?_
  rintro e w1 ⟨rfl, hb1⟩
  go_wp2_with fail
  go_ret
  exact ⟨by rw [← HC.out]; rfl, hb1⟩
end Go.Proofs.YtgmiockaecklaaaGreatDoor

namespace Go.Proofs.YtgmiockaecklaaaGreatDoor
open Go.RowKit Ieee

/-- cutting n by g digits, to the nearest, between two to the even one -/
def cutE (n g : Nat) : Nat := n / 2 ^ g + (2 ^ g < 2 * (n % 2 ^ g) || (2 ^ g == 2 * (n % 2 ^ g) && n / 2 ^ g % 2 == 1) : Bool).toNat
theorem cut_cutE (n g : Nat) (h : g ≤ n.log2 + 2) : Toward.even.cut false n g = cutE n g := by
  unfold Toward.cut cutE
  simp only [Nat.min_eq_left h, Nat.one_shiftLeft]
theorem cut_zero (n : Nat) : cutE n 0 = n := by
  unfold cutE; simp [Nat.mod_one]
theorem cut_mul (n d g : Nat) : cutE (n * 2 ^ d) (g + d) = cutE n g := by
  have hd : 0 < 2 ^ d := Nat.two_pow_pos d
  unfold cutE
  have e1 : n * 2 ^ d / 2 ^ (g + d) = n / 2 ^ g := by rw [Nat.pow_add, Nat.mul_div_mul_right _ _ hd]
  have e2 : n * 2 ^ d % 2 ^ (g + d) = (n % 2 ^ g) * 2 ^ d := by rw [Nat.pow_add, Nat.mul_mod_mul_right]
  have e3 : (2 ^ (g + d) < 2 * (n * 2 ^ d % 2 ^ (g + d))) ↔ (2 ^ g < 2 * (n % 2 ^ g)) := by
    rw [e2, Nat.pow_add, ← Nat.mul_assoc]; exact Nat.mul_lt_mul_right hd
  have e4 : (2 ^ (g + d) = 2 * (n * 2 ^ d % 2 ^ (g + d))) ↔ (2 ^ g = 2 * (n % 2 ^ g)) := by
    rw [e2, Nat.pow_add, ← Nat.mul_assoc]; exact Nat.mul_left_inj (by omega)
  have e5 : decide (2 ^ (g + d) < 2 * (n * 2 ^ d % 2 ^ (g + d))) = decide (2 ^ g < 2 * (n % 2 ^ g)) := by rw [decide_eq_decide]; exact e3
  have e6 : (2 ^ (g + d) == 2 * (n * 2 ^ d % 2 ^ (g + d))) = (2 ^ g == 2 * (n % 2 ^ g)) := by
    rw [Bool.eq_iff_iff]; simp only [beq_iff_eq]; exact e4
  rw [e5, e6, e1]
theorem log2_mul (m d : Nat) (h : m ≠ 0) : (m * 2 ^ d).log2 = m.log2 + d := by
  have h1 := Nat.log2_self_le h
  have h2 := @Nat.lt_log2_self m
  have hm : m * 2 ^ d ≠ 0 := Nat.mul_ne_zero h (by have := Nat.two_pow_pos d; omega)
  rw [Nat.log2_eq_iff hm]
  constructor
  · rw [Nat.pow_add]; exact Nat.mul_le_mul_right _ h1
  · rw [show m.log2 + d + 1 = (m.log2 + 1) + d by omega, Nat.pow_add]; exact Nat.mul_lt_mul_of_pos_right h2 (Nat.two_pow_pos d)

/-- the rung nearest to N units of the last place -/
def rnd (N : Nat) : Nat := min ((N.log2 - 52) * binB + cutE N (N.log2 - 52)) infR
theorem double_binade : double.binade = binB := by decide
theorem double_inf : double.infRung = infR := by decide
theorem nearest_eq (m : Nat) (p : Int) (d : Nat) (e : Nat) (hp : p = -1074 + (d : Int) - (e : Int)) (he : e = 0 ∨ ∃ m', m = m' * 2 ^ e) : double.nearest false m p = rnd (m * 2 ^ d / 2 ^ e) := by
  have key : ∀ m d : Nat, ∀ e : Nat, double.nearest false (m * 2 ^ e) (-1074 + (d : Int) - (e : Int)) = rnd (m * 2 ^ d) := by
    intro m d e
    unfold Format.nearest
    by_cases h0 : m = 0
    · subst h0; simp; decide
    · have hm : m * 2 ^ e ≠ 0 := Nat.mul_ne_zero h0 (by have := Nat.two_pow_pos e; omega)
      have hd : m * 2 ^ d ≠ 0 := Nat.mul_ne_zero h0 (by have := Nat.two_pow_pos d; omega)
      rw [if_neg hm]
      have l1 := log2_mul m e h0
      have l2 := log2_mul m d h0
      obtain ⟨k, hk⟩ : ∃ k, k = m.log2 + d - 52 := ⟨_, rfl⟩
      have hlast : max (-1074 + (d : Int) - (e : Int) + ((m * 2 ^ e).log2 : Nat) - (double.fractionBits : Nat)) double.leastPlace = -1074 + (k : Int) := by
        rw [l1]
        show max (-1074 + (d : Int) - (e : Int) + ((m.log2 + e : Nat) : Int) - ((52 : Nat) : Int)) (-1074) = _
        omega
      simp only [hlast]
      have a1 : (-1074 + (d : Int) - (e : Int) - (-1074 + (k : Int))).toNat = d - (e + k) := by omega
      have a2 : (-1074 + (k : Int) - (-1074 + (d : Int) - (e : Int))).toNat = (e + k) - d := by omega
      have a3 : ((-1074 + (k : Int)) - double.leastPlace).toNat = k := by show ((-1074 + (k : Int)) - (-1074)).toNat = k; omega
      rw [a1, a2, a3]
      have hcut : Toward.even.cut false ((m * 2 ^ e) <<< (d - (e + k))) (e + k - d) = cutE (m * 2 ^ d) k := by
        rw [Nat.shiftLeft_eq, Nat.mul_assoc, ← Nat.pow_add]
        rcases Nat.le_total (e + k) d with h | h
        · have b1 : e + k - d = 0 := by omega
          have b2 : e + (d - (e + k)) + k = d := by omega
          rw [b1, cut_cutE _ _ (by omega), cut_zero]
          conv => rhs; rw [← b2, Nat.pow_add, ← Nat.mul_assoc, show k = 0 + k by omega]
          rw [show (0 + k) = k by omega]
          have := cut_mul (m * 2 ^ (e + (d - (e + k)))) k 0
          rw [Nat.zero_add, cut_zero] at this
          exact this.symm
        · have b1 : d - (e + k) = 0 := by omega
          rw [b1, Nat.add_zero]
          rw [cut_cutE _ _ (by rw [l1]; omega)]
          rcases Nat.le_total e d with h2 | h2
          · obtain ⟨c, hc⟩ : ∃ c, d = e + c := ⟨d - e, by omega⟩
            have b2 : e + k - d + c = k := by omega
            have := cut_mul (m * 2 ^ e) c (e + k - d)
            rw [b2, Nat.mul_assoc, ← Nat.pow_add, ← hc] at this
            exact this.symm
          · obtain ⟨c, hc⟩ : ∃ c, e = d + c := ⟨e - d, by omega⟩
            have b2 : e + k - d = k + c := by omega
            have := cut_mul (m * 2 ^ d) c k
            rw [Nat.mul_assoc, ← Nat.pow_add, ← hc, ← b2] at this
            exact this
      rw [hcut]
      unfold rnd Format.word
      rw [l2, ← hk, double_binade, double_inf]
      exact if_neg (by decide)
  rw [hp]
  rcases he with rfl | ⟨m', rfl⟩
  · have := key m d 0; simpa using this
  · have := key m' d e
    rw [this, Nat.mul_right_comm, Nat.mul_div_cancel _ (Nat.two_pow_pos e)]

/-! ### a rung's magnitude is rounded to itself; rounding keeps the order -/
theorem binB_pow : binB = 2 ^ 52 := by decide
theorem magOf_form (B k g : Nat) (hB : 0 < B) (hg : g ≤ B) : magOf B ((k + 1) * B + g) = (B + g) * 2 ^ k := by
  unfold magOf
  have h1 : ¬ ((k + 1) * B + g < B) := by rw [Nat.succ_mul]; omega
  rw [if_neg h1]
  rcases Nat.lt_or_eq_of_le hg with h | h
  · have e1 : ((k + 1) * B + g) / B = k + 1 := by rw [Nat.mul_comm, Nat.mul_add_div hB, Nat.div_eq_of_lt h]
    have e2 : ((k + 1) * B + g) % B = g := by rw [Nat.mul_comm, Nat.mul_add_mod, Nat.mod_eq_of_lt h]
    rw [e1, e2]; simp
  · subst h
    have e0 : (k + 1) * g + g = g * (k + 2) := by rw [Nat.mul_comm g, Nat.succ_mul (k + 1)]
    rw [e0, Nat.mul_div_cancel_left _ hB, Nat.mul_mod_right]
    have : k + 2 - 1 = k + 1 := by omega
    rw [this, Nat.pow_succ, Nat.add_zero, Nat.mul_comm (2 ^ k) 2, ← Nat.mul_assoc, Nat.mul_two]
theorem log2_small {N : Nat} (h : N < 2 * binB) : N.log2 - 52 = 0 := by
  by_cases h0 : N = 0
  · subst h0; decide
  · have : N.log2 < 53 := (Nat.log2_lt h0).2 (by rw [binB_pow] at h; omega)
    omega
theorem log2_form {k g : Nat} (hg : g < binB) : ((binB + g) * 2 ^ k).log2 = 52 + k := by
  have h0 : binB + g ≠ 0 := by have := binB_pos; omega
  rw [log2_mul _ _ h0]
  have : (binB + g).log2 = 52 := by
    rw [Nat.log2_eq_iff h0, ← binB_pow]
    constructor
    · omega
    · rw [Nat.pow_succ, ← binB_pow]; omega
  rw [this]
theorem rnd_mag (r : Nat) : rnd (magOf binB r) = min r infR := by
  have hB := binB_pos
  unfold rnd
  by_cases h : r < binB
  · have e : magOf binB r = r := by unfold magOf; rw [if_pos h]
    rw [e, log2_small (by omega), cut_zero]; simp
  · obtain ⟨k, hk⟩ : ∃ k, r / binB = k + 1 := ⟨r / binB - 1, by have : 1 ≤ r / binB := (Nat.le_div_iff_mul_le hB).2 (by omega); omega⟩
    have hm := Nat.mod_lt r hB
    have hr : r = (k + 1) * binB + r % binB := by rw [← hk, Nat.mul_comm]; exact (Nat.div_add_mod r binB).symm
    have e : magOf binB r = (binB + r % binB) * 2 ^ k := by
      conv => lhs; rw [hr]
      exact magOf_form binB k _ hB (Nat.le_of_lt hm)
    rw [e, log2_form hm]
    have h2 : 52 + k - 52 = k := by omega
    have h3 := cut_mul (binB + r % binB) k 0
    rw [Nat.zero_add, cut_zero] at h3
    rw [h2, h3]
    congr 1
    rw [Nat.succ_mul] at hr; omega
theorem binB_two : 2 ^ 53 = 2 * binB := by decide
theorem mag_over {B : Nat} (hB : 0 < B) (k N : Nat) (h : (k = 0 ∧ N < 2 * B) ∨ (B ≤ N / 2 ^ k ∧ N / 2 ^ k < 2 * B)) : N < magOf B (k * B + N / 2 ^ k + 1) := by
  rcases h with ⟨rfl, h⟩ | ⟨g1, g2⟩
  · simp only [Nat.zero_mul, Nat.pow_zero, Nat.div_one, Nat.zero_add]
    by_cases h1 : N + 1 < B
    · unfold magOf; rw [if_pos h1]; omega
    · have := magOf_form B 0 (N + 1 - B) hB (by omega)
      rw [show (0 + 1) * B + (N + 1 - B) = N + 1 by omega] at this
      rw [this, Nat.pow_zero, Nat.mul_one]; omega
  · have hp : 0 < 2 ^ k := Nat.two_pow_pos k
    have hd := Nat.div_add_mod N (2 ^ k)
    have hm := Nat.mod_lt N hp
    generalize N / 2 ^ k = q at *
    have := magOf_form B k (q - B + 1) hB (by omega)
    rw [show (k + 1) * B + (q - B + 1) = k * B + q + 1 by rw [Nat.succ_mul]; omega] at this
    rw [this, show B + (q - B + 1) = q + 1 by omega, Nat.succ_mul, Nat.mul_comm q]
    omega
theorem log2_range {N : Nat} (hs : ¬ N < 2 * binB) : ∃ k, N.log2 = 52 + k ∧ binB * 2 ^ k ≤ N ∧ N < 2 * binB * 2 ^ k := by
  have hb := binB_pos
  have hN0 : N ≠ 0 := by intro h; apply hs; rw [h]; exact Nat.mul_pos (by decide) hb
  have hl : 53 ≤ N.log2 := by rw [Nat.le_log2 hN0, binB_two]; exact Nat.le_of_not_lt hs
  have h1 := Nat.log2_self_le hN0
  have h2 := @Nat.lt_log2_self N
  obtain ⟨k, hk⟩ : ∃ k, N.log2 = 52 + k := ⟨N.log2 - 52, by omega⟩
  rw [hk, Nat.pow_add, ← binB_pow] at h1
  rw [hk, show 52 + k + 1 = 53 + k by omega, Nat.pow_add, binB_two] at h2
  exact ⟨k, hk, h1, h2⟩
theorem rung_over (N : Nat) : N < magOf binB ((N.log2 - 52) * binB + N / 2 ^ (N.log2 - 52) + 1) := by
  apply mag_over binB_pos
  by_cases hs : N < 2 * binB
  · exact .inl ⟨log2_small hs, hs⟩
  · obtain ⟨k, hk, h1, h2⟩ := log2_range hs
    have hp : 0 < 2 ^ k := Nat.two_pow_pos k
    rw [hk, Nat.add_sub_cancel_left]
    exact .inr ⟨(Nat.le_div_iff_mul_le hp).2 h1, (Nat.div_lt_iff_lt_mul hp).2 h2⟩
theorem mag_le {B : Nat} (hB : 0 < B) {r s : Nat} (h : r ≤ s) : magOf B r ≤ magOf B s := by
  rcases Nat.lt_or_eq_of_le h with h3 | h3
  · exact Nat.le_of_lt (magOf_lt hB h3)
  · exact Nat.le_of_eq (by rw [h3])
theorem cutE_ge (n g : Nat) : n / 2 ^ g ≤ cutE n g := by unfold cutE; exact Nat.le_add_right _ _
theorem rnd_ge {N r : Nat} (h : magOf binB r ≤ N) (hr : r ≤ infR) : r ≤ rnd N := by
  have hfl := rung_over N
  have hc := cutE_ge N (N.log2 - 52)
  unfold rnd
  generalize (N.log2 - 52) * binB = a at *
  generalize N / 2 ^ (N.log2 - 52) = b at *
  generalize cutE N (N.log2 - 52) = c at *
  rcases Nat.lt_or_ge (a + b) r with h1 | h1
  · have h2 : magOf binB (a + b + 1) ≤ magOf binB r := mag_le binB_pos h1
    exact absurd (Nat.lt_of_lt_of_le hfl (Nat.le_trans h2 h)) (Nat.lt_irrefl _)
  · exact Nat.le_min.2 ⟨by omega, hr⟩

/-! ### sums and doubles -/
theorem rung_small {x : Nat} (h : x ≤ infR) : rung x = x := by unfold rung; unfold infR at h; omega
theorem fneg_small {x : Nat} (h : x ≤ infR) : fneg x = false := by
  unfold fneg; unfold infR at h
  have : x / 9223372036854775808 = 0 := by omega
  rw [this]; rfl
def addN (x y : Nat) : Nat := if x = infR ∨ y = infR then infR else rnd (magOf binB x + magOf binB y)
def dblN (x : Nat) : Nat := addN x x
theorem write_inf : double.write (.infinity false) = infR := by decide
theorem signed_false (m u : Nat) : signed false m u = ((m * 2 ^ u : Nat) : Int) := by
  unfold signed; rw [Nat.shiftLeft_eq]; rfl
theorem write_pos (m : Nat) (d : Nat) : double.write (.number false m (-1074 + (d : Int))) = rnd (m * 2 ^ d) := by
  show double.nearest false m _ = _
  rw [nearest_eq m _ d 0 (by omega) (.inl rfl), Nat.pow_zero, Nat.div_one]
theorem sum_pos (m n u v : Nat) : ∃ t d : Nat, Datum.sum (.number false m (-1074 + (u : Int))) (.number false n (-1074 + (v : Int))) = some (.number false t (-1074 + (d : Int))) ∧ t * 2 ^ d = m * 2 ^ u + n * 2 ^ v := by
  obtain ⟨d, hd⟩ : ∃ d : Nat, d = min u v := ⟨_, rfl⟩
  have hb : min (-1074 + (u : Int)) (-1074 + (v : Int)) = -1074 + (d : Int) := by omega
  have hdu : d ≤ u := by omega
  have hdv : d ≤ v := by omega
  refine ⟨m * 2 ^ (u - d) + n * 2 ^ (v - d), d, ?_, ?_⟩
  · unfold Datum.sum
    simp only [hb]
    have a1 : (-1074 + (u : Int) - (-1074 + (d : Int))).toNat = u - d := by omega
    have a2 : (-1074 + (v : Int) - (-1074 + (d : Int))).toNat = v - d := by omega
    rw [a1, a2, signed_false, signed_false]
    generalize m * 2 ^ (u - d) = a
    generalize n * 2 ^ (v - d) = b
    have h1 : (((a : Nat) : Int) + ((b : Nat) : Int)).natAbs = a + b := by omega
    have h2 : decide (((a : Nat) : Int) + ((b : Nat) : Int) < 0) = false := by simp; omega
    rw [h1, h2]
    simp
  · rw [Nat.add_mul, Nat.mul_assoc, Nat.mul_assoc, ← Nat.pow_add, ← Nat.pow_add, Nat.sub_add_cancel hdu, Nat.sub_add_cancel hdv]
theorem add_eq {x y : Nat} (hx : x ≤ infR) (hy : y ≤ infR) : double.add x y = some (addN x y) := by
  unfold Format.add addN
  rcases Nat.lt_or_eq_of_le hx with h1 | h1
  · obtain ⟨m, u, e1, e2⟩ := read_num x (by rw [rung_small hx]; exact h1)
    rw [fneg_small hx] at e1
    rw [rung_small hx] at e2
    rcases Nat.lt_or_eq_of_le hy with h2 | h2
    · obtain ⟨n, v, e3, e4⟩ := read_num y (by rw [rung_small hy]; exact h2)
      rw [fneg_small hy] at e3
      rw [rung_small hy] at e4
      obtain ⟨t, d, e5, e6⟩ := sum_pos m n u v
      rw [e1, e3, e5, if_neg (by intro h; rcases h with h | h; exact Nat.ne_of_lt h1 h; exact Nat.ne_of_lt h2 h), ← e2, ← e4, ← e6, ← write_pos]
      rfl
    · have e3 := read_inf y (by rw [rung_small hy]; exact h2)
      rw [fneg_small hy] at e3
      rw [e1, e3, if_pos (.inr h2)]
      show some (double.write (.infinity false)) = _
      rw [write_inf]
  · have e1 := read_inf x (by rw [rung_small hx]; exact h1)
    rw [fneg_small hx] at e1
    rw [e1, if_pos (.inl h1)]
    rcases Nat.lt_or_eq_of_le hy with h2 | h2
    · obtain ⟨n, v, e3, e4⟩ := read_num y (by rw [rung_small hy]; exact h2)
      rw [e3]
      show some (double.write (.infinity false)) = _
      rw [write_inf]
    · have e3 := read_inf y (by rw [rung_small hy]; exact h2)
      rw [fneg_small hy] at e3
      rw [e3]
      show some (double.write (.infinity false)) = _
      rw [write_inf]
theorem addN_comm (x y : Nat) : addN x y = addN y x := by
  unfold addN
  rw [Nat.add_comm (magOf binB x)]
  by_cases h : x = infR ∨ y = infR
  · rw [if_pos h, if_pos h.symm]
  · rw [if_neg h, if_neg (fun h' => h h'.symm)]
theorem addN_ge {x y : Nat} (hx : x ≤ infR) : x ≤ addN x y := by
  unfold addN
  split
  · exact hx
  · exact rnd_ge (Nat.le_add_right _ _) hx
theorem rnd_le (N : Nat) : rnd N ≤ infR := Nat.min_le_right _ _
theorem addN_le (x y : Nat) : addN x y ≤ infR := by
  unfold addN
  split
  · exact Nat.le_refl _
  · exact rnd_le _
def twoF : Nat := 4611686018427387904
theorem read_two : double.read twoF = .number false binB (-51) := by decide
theorem pow51 : binB = 2 * 2 ^ 51 := by decide
theorem mul_eq {x : Nat} (hx : x ≤ infR) : double.mul x twoF = some (dblN x) := by
  unfold Format.mul dblN addN
  rw [read_two]
  rcases Nat.lt_or_eq_of_le hx with h1 | h1
  · obtain ⟨m, u, e1, e2⟩ := read_num x (by rw [rung_small hx]; exact h1)
    rw [fneg_small hx] at e1
    rw [rung_small hx] at e2
    rw [e1, if_neg (by intro h; rcases h with h | h <;> exact Nat.ne_of_lt h1 h)]
    show some (double.nearest false (m * binB) (-1074 + (u : Int) + -51)) = _
    rw [nearest_eq (m * binB) _ u 51 (by omega) (.inr ⟨m * 2, by rw [pow51, Nat.mul_assoc]⟩)]
    congr 2
    rw [← e2, pow51, ← Nat.mul_assoc, Nat.mul_right_comm, Nat.mul_div_cancel _ (Nat.two_pow_pos 51), ← Nat.mul_two, Nat.mul_right_comm]
  · have e1 := read_inf x (by rw [rung_small hx]; exact h1)
    rw [fneg_small hx] at e1
    rw [e1, if_pos (.inl h1)]
    show Option.map double.write (if binB = 0 then none else some (Datum.infinity (false ^^ false))) = _
    rw [if_neg (by decide)]
    show some (double.write (.infinity false)) = _
    rw [write_inf]

/-! ### doubling, again and again -/
theorem dbl_ge {x : Nat} (hx : x ≤ infR) : x ≤ dblN x := addN_ge hx
theorem dbl_le (x : Nat) : dblN x ≤ infR := addN_le x x
theorem dbl_zero : dblN 0 = 0 := by decide
theorem mag_dbl (x : Nat) : magOf binB x + magOf binB x = magOf binB (if x < binB then 2 * x else x + binB) := by
  have hB := binB_pos
  by_cases h : x < binB
  · rw [if_pos h]
    have e : magOf binB x = x := by unfold magOf; rw [if_pos h]
    rw [e]
    by_cases h2 : 2 * x < binB
    · unfold magOf; rw [if_pos h2]; omega
    · have := magOf_form binB 0 (2 * x - binB) hB (by omega)
      rw [show (0 + 1) * binB + (2 * x - binB) = 2 * x by omega] at this
      rw [this, Nat.pow_zero, Nat.mul_one]; omega
  · rw [if_neg h]
    obtain ⟨k, hk⟩ : ∃ k, x / binB = k + 1 := ⟨x / binB - 1, by have : 1 ≤ x / binB := (Nat.le_div_iff_mul_le hB).2 (by omega); omega⟩
    have hm := Nat.mod_lt x hB
    have hr : x = (k + 1) * binB + x % binB := by rw [← hk, Nat.mul_comm]; exact (Nat.div_add_mod x binB).symm
    have e1 := magOf_form binB k (x % binB) hB (Nat.le_of_lt hm)
    have e2 := magOf_form binB (k + 1) (x % binB) hB (Nat.le_of_lt hm)
    rw [← hr] at e1
    have e3 : (k + 1 + 1) * binB + x % binB = x + binB := by rw [Nat.succ_mul (k + 1)]; omega
    rw [e3] at e2
    rw [e1, e2, Nat.pow_succ, ← Nat.mul_two, Nat.mul_assoc]
theorem dbl_eq {x : Nat} (hx : x < infR) : dblN x = min (if x < binB then 2 * x else x + binB) infR := by
  unfold dblN addN
  rw [if_neg (by intro h; rcases h with h | h <;> exact Nat.ne_of_lt hx h), mag_dbl, rnd_mag]
theorem dbl_inf : dblN infR = infR := by unfold dblN addN; rw [if_pos (.inl rfl)]
def dblI (x : Nat) : Nat → Nat
  | 0 => x
  | n + 1 => dblN (dblI x n)
theorem dblI_le {x : Nat} (hx : x ≤ infR) (n : Nat) : dblI x n ≤ infR := by
  cases n with
  | zero => exact hx
  | succ n => exact dbl_le _
theorem dblI_succ (x n : Nat) : dblI x (n + 1) = dblI (dblN x) n := by
  induction n with
  | zero => rfl
  | succ n ih => show dblN (dblI x (n + 1)) = dblN (dblI (dblN x) n); rw [ih]
theorem dblI_mono {x : Nat} (hx : x ≤ infR) {n m : Nat} (h : n ≤ m) : dblI x n ≤ dblI x m := by
  induction h with
  | refl => exact Nat.le_refl _
  | step _ ih => exact Nat.le_trans ih (dbl_ge (dblI_le hx _))
theorem dblI_pow {x : Nat} (h1 : 1 ≤ x) (hx : x ≤ infR) (j : Nat) : min (2 ^ j) binB ≤ dblI x j := by
  induction j with
  | zero => exact Nat.le_trans (Nat.min_le_left _ _) h1
  | succ j ih =>
    show _ ≤ dblN (dblI x j)
    have hle := dblI_le hx j
    have hbi : binB ≤ infR := by decide
    generalize dblI x j = v at *
    by_cases hv : v < binB
    · rw [dbl_eq (Nat.lt_of_lt_of_le hv hbi), if_pos hv, Nat.pow_succ]
      omega
    · exact Nat.le_trans (Nat.min_le_right _ _) (Nat.le_trans (Nat.le_of_not_lt hv) (dbl_ge hle))
theorem dblI_lin {x : Nat} (h1 : binB ≤ x) (hx : x ≤ infR) (j : Nat) : min ((j + 1) * binB) infR ≤ dblI x j := by
  induction j with
  | zero => rw [Nat.zero_add, Nat.one_mul]; exact Nat.le_trans (Nat.min_le_left _ _) h1
  | succ j ih =>
    show _ ≤ dblN (dblI x j)
    have hle := dblI_le hx j
    have hge : binB ≤ dblI x j := Nat.le_trans h1 (by have := dblI_mono hx (Nat.zero_le j); exact this)
    generalize dblI x j = v at *
    rcases Nat.lt_or_eq_of_le hle with hv | hv
    · rw [dbl_eq hv, if_neg (Nat.not_lt.2 hge), Nat.succ_mul (j + 1)]
      omega
    · rw [hv, dbl_inf]; exact Nat.min_le_right _ _
theorem dblI_add (x a b : Nat) : dblI x (a + b) = dblI (dblI x a) b := by
  induction b with
  | zero => rfl
  | succ b ih => show dblN (dblI x (a + b)) = _; rw [ih]; rfl
theorem inf_lin : infR = 2047 * binB := by decide
theorem dblI_all {x : Nat} (h1 : 1 ≤ x) (hx : x ≤ infR) : dblI x 2200 = infR := by
  have a1 := dblI_pow h1 hx 52
  rw [← binB_pow, Nat.min_self] at a1
  have a2 := dblI_lin a1 (dblI_le hx 52) 2046
  rw [← dblI_add, ← inf_lin, Nat.min_self] at a2
  exact Nat.le_antisymm (dblI_le hx _) (Nat.le_trans a2 (dblI_mono hx (by omega)))

/-- the text's loop -/
def goB (limit : Nat) : Nat → Nat → Nat
  | x, 0 => x
  | x, n + 1 => if 0 < x ∧ x < limit then goB limit (dblN x) n else x
theorem goB_le {x : Nat} (limit n : Nat) (hx : x ≤ infR) : goB limit x n ≤ infR := by
  induction n generalizing x with
  | zero => exact hx
  | succ n ih => unfold goB; split; exact ih (dbl_le x); exact hx
theorem dblI_zero (n : Nat) : dblI 0 n = 0 := by
  induction n with
  | zero => rfl
  | succ n ih => show dblN (dblI 0 n) = 0; rw [ih]; exact dbl_zero
theorem goB_min {x : Nat} (limit n : Nat) (hx : x ≤ infR) : min (goB limit x n) limit = min (dblI x n) limit := by
  induction n generalizing x with
  | zero => rfl
  | succ n ih =>
    unfold goB
    split
    · rw [ih (dbl_le x), dblI_succ]
    · rename_i h
      have hm := dblI_mono hx (Nat.zero_le (n + 1))
      have h0 : dblI x 0 = x := rfl
      rw [h0] at hm
      by_cases hz : x = 0
      · rw [hz, dblI_zero]
      · have : limit ≤ x := by omega
        rw [Nat.min_eq_right this, Nat.min_eq_right (Nat.le_trans this hm)]
theorem goB_ref {x : Nat} (limit n : Nat) (hx : x ≤ infR) (hl : limit ≤ infR) : min (goB limit x n) limit = min (dblI x (min n 2200)) limit := by
  rw [goB_min limit n hx]
  rcases Nat.le_total n 2200 with h | h
  · rw [Nat.min_eq_left h]
  · rw [Nat.min_eq_right h]
    by_cases hz : x = 0
    · rw [hz, dblI_zero, dblI_zero]
    · have h1 := dblI_all (Nat.pos_of_ne_zero hz) hx
      have h2 := dblI_mono hx h
      rw [h1] at h2
      rw [h1, Nat.min_eq_right hl, Nat.min_eq_right (Nat.le_trans hl h2)]
end Go.Proofs.YtgmiockaecklaaaGreatDoor

namespace Go.Proofs.YtgmiockaecklaaaGreatDoor
open Go.RowKit Ieee
attribute [local go_sem] flt_def fgt_def feq_def fne_def

def nanC : Nat := 9221120237041090561
def plainN (x : Nat) : Nat := if isNan x then nanC else if x = 9223372036854775808 then 0 else x
def isDel (x : Nat) : Bool := !isNan x && (decide (x < 9223372036854775808) || decide (x = 9223372036854775808))
theorem plain_le {x : Nat} (h : isDel x = true) : plainN x ≤ infR := by
  unfold isDel at h
  simp only [Bool.and_eq_true, Bool.not_eq_true', Bool.or_eq_true, decide_eq_true_eq] at h
  unfold plainN
  rw [h.1]
  simp only [Bool.false_eq_true, if_false]
  split
  · decide
  · have h1 := h.1
    unfold isNan rung at h1
    simp only [decide_eq_false_iff_not] at h1
    unfold infR at *
    omega
theorem del_eq {x : Nat} (hx : x < 18446744073709551616) : (fgt x 0 || feq x 0) = isDel x := by
  rw [fgt_eq, feq_eq, key_zero, key_big hx, show isNan 0 = false from by decide]
  unfold isDel
  cases isNan x
  · simp only [Bool.not_false, Bool.true_and]
    rw [← Bool.decide_or, ← Bool.decide_or, decide_eq_decide]
    split <;> omega
  · rfl
theorem key_small {x : Nat} (h : x ≤ infR) : key x = (x : Int) := by
  unfold key; rw [fneg_small h, rung_small h]; rfl
theorem nan_small {x : Nat} (h : x ≤ infR) : isNan x = false := by
  unfold isNan; rw [rung_small h]; simp; exact h
theorem flt_small {x y : Nat} (hx : x ≤ infR) (hy : y ≤ infR) : flt x y = decide (x < y) := by
  rw [flt_eq, nan_small hx, nan_small hy, key_small hx, key_small hy]; simp
theorem fgt_small {x y : Nat} (hx : x ≤ infR) (hy : y ≤ infR) : fgt x y = decide (y < x) := by
  rw [fgt_eq, nan_small hx, nan_small hy, key_small hx, key_small hy]; simp
theorem feq_small {x y : Nat} (hx : x ≤ infR) (hy : y ≤ infR) : feq x y = decide (x = y) := by
  rw [feq_eq, nan_small hx, nan_small hy, key_small hx, key_small hy]; simp only [Bool.not_false, Bool.true_and, decide_eq_decide]; omega
theorem place_small {x : Nat} (h : x ≤ infR) : place x = (x : Int) := by
  rw [place_num (nan_small h), if_neg (by unfold infR at h; omega)]
theorem run_min_small {P : Program} {w : World} (ts : Array TypeId) (t : TypeId) {x y : Nat} (hx : x ≤ infR) (hy : y ≤ infR) :
    (Builtin.min_ ts t #[.float .f64 x, .float .f64 y]).run P w = .ok (.float .f64 (min x y)) w := by
  have h := order_key x y (nan_small hx) (nan_small hy)
  rw [key_small hx, key_small hy] at h
  have h' : FloatKind.f64.format.order x y = some (compare (x : Int) (y : Int)) := h
  rcases Nat.lt_trichotomy x y with h1 | h1 | h1
  · rw [cmp_lt (show (x : Int) < y by omega)] at h'
    simp [Builtin.min_, Builtin.min2, h', Nat.min_eq_left (Nat.le_of_lt h1)]
  · subst h1
    rw [cmp_self] at h'
    simp [Builtin.min_, Builtin.min2, h']
  · rw [cmp_gt (show (y : Int) < x by omega)] at h'
    simp [Builtin.min_, Builtin.min2, h', Nat.min_eq_right (Nat.le_of_lt h1)]

theorem nan_any (w : World) : Calls Tryz.prog 82 #[] w (Gives w (.float .f64 nanC)) := by
  have h1 := run_frombits nanC
  have h2 : ((nanC : Nat) : Int) = 9221120237041090561 := rfl
  rw [h2] at h1
  go_enter Tryz.func82, Tryz.ntmps82
  go_wp2_with fail
  go_ret
  exact ⟨rfl, Below.refl _ _⟩
theorem plain_any (x : Nat) (hx : x < 18446744073709551616) (w : World) :
    Calls Tryz.prog 59 #[.float .f64 x] w (Gives w (.float .f64 (plainN x))) := by
  go_enter Tryz.func59, Tryz.ntmps59
  go_wp2_with fail
  refine (class_any x hx w).mono ?_
  rintro e w1 ⟨rfl, hb1⟩
  cases hn : isNan x
  · by_cases h0 : x = 9223372036854775808
    · have hc : clsN x = 0 := by unfold clsN; rw [hn, if_pos h0]; rfl
      have HC := Lib.hid (show plainN x = 0 by unfold plainN; rw [hn, if_pos h0]; rfl)
      rw [hc]
      clear h0
      go_wp2_with fail
      go_ret
      exact ⟨by rw [HC.out]; rfl, hb1⟩
    · have hc : clsN x = 1 := by unfold clsN; rw [hn, if_neg h0]; rfl
      have HC := Lib.hid (show plainN x = x by unfold plainN; rw [hn, if_neg h0]; rfl)
      rw [hc]
      clear h0
      go_wp2_with fail
      go_ret
      exact ⟨by rw [HC.out]; rfl, hb1⟩
  · have hc : clsN x = 2 := by unfold clsN; rw [hn]; rfl
    have HC := Lib.hid (show plainN x = nanC by unfold plainN; rw [hn]; rfl)
    rw [hc]
    go_wp2_with fail
    refine (nan_any w1).mono ?_
    rintro e w2 ⟨rfl, hb2⟩
    go_wp2_with fail
    go_ret
    exact ⟨by rw [HC.out]; rfl, hb1.trans (hb2.mono hb1.size)⟩
def delF (x : Nat) : Nat := if isDel x then plainN x else 0
def delE (x : Nat) : Nat := if isDel x then 0 else 4
theorem del_yes {x : Nat} (h : isDel x = true) : delF x = plainN x ∧ delE x = 0 := by unfold delF delE; rw [h]; exact ⟨rfl, rfl⟩
theorem del_no {x : Nat} (h : isDel x = false) : delF x = 0 ∧ delE x = 4 := by unfold delF delE; rw [h]; exact ⟨rfl, rfl⟩
def delV (E : Nat → Addr) (x : Nat) : Value := .tuple #[.float .f64 (delF x), errV E (delE x)]
theorem delay_any (x : Nat) (hx : x < 18446744073709551616) (w : World) (E : Nat → Addr) (he : ErrsOn [0, 3] w E) :
    Calls Tryz.prog 52 #[.float .f64 x] w (Gives w (delV E x)) := by
  have HE := Lib.hid he
  clear he
  have hd := del_eq hx
  unfold delV
  go_enter Tryz.func52, Tryz.ntmps52
  cases h1 : isDel x
  · rw [h1] at hd
    rw [(del_no h1).1, (del_no h1).2]
    go_wp2_with fail
    refine wp_phi (fun w' => ErrsOn [0, 3] w' E ∧ Below w.heap.size w w') [] [] (by kernel_rfl) (by kernel_rfl) ?_ ?_ ⟨HE.out.below ((Below.refl _ _).drew), (Below.refl _ _).drew⟩ ?_
    · rintro w1 w2 ⟨a1, a2⟩ hb
      exact ⟨a1.below hb, a2.trans (hb.mono a2.size)⟩
    · intro p hp; cases hp
    repeat (refine phi_pureK rfl rfl (fun K hK => ?_); apply Exists.intro; constructor; (rintro w' ⟨hI1, hI2⟩; have s1 := hI1.cell 3 rfl; simp only [errVar, List.getD_cons_zero, List.getD_cons_succ] at s1; clear hI1 hI2; first | (go_simp; (try go_bits); (try go_simp); rfl) | go_simp); simp only [Act.put, List.setIfInBounds_toArray, List.set_cons_succ, List.set_cons_zero]; (try simp only [List.cons_append]); (try simp only [List.nil_append]); apply hK; clear hK K)
    refine phi_done ?_
    rintro w1 ⟨_, hbw⟩ _
    refine wpList_nil ?_
    go_wp2_with fail
    go_ret2
    exact ⟨rfl, hbw⟩
  · rw [h1] at hd
    rw [(del_yes h1).1, (del_yes h1).2]
    go_wp2_with fail
    refine (plain_any x hx w).mono ?_
    rintro e w1 ⟨rfl, hb1⟩
    go_wp2_with fail
    go_ret2
    exact ⟨rfl, hb1⟩

theorem errV_four (E : Nat → Addr) : errV E 4 = .iface 160 (.pointer (some (E 3))) := rfl
def bothDel (a b : Nat) : Bool := isDel a && isDel b
end Go.Proofs.YtgmiockaecklaaaGreatDoor

namespace Go.Proofs.YtgmiockaecklaaaGreatDoor
open Go.RowKit Ieee
attribute [local go_sem] flt_def fgt_def feq_def fne_def

theorem refbits_any (x : Nat) (hx : x < 18446744073709551616) (w : World) :
    Calls Tryz.prog 30 #[.float .f64 x] w (Gives w (.int .u64 (plainN x : Int))) := by
  go_enter Tryz.func30, Tryz.ntmps30
  go_wp2_with fail
  refine (refnan_any x w).mono ?_
  rintro e w1 ⟨rfl, hb1⟩
  cases hn : isNan x
  · go_wp2_with fail
    refine (raw_any x w1).mono ?_
    rintro e w2 ⟨rfl, hb2'⟩
    have hb2 := hb1.trans (hb2'.mono hb1.size)
    clear hb2'
    by_cases h0 : x = 9223372036854775808
    · have hd : ((x : Int) == 9223372036854775808) = true := by simp; omega
      have HC := Lib.hid (show plainN x = 0 by unfold plainN; rw [hn, if_pos h0]; rfl)
      clear h0
      go_wp2_with fail
      go_ret
      exact ⟨by rw [HC.out]; rfl, hb2⟩
    · have hd : ((x : Int) == 9223372036854775808) = false := by simp; omega
      have HC := Lib.hid (show plainN x = x by unfold plainN; rw [hn, if_neg h0]; rfl)
      clear h0
      go_wp2_with fail
      refine (raw_any x w2).mono ?_
      rintro e w3 ⟨rfl, hb3'⟩
      have hb3 := hb2.trans (hb3'.mono hb2.size)
      clear hb3'
      go_wp2_with fail
      go_ret
      exact ⟨by rw [HC.out]; rfl, hb3⟩
  · have HC := Lib.hid (show plainN x = nanC by unfold plainN; rw [hn]; rfl)
    go_wp2_with fail
    go_ret
    exact ⟨by rw [HC.out]; rfl, hb1⟩
theorem refdel_any (x : Nat) (w : World) :
    Calls Tryz.prog 28 #[.float .f64 x] w (Gives w (.bool (isDel x))) := by
  go_enter Tryz.func28, Tryz.ntmps28
  go_wp2_with fail
  refine (refnan_any x w).mono ?_
  rintro e w1 ⟨rfl, hb1⟩
  cases hn : isNan x
  · go_wp2_with fail
    refine (raw_any x w1).mono ?_
    rintro e w2 ⟨rfl, hb2'⟩
    have hb2 := hb1.trans (hb2'.mono hb1.size)
    clear hb2'
    by_cases h1 : x < 9223372036854775808
    · have hd : decide ((x : Int) < 9223372036854775808) = true := by simp; omega
      have HC := Lib.hid (show isDel x = true by unfold isDel; rw [hn]; simp [h1])
      clear h1
      go_wp2_with fail
      go_ret
      exact ⟨by rw [HC.out]; rfl, hb2⟩
    · have hd : decide ((x : Int) < 9223372036854775808) = false := by simp; omega
      have HC := Lib.hid (show isDel x = ((x : Int) == 9223372036854775808) by
        unfold isDel; rw [hn, decide_eq_false h1, Bool.eq_iff_iff]; simp; omega)
      clear h1
      go_wp2_with fail
      refine (raw_any x w2).mono ?_
      rintro e w3 ⟨rfl, hb3'⟩
      have hb3 := hb2.trans (hb3'.mono hb2.size)
      clear hb3'
      go_wp2_with fail
      go_ret
      exact ⟨by rw [HC.out]; rfl, hb3⟩
  · have HC := Lib.hid (show isDel x = false by unfold isDel; rw [hn]; rfl)
    go_wp2_with fail
    go_ret
    exact ⟨by rw [HC.out]; rfl, hb1⟩
theorem bits_any (x : Nat) (hx : x < 18446744073709551616) (w : World) :
    Calls Tryz.prog 21 #[.float .f64 x] w (Gives w (.int .u64 (plainN x : Int))) := by
  have h1 := run_bits (plainN x)
  go_enter Tryz.func21, Tryz.ntmps21
  go_wp2_with fail
  refine (plain_any x hx w).mono ?_
  rintro e w1 ⟨rfl, hb1⟩
  go_wp2_with fail
  go_ret
  exact ⟨rfl, hb1⟩
end Go.Proofs.YtgmiockaecklaaaGreatDoor

namespace Go.Proofs.YtgmiockaecklaaaGreatDoor
open Go.RowKit Ieee
attribute [local go_sem] flt_def fgt_def feq_def fne_def

theorem from_any (x : Nat) (hx : x < 18446744073709551616) (w : World) :
    Calls Tryz.prog 47 #[.int .u64 (x : Int)] w (Gives w (.float .f64 (plainN x))) := by
  have h1 := run_frombits x
  go_enter Tryz.func47, Tryz.ntmps47
  go_wp2_with fail
  refine (plain_any x hx w).mono ?_
  rintro e w1 ⟨rfl, hb1⟩
  go_wp2_with fail
  go_ret
  exact ⟨rfl, hb1⟩
end Go.Proofs.YtgmiockaecklaaaGreatDoor

namespace Go.Proofs.YtgmiockaecklaaaGreatDoor
open Go.RowKit Ieee
attribute [local go_sem] flt_def fgt_def feq_def fne_def

def isFin (x : Nat) : Bool := decide (rung x < infR)
theorem rnd_zero : rnd 0 = 0 := by decide
theorem sub_fin {x : Nat} (h : rung x < infR) : double.sub x x = some 0 := by
  obtain ⟨m, u, e, _⟩ := read_num x h
  unfold Format.sub
  rw [e]
  have hw : double.write (.number false 0 (-1074 + (u : Int))) = 0 := by rw [write_pos, Nat.zero_mul, rnd_zero]
  have : (Datum.number (fneg x) m (-1074 + (u : Int))).sum (Datum.number (fneg x) m (-1074 + (u : Int))).opposite = some (.number false 0 (-1074 + (u : Int))) := by
    cases fneg x <;> simp [Datum.opposite, Datum.sum, signed] <;> omega
  rw [this]
  simp [hw]
theorem sub_not {x : Nat} (h : ¬ rung x < infR) : double.sub x x = none := by
  unfold Format.sub
  by_cases h1 : rung x = infR
  · rw [read_inf x h1]
    cases fneg x <;> rfl
  · obtain ⟨t, e⟩ := read_nan x (by omega)
    rw [e]
    rfl
/-- a NaN's bits, whichever are drawn -/
theorem cut_nan (t : Nat) : isNan ((t % 2) * 2 ^ 63 + 0x7ff0000000000000 + 1 + (t / 2) % (2 ^ 52 - 1)) = true := by
  unfold isNan rung infR
  rw [decide_eq_true_eq]
  have h1 : t % 2 = 0 ∨ t % 2 = 1 := by omega
  have h2 : t / 2 % (2 ^ 52 - 1) < 2 ^ 52 - 1 := Nat.mod_lt _ (by decide)
  generalize t / 2 % (2 ^ 52 - 1) = e at *
  rcases h1 with h1 | h1 <;> rw [h1] <;> omega
theorem feq_nan {x y : Nat} (h : isNan x = true) : feq x y = false := by rw [feq_eq, h]; rfl
theorem feq_00 : feq 0 0 = true := by decide
theorem and_exp (b : Nat) : b &&& 9218868437227405312 = (b / 4503599627370496 % 2048) * 4503599627370496 := by
  apply Nat.eq_of_testBit_eq
  intro i
  have e1 : (9218868437227405312 : Nat) = (2 ^ 11 - 1) * 2 ^ 52 := by decide
  have e2 : (4503599627370496 : Nat) = 2 ^ 52 := by decide
  have e3 : (2048 : Nat) = 2 ^ 11 := by decide
  rw [e1, e2, e3, Nat.testBit_and, Nat.testBit_mul_two_pow, Nat.testBit_mul_two_pow, Nat.testBit_two_pow_sub_one, Nat.testBit_mod_two_pow, Nat.testBit_div_two_pow]
  by_cases h : 52 ≤ i
  · rw [show i - 52 + 52 = i by omega]
    cases b.testBit i <;> simp [h]
  · simp [h]
theorem fin_bits {b : Nat} (hb : b < 18446744073709551616) : (bits .and .u64 (b : Int) 9218868437227405312 != 9218868437227405312) = isFin b := by
  have e : bits .and .u64 (b : Int) 9218868437227405312 = ((b / 4503599627370496 % 2048 * 4503599627370496 : Nat) : Int) := by
    rw [← and_exp]
    show IntKind.u64.wrap ((BitVec.ofInt 64 (b : Int) &&& BitVec.ofInt 64 9218868437227405312).toNat : Int) = _
    rw [BitVec.toNat_and, BitVec.ofInt_natCast, BitVec.toNat_ofNat, show (BitVec.ofInt 64 9218868437227405312).toNat = 9218868437227405312 from by decide, Nat.mod_eq_of_lt hb, IntKind.wrap_u64]
    have : b &&& 9218868437227405312 ≤ b := Nat.and_le_left
    omega
  rw [e]
  unfold isFin rung infR
  rw [Bool.eq_iff_iff]
  simp only [bne_iff_ne, ne_eq, decide_eq_true_eq]
  omega
theorem run_sub_fin {x : Nat} (h : rung x < infR) (w : World) : (binOp .sub 24 (.float .f64 x) (.float .f64 x)).run Tryz.prog w = .ok (.float .f64 0) w := by
  have h' : FloatKind.f64.format.sub x x = some 0 := sub_fin h
  simp [binOp, Op.floatArith, h']
theorem run_sub_nan {x : Nat} (h : ¬ rung x < infR) (w : World) : ∃ r, isNan r = true ∧ (binOp .sub 24 (.float .f64 x) (.float .f64 x)).run Tryz.prog w = .ok (.float .f64 r) w.drew := by
  have h' : FloatKind.f64.format.sub x x = none := sub_not h
  refine ⟨_, cut_nan (w.tape w.drawn (.nanBits .f64 x x)), ?_⟩
  simp [binOp, Op.floatArith, h', Question.forced, Question.cut]
theorem finite_any (x : Nat) (w : World) :
    Calls Tryz.prog 19 #[.float .f64 x] w (Gives w (.bool (isFin x))) := by
  by_cases h : rung x < infR
  · have h1 := run_sub_fin h
    have h2 := feq_00
    have HC := Lib.hid (show isFin x = true by unfold isFin; simpa using h)
    clear h
    go_enter Tryz.func19, Tryz.ntmps19
    go_wp2_with fail
    go_ret
    exact ⟨by rw [HC.out]; rfl, Below.refl _ _⟩
  · obtain ⟨r, hr, h1⟩ := run_sub_nan h w
    have h2 := feq_nan (y := 0) hr
    have HC := Lib.hid (show isFin x = false by unfold isFin; simpa using h)
    clear h
    go_enter Tryz.func19, Tryz.ntmps19
    go_wp2_with fail
    go_ret
    exact ⟨by rw [HC.out]; rfl, (Below.refl _ _).drew⟩
end Go.Proofs.YtgmiockaecklaaaGreatDoor
