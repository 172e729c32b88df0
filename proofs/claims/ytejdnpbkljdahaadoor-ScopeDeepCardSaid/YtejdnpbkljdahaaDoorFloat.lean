/-
  Float: the order of the model's float64s, told by their bits. No program.
-/
import Derived.Test.YtejdnpbkljdahaaDoorBase
import Ieee.Arith
namespace Go.Proofs.YtejdnpbkljdahaaDoor
open Go.RowKit Ieee

/-! ### a magnitude by its rung -/
def magOf (B r : Nat) : Nat := if r < B then r else (B + r % B) * 2 ^ (r / B - 1)
theorem magOf_step (B r : Nat) (hB : 0 < B) : magOf B r < magOf B (r + 1) := by
  unfold magOf
  by_cases h1 : r + 1 < B
  · rw [if_pos (by omega), if_pos h1]; omega
  · by_cases h2 : r < B
    · have e : r + 1 = B := by omega
      rw [if_pos h2, if_neg h1, e, Nat.mod_self, Nat.div_self hB]; simp; omega
    · rw [if_neg h2, if_neg h1]
      have hq : 1 ≤ r / B := (Nat.le_div_iff_mul_le hB).2 (by omega)
      have hm := Nat.mod_lt r hB
      have hd := Nat.div_add_mod r B
      by_cases h3 : r % B + 1 < B
      · have e1 : (r + 1) / B = r / B := by
          have hs : r + 1 = B * (r / B) + (r % B + 1) := by omega
          rw [hs, Nat.mul_add_div hB, Nat.div_eq_of_lt h3, Nat.add_zero]
        have e2 : (r + 1) % B = r % B + 1 := by
          conv => lhs; rw [← hd]
          rw [Nat.add_assoc, Nat.mul_add_mod, Nat.mod_eq_of_lt h3]
        rw [e1, e2]
        exact Nat.mul_lt_mul_of_pos_right (by omega) (Nat.pow_pos (by omega))
      · have e0 : r % B = B - 1 := by omega
        have e1 : (r + 1) / B = r / B + 1 := by
          have hs : r + 1 = B * (r / B + 1) := by rw [Nat.mul_succ]; omega
          rw [hs, Nat.mul_div_cancel_left _ hB]
        have e2 : (r + 1) % B = 0 := by
          have hs : r + 1 = B * (r / B + 1) := by rw [Nat.mul_succ]; omega
          rw [hs, Nat.mul_mod_right]
        rw [e1, e2, e0]
        obtain ⟨q, hq'⟩ : ∃ q, r / B = q + 1 := ⟨r / B - 1, by omega⟩
        rw [hq', Nat.add_sub_cancel, Nat.add_sub_cancel, Nat.pow_succ]
        have hp : 0 < 2 ^ q := Nat.pow_pos (by omega)
        calc (B + (B - 1)) * 2 ^ q < (B * 2) * 2 ^ q := Nat.mul_lt_mul_of_pos_right (by omega) hp
          _ = (B + 0) * (2 ^ q * 2) := by rw [Nat.add_zero, Nat.mul_assoc, Nat.mul_comm 2]
theorem magOf_lt {B : Nat} (hB : 0 < B) {r s : Nat} (h : r < s) : magOf B r < magOf B s := by
  induction s with
  | zero => omega
  | succ s ih =>
    by_cases e : r = s
    · subst e; exact magOf_step B r hB
    · exact Nat.lt_trans (ih (by omega)) (magOf_step B s hB)
theorem magOf_inj {B : Nat} (hB : 0 < B) {r s : Nat} (h : magOf B r = magOf B s) : r = s := by
  rcases Nat.lt_trichotomy r s with h1 | h1 | h1
  · have := magOf_lt hB h1; omega
  · exact h1
  · have := magOf_lt hB h1; omega
theorem magOf_zero {B : Nat} (hB : 0 < B) : magOf B 0 = 0 := by unfold magOf; rw [if_pos hB]

/-! ### a word's key -/
def fneg (b : Nat) : Bool := b / 9223372036854775808 % 2 == 1
def rung (b : Nat) : Nat := b % 9223372036854775808
def infR : Nat := 9218868437227405312
def isNan (b : Nat) : Bool := decide (infR < rung b)
def key (b : Nat) : Int := if fneg b then -(rung b : Int) else (rung b : Int)
def binB : Nat := 4503599627370496

theorem read_eq (b : Nat) : double.read b = if rung b < binB then .number (fneg b) (rung b) (-1074) else if rung b < infR then .number (fneg b) (binB + rung b % binB) (-1074 + (rung b / binB - 1 : Nat)) else if rung b = infR then .infinity (fneg b) else .nan (fneg b) (rung b - infR) := by rfl
theorem read_num (b : Nat) (h : rung b < infR) : ∃ m : Nat, ∃ u : Nat, double.read b = .number (fneg b) m (-1074 + (u : Int)) ∧ m * 2 ^ u = magOf binB (rung b) := by
  rw [read_eq]
  unfold magOf
  by_cases h1 : rung b < binB
  · rw [if_pos h1, if_pos h1]; exact ⟨rung b, 0, by simp, by simp⟩
  · rw [if_neg h1, if_neg h1, if_pos h]; exact ⟨_, _, rfl, rfl⟩
theorem read_inf (b : Nat) (h : rung b = infR) : double.read b = .infinity (fneg b) := by
  rw [read_eq, if_neg (by rw [h]; decide), if_neg (by omega), if_pos h]
theorem read_nan (b : Nat) (h : infR < rung b) : ∃ t, double.read b = .nan (fneg b) t := by
  have hB : binB ≤ infR := by decide
  rw [read_eq, if_neg (by omega), if_neg (by omega), if_neg (by omega)]; exact ⟨_, rfl⟩

theorem cmp_lt {a b : Int} (h : a < b) : compare a b = .lt := by show compareOfLessAndEq a b = .lt; unfold compareOfLessAndEq; rw [if_pos h]
theorem cmp_gt {a b : Int} (h : b < a) : compare a b = .gt := by show compareOfLessAndEq a b = .gt; unfold compareOfLessAndEq; rw [if_neg (by omega), if_neg (by omega)]
theorem cmp_self (a : Int) : compare a a = .eq := by show compareOfLessAndEq a a = .eq; unfold compareOfLessAndEq; rw [if_neg (by omega), if_pos rfl]
def sgn (neg : Bool) (n : Nat) : Int := if neg then -(n : Int) else (n : Int)
theorem signed_eq (s : Bool) (m u : Nat) : signed s m u = sgn s (m * 2 ^ u) := by
  unfold signed sgn; rw [Nat.shiftLeft_eq]
theorem sgn_mul (s : Bool) (n k : Nat) : sgn s (n * k) = sgn s n * (k : Int) := by
  unfold sgn; cases s <;> simp [Int.neg_mul]
theorem compare_mul (a b : Int) (k : Nat) (hk : 0 < k) : compare (a * (k : Int)) (b * (k : Int)) = compare a b := by
  have hk' : (0 : Int) < (k : Int) := by omega
  rcases Int.lt_trichotomy a b with h | h | h
  · rw [cmp_lt h, cmp_lt (Int.mul_lt_mul_of_pos_right h hk')]
  · rw [h, cmp_self, cmp_self]
  · rw [cmp_gt h, cmp_gt (Int.mul_lt_mul_of_pos_right h hk')]
theorem compare_sgn {B : Nat} (hB : 0 < B) (s t : Bool) (r q : Nat) : compare (sgn s (magOf B r)) (sgn t (magOf B q)) = compare (sgn s r) (sgn t q) := by
  have mono : ∀ r q : Nat, (magOf B r < magOf B q ↔ r < q) := fun r q => ⟨fun h => by
    rcases Nat.lt_trichotomy r q with h1 | h1 | h1
    · exact h1
    · subst h1; omega
    · have := magOf_lt hB h1; omega, magOf_lt hB⟩
  have hz := magOf_zero hB
  have pos : ∀ r : Nat, (0 < magOf B r ↔ 0 < r) := fun r => by have := mono 0 r; rw [hz] at this; exact this
  have h1 := mono r q
  have h2 := mono q r
  have h3 := pos r
  have h4 := pos q
  have key : ∀ a b c d : Int, (a < b ↔ c < d) → (b < a ↔ d < c) → compare a b = compare c d := by
    intro a b c d e1 e2
    rcases Int.lt_trichotomy a b with h | h | h
    · rw [cmp_lt h, cmp_lt (e1.1 h)]
    · have : c = d := by
        rcases Int.lt_trichotomy c d with h' | h' | h'
        · have := e1.2 h'; omega
        · exact h'
        · have := e2.2 h'; omega
      rw [h, this, cmp_self, cmp_self]
    · rw [cmp_gt h, cmp_gt (e2.1 h)]
  apply key
  · unfold sgn; cases s <;> cases t <;> simp only [Bool.false_eq_true, if_false, if_true] <;> omega
  · unfold sgn; cases s <;> cases t <;> simp only [Bool.false_eq_true, if_false, if_true] <;> omega
theorem binB_pos : 0 < binB := by decide
theorem key_eq (b : Nat) : key b = sgn (fneg b) (rung b) := rfl

/-- the order of two words neither of which is a NaN is that of their keys -/
theorem order_key (x y : Nat) (hx : isNan x = false) (hy : isNan y = false) : double.order x y = some (compare (key x) (key y)) := by
  have hx' : rung x ≤ infR := by simpa [isNan] using hx
  have hy' : rung y ≤ infR := by simpa [isNan] using hy
  have hi : (0 : Int) < (infR : Int) := by decide
  unfold Format.order
  rw [key_eq, key_eq]
  rcases Nat.lt_or_eq_of_le hx' with h1 | h1 <;> rcases Nat.lt_or_eq_of_le hy' with h2 | h2
  · obtain ⟨m, u, e1, e2⟩ := read_num x h1
    obtain ⟨n, v, e3, e4⟩ := read_num y h2
    rw [e1, e3]
    simp only [Datum.order]
    congr 1
    rw [signed_eq, signed_eq]
    refine Eq.trans ?_ (compare_sgn binB_pos (fneg x) (fneg y) (rung x) (rung y))
    rw [← e2, ← e4]
    generalize hb : min (-1074 + (u : Int)) (-1074 + (v : Int)) = base
    obtain ⟨d, hd⟩ : ∃ d : Nat, base = -1074 + (d : Int) := ⟨min u v, by omega⟩
    have hdu : d ≤ u := by omega
    have hdv : d ≤ v := by omega
    have a1 : (-1074 + (u : Int) - base).toNat = u - d := by omega
    have a2 : (-1074 + (v : Int) - base).toNat = v - d := by omega
    rw [a1, a2, ← compare_mul _ _ (2 ^ d) (Nat.pow_pos (by omega)), ← sgn_mul, ← sgn_mul, Nat.mul_assoc, Nat.mul_assoc, ← Nat.pow_add, ← Nat.pow_add, Nat.sub_add_cancel hdu, Nat.sub_add_cancel hdv]
  · obtain ⟨m, u, e1, e2⟩ := read_num x h1
    rw [e1, read_inf y h2, h2]
    simp only [Datum.order]
    congr 1
    unfold sgn
    cases fneg y <;> cases fneg x <;> simp only [Bool.false_eq_true, if_false, if_true] <;> symm <;> first | (exact cmp_lt (by omega)) | (exact cmp_gt (by omega))
  · obtain ⟨n, v, e3, e4⟩ := read_num y h2
    rw [read_inf x h1, e3, h1]
    simp only [Datum.order]
    congr 1
    unfold sgn
    cases fneg y <;> cases fneg x <;> simp only [Bool.false_eq_true, if_false, if_true] <;> symm <;> first | (exact cmp_lt (by omega)) | (exact cmp_gt (by omega))
  · rw [read_inf x h1, read_inf y h2, h1, h2]
    simp only [Datum.order]
    congr 1
    cases fneg y <;> cases fneg x <;> decide
theorem order_nan_left (x y : Nat) (hx : isNan x = true) : double.order x y = none := by
  obtain ⟨t, e⟩ := read_nan x (by simpa [isNan] using hx)
  unfold Format.order
  rw [e]; rfl
theorem order_nan_right (x y : Nat) (hy : isNan y = true) : double.order x y = none := by
  obtain ⟨t, e⟩ := read_nan y (by simpa [isNan] using hy)
  unfold Format.order
  rw [e]
  cases double.read x <;> rfl
end Go.Proofs.YtejdnpbkljdahaaDoor
