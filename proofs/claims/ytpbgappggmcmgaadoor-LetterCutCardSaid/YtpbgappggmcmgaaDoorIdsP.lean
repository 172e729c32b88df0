/-
  IdsP: numbers' digits, texts of ids. No program.
-/
import Derived.Test.YtpbgappggmcmgaaDoorStr
import Derived.Lib.ItoaNum
import Derived.Lib.ItoaMem
import Derived.Lib.IndexMore
namespace Go.Proofs.YtpbgappggmcmgaaDoor
open Go.RowKit

/-- a number's digits -/
def dec (n : Nat) : List UInt8 := Lib.decDigits n
theorem dec_def (n : Nat) : dec n = if n < 10 then [UInt8.ofNat (48 + n)] else dec (n / 10) ++ [UInt8.ofNat (48 + n % 10)] := by
  unfold dec
  rw [Lib.decDigits]
  split <;> rfl
theorem dec_small {n : Nat} (h : n < 10) : dec n = [UInt8.ofNat (48 + n)] := by rw [dec_def, if_pos h]
theorem dec_len (n k : Nat) (h : n < 10 ^ (k + 1)) : 1 ≤ (dec n).length ∧ (dec n).length ≤ k + 1 := by
  induction k generalizing n with
  | zero => rw [dec_small (by simpa using h)]; simp
  | succ k ih =>
    rw [dec_def]
    split
    · simp
    · have := ih (n / 10) (by rw [Nat.div_lt_iff_lt_mul (by omega)]; rw [Nat.pow_succ] at h; exact h)
      simp; omega
/-- a number's text, up to the most; none: it isn't one -/
def numT (n m : Int) : Option (List UInt8) := if 0 ≤ n ∧ n ≤ m then some (dec n.toNat) else none
theorem numT_len {n m : Int} (hm : m ≤ 999999) {l : List UInt8} (h : numT n m = some l) : l.length ≤ 6 := by
  unfold numT at h
  split at h
  · cases h
    exact (dec_len n.toNat 5 (by omega)).2
  · cases h
def nodeT (n : Int) : Option (List UInt8) := (numT n 3).map fun l => 110 :: l
def actT (a b : Int) : Option (List UInt8) := (numT a 3).bind fun l => (numT b 999999).map fun m => 97 :: l ++ 46 :: m
def regT (a b r : Int) : Option (List UInt8) := (actT a b).bind fun l => (numT r 5).map fun m => l ++ 47 :: m
def partT (a p : Int) : Option (List UInt8) := (numT a 3).bind fun l => (numT p 7).map fun m => 112 :: l ++ 46 :: m
theorem actT_len {a b : Int} {l : List UInt8} (h : actT a b = some l) : l.length ≤ 20 := by
  unfold actT at h
  simp only [Option.bind_eq_some_iff, Option.map_eq_some_iff] at h
  obtain ⟨x, hx, y, hy, rfl⟩ := h
  have := numT_len (by omega) hx
  have := numT_len (by omega) hy
  simp; omega
end Go.Proofs.YtpbgappggmcmgaaDoor
