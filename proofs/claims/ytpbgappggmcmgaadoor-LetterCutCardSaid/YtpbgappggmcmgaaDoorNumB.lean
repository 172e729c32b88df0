/-
  NumB: a number's bytes, the greatest first. No program.
-/
import Derived.Test.YtpbgappggmcmgaaDoorBase
namespace Go.Proofs.YtpbgappggmcmgaaDoor
open Go.RowKit

def numB (n : Nat) : List UInt8 := if _h : n = 0 then [] else numB (n / 256) ++ [UInt8.ofNat n]
termination_by n
decreasing_by omega
theorem numB_zero : numB 0 = [] := by rw [numB]; simp
theorem numB_pos {n : Nat} (h : n ≠ 0) : numB n = numB (n / 256) ++ [UInt8.ofNat n] := by
  conv => lhs; rw [numB]
  rw [dif_neg h]
theorem numB_len {n : Nat} : ∀ (k : Nat), n < 256 ^ k → (numB n).length ≤ k := by
  induction n using Nat.strongRecOn with
  | ind n ih =>
    intro k hk
    by_cases h0 : n = 0
    · rw [h0, numB_zero]; exact Nat.zero_le _
    · cases k with
      | zero => simp at hk; exact absurd hk h0
      | succ k =>
        rw [numB_pos h0, List.length_append]
        have := ih (n / 256) (by omega) k (by rw [Nat.pow_succ] at hk; exact Nat.div_lt_of_lt_mul (by omega))
        simpa using this
theorem byte_wrap (n : Nat) : (UInt8.ofNat n).toNat = n % 256 := by rw [UInt8.toNat_ofNat']
/-- k swaps from both ends -/
structure Swapped (l : List UInt8) (k : Nat) (l' : List UInt8) : Prop where
  len : l'.length = l.length
  at_ : ∀ i, i < l.length → l'[i]? = if i < k ∨ l.length ≤ i + k then l[l.length - 1 - i]? else l[i]?
theorem Swapped.start (l : List UInt8) : Swapped l 0 l := ⟨rfl, fun i hi => by rw [if_neg (by omega)]⟩
theorem Swapped.step {l l' : List UInt8} {k : Nat} (h : Swapped l k l') (hk : 2 * k + 1 < l.length) (hi : k < l'.length) (hj : l.length - 1 - k < l'.length) :
    Swapped l (k + 1) ((l'.set k l'[l.length - 1 - k]).set (l.length - 1 - k) l'[k]) := by
  refine ⟨by simp [h.len], fun i hil => ?_⟩
  have e1 := h.at_ k (by omega)
  have e2 := h.at_ (l.length - 1 - k) (by omega)
  rw [if_neg (by omega), List.getElem?_eq_getElem hi] at e1
  rw [if_neg (by omega), List.getElem?_eq_getElem hj] at e2
  by_cases h1 : i = l.length - 1 - k
  · subst h1
    rw [List.getElem?_set_self (by simp; omega), if_pos (by omega), e1]
    congr 1; omega
  · rw [List.getElem?_set_ne (by omega)]
    by_cases h2 : i = k
    · subst h2
      rw [List.getElem?_set_self (by omega), if_pos (by omega), e2]
    · rw [List.getElem?_set_ne (by omega), h.at_ i hil]
      by_cases h3 : i < k ∨ l.length ≤ i + k
      · rw [if_pos h3, if_pos (by omega)]
      · rw [if_neg h3, if_neg (by omega)]
theorem Swapped.done {l l' : List UInt8} {k : Nat} (h : Swapped l k l') (hk : l.length ≤ 2 * k + 1) : l' = l.reverse := by
  apply List.ext_getElem?
  intro i
  by_cases hi : i < l.length
  · rw [h.at_ i hi, List.getElem?_reverse hi]
    by_cases h3 : i < k ∨ l.length ≤ i + k
    · rw [if_pos h3]
    · rw [if_neg h3]; congr 1; omega
  · rw [List.getElem?_eq_none (by rw [h.len]; omega), List.getElem?_eq_none (by simp; omega)]
end Go.Proofs.YtpbgappggmcmgaaDoor
