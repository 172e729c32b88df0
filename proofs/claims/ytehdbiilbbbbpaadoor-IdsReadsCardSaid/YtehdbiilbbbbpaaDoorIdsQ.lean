/-
  IdsQ: the document's numbers of a text are those that package ids reads. No program.
-/
import Derived.Test.YtehdbiilbbbbpaaDoorIdsNum
namespace Go.Proofs.YtehdbiilbbbbpaaDoor
open Go.RowKit

theorem fold_ge (l : List UInt8) : ∀ a : Nat, a * 10 ^ l.length ≤ l.foldl (fun n c => 10 * n + (c.toNat - 48)) a := by
  induction l with
  | nil => intro a; simp
  | cons x xs ih =>
    intro a
    rw [List.foldl_cons, List.length_cons, Nat.pow_succ]
    refine Nat.le_trans ?_ (ih _)
    rw [Nat.mul_comm (10 ^ xs.length) 10, ← Nat.mul_assoc]
    exact Nat.mul_le_mul_right _ (by omega)
theorem capV_take (l : List UInt8) : ∀ k, k ≤ l.length → capV (l.take k) = min (val7 (l.take k)) 1000000
  | 0, _ => by simp [capV, val7]
  | k + 1, hk => by
    have ih := capV_take l k (by omega)
    rw [List.take_add_one, List.getElem?_eq_getElem (show k < l.length by omega), Option.toList_some, capV_snoc, val7_snoc, ih]
    unfold capS
    split <;> omega
theorem capV_min (l : List UInt8) : capV l = min (val7 l) 1000000 := by
  have := capV_take l l.length (Nat.le_refl _)
  rwa [List.take_length] at this
theorem val7_take_le (l : List UInt8) (k : Nat) : val7 (l.take k) ≤ val7 l := by
  conv => rhs; rw [← List.take_append_drop k l]
  unfold val7
  rw [List.foldl_append]
  refine Nat.le_trans ?_ (fold_ge _ _)
  exact Nat.le_mul_of_pos_right _ (Nat.pow_pos (by omega))
theorem val7_big (l : List UInt8) (hh : headB l = true) (ha : l.all digitB = true) (h7 : 7 ≤ l.length) : 1000000 ≤ val7 (l.take 7) := by
  cases l with
  | nil => simp at h7
  | cons x xs =>
    have hx : x ≠ 48 := by
      intro e
      subst e
      have h1 : decide (1 < ((48 : UInt8) :: xs).length) = true := decide_eq_true (by omega)
      unfold headB at hh
      rw [h1] at hh
      simp at hh
    have hd : digitB x = true := by rw [List.all_cons, Bool.and_eq_true] at ha; exact ha.1
    have h48 := digitB_le hd
    have hx2 : x.toNat ≠ 48 := fun e => hx (UInt8.toNat_inj.1 e)
    have := fold_ge (xs.take 6) (x.toNat - 48)
    rw [List.length_take, Nat.min_eq_left (by simp at h7; omega)] at this
    unfold val7
    rw [List.take_succ_cons, List.foldl_cons]
    simp only [Nat.mul_zero, Nat.zero_add] at *
    omega
/-- what is read of a number's digits, and what the document reads -/
theorem cap_dig (t : List UInt8) (hh : headB t = true) (ha : t.all digitB = true) : capV t = min (val7 (t.take 7)) 1000000 := by
  rw [capV_min]
  by_cases h : 7 ≤ t.length
  · have h1 := val7_big t hh ha h
    have h2 := val7_take_le t 7
    omega
  · rw [List.take_of_length_le (by omega)]
end Go.Proofs.YtehdbiilbbbbpaaDoor
