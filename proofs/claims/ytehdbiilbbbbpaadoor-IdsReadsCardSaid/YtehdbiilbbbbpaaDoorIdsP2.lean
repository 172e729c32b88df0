/-
  IdsP2: reading numbers' digits. No program.
-/
import Derived.Test.YtehdbiilbbbbpaaDoorIdsP
import Derived.Lib.IndexBytes
import Derived.Lib.IndexLaws
import Derived.Lib.CutLaws
namespace Go.Proofs.YtehdbiilbbbbpaaDoor
open Go.RowKit

def digitB (c : UInt8) : Bool := decide (48 ≤ c.toNat) && decide (c.toNat ≤ 57)
def val7 (l : List UInt8) : Nat := l.foldl (fun n c => 10 * n + (c.toNat - 48)) 0
theorem val7_snoc (l : List UInt8) (c : UInt8) : val7 (l ++ [c]) = 10 * val7 l + (c.toNat - 48) := by simp [val7]
/-- may this be a number's digits, by its head? -/
def headB (l : List UInt8) : Bool := !(l == []) && !(decide (1 < l.length) && l.head? == some 48)
/-- a number's digits, as they are read: up to seven of them -/
def digT (l : List UInt8) : Option Nat := if headB l = true ∧ l.all digitB = true then some (val7 (l.take 7)) else none
theorem digitB_le {c : UInt8} (h : digitB c = true) : 48 ≤ c.toNat ∧ c.toNat ≤ 57 := by
  simpa [digitB] using h
theorem val_acc (l : List UInt8) (h : l.all digitB = true) : ∀ a : Nat, l.foldl (fun n c => 10 * n + (c.toNat - 48)) a + 1 ≤ (a + 1) * 10 ^ l.length := by
  induction l with
  | nil => intro a; simp
  | cons x xs ih =>
    intro a
    simp only [List.all_cons, Bool.and_eq_true] at h
    have h1 := digitB_le h.1
    have := ih h.2 (10 * a + (x.toNat - 48))
    rw [List.foldl_cons, List.length_cons, Nat.pow_succ]
    refine Nat.le_trans this ?_
    rw [Nat.mul_comm (10 ^ xs.length) 10, ← Nat.mul_assoc]
    exact Nat.mul_le_mul_right _ (by omega)
theorem val7_lt (l : List UInt8) (h : l.all digitB = true) : val7 l < 10 ^ l.length := by
  have := val_acc l h 0
  rw [Nat.zero_add, Nat.one_mul] at this
  exact this
theorem bs_ne (l : List UInt8) (h : l ≠ []) : (bs l == (⟨#[]⟩ : ByteArray)) = false := by
  show ((bs l).data == (#[] : Array UInt8)) = false
  rw [beq_eq_false_iff_ne]
  intro e
  exact h (by simpa [bs] using e)
theorem bs_get (l : List UInt8) (k : Nat) (hk : k < l.length) : ∀ h, (bs l)[k]'h = l[k] := by
  intro h
  rfl
theorem all_take_snoc (l : List UInt8) (k : Nat) (hk : k < l.length) (h : (l.take k).all digitB = true) : (l.take (k + 1)).all digitB = digitB l[k] := by
  rw [List.take_add_one, List.getElem?_eq_getElem hk, Option.toList_some, List.all_append, h]
  simp
theorem val7_low (l : List UInt8) (k : Nat) (hk : k < l.length) (h7 : k < 7) : val7 ((l.take (k + 1)).take 7) = 10 * val7 ((l.take k).take 7) + (l[k].toNat - 48) := by
  rw [List.take_of_length_le (l := l.take (k + 1)) (by rw [List.length_take]; omega), List.take_of_length_le (l := l.take k) (by rw [List.length_take]; omega), List.take_add_one, List.getElem?_eq_getElem hk, Option.toList_some, val7_snoc]
theorem val7_high (l : List UInt8) (k : Nat) (h7 : 7 ≤ k) : (l.take (k + 1)).take 7 = (l.take k).take 7 := by
  rw [List.take_take, List.take_take, Nat.min_eq_left (by omega), Nat.min_eq_left h7]
theorem val7_bd (l : List UInt8) (k : Nat) (h : (l.take k).all digitB = true) : val7 ((l.take k).take 7) < 10000000 := by
  have h1 := val7_lt ((l.take k).take 7) (by
    rw [List.all_eq_true] at h ⊢
    exact fun x hx => h x (List.mem_of_mem_take hx))
  have h2 : ((l.take k).take 7).length ≤ 7 := by rw [List.length_take]; omega
  have := Nat.pow_le_pow_right (n := 10) (by omega) h2
  omega
theorem not_all {l : List UInt8} {k : Nat} (hk : k < l.length) (h : digitB l[k] = false) : l.all digitB = false := by
  rw [Bool.eq_false_iff]
  intro ha
  rw [List.all_eq_true] at ha
  rw [ha _ (List.getElem_mem hk)] at h
  cases h
end Go.Proofs.YtehdbiilbbbbpaaDoor
