/-
  BindF: names and actions over plain data. No program.
-/
import Derived.Test.YtgmiockaecklaaaGreatDoorBA
namespace Go.Proofs.YtgmiockaecklaaaGreatDoor
open Go.RowKit

def kindsL : List (List UInt8) := [[69, 120, 105, 116],
  [67, 111, 109, 112, 108, 101, 116, 101],
  [67, 111, 109, 112, 108, 101, 116, 101, 100],
  [70, 97, 105, 108],
  [67, 97, 110, 110, 111, 116, 67, 111, 109, 112, 108, 101, 116, 101],
  [67, 97, 110, 99, 101, 108, 101, 100],
  [67, 108, 111, 115, 101, 100],
  [67, 111, 109, 112, 101, 110, 115, 97, 116, 101, 100],
  [67, 108, 111, 115, 101],
  [67, 97, 110, 99, 101, 108],
  [67, 111, 109, 112, 101, 110, 115, 97, 116, 101],
  [70, 97, 105, 108, 101, 100],
  [69, 120, 105, 116, 101, 100],
  [78, 111, 116, 67, 111, 109, 112, 108, 101, 116, 101, 100],
  [71, 101, 116, 83, 116, 97, 116, 117, 115],
  [83, 116, 97, 116, 117, 115],
  [82, 101, 103, 105, 115, 116, 101, 114],
  [82, 101, 103, 105, 115, 116, 101, 114, 82, 101, 115, 112, 111, 110, 115, 101],
  [70, 97, 117, 108, 116]]
def statesL : List (List UInt8) := [[65, 99, 116, 105, 118, 101],
  [67, 97, 110, 99, 101, 108, 105, 110, 103],
  [67, 97, 110, 99, 101, 108, 105, 110, 103, 67, 111, 109, 112, 108, 101, 116, 105, 110, 103],
  [67, 111, 109, 112, 108, 101, 116, 105, 110, 103],
  [67, 111, 109, 112, 108, 101, 116, 101, 100],
  [67, 108, 111, 115, 105, 110, 103],
  [67, 111, 109, 112, 101, 110, 115, 97, 116, 105, 110, 103],
  [70, 97, 105, 108, 105, 110, 103, 65, 99, 116, 105, 118, 101],
  [70, 97, 105, 108, 105, 110, 103, 67, 97, 110, 99, 101, 108, 105, 110, 103],
  [70, 97, 105, 108, 105, 110, 103, 67, 111, 109, 112, 108, 101, 116, 105, 110, 103],
  [70, 97, 105, 108, 105, 110, 103, 67, 111, 109, 112, 101, 110, 115, 97, 116, 105, 110, 103],
  [78, 111, 116, 67, 111, 109, 112, 108, 101, 116, 105, 110, 103],
  [69, 120, 105, 116, 105, 110, 103],
  [69, 110, 100, 101, 100]]
def codesL : List (List UInt8) := [[73, 110, 118, 97, 108, 105, 100, 83, 116, 97, 116, 101],
  [73, 110, 118, 97, 108, 105, 100, 80, 114, 111, 116, 111, 99, 111, 108],
  [73, 110, 118, 97, 108, 105, 100, 80, 97, 114, 97, 109, 101, 116, 101, 114, 115],
  [67, 97, 110, 110, 111, 116, 82, 101, 103, 105, 115, 116, 101, 114, 80, 97, 114, 116, 105, 99, 105, 112, 97, 110, 116],
  [85, 110, 107, 110, 111, 119, 110, 65, 99, 116, 105, 118, 105, 116, 121]]
def wsbaL : List UInt8 := [104, 116, 116, 112, 58, 47, 47, 100, 111, 99, 115, 46, 111, 97, 115, 105, 115, 45, 111, 112, 101, 110, 46, 111, 114, 103, 47, 119, 115, 45, 116, 120, 47, 119, 115, 98, 97, 47, 50, 48, 48, 54, 47, 48, 54]
def wscoorL : List UInt8 := [104, 116, 116, 112, 58, 47, 47, 100, 111, 99, 115, 46, 111, 97, 115, 105, 115, 45, 111, 112, 101, 110, 46, 111, 114, 103, 47, 119, 115, 45, 116, 120, 47, 119, 115, 99, 111, 111, 114, 47, 50, 48, 48, 54, 47, 48, 54]
/-- the n-th name, from 1 on -/
def nameF (l : List (List UInt8)) (n : Int) : List UInt8 := if n < 1 ∨ (l.length : Int) < n then [] else l.getD (n - 1).toNat []
def kindF (n : Int) : List UInt8 := nameF kindsL n
def spaceF (n : Int) : List UInt8 := if 16 < n then wscoorL else wsbaL
def actF (n : Int) : List UInt8 := if kindF n = [] then [] else spaceF n ++ [47] ++ kindF n
def actN (i : Nat) : List UInt8 := actF ((i : Int) + 1)
theorem kind_some : ∀ i, i < 19 → kindsL.getD i [] ≠ [] := by decide +kernel
theorem kind_nil (n : Int) : kindF n = [] ↔ (n < 1 ∨ 19 < n) := by
  unfold kindF nameF
  have hl : kindsL.length = 19 := rfl
  rw [hl]
  constructor
  · intro h
    by_cases hc : n < 1 ∨ ((19 : Nat) : Int) < n
    · omega
    · rw [if_neg hc] at h
      exact absurd h (kind_some _ (by omega))
  · intro h
    rw [if_pos (by omega)]
theorem kact_inj : ∀ i, i < 19 → ∀ j, j < 19 → actN i = actN j → i = j := by decide +kernel
theorem act_ne : ∀ i, i < 19 → actN i ≠ [] := by decide +kernel
theorem act_len : ∀ i, i < 19 → (actN i).length ≤ 100 := by decide +kernel
theorem kind_len : ∀ i, i < 19 → (kindsL.getD i []).length ≤ 40 := by decide +kernel
theorem act_nil (n : Int) : actF n = [] ↔ (n < 1 ∨ 19 < n) := by
  rw [← kind_nil]
  unfold actF
  by_cases h : kindF n = []
  · simp [h]
  · rw [if_neg h]
    simp [h]
theorem act_nat {n : Int} (h : 1 ≤ n ∧ n ≤ 19) : actF n = actN (n - 1).toNat := by
  unfold actN
  congr 1; omega
theorem kact_inj' {i j : Int} (hi : 1 ≤ i ∧ i ≤ 19) (hj : 1 ≤ j ∧ j ≤ 19) (h : actF i = actF j) : i = j := by
  rw [act_nat hi, act_nat hj] at h
  have := kact_inj _ (by omega) _ (by omega) h
  omega
/-- which kind an action is; 0: none -/
theorem kind_of (s : List UInt8) : ∃ K : Int, (0 ≤ K ∧ K ≤ 19) ∧ ∀ i : Int, 1 ≤ i → i ≤ 19 → (actF i = s ↔ i = K) := by
  by_cases h : ∃ i : Int, (1 ≤ i ∧ i ≤ 19) ∧ actF i = s
  · obtain ⟨i, hi, rfl⟩ := h
    exact ⟨i, by omega, fun j h1 h2 => ⟨fun e => kact_inj' ⟨h1, h2⟩ hi e, fun e => by rw [e]⟩⟩
  · exact ⟨0, by omega, fun j h1 h2 => ⟨fun e => absurd ⟨j, ⟨h1, h2⟩, e⟩ h, fun e => by omega⟩⟩
theorem nameF_len (l : List (List UInt8)) (n : Int) (m : Nat) (h : ∀ x ∈ l, x.length ≤ m) : (nameF l n).length ≤ m := by
  unfold nameF
  split
  · exact Nat.zero_le _
  · rename_i hc
    have hlt : (n - 1).toNat < l.length := by omega
    rw [List.getD_eq_getElem?_getD, List.getElem?_eq_getElem hlt]
    exact h _ (List.getElem_mem hlt)
theorem kindF_len (n : Int) : (kindF n).length ≤ 40 := nameF_len kindsL n 40 (by decide +kernel)
theorem spaceF_len (n : Int) : (spaceF n).length ≤ 60 := by unfold spaceF; split <;> decide
end Go.Proofs.YtgmiockaecklaaaGreatDoor
