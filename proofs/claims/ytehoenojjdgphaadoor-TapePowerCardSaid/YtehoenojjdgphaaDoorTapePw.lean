/-
  TapePw: a tape whose power lasts so many steps, over plain data. No program.
-/
import Derived.Test.YtehoenojjdgphaaDoorTapeF
namespace Go.Proofs.YtehoenojjdgphaaDoor
open Go.RowKit

def pw (L i : Nat) : TSt := if i ≤ L then ⟨false, true, (L : Int) - i, [], 0, 20⟩ else ⟨true, true, -1, [], 0, 20⟩
theorem pw_arm (L : Nat) : (TSt.zero.setRoom 20).arm (L : Int) = pw L 0 := by
  have : TSt.zero.setRoom 20 = { TSt.zero with room := 20 } := by unfold TSt.setRoom; rw [if_neg (by omega)]
  rw [this]
  unfold pw TSt.arm
  rw [if_pos (Nat.zero_le _)]
  simp [TSt.zero]
theorem pw_l (L i : Nat) : (pw L i).l = [] ∧ (pw L i).room = 20 ∧ (pw L i).sure = 0 := by unfold pw; split <;> exact ⟨rfl, rfl, rfl⟩
theorem pw_full (L i : Nat) (d : List UInt8) (hd : d.length = 21) : (pw L i).append d = pw L i ∧ (pw L i).appendE d = 6 := by
  obtain ⟨h1, h2, _⟩ := pw_l L i
  have : (pw L i).full d = true := by unfold TSt.full; rw [h1, h2, hd]; rfl
  unfold TSt.append TSt.appendE
  rw [if_pos this, if_pos this]
  exact ⟨rfl, rfl⟩
theorem pw_cut (L i : Nat) : (pw L i).cut 100 = pw L i ∧ (pw L i).cutE 100 = 1 := by
  obtain ⟨h1, _, _⟩ := pw_l L i
  unfold TSt.cut TSt.cutE
  rw [h1, if_pos (by simp), if_pos (by simp)]
  exact ⟨rfl, rfl⟩
theorem pw_step (L i : Nat) : (pw L i).step = pw L (i + 1) := by
  unfold pw
  by_cases h : i ≤ L
  · rw [if_pos h]
    by_cases h2 : i = L
    · subst h2
      rw [if_neg (by omega)]
      simp [TSt.step]
    · rw [if_pos (by omega)]
      have hne : (((L : Int) - i) == 0) = false := by simp; omega
      simp only [TSt.step, Bool.not_false, Bool.and_self, if_true, hne]
      congr 1
      omega
  · rw [if_neg h, if_neg (by omega)]
    rfl
theorem pw_off (L i : Nat) : (pw L i).off = decide (L < i) := by
  unfold pw
  split
  · symm; rw [decide_eq_false_iff_not]; omega
  · symm; rw [decide_eq_true_eq]; omega
theorem pw_sync (L i : Nat) : (pw L i).sync = pw L (i + 1) := by
  unfold TSt.sync
  rw [pw_step]
  split
  · rfl
  · have h1 := (pw_l L i).1
    have h2 := (pw_l L (i + 1)).2.2
    rw [h1]
    show ({ pw L (i + 1) with sure := 0 } : TSt) = _
    rw [← h2]
theorem pw_stepE (L i : Nat) : (pw L i).stepE = if i < L then 0 else 7 := by
  unfold TSt.stepE
  rw [pw_step, pw_off]
  by_cases h : i < L
  · rw [if_pos h, if_neg (by simp; omega)]
  · rw [if_neg h, if_pos (by simp; omega)]
end Go.Proofs.YtehoenojjdgphaaDoor
