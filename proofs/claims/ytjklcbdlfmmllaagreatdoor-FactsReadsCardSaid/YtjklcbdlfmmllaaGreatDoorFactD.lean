/-
  FactD: what is read as a fact is in range. No program.
-/
import Derived.Test.YtjklcbdlfmmllaaGreatDoorFactP
namespace Go.Proofs.YtjklcbdlfmmllaaGreatDoor
open Go.RowKit Ieee

theorem sameF_self (f : Fct) : sameF f f = true := by unfold sameF eqF; simp
theorem decF_none {b : List UInt8} (h : decE b ≠ 0) : decF b = fct0 := by
  unfold decE at h
  unfold decF
  by_cases h0 : splitE b = 0
  · rw [if_pos h0] at h ⊢
    by_cases h1 : (rowFct (splitL b)).isSome = true
    · rw [if_pos h1] at h; exact absurd rfl h
    · cases hr : rowFct (splitL b) with
      | none => rfl
      | some f => rw [hr] at h1; exact absurd rfl h1
  · rw [if_neg h0]
theorem right_wf {f : Fct} (h : rightF f = true) : f.wf := by
  have h1 := right_ok h
  refine ⟨fun y hy => ?_, ?_⟩
  · have := h1.nums y hy
    omega
  · have := h1.time
    unfold infR at this
    omega
theorem decF_wf (b : List UInt8) : (decF b).wf := by
  by_cases h : decE b = 0
  · exact right_wf (enc_dec h).1
  · rw [decF_none h]
    refine ⟨fun y hy => ?_, by show (0 : Nat) < _; omega⟩
    unfold fct0 Fct.l at hy
    simp only [List.mem_cons, List.not_mem_nil, or_false, or_self] at hy
    subst hy
    omega
end Go.Proofs.YtjklcbdlfmmllaaGreatDoor
