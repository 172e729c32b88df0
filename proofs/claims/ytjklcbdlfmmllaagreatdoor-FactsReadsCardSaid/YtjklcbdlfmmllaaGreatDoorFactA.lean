/-
  FactA: the chapter's example.
-/
import Derived.Test.YtjklcbdlfmmllaaGreatDoorFactB2
namespace Go.Proofs.YtjklcbdlfmmllaaGreatDoor
open Go.RowKit Go.Extern.Stop Go.Stop Go.Extern Ieee
attribute [local go_sem] bs_toList

def f5 : Fct := ⟨5, 0, 0, 0, 0, 0, 0, 0, 0, 0, 0, 0, 0, 0⟩
theorem f5_wf : f5.wf := by
  refine ⟨fun y hy => ?_, by show (0 : Nat) < _; omega⟩
  unfold f5 Fct.l at hy
  simp only [List.mem_cons, List.not_mem_nil, or_false, or_self] at hy
  rcases hy with rfl | rfl <;> omega
theorem f5_enc : encE f5 = 0 ∧ encL f5 = [1, 0, 1, 5] := by
  have h : rightF f5 = true := by decide +kernel
  refine ⟨by unfold encE; rw [if_pos h], ?_⟩
  unfold encL
  rw [if_pos h]
  decide +kernel
theorem falive_any (w : World) (E : Nat → Addr) (h : IdsG w E) :
    Calls Tryz.prog 5 #[] w fun e w' => e = .returned (.bool true) ∧ Below w.heap.size w w' := by
  have HE := Lib.hid (fbytes_any f5 f5_wf w E h)
  rw [f5_enc.1, f5_enc.2] at HE
  go_enter Tryz.func5, Tryz.ntmps5
  go_wp2_with fail
  refine HE.out.mono ?_
  rintro e w' ⟨v, rfl, ho, hb⟩
  have hby := owns_byt ho
  rw [errV_zero]
  obtain ⟨p, c, rfl, h1, h2, h3⟩ := id hby
  have s1 : (convert 29 9 (.slice p [1, 0, 1, 5].length c)).run Tryz.prog w' = .ok (.string (bs [1, 0, 1, 5])) w' := str_of hby
  simp only [List.length_cons, List.length_nil, Nat.zero_add, Nat.reduceAdd] at s1
  have B := Lib.hid hb
  clear hb ho hby h1 h2 h3 HE h
  go_wp2_with fail
  go_ret
  exact ⟨rfl, B.out⟩
end Go.Proofs.YtjklcbdlfmmllaaGreatDoor
