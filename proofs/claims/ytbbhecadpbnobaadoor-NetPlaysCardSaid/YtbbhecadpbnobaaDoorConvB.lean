/-
  ConvB: the bytes of a string.
-/
import Derived.Test.YtbbhecadpbnobaaDoorNA
import Derived.Lib.ConvBytes
namespace Go.Proofs.YtbbhecadpbnobaaDoor
open Go.RowKit
attribute [local go_sem] bs_toList bs_size

/-- the bytes of a string -/
theorem conv_bs (l : List UInt8) (hl : l.length ≤ 1000000) (w : World) : ∃ w1 c, (convert 9 32 (.string (bs l))).run Tryd.prog w = .ok (.slice (some ⟨w.heap.size, 0, none⟩) l.length c) w1 ∧
    Byt w1 (.slice (some ⟨w.heap.size, 0, none⟩) l.length c) l ∧ Below w.heap.size w w1 := by
  have h := Lib.run_convert_string_bytes (P := Tryd.prog) w 9 32 5 (bs l) Tryd.underlying9 Tryd.underlying32 Tryd.underlying5
  rw [bs_size] at h
  refine ⟨_, _, h, ⟨_, _, rfl, grownCap_ge _ _ _ _, grownCap_le_maxLen _ _ _ _ (by unfold maxLen; omega), ?_⟩, ?_⟩
  · refine .inr ⟨_, _, rfl, fun i x hx => ?_⟩
    have hi : i < l.length := by
      have := (List.getElem?_eq_some_iff.1 hx).1
      rw [bvs_len] at this
      exact this
    rw [bvs_get l i hi] at hx
    cases hx
    rw [Nat.zero_add, Lib.bytesWorld_cell w 5 (bs l) i (by rw [bs_size]; exact hi)]
    simp [bs, hi]
  · refine ⟨rfl, rfl, rfl, ?_, fun j hj => Lib.bytesWorld_at_old w 5 _ j hj⟩
    rw [Lib.bytesWorld_size]; omega
end Go.Proofs.YtbbhecadpbnobaaDoor
