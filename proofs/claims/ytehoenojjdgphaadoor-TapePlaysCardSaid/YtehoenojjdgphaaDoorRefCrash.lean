/-
  RefCrash: the walk of the document's Crash.
-/
import Derived.Test.YtehoenojjdgphaaDoorRefTape
import Derived.BigRegion
namespace Go.Proofs.YtehoenojjdgphaaDoor
open Go.RowKit
attribute [local go_sem] bs_toList bs_size

set_option maxRecDepth 20000 in
set_option maxHeartbeats 3000000 in
theorem mcrash_any (w : World) (g : Nat) (m : MSt) (n : Int) (hm : m.Bd) (hb : MB w g m) :
    Calls Tryd.prog 34 #[.pointer (some ⟨g, 0, none⟩), .int .i64 n] w (MN w g (m.crash n)) := by
  have HB := Lib.hid hb
  obtain ⟨c0, c1, c2, c3, c4⟩ := hb.cells
  have f0 := hb.frozen 0
  have f1 := hb.frozen 1
  have f3 := hb.frozen 3
  have f4 := hb.frozen 4
  have h1 := hm.len
  clear hb hm c2
  obtain ⟨k, hk⟩ : ∃ k, k = min n.toNat m.tail.length := ⟨_, rfl⟩
  have HP := Lib.hid (show m.crash n = { m with sure := m.sure ++ m.tail.take k, tail := [], off := false, left := -1 } by unfold MSt.crash; rw [hk])
  have hkt : k ≤ m.tail.length := by omega
  have hto := fun w => run_str_to (P := Tryd.prog) Tryd.underlying9 m.tail k hkt w
  have hsum := fun w => run_str_add (P := Tryd.prog) w m.sure (m.tail.take k) (by rw [List.length_take]; omega)
  have d : (decide (n < 0) = true ∧ decide ((m.tail.length : Int) < 0) = false ∧ k = 0) ∨ (decide (n < 0) = false ∧ decide ((m.tail.length : Int) < n) = true ∧ k = m.tail.length) ∨ (decide (n < 0) = false ∧ decide ((m.tail.length : Int) < n) = false ∧ n = (k : Int)) := by
    simp only [decide_eq_true_eq, decide_eq_false_iff_not]; omega
  clear hk
  rcases d with ⟨d1, d2, hk⟩ | ⟨d1, d2, hk⟩ | ⟨d1, d2, hk⟩
  · subst hk
    go_enter Tryd.func34, Tryd.ntmps34
    go_wp2_with fail
    go_region
    go_wp2_with fail
    go_end0
    refine ⟨rfl, ?_, (((((Only.refl g w).set_ 0 _).set_ 1 _).set_ 4 _).set_ 3 _).drew⟩
    rw [HP.out, List.take_zero, List.append_nil]
    exact (((HB.out.set_ 0 (.string (bs m.sure))).set_ 1 (.string (bs []))).set_ 4 (.bool false)).set_ 3 (.int .i64 (-1))
  · subst hk
    go_enter Tryd.func34, Tryd.ntmps34
    go_wp2_with fail
    go_region
    go_wp2_with fail
    go_end0
    refine ⟨rfl, ?_, (((((Only.refl g w).set_ 0 _).set_ 1 _).set_ 4 _).set_ 3 _).drew⟩
    rw [HP.out, List.take_length]
    exact (((HB.out.set_ 0 (.string (bs (m.sure ++ m.tail)))).set_ 1 (.string (bs []))).set_ 4 (.bool false)).set_ 3 (.int .i64 (-1))
  · subst hk
    go_enter Tryd.func34, Tryd.ntmps34
    go_wp2_with fail
    go_region
    go_wp2_with fail
    go_end0
    refine ⟨rfl, ?_, (((((Only.refl g w).set_ 0 _).set_ 1 _).set_ 4 _).set_ 3 _).drew⟩
    rw [HP.out]
    exact (((HB.out.set_ 0 (.string (bs (m.sure ++ m.tail.take k)))).set_ 1 (.string (bs []))).set_ 4 (.bool false)).set_ 3 (.int .i64 (-1))
end Go.Proofs.YtehoenojjdgphaaDoor
