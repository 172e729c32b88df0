/-
  CheckP: catch.Check.
-/
import Derived.Test.YtpbgappggmcmgaaDoorCheckP0
namespace Go.Proofs.YtpbgappggmcmgaaDoor
open Go.RowKit Go.Extern.Stop Go.Stop Go.Extern

theorem check_nil (w : World) : Calls Tryd.prog 47 #[.nilIface] w fun e w' => e = .returned (.tuple #[]) ∧ w = w' := by
  go_enter Tryd.func47, Tryd.ntmps47
  go_wp2_with fail
  go_end0
  exact ⟨rfl, rfl⟩
theorem check_err (w : World) (E : Nat → Addr) (n : Nat) : Calls Tryd.prog 47 #[errV E (n + 1)] w fun e w' => e = .panicked (panE E n) ∧ w = w' := by
  rw [errV_suc]
  unfold panE errAt
  go_enter Tryd.func47, Tryd.ntmps47
  go_wp2_with fail
  exact ⟨rfl, rfl, rfl⟩
end Go.Proofs.YtpbgappggmcmgaaDoor
