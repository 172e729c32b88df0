/-
  U64: an int turned to an unsigned number.
-/
import Derived.Test.YteoiedlffifpoaaDoorBase
import Derived.Test.YteoiedlffifpoaaDoorProg
namespace Go.Proofs.YteoiedlffifpoaaDoor
open Go.RowKit

/-- an int as an unsigned number -/
def u64n (x : Int) : Nat := (x % 18446744073709551616).toNat
theorem u64n_lt (x : Int) : u64n x < 18446744073709551616 := by unfold u64n; omega
theorem u64_conv (x : Int) (w : World) : (convert 3 39 (.int .i64 x)).run Tryd.prog w = .ok (.int .u64 (u64n x : Int)) w := by
  have e : (convert 3 39 (.int .i64 x)).run Tryd.prog w = .ok (.int .u64 (IntKind.u64.wrap x)) w := by
    simp [convert, run_underlying Tryd.underlying3, run_underlying Tryd.underlying39, Conv.intToInt]
  rw [e]
  have : IntKind.u64.wrap x = (u64n x : Int) := by
    unfold u64n
    simp only [IntKind.wrap, IntKind.bits, IntKind.signed]
    simp
    omega
  rw [this]

end Go.Proofs.YteoiedlffifpoaaDoor
