/-
  CutNum: an int as an unsigned number; what is left of division; a beginning of bytes.
-/
import Derived.Test.YtpbgappggmcmgaaDoorCutLaw
namespace Go.Proofs.YtpbgappggmcmgaaDoor
open Go.RowKit

/-- an int as an unsigned number -/
def u64n (x : Int) : Nat := (x % 18446744073709551616).toNat
theorem u64n_lt (x : Int) : u64n x < 18446744073709551616 := by unfold u64n; omega
theorem u64_conv (x : Int) (w : World) : (convert 3 46 (.int .i64 x)).run Tryd.prog w = .ok (.int .u64 (u64n x : Int)) w := by
  have e : (convert 3 46 (.int .i64 x)).run Tryd.prog w = .ok (.int .u64 (IntKind.u64.wrap x)) w := by
    simp [convert, run_underlying Tryd.underlying3, run_underlying Tryd.underlying46, Conv.intToInt]
  rw [e]
  have : IntKind.u64.wrap x = (u64n x : Int) := by
    unfold u64n
    simp only [IntKind.wrap, IntKind.bits, IntKind.signed]
    simp
    omega
  rw [this]
theorem byt_take' {w : World} {p : Option Addr} {n cap : Nat} {l : List UInt8} (h : Byt w (.slice p n cap) l) (k : Nat) (hk : k ≤ n) : Byt w (.slice p k cap) (l.take k) := by
  obtain ⟨_, _, e, _⟩ := id h
  cases e
  exact byt_take h k hk
theorem last_k (x : Int) (nx : Nat) (h0 : 0 < nx) (h1 : nx ≤ 4000) : ∃ k : Nat, k < nx ∧ wrap64 ((u64n x : Int) % (nx : Int)) = (k : Int) := by
  have hk : u64n x % nx < nx := Nat.mod_lt _ h0
  refine ⟨u64n x % nx, hk, ?_⟩
  rw [show ((u64n x : Int) % (nx : Int)) = ((u64n x % nx : Nat) : Int) by simp]
  generalize u64n x % nx = k at *
  unfold wrap64
  omega
end Go.Proofs.YtpbgappggmcmgaaDoor
