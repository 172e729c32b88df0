/-
  CloseAct: an activity that is handed in; the laid table of powers.
-/
import Derived.Test.YtpbgappggmcmgaaDoorClose
import Derived.Test.YtpbgappggmcmgaaDoorProg
import Derived.Lib.SmallJoins
import Derived.Lib.LaidTab
namespace Go.Proofs.YtpbgappggmcmgaaDoor
open Go.RowKit Go.ChangeShapes Go.WideShapes Go.ChangeAt

section
variable {H : Type} {enc : TypeId × Value → H}
set_option maxRecDepth 100000 in
theorem open_act {w : World} {spare : Nat → Bool} {base : Nat} {held : Bool} {r : Reach} {b0 : Nat} {v : Value} {d : DataW H} {ps : List MemPlace}
    (hval : Value.okWide Tryd.prog w r b0 23 v) (hd : DataW.Trod enc Tryd.prog w base spare held 23 v d ps) : ∃ x y : Int, v = .agg #[.int .i64 x, .int .i64 y] ∧ (Lit.int .i64 x).wf = true ∧ (Lit.int .i64 y).wf = true := by
  obtain ⟨v0, v1, y0, y1, n, rfl, _, _, h0, h1⟩ := Joins.open_agg2 Tryd.underlying23 (by kernel_rfl) (by kernel_rfl) hval hd
  obtain ⟨x, rfl, hx⟩ := trod_i64 Tryd.underlying3 h0
  obtain ⟨y, rfl, hy⟩ := trod_i64 Tryd.underlying3 h1
  exact ⟨x, y, rfl, hx, hy⟩
end
end Go.Proofs.YtpbgappggmcmgaaDoor
