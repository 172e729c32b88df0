/-
  LawOrder: the walk of FloatsOrder.
-/
import Derived.Test.YteoiedlffifpoaaDoorFltAlive
namespace Go.Proofs.YteoiedlffifpoaaDoor
open Go.RowKit Ieee

theorem floatsorder_any (a b : Nat) (ha : a < 18446744073709551616) (hb : b < 18446744073709551616) (w : World) (E : Nat → Addr) (he : ErrsOn [0, 3] w E) :
    Calls Tryd.prog 3 #[.float .f64 a, .float .f64 b] w (Gives w (.bool true)) := by
  have HA := alive_any w E he
  clear he
  go_enter Tryd.func3, Tryd.ntmps3
  go_wp2_with fail
  refine HA.mono ?_
  rintro e w1 ⟨rfl, hb1⟩
  have hn : wrap64 (-cmpI (place a) (place b)) = cmpI (place b) (place a) := by
    rw [cmpI_neg (place a) (place b)]; unfold cmpI wrap64; repeat' split
    all_goals rfl
  have hq : (cmpI (place a) (place b) == cmpI (place a) (place b)) = true := by simp
  have hr : (cmpI (place b) (place a) == cmpI (place b) (place a)) = true := by simp
  go_wp2_with fail
  refine (order_any a b ha hb w1).mono ?_
  rintro e w2 ⟨rfl, hb2⟩
  have hb12 := hb1.trans (hb2.mono hb1.size)
  go_wp2_with fail
  refine (reforder_any a b ha hb w2).mono ?_
  rintro e w3 ⟨rfl, hb3⟩
  have hb13 := hb12.trans (hb3.mono hb12.size)
  go_wp2_with fail
  refine (order_any b a hb ha w3).mono ?_
  rintro e w4 ⟨rfl, hb4⟩
  have hb14 := hb13.trans (hb4.mono hb13.size)
  go_wp2_with fail
  refine (order_any a b ha hb w4).mono ?_
  rintro e w5 ⟨rfl, hb5⟩
  have hb15 := hb14.trans (hb5.mono hb14.size)
  go_wp2_with fail
  go_ret
  exact ⟨rfl, hb15⟩
end Go.Proofs.YteoiedlffifpoaaDoor
