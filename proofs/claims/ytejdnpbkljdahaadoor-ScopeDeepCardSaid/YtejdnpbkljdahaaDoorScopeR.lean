/-
  ScopeR: which activities are right, as the document says it.
-/
import Derived.Test.YtejdnpbkljdahaaDoorIdsA
import Derived.Test.YtejdnpbkljdahaaDoorScopeP
import Derived.IntWalk
namespace Go.Proofs.YtejdnpbkljdahaaDoor
open Go.RowKit Go.Extern.Stop Go.Stop Go.Extern

theorem actT_isSome (x y : Int) : (actT x y).isSome = (decide (0 ≤ x) && decide (x < 4) && decide (0 ≤ y) && decide (y < 1000000)) := by
  unfold actT numT
  by_cases h1 : 0 ≤ x ∧ x ≤ 3
  · rw [if_pos h1]
    by_cases h2 : 0 ≤ y ∧ y ≤ 999999
    · rw [if_pos h2]
      simp only [Option.bind_some, Option.map_some, Option.isSome_some]
      symm
      simp only [Bool.and_eq_true, decide_eq_true_eq]
      omega
    · rw [if_neg h2]
      symm
      simp only [Option.bind_some, Option.map_none, Option.isSome_none, Bool.and_eq_false_iff, decide_eq_false_iff_not]
      omega
  · rw [if_neg h1]
    symm
    simp only [Option.bind_none, Option.isSome_none, Bool.and_eq_false_iff, decide_eq_false_iff_not]
    omega
theorem refright_any (x y : Int) (w : World) : Calls Tryd.prog 24 #[actV x y] w fun e w' => e = .returned (.bool (actT x y).isSome) ∧ Below w.heap.size w w' := by
  have HX := Lib.hid (actT_isSome x y)
  have hn := Blk.new w 23 #[.int .i64 x, .int .i64 y]
  have HB := Lib.hid (below_alloc1 w (.cells #[.int .i64 x, .int .i64 y] 23))
  have c0 := (hn.cell 0).trans rfl
  have c1 := (hn.cell 1).trans rfl
  clear hn
  unfold actV
  generalize ho : (actT x y).isSome = o at *
  clear ho
  cases h1 : decide (0 ≤ x) <;> cases h2 : decide (x < 4) <;> cases h3 : decide (0 ≤ y) <;> cases h4 : decide (y < 1000000) <;> rw [h1, h2, h3, h4] at HX
  all_goals
    obtain rfl : o = _ := HX.out
    clear HX
    go_enter Tryd.func24, Tryd.ntmps24
    go_wp2_with fail
    go_ret
    exact ⟨rfl, HB.out⟩
end Go.Proofs.YtejdnpbkljdahaaDoor
