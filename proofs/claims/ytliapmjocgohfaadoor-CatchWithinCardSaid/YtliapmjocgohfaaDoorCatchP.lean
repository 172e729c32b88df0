/-
  CatchP: Check, Must, errorOf; what an act does.
-/
import Derived.Test.YtliapmjocgohfaaDoorToldAny
namespace Go.Proofs.YtliapmjocgohfaaDoor
open Go.RowKit Go.Extern.Stop Go.Stop Go.Extern

theorem errV_zero (E : Nat → Addr) : errV E 0 = .nilIface := rfl
theorem errV_suc (E : Nat → Addr) (n : Nat) : errV E (n + 1) = .iface 90 (.pointer (some (E n))) := rfl
/-- an act that gives x, or panics with the error n -/
def Acts (E : Nat → Addr) (n : Nat) (x : Int) (w : World) (e : Ending) (w' : World) : Prop :=
  Below w.heap.size w w' ∧ ((n = 0 ∧ e = .returned (.int .i64 x)) ∨ ∃ k, n = k + 1 ∧ e = .panicked [{ v := errAt (E k), recovered := false }])
theorem check_nil (w : World) : Calls Tryd.prog 14 #[.nilIface] w fun e w' => e = .returned (.tuple #[]) ∧ w = w' := by
  go_enter Tryd.func14, Tryd.ntmps14
  go_wp2_with fail
  go_end0
  exact ⟨rfl, rfl⟩
theorem check_err (w : World) (a : Addr) : Calls Tryd.prog 14 #[errAt a] w fun e w' => e = .panicked [{ v := errAt a, recovered := false }] ∧ w = w' := by
  unfold errAt
  go_enter Tryd.func14, Tryd.ntmps14
  go_wp2_with fail
  exact ⟨rfl, rfl, rfl⟩
theorem must_any (w : World) (E : Nat → Addr) (n : Nat) (x : Int) : Calls Tryd.prog 11 #[.int .i64 x, errV E n] w (Acts E n x w) := by
  cases n with
  | zero =>
    rw [errV_zero]
    go_enter Tryd.func11, Tryd.ntmps11
    go_wp2_with fail
    refine (check_nil w).mono ?_
    rintro e w1 ⟨rfl, rfl⟩
    go_wp2_with fail
    go_ret
    exact ⟨Below.refl _ _, .inl ⟨rfl, rfl⟩⟩
  | succ n =>
    have HC := Lib.hid (check_err w (E n))
    unfold errAt at HC
    rw [errV_suc]
    go_enter Tryd.func11, Tryd.ntmps11
    go_wp2_with fail
    refine HC.out.mono ?_
    rintro e w1 ⟨rfl, rfl⟩
    go_wp2_with fail
    exact ⟨rfl, Below.refl _ _, .inr ⟨n, rfl, rfl⟩⟩
def err15 (E : Nat → Addr) : List Value := .nilIface :: errList E
theorem err15_get (E : Nat → Addr) (n : Nat) (h : n ≤ 14) : (err15 E)[n]? = some (errV E n) := by
  cases n with
  | zero => rfl
  | succ n => exact errList_get E n (by omega)
set_option maxRecDepth 20000 in
set_option maxHeartbeats 1000000 in
theorem errorOf_any (w : World) (E : Nat → Addr) (n : Nat) (hn : n ≤ 14) (he : Errs w E) :
    Calls Tryd.prog 9 #[.int .i64 (n : Int)] w fun e w' => e = .returned (errV E n) ∧ Below w.heap.size w w' := by
  have g0 := he.cell 0 (by omega)
  have g1 := he.cell 1 (by omega)
  have g2 := he.cell 2 (by omega)
  have g3 := he.cell 3 (by omega)
  have g4 := he.cell 4 (by omega)
  have g5 := he.cell 5 (by omega)
  have g6 := he.cell 6 (by omega)
  have g7 := he.cell 7 (by omega)
  have g8 := he.cell 8 (by omega)
  have g9 := he.cell 9 (by omega)
  have g10 := he.cell 10 (by omega)
  have g11 := he.cell 11 (by omega)
  have g12 := he.cell 12 (by omega)
  have g13 := he.cell 13 (by omega)
  clear he
  simp only [errVar, errAt, List.getD_cons_zero, List.getD_cons_succ] at g0 g1 g2 g3 g4 g5 g6 g7 g8 g9 g10 g11 g12 g13
  have HW := Lib.hid (show w.alloc (.cells (err15 E).toArray 25) = w.alloc (.cells #[.nilIface, errAt (E 0), errAt (E 1), errAt (E 2), errAt (E 3), errAt (E 4), errAt (E 5), errAt (E 6), errAt (E 7), errAt (E 8), errAt (E 9), errAt (E 10), errAt (E 11), errAt (E 12), errAt (E 13)] 25) from rfl)
  have hc : (w.alloc (.cells (err15 E).toArray 25)).cell? ⟨w.heap.size, n, none⟩ = some (errV E n) := by
    have := cell_of_row (w.alloc (.cells (err15 E).toArray 25)) w.heap.size n _ _ _ (heap_alloc_new w _)
    rw [this]
    have := err15_get E n hn
    simpa using this
  have hb := Lib.hid (below_alloc1 w (.cells (err15 E).toArray 25))
  have hn' : (n : Int) < 15 := by omega
  have hw2 := HW.out
  unfold errAt at hw2
  rw [hw2] at hc hb
  clear hw2 HW
  generalize errV E n = ve at *
  go_enter Tryd.func9, Tryd.ntmps9
  go_wp2_with fail
  go_ret
  exact ⟨rfl, hb.out⟩
end Go.Proofs.YtliapmjocgohfaaDoor
