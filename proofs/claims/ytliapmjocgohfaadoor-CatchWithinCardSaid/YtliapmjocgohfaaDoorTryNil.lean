/-
  TryNil: catch.Try of no function; an act within Try; the document's Error.
-/
import Derived.Test.YtliapmjocgohfaaDoorDoes15
namespace Go.Proofs.YtliapmjocgohfaaDoor
open Go.RowKit Go.Extern.Stop Go.Stop Go.Extern

set_option maxRecDepth 20000 in
theorem tryN_nil (w : World) (E : Nat → Addr) (he : Errs w E) :
    Calls Tryd.prog 13 #[.nilFunc] w fun e w' => e = .returned (.tuple #[.int .i64 0, errAt (E 12)]) ∧ Below w.heap.size w w' := by
  have hmf := @run_makeFunc Tryd.prog
  have hb1 : Below w.heap.size w (((w.alloc (.cells #[.int .i64 0] 3)).alloc (.cells #[.nilIface] 25)).alloc (.cells #[.bool false] 4)) := below_alloc (below_alloc (below_alloc1 w _) _) _
  have x1 := ((Blk.new w 3 #[.int .i64 0]).alloc (.cells #[.nilIface] 25)).alloc (.cells #[.bool false] 4)
  have r1 := (Blk.new (w.alloc (.cells #[.int .i64 0] 3)) 25 #[.nilIface]).alloc (.cells #[.bool false] 4)
  have d1 := Blk.new ((w.alloc (.cells #[.int .i64 0] 3)).alloc (.cells #[.nilIface] 25)) 4 #[.bool false]
  simp only [World.size_alloc] at r1 d1
  have X1 := Lib.hid x1
  have R1 := Lib.hid r1
  have D1 := Lib.hid d1
  have B1 := Lib.hid hb1
  have HE := Lib.hid (he.below hb1)
  clear x1 r1 d1 hb1 he
  go_enter_defers Tryd.func13, Tryd.ntmps13
  go_wp2_with fail
  generalize strVal "invalid memory address or nil pointer dereference" = sv at *
  have HS := Lib.hid (show (((w.alloc (.cells #[.int .i64 0] 3)).alloc (.cells #[.nilIface] 25)).alloc (.cells #[.bool false] 4)).heap.size = w.heap.size + 3 by simp)
  generalize (((w.alloc (.cells #[.int .i64 0] 3)).alloc (.cells #[.nilIface] 25)).alloc (.cells #[.bool false] 4)) = w1 at *
  have cd := (D1.out.cell 0).trans rfl
  refine leaves_cons (f := 30) (args := #[.pointer (some ⟨w.heap.size + 1 + 1, 0, none⟩), .pointer (some ⟨w.heap.size, 0, none⟩), .pointer (some ⟨w.heap.size + 1, 0, none⟩)]) (by simp) (by simp [go_sem]) ?_
  refine (tryN_err _ _ _ w1 E (.iface 10 sv) 12 [] ⟨_, _, rfl⟩ (told_alien E _ _ (alienS _) _) HE.out cd X1.out R1.out (by omega)).mono ?_
  rintro e u' w4 ⟨rfl, rfl, ca, cb, hBut⟩
  have HF := Lib.hid (B1.out.trans (hBut.below (B := w.heap.size) (fun s hs => by simp at hs; omega) (by rw [HS.out]; omega)))
  unfold errAt at cb ⊢
  simp [Leaves, settle, results, Tryd.results13, go_sem, ca, cb]
  exact HF.out
def caughtE (k : Nat) : Nat := kindE k
theorem referr_any (k : Nat) (hk : k ≤ 21) (w : World) : Calls Tryd.prog 18 #[.int .i64 (k : Int)] w fun e w' => e = .returned (.int .i64 (kindE k : Int)) ∧ w = w' := by
  by_cases h0 : k = 0
  · subst h0
    go_enter Tryd.func18, Tryd.ntmps18
    go_wp2_with fail
    go_ret
    exact ⟨rfl, rfl⟩
  by_cases h14 : k ≤ 14
  · have d1 : decide (1 ≤ (k : Int)) = true := by rw [decide_eq_true_eq]; omega
    have d2 : decide ((k : Int) ≤ 14) = true := by rw [decide_eq_true_eq]; omega
    have HK := Lib.hid (show kindE k = k by unfold kindE; rw [if_neg h0, if_pos h14])
    clear h0 h14 hk
    generalize hkk : (k : Int) = kk at *
    go_enter Tryd.func18, Tryd.ntmps18
    go_wp2_with fail
    go_ret
    exact ⟨by rw [HK.out, hkk]; rfl, rfl⟩
  · have d1 : decide (1 ≤ (k : Int)) = true := by rw [decide_eq_true_eq]; omega
    have d2 : decide ((k : Int) ≤ 14) = false := by rw [decide_eq_false_iff_not]; omega
    have d3 : decide (14 < (k : Int)) = true := by rw [decide_eq_true_eq]; omega
    have d4 : decide ((k : Int) < 22) = true := by rw [decide_eq_true_eq]; omega
    have HK := Lib.hid (show kindE k = 13 by unfold kindE; rw [if_neg h0, if_neg h14, if_pos (by omega)])
    clear h0 h14 hk
    generalize hkk : (k : Int) = kk at *
    go_enter Tryd.func18, Tryd.ntmps18
    go_wp2_with fail
    go_ret
    exact ⟨by rw [HK.out]; rfl, rfl⟩
end Go.Proofs.YtliapmjocgohfaaDoor
