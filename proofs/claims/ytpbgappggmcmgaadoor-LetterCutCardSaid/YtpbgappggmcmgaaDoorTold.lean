/-
  Told: package catch: what told makes of a panic with one of package api's errors.
-/
import Derived.Test.YtpbgappggmcmgaaDoorErr
import Derived.Defers
import Derived.Recover
import Derived.Outline
namespace Go.Proofs.YtpbgappggmcmgaaDoor
open Go.RowKit Go.Extern.Stop Go.Stop Go.Extern

theorem run_makeFunc {P : Program} (fn : Fn) (first cap : Array Value) (w : World) : (Instr.makeFunc fn first cap).run P w = .ok (.func fn first cap) w := rfl
/-- own() -/
theorem own_any (w : World) (E : Nat → Addr) (he : Errs w E) :
    Calls Tryd.prog 58 #[] w fun e w' => e = .returned (.slice (some ⟨w.heap.size, 0, none⟩) 14 14) ∧ w' = w.alloc (.cells (errList E).toArray 29) := by
  have g0 := he.cell 0 (by omega)
  have g1 := he.cell 1 (by omega)
  have g2 := he.cell 2 (by omega)
  have g3 := he.cell 3 (by omega)
  have g4 := he.cell 4 (by omega)
  have g5 := he.cell 5 (by omega)
  have g6 := he.cell 6 (by omega)
  have g7 := he.cell 7 (by omega)
  have g8 := he.cell 8 (by omega)
  have g9 := he.cell 9 (by omega)
  have g10 := he.cell 10 (by omega)
  have g11 := he.cell 11 (by omega)
  have g12 := he.cell 12 (by omega)
  have g13 := he.cell 13 (by omega)
  simp only [errVar, errAt, List.getD_cons_zero, List.getD_cons_succ] at g0 g1 g2 g3 g4 g5 g6 g7 g8 g9 g10 g11 g12 g13
  have HW : Hid (w.alloc (.cells (errList E).toArray 29) = w.alloc (.cells #[errAt (E 0), errAt (E 1), errAt (E 2), errAt (E 3), errAt (E 4), errAt (E 5), errAt (E 6), errAt (E 7), errAt (E 8), errAt (E 9), errAt (E 10), errAt (E 11), errAt (E 12), errAt (E 13)] 29)) := rfl
  go_enter Tryd.func58, Tryd.ntmps58
  go_wp2_with fail
  go_ret
  exact ⟨rfl, HW.out.symm⟩
theorem told1_same (w : World) (c : Nat) (a : Addr) (hc : w.cell? ⟨c, 0, none⟩ = some (errAt a)) :
    Calls Tryd.prog 59 #[errAt a, .pointer (some ⟨c, 0, none⟩)] w fun e w' => e = .returned (.bool true) ∧ w = w' := by
  unfold errAt at hc
  have HI := is_same a w
  unfold errAt at HI ⊢
  go_enter Tryd.func59, Tryd.ntmps59
  go_wp2_with fail
  refine HI.mono ?_
  rintro e w1 ⟨rfl, rfl⟩
  go_wp2_with fail
  go_ret
  exact ⟨rfl, rfl⟩
theorem told1_other (w : World) (c : Nat) (a b : Addr) (hc : w.cell? ⟨c, 0, none⟩ = some (errAt a)) (hne : a ≠ b) (ha : ∃ c t, w.heap[a.block]? = some (.cells c t (0, 0))) (hb : ∃ c t, w.heap[b.block]? = some (.cells c t (0, 0))) :
    Calls Tryd.prog 59 #[errAt b, .pointer (some ⟨c, 0, none⟩)] w fun e w' => e = .returned (.bool false) ∧ w = w' := by
  unfold errAt at hc
  have HI := is_other a b w hne ha hb
  unfold errAt at HI ⊢
  clear hne ha hb
  go_enter Tryd.func59, Tryd.ntmps59
  go_wp2_with fail
  refine HI.mono ?_
  rintro e w1 ⟨rfl, rfl⟩
  go_wp2_with fail
  go_ret
  exact ⟨rfl, rfl⟩
set_option maxHeartbeats 1000000 in
theorem indexErr_any (w : World) (E : Nat → Addr) (n g c : Nat) (hn : n < 14) (he : Errs w E) (hg : Rd w (some ⟨g, 0, none⟩) (errList E)) (hc : w.cell? ⟨c, 0, none⟩ = some (errAt (E n))) :
    Calls Tryd.prog 57 #[.slice (some ⟨g, 0, none⟩) 14 14, .func (.func 59) #[] #[.pointer (some ⟨c, 0, none⟩)]] w fun e w' => e = .returned (.int .i64 (n : Int)) ∧ w = w' := by
  have HE := Lib.hid he
  have HG := Lib.hid hg
  have HC := Lib.hid hc
  clear he hg hc
  go_enter Tryd.func57, Tryd.ntmps57
  go_wp2_with fail
  go_loop [8] (fun i => ∃ k : Nat, k ≤ n ∧ i = .int .i64 k) (fun i => 14 - (intOf i).toNat)
  case atStart => exact ⟨0, by omega, rfl⟩
  case round =>
    obtain ⟨k, hk, rfl⟩ := hrel
    obtain ⟨b, off, hp, hcl⟩ := HG.out.has (by simp [errList])
    cases hp
    have hck := hcl k _ (errList_get E k (by omega))
    rw [Nat.zero_add] at hck
    unfold errAt at hck
    clear hcl
    by_cases hkn : k = n
    · subst hkn
      go_wp2_with fail
      refine (told1_same w c (E k) HC.out).mono ?_
      rintro e w' ⟨rfl, rfl⟩
      go_wp2_with fail
      go_ret
      exact ⟨rfl, rfl⟩
    · go_wp2_with fail
      refine (told1_other w c (E n) (E k) HC.out (HE.out.ne n k hn (by omega) (by omega)) (HE.out.row n hn) (HE.out.row k (by omega))).mono ?_
      rintro e w' ⟨rfl, rfl⟩
      go_wp2_with fail
      go_round
      case rel => exact ⟨k + 1, by omega, by go_num⟩
      case measure => simp [intOf]; omega
theorem assertErr (v : Value) (w : World) : (Instr.typeAssert (.iface 128 v) 20 29 true).run Tryd.prog w = .ok (.tuple #[.iface 128 v, .bool true]) w := by kernel_rfl
set_option maxRecDepth 20000 in
set_option maxHeartbeats 1000000 in
theorem told_any (w : World) (E : Nat → Addr) (n : Nat) (hn : n < 14) (he : Errs w E) :
    Calls Tryd.prog 46 #[errAt (E n)] w fun e w' => e = .returned (errAt (E n)) ∧ Below w.heap.size w w' := by
  have HE := Lib.hid he
  have hmf := @run_makeFunc Tryd.prog
  have hta := assertErr
  clear he
  unfold errAt
  go_enter Tryd.func46, Tryd.ntmps46
  go_wp2_with fail
  have hb1 : Below w.heap.size w (w.alloc (.cells #[errAt (E n)] 29)) := below_alloc1 _ _
  have hc1 : (w.alloc (.cells #[errAt (E n)] 29)).cell? ⟨w.heap.size, 0, none⟩ = some (errAt (E n)) := cell_of_row _ _ 0 _ _ _ (heap_alloc_new w _)
  unfold errAt at hb1 hc1
  refine (own_any _ E (HE.out.below hb1)).mono ?_
  rintro e w2 ⟨rfl, hw2⟩
  have hb2 := below_alloc hb1 (.cells (errList E).toArray 29)
  have hc2 := keep_alloc _ (.cells (errList E).toArray 29) _ _ hc1
  have hr2 := rd_new (w.alloc (.cells #[.iface 128 (.pointer (some (E n)))] 29)) (errList E).toArray 29 (0, 0)
  rw [← hw2] at hb2 hc2 hr2
  have HS := Lib.hid (show (w.alloc (.cells #[.iface 128 (.pointer (some (E n)))] 29)).heap.size = w.heap.size + 1 by simp)
  rw [HS.out] at hr2 ⊢
  have HB2 := Lib.hid hb2
  have HC2 := Lib.hid hc2
  have HR2 := Lib.hid (show Rd w2 (some ⟨w.heap.size + 1, 0, none⟩) (errList E) by simpa using hr2)
  clear hb1 hc1 hb2 hc2 hr2 hw2
  go_wp2_with fail
  refine (indexErr_any w2 E n _ _ hn (HE.out.below HB2.out) HR2.out HC2.out).mono ?_
  rintro e w3 ⟨rfl, rfl⟩
  go_wp2_with fail
  refine (own_any _ E (HE.out.below HB2.out)).mono ?_
  rintro e w4 ⟨rfl, hw4⟩
  have hb4 := below_alloc HB2.out (.cells (errList E).toArray 29)
  have hr4 := rd_new w2 (errList E).toArray 29 (0, 0)
  rw [← hw4] at hb4 hr4
  obtain ⟨b, off, hp, hcl⟩ := hr4.has (by simp [errList])
  cases hp
  have hck := hcl n _ (errList_get E n hn)
  rw [Nat.zero_add] at hck
  unfold errAt at hck
  have HB4 := Lib.hid hb4
  have hn' : (n : Int) < 14 := by omega
  clear hcl hr4 hb4 hw4
  go_wp2_with fail
  go_ret
  exact ⟨rfl, HB4.out⟩
end Go.Proofs.YtpbgappggmcmgaaDoor
