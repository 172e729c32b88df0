/-
  CatchA: the walk of liaisonlaw02's alive.
-/
import Derived.Test.YtliapmjocgohfaaDoorCatchP
import Derived.Lib.BoundsPanic
namespace Go.Proofs.YtliapmjocgohfaaDoor
open Go.RowKit Go.Extern.Stop Go.Stop Go.Extern

theorem alive1_any (w : World) (E : Nat → Addr) (he : Errs w E) : Calls Tryd.prog 28 #[] w (Acts E 6 1 w) := by
  have g5 := he.cell 5 (by omega)
  have HM := Lib.hid (must_any w E 6 1)
  clear he
  simp only [errVar, errAt, List.getD_cons_zero, List.getD_cons_succ] at g5
  rw [errV_suc] at HM
  go_enter Tryd.func28, Tryd.ntmps28
  go_wp2_with fail
  refine HM.out.mono ?_
  rintro e w1 ⟨hb, ⟨h, _⟩ | ⟨k, hk, rfl⟩⟩
  · cases h
  · obtain rfl : k = 5 := by omega
    go_wp2_with fail
    exact ⟨rfl, hb, .inr ⟨5, rfl, rfl⟩⟩
/-- a call that panics with a runtime error -/
def Runs (w : World) (e : Ending) (w' : World) : Prop := Below w.heap.size w w' ∧ ∃ T v, Alien T v ∧ e = .panicked [{ v := .iface T v, recovered := false }]
set_option maxRecDepth 20000 in
theorem alive2_any (w : World) (b : Nat) (hc : w.cell? ⟨b, 0, none⟩ = some (.slice none 0 0)) : Calls Tryd.prog 29 #[.pointer (some ⟨b, 0, none⟩)] w (Runs w) := by
  have h1 := (Lib.run_indexAt_nil (P := Tryd.prog) w 38 3 0 0 .i64 0 Tryd.underlying38).trans (Lib.run_boundsPanic_index Tryd.prog 0 0 w (by omega) (by omega))
  rw [show Tryd.prog.rt.boundsError = 8 by kernel_rfl] at h1
  go_enter Tryd.func29, Tryd.ntmps29
  go_wp2_with fail
  exact ⟨rfl, (Below.refl _ _).drew, _, _, alienB _, rfl⟩
set_option maxRecDepth 20000 in
set_option maxHeartbeats 1000000 in
theorem alive_any (w : World) (E : Nat → Addr) (he : Errs w E) :
    Calls Tryd.prog 8 #[] w fun e w' => e = .returned (.bool true) ∧ Below w.heap.size w w' := by
  have HE := Lib.hid he
  have hmf := @run_makeFunc Tryd.prog
  clear he
  go_enter Tryd.func8, Tryd.ntmps8
  go_wp2_with fail
  refine (tryI_any w E 28 #[] (fun _ _ _ => False) (fun k => k = 5) HE.out (fun _ _ _ h => h.elim) (fun w => by kernel_rfl) ?_).mono ?_
  · intro w1 hbw _
    refine (alive1_any w1 E (HE.out.below hbw)).mono ?_
    rintro e w2 ⟨hb, ⟨h, _⟩ | ⟨k, hk, rfl⟩⟩
    · cases h
    · obtain rfl : k = 5 := by omega
      exact ⟨.inr ⟨_, 5, by omega, rfl, ⟨_, _, rfl⟩, told_own E 5 (by omega) _, rfl⟩, hb⟩
  · rintro e w2 ⟨hb2, ⟨v, w1, w2', _, _, _, _, h, _⟩ | ⟨n, _, rfl, rfl⟩⟩
    · exact h.elim
    have hb3 := below_alloc hb2 (.cells #[.slice none 0 0] 38)
    have hc3 : (w2.alloc (.cells #[.slice none 0 0] 38)).cell? ⟨w2.heap.size, 0, none⟩ = some (.slice none 0 0) := cell_of_row _ _ 0 _ _ _ (heap_alloc_new w2 _)
    have HC3 := Lib.hid hc3
    have HB3 := Lib.hid hb3
    unfold errAt
    clear hc3 hb3
    go_wp2_with fail
    refine (tryI_any _ E 29 #[.pointer (some ⟨w2.heap.size, 0, none⟩)] (fun _ _ _ => False) (fun k => k = 12) (HE.out.below HB3.out) (fun _ _ _ h => h.elim) (fun w => by kernel_rfl) ?_).mono ?_
    · intro w1 hbw _
      refine (alive2_any w1 w2.heap.size (Below.keeps hbw _ _ HC3.out)).mono ?_
      rintro e w4 ⟨hb, T, v, hA, rfl⟩
      exact ⟨.inr ⟨_, 12, by omega, rfl, ⟨_, _, rfl⟩, told_alien E T v hA _, rfl⟩, hb⟩
    · rintro e w4 ⟨hb4', ⟨v, w1, w2', _, _, _, _, h, _⟩ | ⟨n, _, rfl, rfl⟩⟩
      · exact h.elim
      have hb4 := HB3.out.trans (hb4'.mono HB3.out.size)
      have HN1 := Lib.hid (num_any w4 E 6 (by omega) (HE.out.below hb4))
      rw [errV_suc] at HN1
      have HN2 := Lib.hid (fun w he => num_any w E 13 (by omega) he)
      rw [errV_suc] at HN2
      unfold errAt
      clear hb4'
      go_wp2_with fail
      refine HN1.out.mono ?_
      rintro e w5 ⟨rfl, hb5'⟩
      have hb5 := hb4.trans (hb5'.mono hb4.size)
      clear hb5'
      go_wp2_with fail
      refine (HN2.out w5 (HE.out.below hb5)).mono ?_
      rintro e w6 ⟨rfl, hb6'⟩
      have hb6 := hb5.trans (hb6'.mono hb5.size)
      go_wp2_with fail
      go_ret
      exact ⟨rfl, hb6⟩
end Go.Proofs.YtliapmjocgohfaaDoor
