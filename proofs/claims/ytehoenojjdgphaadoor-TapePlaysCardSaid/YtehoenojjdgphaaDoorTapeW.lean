/-
  TapeW: the walks of package tape.
-/
import Derived.Test.YtehoenojjdgphaaDoorTapeF
import Derived.Test.YtehoenojjdgphaaDoorClone
import Derived.Test.YtehoenojjdgphaaDoorErrOn
import Derived.Test.YtehoenojjdgphaaDoorAppK
namespace Go.Proofs.YtehoenojjdgphaaDoor
open Go.RowKit

theorem errV_nil (E : Nat → Addr) : errV E 0 = .nilIface := rfl
theorem errV_suc (E : Nat → Addr) (n : Nat) : errV E (n + 1) = .iface 74 (.pointer (some (E n))) := rfl
/-- block a is the tape s, whose bytes are the slice v -/
def TB (w : World) (a : Nat) (v : Value) (s : TSt) : Prop := Blk w a 42 (s.cells v)
structure TCells (w : World) (a : Nat) (v : Value) (s : TSt) : Prop where
  c0 : w.cell? ⟨a, 0, none⟩ = some (.bool s.off)
  c1 : w.cell? ⟨a, 1, none⟩ = some (.bool s.armed)
  c2 : w.cell? ⟨a, 2, none⟩ = some (.int .i64 s.left)
  c3 : w.cell? ⟨a, 3, none⟩ = some v
  c4 : w.cell? ⟨a, 4, none⟩ = some (.int .i64 (s.sure : Int))
  c5 : w.cell? ⟨a, 5, none⟩ = some (.int .i64 s.room)
theorem TB.cells {w : World} {a : Nat} {v : Value} {s : TSt} (h : TB w a v s) : TCells w a v s :=
  ⟨(h.cell 0).trans rfl, (h.cell 1).trans rfl, (h.cell 2).trans rfl, (h.cell 3).trans rfl, (h.cell 4).trans rfl, (h.cell 5).trans rfl⟩
def Stepped (w : World) (E : Nat → Addr) (a : Nat) (v : Value) (s : TSt) (e : Ending) (w' : World) : Prop :=
  e = .returned (errV E s.stepE) ∧ TB w' a v s.step ∧ Only a w w'
set_option maxRecDepth 20000 in
set_option maxHeartbeats 1000000 in
theorem step_any (w : World) (E : Nat → Addr) (a : Nat) (v : Value) (s : TSt) (hs : s.Ok) (he : ErrsOn [6] w E) (hb : TB w a v s) :
    Calls Tryd.prog 24 #[.pointer (some ⟨a, 0, none⟩)] w (Stepped w E a v s) := by
  have e6 := he.cell 6 rfl
  have hne : errVar 6 ≠ a := by
    rintro rfl
    have := (hb.cell 0).symm.trans e6
    cases this
  simp only [errVar, List.getD_cons_zero, List.getD_cons_succ, errAt] at e6 hne
  have HB := Lib.hid hb
  have HS := Lib.hid hs
  obtain ⟨off, armed, left, l, sure, room⟩ := s
  obtain ⟨c0, c1, c2, c3, c4, c5⟩ := hb.cells
  simp only at c0 c1 c2 c3 c4 c5
  have f0 := hb.frozen 0
  have f2 := hb.frozen 2
  have hl := hs.left1
  simp only at hl
  clear hs hb he c3 c4 c5
  cases armed
  · have HP := Lib.hid (show TSt.step ⟨off, false, left, l, sure, room⟩ = ⟨off, false, left, l, sure, room⟩ from rfl)
    cases off
    all_goals
      go_enter Tryd.func24, Tryd.ntmps24
      go_wp2_with fail
      go_ret
      exact ⟨by unfold TSt.stepE; rw [HP.out]; rfl, by rw [HP.out]; exact HB.out, Only.refl _ _⟩
  · cases off
    · have h0 := HS.out.left2 rfl rfl
      simp only at h0
      by_cases hz : left = 0
      · subst hz
        have dz : ((0 : Int) == 0) = true := rfl
        go_enter Tryd.func24, Tryd.ntmps24
        go_wp2_with fail
        go_ret
        refine ⟨rfl, ?_, ((Only.refl _ _).set_ 0 _).set_ 2 _⟩
        exact (HB.out.set_ 0 (.bool true)).set_ 2 _
      · have dz : (left == 0) = false := by simpa using hz
        have HP := Lib.hid (show TSt.step ⟨false, true, left, l, sure, room⟩ = ⟨false, true, left - 1, l, sure, room⟩ by
          unfold TSt.step; simp [dz])
        go_enter Tryd.func24, Tryd.ntmps24
        go_wp2_with fail
        go_ret
        refine ⟨by unfold TSt.stepE; rw [HP.out]; rfl, ?_, ((Only.refl _ _).set_ 0 _).set_ 2 _⟩
        rw [HP.out]
        exact (HB.out.set_ 0 (.bool false)).set_ 2 (.int .i64 (left - 1))
    · have HP := Lib.hid (show TSt.step ⟨true, true, left, l, sure, room⟩ = ⟨true, true, left, l, sure, room⟩ from rfl)
      go_enter Tryd.func24, Tryd.ntmps24
      go_wp2_with fail
      go_ret
      exact ⟨by unfold TSt.stepE; rw [HP.out]; rfl, by rw [HP.out]; exact HB.out, Only.refl _ _⟩
end Go.Proofs.YtehoenojjdgphaaDoor
