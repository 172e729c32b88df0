/-
  TapeW2: the walks of package tape, the exported methods.
-/
import Derived.Test.YtehoenojjdgphaaDoorTapeW
namespace Go.Proofs.YtehoenojjdgphaaDoor
open Go.RowKit

def tapeTs : List TypeId := [42, 5]
/-- block a, of the call's own blocks from B on, is the tape s -/
def Tp (w : World) (B a : Nat) (s : TSt) : Prop := ∃ v, B ≤ a ∧ TB w a v s ∧ w.ownsRow B 5 1 v s.l.length (bvs s.l) ∧ s.Ok
/-- the call gives r, the tape is s' -/
def TapeR (w : World) (B a : Nat) (s' : TSt) (r : Value) (e : Ending) (w' : World) : Prop := e = .returned r ∧ Tp w' B a s' ∧ Keeps B tapeTs w w'
theorem tb_ne : 5 ≠ 42 := by decide
theorem tp_only {w w' : World} {B a : Nat} {s s' : TSt} {v : Value} (hB : B ≤ a) (hb : TB w a v s) (ho : w.ownsRow B 5 1 v s.l.length (bvs s.l)) (k : Only a w w') (hb' : TB w' a v s') (hl : s'.l = s.l) (hs : s'.Ok) : Tp w' B a s' :=
  ⟨v, hB, hb', by rw [hl]; exact k.owns hb ho tb_ne, hs⟩
theorem keeps_only {w w' : World} {B a : Nat} {s : TSt} {v : Value} (hB : B ≤ a) (hb : TB w a v s) (k : Only a w w') : Keeps B tapeTs w w' :=
  (Keeps.refl B tapeTs w).only hB hb rfl k

/-- a method that only reads -/
def TapeQ (w : World) (r : Value) (e : Ending) (w' : World) : Prop := e = .returned r ∧ Below w.heap.size w w'
theorem sure_any (w : World) (B a : Nat) (s : TSt) (ht : Tp w B a s) : Calls Tryd.prog 13 #[.pointer (some ⟨a, 0, none⟩)] w (TapeQ w (.int .i64 (s.sure : Int))) := by
  obtain ⟨v, hB, hb, _, _⟩ := ht
  obtain ⟨c0, c1, c2, c3, c4, c5⟩ := hb.cells
  clear hb
  go_enter Tryd.func13, Tryd.ntmps13
  go_wp2_with fail
  go_ret
  exact ⟨rfl, Below.refl _ _⟩
theorem bytes_of_tape (w : World) (B a : Nat) (s : TSt) (ht : Tp w B a s) : Calls Tryd.prog 12 #[.pointer (some ⟨a, 0, none⟩)] w (Cloned w s.l) := by
  obtain ⟨v, hB, hb, ho, hs⟩ := ht
  obtain ⟨c0, c1, c2, c3, c4, c5⟩ := hb.cells
  have hlen := hs.len
  have hy := owns_byt ho
  obtain ⟨p, c, rfl, h1, h2, h3⟩ := owns_rd ho
  have HY := Lib.hid hy
  clear hb ho hs hy h3
  go_enter Tryd.func12, Tryd.ntmps12
  go_wp2_with fail
  refine (clone_any _ s.l w (by omega) HY.out).mono ?_
  rintro e w1 ⟨v1, rfl, ho1, hb1⟩
  go_wp2_with fail
  go_ret
  exact ⟨_, rfl, ho1, hb1⟩
theorem setRoom_any (w : World) (E : Nat → Addr) (B a : Nat) (s : TSt) (n : Int) (he : ErrsOn [0] w E) (ht : Tp w B a s) :
    Calls Tryd.prog 23 #[.pointer (some ⟨a, 0, none⟩), .int .i64 n] w (TapeR w B a (s.setRoom n) (errV E (TSt.setRoomE n))) := by
  have HT := Lib.hid ht
  obtain ⟨v, hB, hb, ho, hs⟩ := ht
  have HB := Lib.hid hb
  have HS := Lib.hid (hs.setRoom n)
  have HO := Lib.hid ho
  have e0 := he.cell 0 rfl
  simp only [errVar, List.getD_cons_zero, List.getD_cons_succ, errAt] at e0
  obtain ⟨c0, c1, c2, c3, c4, c5⟩ := hb.cells
  have f5 := hb.frozen 5
  clear hb ho hs he
  by_cases hn : n < 0 ∨ 65536 < n
  · have hr := Lib.hid (show s.setRoom n = s ∧ TSt.setRoomE n = 1 by unfold TSt.setRoom TSt.setRoomE; rw [if_pos hn, if_pos hn]; exact ⟨rfl, rfl⟩)
    have d : (decide (n < 0) = true) ∨ (decide (n < 0) = false ∧ decide (65536 < n) = true) := by
      simp only [decide_eq_true_eq, decide_eq_false_iff_not]; omega
    rcases d with d1 | ⟨d1, d2⟩
    all_goals
      clear hn
      go_enter Tryd.func23, Tryd.ntmps23
      go_wp2_with fail
      first | go_quiet (fail) | skip
      go_wp2_with fail
      go_ret
      exact ⟨by rw [hr.out.2]; rfl, by rw [hr.out.1]; exact HT.out, Keeps.refl _ _ _⟩
  · have hr := Lib.hid (show s.setRoom n = { s with room := n } ∧ TSt.setRoomE n = 0 by unfold TSt.setRoom TSt.setRoomE; rw [if_neg hn, if_neg hn]; exact ⟨rfl, rfl⟩)
    have d1 : decide (n < 0) = false := by simp; omega
    have d2 : decide (65536 < n) = false := by simp; omega
    clear hn
    go_enter Tryd.func23, Tryd.ntmps23
    go_wp2_with fail
    go_ret
    have k : Only a w (w.setCell ⟨a, 5, none⟩ (.int .i64 n)) := (Only.refl _ _).set_ 5 _
    refine ⟨by rw [hr.out.2]; rfl, ?_, keeps_only hB HB.out k⟩
    refine tp_only hB HB.out HO.out k ?_ (by rw [hr.out.1]) HS.out
    rw [hr.out.1]
    exact HB.out.set_ 5 _
end Go.Proofs.YtehoenojjdgphaaDoor
