/-
  TapeF: what a tape does, by the program's text, over plain data. No program.
-/
import Derived.Test.YtehoenojjdgphaaDoorKeeps
namespace Go.Proofs.YtehoenojjdgphaaDoor
open Go.RowKit

structure TSt where
  off : Bool
  armed : Bool
  left : Int
  l : List UInt8
  sure : Nat
  room : Int
def TSt.cells (s : TSt) (v : Value) : Array Value := #[.bool s.off, .bool s.armed, .int .i64 s.left, v, .int .i64 (s.sure : Int), .int .i64 s.room]
/-- the bounds that a tape keeps -/
structure TSt.Ok (s : TSt) : Prop where
  left1 : -9223372036854775808 ≤ s.left ∧ s.left ≤ 9223372036854775807
  left2 : s.armed = true → s.off = false → 0 ≤ s.left
  sure : s.sure ≤ s.l.length
  len : s.l.length ≤ 65536
  room : 0 ≤ s.room ∧ s.room ≤ 65536
def TSt.step (s : TSt) : TSt := if s.armed && !s.off then { s with off := s.left == 0, left := s.left - 1 } else s
theorem TSt.Ok.step {s : TSt} (h : s.Ok) : s.step.Ok := by
  unfold TSt.step
  split
  · rename_i hc
    simp only [Bool.and_eq_true, Bool.not_eq_true'] at hc
    have h1 := h.left1
    have h2 := h.left2 hc.1 hc.2
    refine ⟨by simp only; omega, fun _ ho => ?_, h.sure, h.len, h.room⟩
    simp only at ho ⊢
    have : s.left ≠ 0 := by simpa using ho
    omega
  · exact h
theorem TSt.step_l (s : TSt) : s.step.l = s.l := by unfold TSt.step; split <;> rfl
theorem TSt.step_sure (s : TSt) : s.step.sure = s.sure := by unfold TSt.step; split <;> rfl
theorem TSt.step_room (s : TSt) : s.step.room = s.room := by unfold TSt.step; split <;> rfl
def TSt.stepE (s : TSt) : Nat := if s.step.off then 7 else 0

def TSt.full (s : TSt) (d : List UInt8) : Bool := decide (s.room - s.l.length < d.length)
def TSt.append (s : TSt) (d : List UInt8) : TSt := if s.full d then s else if s.step.off then s.step else { s.step with l := s.l ++ d }
def TSt.appendE (s : TSt) (d : List UInt8) : Nat := if s.full d then 6 else s.stepE
def TSt.sync (s : TSt) : TSt := if s.step.off then s.step else { s.step with sure := s.l.length }
def TSt.set (s : TSt) (d : List UInt8) : TSt := if s.step.off then s.step else { s.step with l := d, sure := d.length }
def TSt.swap (s : TSt) (d : List UInt8) : TSt := if s.room < d.length then s else s.set d
def TSt.swapE (s : TSt) (d : List UInt8) : Nat := if s.room < d.length then 6 else s.stepE
def TSt.cut (s : TSt) (n : Int) : TSt := if n < 0 ∨ (s.l.length : Int) < n then s else s.set (s.l.take n.toNat)
def TSt.cutE (s : TSt) (n : Int) : Nat := if n < 0 ∨ (s.l.length : Int) < n then 1 else s.stepE
def TSt.kept (s : TSt) (keep : Int) : Nat := min keep.toNat (s.l.length - s.sure)
def TSt.crash (s : TSt) (keep : Int) : TSt := { s with off := false, armed := false, left := 0, l := s.l.take (s.sure + s.kept keep), sure := s.sure + s.kept keep }
def TSt.arm (s : TSt) (n : Int) : TSt := { s with armed := decide (0 ≤ n), left := n }
def TSt.setRoom (s : TSt) (n : Int) : TSt := if n < 0 ∨ 65536 < n then s else { s with room := n }
def TSt.setRoomE (n : Int) : Nat := if n < 0 ∨ 65536 < n then 1 else 0
def TSt.zero : TSt := ⟨false, false, 0, [], 0, 0⟩
theorem TSt.zero_ok : TSt.zero.Ok := ⟨by decide, by decide, by decide, by decide, by decide⟩
theorem TSt.Ok.append {s : TSt} (h : s.Ok) (d : List UInt8) : (s.append d).Ok := by
  have hs := h.step
  unfold TSt.append TSt.full
  split
  · exact h
  · rename_i hc
    split
    · exact hs
    · have h1 := h.sure
      have h2 := h.room
      have h3 := h.len
      refine ⟨hs.left1, hs.left2, ?_, ?_, hs.room⟩
      · rw [show ({ s.step with l := s.l ++ d } : TSt).sure = s.sure from s.step_sure]; simp; omega
      · simp at hc ⊢; omega
theorem TSt.Ok.sync {s : TSt} (h : s.Ok) : s.sync.Ok := by
  have hs := h.step
  unfold TSt.sync
  split
  · exact hs
  · exact ⟨hs.left1, hs.left2, by simp [TSt.step_l], hs.len, hs.room⟩
theorem TSt.Ok.set {s : TSt} (h : s.Ok) {d : List UInt8} (hd : d.length ≤ 65536) : (s.set d).Ok := by
  have hs := h.step
  unfold TSt.set
  split
  · exact hs
  · exact ⟨hs.left1, hs.left2, Nat.le_refl _, hd, hs.room⟩
theorem TSt.Ok.swap {s : TSt} (h : s.Ok) (d : List UInt8) : (s.swap d).Ok := by
  unfold TSt.swap
  split
  · exact h
  · have := h.room
    exact h.set (by omega)
theorem TSt.Ok.cut {s : TSt} (h : s.Ok) (n : Int) : (s.cut n).Ok := by
  unfold TSt.cut
  split
  · exact h
  · have := h.len
    exact h.set (by rw [List.length_take]; omega)
theorem TSt.kept_le (s : TSt) (h : s.Ok) (k : Int) : s.sure + s.kept k ≤ s.l.length := by
  have := h.sure
  unfold TSt.kept; omega
theorem TSt.Ok.crash {s : TSt} (h : s.Ok) (k : Int) : (s.crash k).Ok := by
  have h1 := s.kept_le h k
  have h2 := h.len
  exact ⟨by simp [TSt.crash], by simp [TSt.crash], by simp [TSt.crash]; omega, by simp [TSt.crash]; omega, h.room⟩
theorem TSt.Ok.arm {s : TSt} (h : s.Ok) {n : Int} (hn : -9223372036854775808 ≤ n ∧ n ≤ 9223372036854775807) : (s.arm n).Ok :=
  ⟨hn, fun ha _ => by simpa [TSt.arm] using ha, h.sure, h.len, h.room⟩
theorem TSt.Ok.setRoom {s : TSt} (h : s.Ok) (n : Int) : (s.setRoom n).Ok := by
  unfold TSt.setRoom
  split
  · exact h
  · exact ⟨h.left1, h.left2, h.sure, h.len, by simp only; omega⟩
end Go.Proofs.YtehoenojjdgphaaDoor
