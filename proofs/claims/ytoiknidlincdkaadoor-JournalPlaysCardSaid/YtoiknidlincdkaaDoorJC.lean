/-
  TapeF: what a tape does, by the program's text, over plain data. No program.
  TapeM: the document's tape over plain data, and that a tape answers as it does. No program.
  TapeP: a tape whose power is on and not told. No program.
  TapeW: the walks of package tape.
  TapV: the walks of package tape; the blocks that may turn are told one by one.
-/
import Derived.Test.YtoiknidlincdkaaDoorJA
import Derived.StillTailTactics
import Derived.Maps.AppendAt
namespace Go.Proofs.YtoiknidlincdkaaDoor
open Go.RowKit

structure TSt where
  off : Bool
  armed : Bool
  left : Int
  l : List UInt8
  sure : Nat
  room : Int
def TSt.cells (s : TSt) (v : Value) : Array Value := #[.bool s.off, .bool s.armed, .int .i64 s.left, v, .int .i64 (s.sure : Int), .int .i64 s.room]
/-- the bounds that a tape keeps -/
structure TSt.Ok (s : TSt) : Prop where
  left1 : -9223372036854775808 ≤ s.left ∧ s.left ≤ 9223372036854775807
  left2 : s.armed = true → s.off = false → 0 ≤ s.left
  sure : s.sure ≤ s.l.length
  len : s.l.length ≤ 65536
  room : 0 ≤ s.room ∧ s.room ≤ 65536
def TSt.step (s : TSt) : TSt := if s.armed && !s.off then { s with off := s.left == 0, left := s.left - 1 } else s
theorem TSt.Ok.step {s : TSt} (h : s.Ok) : s.step.Ok := by
  unfold TSt.step
  split
  · rename_i hc
    simp only [Bool.and_eq_true, Bool.not_eq_true'] at hc
    have h1 := h.left1
    have h2 := h.left2 hc.1 hc.2
    refine ⟨by simp only; omega, fun _ ho => ?_, h.sure, h.len, h.room⟩
    simp only at ho ⊢
    have : s.left ≠ 0 := by simpa using ho
    omega
  · exact h
theorem TSt.step_l (s : TSt) : s.step.l = s.l := by unfold TSt.step; split <;> rfl
theorem TSt.step_sure (s : TSt) : s.step.sure = s.sure := by unfold TSt.step; split <;> rfl
theorem TSt.step_room (s : TSt) : s.step.room = s.room := by unfold TSt.step; split <;> rfl
def TSt.stepE (s : TSt) : Nat := if s.step.off then 7 else 0

def TSt.full (s : TSt) (d : List UInt8) : Bool := decide (s.room - s.l.length < d.length)
def TSt.append (s : TSt) (d : List UInt8) : TSt := if s.full d then s else if s.step.off then s.step else { s.step with l := s.l ++ d }
def TSt.appendE (s : TSt) (d : List UInt8) : Nat := if s.full d then 6 else s.stepE
def TSt.sync (s : TSt) : TSt := if s.step.off then s.step else { s.step with sure := s.l.length }
def TSt.set (s : TSt) (d : List UInt8) : TSt := if s.step.off then s.step else { s.step with l := d, sure := d.length }
def TSt.swap (s : TSt) (d : List UInt8) : TSt := if s.room < d.length then s else s.set d
def TSt.swapE (s : TSt) (d : List UInt8) : Nat := if s.room < d.length then 6 else s.stepE
def TSt.cut (s : TSt) (n : Int) : TSt := if n < 0 ∨ (s.l.length : Int) < n then s else s.set (s.l.take n.toNat)
def TSt.cutE (s : TSt) (n : Int) : Nat := if n < 0 ∨ (s.l.length : Int) < n then 1 else s.stepE
def TSt.kept (s : TSt) (keep : Int) : Nat := min keep.toNat (s.l.length - s.sure)
def TSt.crash (s : TSt) (keep : Int) : TSt := { s with off := false, armed := false, left := 0, l := s.l.take (s.sure + s.kept keep), sure := s.sure + s.kept keep }
def TSt.arm (s : TSt) (n : Int) : TSt := { s with armed := decide (0 ≤ n), left := n }
def TSt.setRoom (s : TSt) (n : Int) : TSt := if n < 0 ∨ 65536 < n then s else { s with room := n }
def TSt.setRoomE (n : Int) : Nat := if n < 0 ∨ 65536 < n then 1 else 0
def TSt.zero : TSt := ⟨false, false, 0, [], 0, 0⟩
theorem TSt.zero_ok : TSt.zero.Ok := ⟨by decide, by decide, by decide, by decide, by decide⟩
theorem TSt.Ok.append {s : TSt} (h : s.Ok) (d : List UInt8) : (s.append d).Ok := by
  have hs := h.step
  unfold TSt.append TSt.full
  split
  · exact h
  · rename_i hc
    split
    · exact hs
    · have h1 := h.sure
      have h2 := h.room
      have h3 := h.len
      refine ⟨hs.left1, hs.left2, ?_, ?_, hs.room⟩
      · rw [show ({ s.step with l := s.l ++ d } : TSt).sure = s.sure from s.step_sure]; simp; omega
      · simp at hc ⊢; omega
theorem TSt.Ok.sync {s : TSt} (h : s.Ok) : s.sync.Ok := by
  have hs := h.step
  unfold TSt.sync
  split
  · exact hs
  · exact ⟨hs.left1, hs.left2, by simp [TSt.step_l], hs.len, hs.room⟩
theorem TSt.Ok.set {s : TSt} (h : s.Ok) {d : List UInt8} (hd : d.length ≤ 65536) : (s.set d).Ok := by
  have hs := h.step
  unfold TSt.set
  split
  · exact hs
  · exact ⟨hs.left1, hs.left2, Nat.le_refl _, hd, hs.room⟩
theorem TSt.Ok.swap {s : TSt} (h : s.Ok) (d : List UInt8) : (s.swap d).Ok := by
  unfold TSt.swap
  split
  · exact h
  · have := h.room
    exact h.set (by omega)
theorem TSt.Ok.cut {s : TSt} (h : s.Ok) (n : Int) : (s.cut n).Ok := by
  unfold TSt.cut
  split
  · exact h
  · have := h.len
    exact h.set (by rw [List.length_take]; omega)
theorem TSt.kept_le (s : TSt) (h : s.Ok) (k : Int) : s.sure + s.kept k ≤ s.l.length := by
  have := h.sure
  unfold TSt.kept; omega
theorem TSt.Ok.crash {s : TSt} (h : s.Ok) (k : Int) : (s.crash k).Ok := by
  have h1 := s.kept_le h k
  have h2 := h.len
  exact ⟨by simp [TSt.crash], by simp [TSt.crash], by simp [TSt.crash]; omega, by simp [TSt.crash]; omega, h.room⟩
theorem TSt.Ok.arm {s : TSt} (h : s.Ok) {n : Int} (hn : -9223372036854775808 ≤ n ∧ n ≤ 9223372036854775807) : (s.arm n).Ok :=
  ⟨hn, fun ha _ => by simpa [TSt.arm] using ha, h.sure, h.len, h.room⟩
theorem TSt.Ok.setRoom {s : TSt} (h : s.Ok) (n : Int) : (s.setRoom n).Ok := by
  unfold TSt.setRoom
  split
  · exact h
  · exact ⟨h.left1, h.left2, h.sure, h.len, by simp only; omega⟩
end Go.Proofs.YtoiknidlincdkaaDoor

namespace Go.Proofs.YtoiknidlincdkaaDoor
open Go.RowKit

structure MSt where
  sure : List UInt8
  tail : List UInt8
  room : Int
  left : Int
  off : Bool
def MSt.cells (m : MSt) : Array Value := #[.string (bs m.sure), .string (bs m.tail), .int .i64 m.room, .int .i64 m.left, .bool m.off]
def MSt.cut (m : MSt) : Bool := m.off || m.left == 0
def MSt.step (m : MSt) : MSt := if m.cut then { m with off := true } else if 0 < m.left then { m with left := m.left - 1 } else m
def MSt.stepE (m : MSt) : Nat := if m.cut then 7 else 0
def MSt.append (m : MSt) (b : List UInt8) : MSt := if m.room - m.sure.length - m.tail.length < b.length then m else if m.cut then m.step else { m.step with tail := m.tail ++ b }
def MSt.appendE (m : MSt) (b : List UInt8) : Nat := if m.room - m.sure.length - m.tail.length < b.length then 6 else m.stepE
def MSt.sync (m : MSt) : MSt := if m.cut then m.step else { m.step with sure := m.sure ++ m.tail, tail := [] }
def MSt.swap (m : MSt) (b : List UInt8) : MSt := if m.room < b.length then m else if m.cut then m.step else { m.step with sure := b, tail := [] }
def MSt.swapE (m : MSt) (b : List UInt8) : Nat := if m.room < b.length then 6 else m.stepE
def MSt.cutTo (m : MSt) (n : Int) : MSt := if n < 0 ∨ ((m.sure ++ m.tail).length : Int) < n then m else if m.cut then m.step else { m.step with sure := (m.sure ++ m.tail).take n.toNat, tail := [] }
def MSt.cutE (m : MSt) (n : Int) : Nat := if n < 0 ∨ ((m.sure ++ m.tail).length : Int) < n then 1 else m.stepE
def MSt.arm (m : MSt) (n : Int) : MSt := { m with left := if n < 0 then -1 else n }
def MSt.crash (m : MSt) (k : Int) : MSt := { m with sure := m.sure ++ m.tail.take (min k.toNat m.tail.length), tail := [], off := false, left := -1 }
def MSt.setRoom (m : MSt) (n : Int) : MSt := if n < 0 ∨ 65536 < n then m else { m with room := n }
def MSt.new (n : Int) : MSt := ⟨[], [], n, -1, false⟩
/-- the tape s answers as the model m -/
structure Rel (s : TSt) (m : MSt) : Prop where
  ok : s.Ok
  l : s.l = m.sure ++ m.tail
  sure : s.sure = m.sure.length
  room : s.room = m.room
  off : s.off = m.off
  left : -1 ≤ m.left ∧ m.left ≤ 9223372036854775807
  pw : s.off = false → s.armed = decide (0 ≤ m.left) ∧ (s.armed = true → s.left = m.left)
section
variable {s : TSt} {m : MSt}
theorem MSt.step_sure (m : MSt) : m.step.sure = m.sure := by unfold MSt.step; split <;> (try split) <;> rfl
theorem MSt.step_tail (m : MSt) : m.step.tail = m.tail := by unfold MSt.step; split <;> (try split) <;> rfl
theorem MSt.step_room (m : MSt) : m.step.room = m.room := by unfold MSt.step; split <;> (try split) <;> rfl
theorem Rel.cut (h : Rel s m) : s.step.off = m.cut := by
  unfold TSt.step MSt.cut
  have ho := h.off
  have hl := h.left
  cases hoff : s.off with
  | true => rw [← ho, hoff]; simp [hoff]
  | false =>
    obtain ⟨p1, p2⟩ := h.pw hoff
    rw [← ho, hoff]
    cases ha : s.armed with
    | true =>
      have := p2 ha
      simp [this]
    | false =>
      rw [ha] at p1
      have : ¬ 0 ≤ m.left := by simpa using p1.symm
      simp [hoff]; omega
theorem Rel.step (h : Rel s m) : Rel s.step m.step := by
  have hc := h.cut
  have hl := h.left
  refine ⟨h.ok.step, by rw [TSt.step_l, MSt.step_sure, MSt.step_tail]; exact h.l, by rw [TSt.step_sure, MSt.step_sure]; exact h.sure, by rw [TSt.step_room, MSt.step_room]; exact h.room, ?_, ?_, ?_⟩
  · rw [hc]
    unfold MSt.step
    split
    · rename_i h1; exact h1
    · rename_i h1
      have h1' : m.cut = false := by simpa using h1
      have : m.off = false := by unfold MSt.cut at h1'; simp at h1'; exact h1'.1
      rw [h1']
      split <;> exact this.symm
  · unfold MSt.step
    split
    · exact hl
    · split
      · simp only; omega
      · exact hl
  · intro hoff
    rw [hc] at hoff
    have hoff0 : m.off = false ∧ ¬ m.left = 0 := by unfold MSt.cut at hoff; simpa using hoff
    have hso : s.off = false := by rw [h.off]; exact hoff0.1
    obtain ⟨p1, p2⟩ := h.pw hso
    have e : m.step = if 0 < m.left then { m with left := m.left - 1 } else m := by unfold MSt.step; rw [hoff]; rfl
    cases ha : s.armed with
    | true =>
      have hle := p2 ha
      rw [ha] at p1
      have h0 : 0 ≤ m.left := by simpa using p1.symm
      have h1 : 0 < m.left := by omega
      have e2 : s.step = { s with off := s.left == 0, left := s.left - 1 } := by unfold TSt.step; rw [ha, hso]; rfl
      rw [e, e2, if_pos h1]
      refine ⟨?_, fun _ => ?_⟩
      · show s.armed = decide (0 ≤ m.left - 1)
        rw [ha]; symm; rw [decide_eq_true_eq]; omega
      · show s.left - 1 = m.left - 1
        rw [hle]
    | false =>
      rw [ha] at p1
      have h0 : ¬ 0 ≤ m.left := by simpa using p1.symm
      have h1 : ¬ 0 < m.left := by omega
      have e2 : s.step = s := by unfold TSt.step; rw [ha]; rfl
      rw [e, e2, if_neg h1]
      exact ⟨ha.trans p1, fun hx => by rw [ha] at hx; cases hx⟩
theorem Rel.stepE (h : Rel s m) : s.stepE = m.stepE := by unfold TSt.stepE MSt.stepE; rw [h.cut]
theorem Rel.full (h : Rel s m) (d : List UInt8) : (s.full d = true ↔ m.room - m.sure.length - m.tail.length < d.length) := by
  unfold TSt.full
  rw [h.l, h.room, List.length_append, decide_eq_true_eq]
  omega
theorem Rel.append (h : Rel s m) (d : List UInt8) : Rel (s.append d) (m.append d) ∧ s.appendE d = m.appendE d := by
  have hs := h.step
  have hf := h.full d
  have hk := h.ok.append d
  have hst := h.stepE
  have hc := h.cut
  unfold TSt.append at hk ⊢
  unfold MSt.append TSt.appendE MSt.appendE
  by_cases c : m.room - m.sure.length - m.tail.length < d.length
  · rw [if_pos (hf.2 c), if_pos c, if_pos (hf.2 c), if_pos c]; exact ⟨h, rfl⟩
  · have c' : ¬ s.full d = true := fun x => c (hf.1 x)
    rw [if_neg c', if_neg c, if_neg c', if_neg c]
    rw [if_neg c'] at hk
    rw [hc] at hk ⊢
    cases hcc : m.cut with
    | true => simp only [if_true]; exact ⟨hs, hst⟩
    | false =>
      rw [hcc] at hk
      simp only [Bool.false_eq_true, if_false] at hk ⊢
      refine ⟨⟨hk, ?_, hs.sure, hs.room, hs.off, hs.left, hs.pw⟩, hst⟩
      simp only
      rw [h.l, MSt.step_sure, List.append_assoc]
theorem Rel.sync (h : Rel s m) : Rel s.sync m.sync := by
  have hs := h.step
  have hk := h.ok.sync
  have hc := h.cut
  unfold TSt.sync at hk ⊢
  unfold MSt.sync
  rw [hc] at hk ⊢
  cases hcc : m.cut with
  | true => simp only [if_true]; exact hs
  | false =>
    rw [hcc] at hk
    simp only [Bool.false_eq_true, if_false] at hk ⊢
    refine ⟨hk, ?_, ?_, hs.room, hs.off, hs.left, hs.pw⟩
    · simp only; rw [TSt.step_l, h.l, List.append_nil]
    · simp only; rw [h.l]
theorem Rel.set (h : Rel s m) (d : List UInt8) (hd : d.length ≤ 65536) : Rel (s.set d) (if m.cut then m.step else { m.step with sure := d, tail := [] }) := by
  have hs := h.step
  have hk := h.ok.set hd
  have hc := h.cut
  unfold TSt.set at hk ⊢
  rw [hc] at hk ⊢
  cases hcc : m.cut with
  | true => simp only [if_true]; exact hs
  | false =>
    rw [hcc] at hk
    simp only [Bool.false_eq_true, if_false] at hk ⊢
    exact ⟨hk, by simp only; rw [List.append_nil], rfl, hs.room, hs.off, hs.left, hs.pw⟩
theorem Rel.swap (h : Rel s m) (d : List UInt8) : Rel (s.swap d) (m.swap d) ∧ s.swapE d = m.swapE d := by
  have hr := h.ok.room
  have e := h.room
  unfold TSt.swap MSt.swap TSt.swapE MSt.swapE
  rw [e] at hr ⊢
  by_cases c : m.room < d.length
  · rw [if_pos c, if_pos c, if_pos c, if_pos c]; exact ⟨h, rfl⟩
  · rw [if_neg c, if_neg c, if_neg c, if_neg c]
    exact ⟨h.set d (by omega), h.stepE⟩
theorem Rel.cutTo (h : Rel s m) (n : Int) : Rel (s.cut n) (m.cutTo n) ∧ s.cutE n = m.cutE n := by
  have hl := h.ok.len
  unfold TSt.cut MSt.cutTo TSt.cutE MSt.cutE
  rw [h.l] at hl ⊢
  by_cases c : n < 0 ∨ ((m.sure ++ m.tail).length : Int) < n
  · rw [if_pos c, if_pos c, if_pos c, if_pos c]; exact ⟨h, rfl⟩
  · rw [if_neg c, if_neg c, if_neg c, if_neg c]
    exact ⟨h.set _ (by rw [List.length_take]; omega), h.stepE⟩
theorem Rel.arm (h : Rel s m) (n : Int) (hn : -9223372036854775808 ≤ n ∧ n ≤ 9223372036854775807) : Rel (s.arm n) (m.arm n) := by
  refine ⟨h.ok.arm hn, h.l, h.sure, h.room, h.off, ?_, fun _ => ⟨?_, fun hx => ?_⟩⟩
  · show -1 ≤ (if n < 0 then (-1 : Int) else n) ∧ _ ≤ _
    have : (m.arm n).left = if n < 0 then (-1 : Int) else n := rfl
    rw [this]
    split <;> omega
  · show decide (0 ≤ n) = decide (0 ≤ if n < 0 then (-1 : Int) else n)
    rw [decide_eq_decide]
    split <;> omega
  · have h0 : 0 ≤ n := by simpa [TSt.arm] using hx
    show n = if n < 0 then (-1 : Int) else n
    rw [if_neg (by omega)]
theorem Rel.crash (h : Rel s m) (k : Int) : Rel (s.crash k) (m.crash k) := by
  have hkept : s.kept k = min k.toNat m.tail.length := by
    unfold TSt.kept
    rw [h.l, h.sure, List.length_append]
    congr 1; omega
  refine ⟨h.ok.crash k, ?_, ?_, h.room, rfl, ⟨by show (-1 : Int) ≤ -1; omega, by show (-1 : Int) ≤ _; omega⟩, fun _ => ⟨rfl, fun hx => by cases hx⟩⟩
  · show s.l.take (s.sure + s.kept k) = (m.sure ++ m.tail.take (min k.toNat m.tail.length)) ++ []
    rw [hkept, h.l, h.sure, List.append_nil, List.take_append]
    rw [List.take_of_length_le (by omega)]
    congr 2; omega
  · show s.sure + s.kept k = (m.sure ++ m.tail.take (min k.toNat m.tail.length)).length
    rw [hkept, h.sure, List.length_append, List.length_take]
    omega
theorem Rel.setRoom (h : Rel s m) (n : Int) : Rel (s.setRoom n) (m.setRoom n) := by
  have hk := h.ok.setRoom n
  unfold TSt.setRoom at hk ⊢
  unfold MSt.setRoom
  by_cases c : n < 0 ∨ 65536 < n
  · rw [if_pos c, if_pos c]; exact h
  · rw [if_neg c, if_neg c]
    rw [if_neg c] at hk
    exact ⟨hk, h.l, h.sure, rfl, h.off, h.left, h.pw⟩
theorem Rel.new (n : Int) (h0 : 0 ≤ n) (h1 : n ≤ 65536) : Rel (TSt.zero.setRoom n) (MSt.new n) := by
  have hk := TSt.zero_ok.setRoom n
  have e : TSt.zero.setRoom n = { TSt.zero with room := n } := by unfold TSt.setRoom; rw [if_neg (by omega)]
  rw [e] at hk ⊢
  exact ⟨hk, rfl, rfl, rfl, rfl, ⟨by show (-1 : Int) ≤ -1; omega, by show (-1 : Int) ≤ _; omega⟩, fun _ => ⟨rfl, fun hx => by cases hx⟩⟩
end
end Go.Proofs.YtoiknidlincdkaaDoor

namespace Go.Proofs.YtoiknidlincdkaaDoor
open Go.RowKit

def TSt.P (l : List UInt8) (sure : Nat) (room : Int) : TSt := ⟨false, false, 0, l, sure, room⟩
theorem p_step (l : List UInt8) (s : Nat) (r : Int) : (TSt.P l s r).step = TSt.P l s r := rfl
theorem p_stepE (l : List UInt8) (s : Nat) (r : Int) : (TSt.P l s r).stepE = 0 := rfl
theorem p_zero (r : Int) (h0 : 0 ≤ r) (h1 : r ≤ 65536) : TSt.zero.setRoom r = TSt.P [] 0 r := by
  unfold TSt.setRoom; rw [if_neg (by omega)]; rfl
theorem p_append (l : List UInt8) (s : Nat) (r : Int) (d : List UInt8) (h : (l.length : Int) + d.length ≤ r) : (TSt.P l s r).append d = TSt.P (l ++ d) s r ∧ (TSt.P l s r).appendE d = 0 := by
  have hf : (TSt.P l s r).full d = false := by
    show decide (r - (l.length : Int) < (d.length : Int)) = false
    rw [decide_eq_false_iff_not]; omega
  unfold TSt.append TSt.appendE
  rw [hf, p_step]
  exact ⟨rfl, rfl⟩
theorem p_sync (l : List UInt8) (s : Nat) (r : Int) : (TSt.P l s r).sync = TSt.P l l.length r := rfl
theorem p_swap (l : List UInt8) (s : Nat) (r : Int) (d : List UInt8) (h : (d.length : Int) ≤ r) : (TSt.P l s r).swap d = TSt.P d d.length r ∧ (TSt.P l s r).swapE d = 0 := by
  have hn : ¬ (TSt.P l s r).room < (d.length : Int) := by show ¬ r < _; omega
  unfold TSt.swap TSt.swapE
  rw [if_neg hn, if_neg hn]
  exact ⟨rfl, rfl⟩
theorem p_cut (l : List UInt8) (s : Nat) (r : Int) (n : Nat) (h : n ≤ l.length) : (TSt.P l s r).cut n = TSt.P (l.take n) n r ∧ (TSt.P l s r).cutE n = 0 := by
  have hn : ¬ ((n : Int) < 0 ∨ ((TSt.P l s r).l.length : Int) < (n : Int)) := by show ¬ (_ ∨ (l.length : Int) < _); omega
  unfold TSt.cut TSt.cutE
  rw [if_neg hn, if_neg hn]
  refine ⟨?_, rfl⟩
  show TSt.P (l.take n) (l.take n).length r = _
  rw [List.length_take, Nat.min_eq_left h]
theorem p_crash (l : List UInt8) (s : Nat) (r : Int) (k : Int) : (TSt.P l s r).crash k = TSt.P (l.take (s + min k.toNat (l.length - s))) (s + min k.toNat (l.length - s)) r := rfl
theorem take_app (a b : List UInt8) (k : Nat) : (a ++ b).take (a.length + k) = a ++ b.take k := by
  rw [List.take_append, List.take_of_length_le (by omega)]; congr 2; omega
end Go.Proofs.YtoiknidlincdkaaDoor

namespace Go.Proofs.YtoiknidlincdkaaDoor
open Go.RowKit

theorem errV_nil (E : Nat → Addr) : errV E 0 = .nilIface := rfl
/-- block a is the tape s, whose bytes are the slice v -/
def TB (w : World) (a : Nat) (v : Value) (s : TSt) : Prop := Blk w a 57 (s.cells v)
structure TCells (w : World) (a : Nat) (v : Value) (s : TSt) : Prop where
  c0 : w.cell? ⟨a, 0, none⟩ = some (.bool s.off)
  c1 : w.cell? ⟨a, 1, none⟩ = some (.bool s.armed)
  c2 : w.cell? ⟨a, 2, none⟩ = some (.int .i64 s.left)
  c3 : w.cell? ⟨a, 3, none⟩ = some v
  c4 : w.cell? ⟨a, 4, none⟩ = some (.int .i64 (s.sure : Int))
  c5 : w.cell? ⟨a, 5, none⟩ = some (.int .i64 s.room)
theorem TB.cells {w : World} {a : Nat} {v : Value} {s : TSt} (h : TB w a v s) : TCells w a v s :=
  ⟨(h.cell 0).trans rfl, (h.cell 1).trans rfl, (h.cell 2).trans rfl, (h.cell 3).trans rfl, (h.cell 4).trans rfl, (h.cell 5).trans rfl⟩
def Stepped (w : World) (E : Nat → Addr) (a : Nat) (v : Value) (s : TSt) (e : Ending) (w' : World) : Prop :=
  e = .returned (errV E s.stepE) ∧ TB w' a v s.step ∧ Only a w w'
set_option maxRecDepth 20000 in
set_option maxHeartbeats 1000000 in
theorem step_any (w : World) (E : Nat → Addr) (a : Nat) (v : Value) (s : TSt) (hs : s.Ok) (he : ErrsOn [6] w E) (hb : TB w a v s) :
    Calls Tryd.prog 37 #[.pointer (some ⟨a, 0, none⟩)] w (Stepped w E a v s) := by
  have e6 := he.cell 6 rfl
  have hne : errVar 6 ≠ a := by
    rintro rfl
    have := (hb.cell 0).symm.trans e6
    cases this
  simp only [errVar, List.getD_cons_zero, List.getD_cons_succ, errAt] at e6 hne
  have HB := Lib.hid hb
  have HS := Lib.hid hs
  obtain ⟨off, armed, left, l, sure, room⟩ := s
  obtain ⟨c0, c1, c2, c3, c4, c5⟩ := hb.cells
  simp only at c0 c1 c2 c3 c4 c5
  have f0 := hb.frozen 0
  have f2 := hb.frozen 2
  have hl := hs.left1
  simp only at hl
  clear hs hb he c3 c4 c5
  cases armed
  · have HP := Lib.hid (show TSt.step ⟨off, false, left, l, sure, room⟩ = ⟨off, false, left, l, sure, room⟩ from rfl)
    cases off
    all_goals
      go_enter Tryd.func37, Tryd.ntmps37
      go_wp2_with fail
      go_ret
      exact ⟨by unfold TSt.stepE; rw [HP.out]; rfl, by rw [HP.out]; exact HB.out, Only.refl _ _⟩
  · cases off
    · have h0 := HS.out.left2 rfl rfl
      simp only at h0
      by_cases hz : left = 0
      · subst hz
        have dz : ((0 : Int) == 0) = true := rfl
        go_enter Tryd.func37, Tryd.ntmps37
        go_wp2_with fail
        go_ret
        refine ⟨rfl, ?_, ((Only.refl _ _).set_ 0 _).set_ 2 _⟩
        exact (HB.out.set_ 0 (.bool true)).set_ 2 _
      · have dz : (left == 0) = false := by simpa using hz
        have HP := Lib.hid (show TSt.step ⟨false, true, left, l, sure, room⟩ = ⟨false, true, left - 1, l, sure, room⟩ by
          unfold TSt.step; simp [dz])
        go_enter Tryd.func37, Tryd.ntmps37
        go_wp2_with fail
        go_ret
        refine ⟨by unfold TSt.stepE; rw [HP.out]; rfl, ?_, ((Only.refl _ _).set_ 0 _).set_ 2 _⟩
        rw [HP.out]
        exact (HB.out.set_ 0 (.bool false)).set_ 2 (.int .i64 (left - 1))
    · have HP := Lib.hid (show TSt.step ⟨true, true, left, l, sure, room⟩ = ⟨true, true, left, l, sure, room⟩ from rfl)
      go_enter Tryd.func37, Tryd.ntmps37
      go_wp2_with fail
      go_ret
      exact ⟨by unfold TSt.stepE; rw [HP.out]; rfl, by rw [HP.out]; exact HB.out, Only.refl _ _⟩
end Go.Proofs.YtoiknidlincdkaaDoor

namespace Go.Proofs.YtoiknidlincdkaaDoor
open Go.RowKit

/-- what comes behind o: o itself, or a block that was not there -/
def Nx (w : World) (o o' : Option Nat) : Prop := o' = o ∨ ∀ g, o' = some g → w.heap.size ≤ g
theorem Nx.trans {w w' : World} {a b c : Option Nat} (hs : w.heap.size ≤ w'.heap.size) (h : Nx w a b) (k : Nx w' b c) : Nx w a c := by
  rcases k with rfl | k
  · exact h
  · exact .inr fun g hg => Nat.le_trans hs (k g hg)
/-- block a is the tape s, its bytes lie in the block o -/
def Tp (w : World) (a : Nat) (o : Option Nat) (s : TSt) : Prop := ∃ v, v.ownBlock = o ∧ TB w a v s ∧ w.ownsRow 0 5 1 v s.l.length (bvs s.l) ∧ s.Ok
/-- the call gives r, the tape is s' -/
def TapeR (w : World) (a : Nat) (o : Option Nat) (s' : TSt) (r : Value) (e : Ending) (w' : World) : Prop := e = .returned r ∧ (∃ o', Nx w o o' ∧ Tp w' a o' s') ∧ But (a :: o.toList) w w'
theorem but_refl (S : List Nat) (w : World) : But S w w := But.of_below (Below.refl _ _)
theorem but_drewN (S : List Nat) (w : World) (n : Nat) : But S w (w.drewN n) := But.of_below (below_drewN _ _)
theorem but_only {a : Nat} {S : List Nat} {w w' : World} (k : Only a w w') : But (a :: S) w w' :=
  ⟨k.os, k.tape, k.output, Nat.le_of_eq k.size.symm, fun j _ hn => k.block j (by rintro rfl; simp at hn)⟩
theorem but_grown {a : Nat} {o : Option Nat} {v : Value} {w w' : World} (hv : v.ownBlock = o) (k : w.grownBy w' v.ownBlock) : But (a :: o.toList) w w' :=
  ⟨k.os, k.tape, k.output, k.size, fun j hj hn => k.block j hj (by
    rw [hv]
    rintro rfl
    simp at hn)⟩
theorem But.owns2 {S : List Nat} {w w' : World} {base size n : Nat} {e : TypeId} {v : Value} {xs : List Value} (h : But S w w') (hS : ∀ g, v.ownBlock = some g → S.contains g = false) (ho : w.ownsRow base e size v n xs) : w'.ownsRow base e size v n xs := by
  refine ⟨ho.1, ?_⟩
  rcases ho.2 with h2 | ⟨g, cap, cur, rfl, hB, hh, r⟩
  · exact .inl h2
  · exact .inr ⟨g, cap, cur, rfl, hB, (h.block g (Array.getElem?_eq_some_iff.1 hh).1 (hS g rfl)).trans hh, r⟩
/-- append, and where the new row lies -/
theorem run_appAt {P : Program} {w : World} (base : Nat) (t ty e : TypeId) (i : TypeInfo) (z : Value) (size bytes : Nat) (ht : P.underlying t = some (.slice e)) (hi : P.info? e = some i) (hz : i.zero = some z)
    (hsize : i.size = size) (hby : i.bytes = bytes) (hzs : z.cells.size = size) (hsz : 0 < size)
    (v : Value) (n : Nat) (xs : List Value) (hown : w.ownsRow base e size v n xs)
    (p : Option Addr) (m c : Nat) (news : List Value) (hl : news.length = m * size) (hr : Rd w p news) (h1 : ∀ u ∈ news, u.oneCell' = true)
    (h63 : n + m ≤ maxLen) (hbytes : (n + m) * bytes ≤ 140737488355328) (hbase : base ≤ w.heap.size) :
    ∃ v' w', (Builtin.append_ #[t, t] ty #[v, .slice p m c]).run P w = .ok v' w' ∧ w'.ownsRow base e size v' (n + m) (xs ++ news) ∧ w.grownBy w' v.ownBlock ∧ (v'.ownBlock = v.ownBlock ∨ v'.ownBlock = some w.heap.size) := by
  cases p with
  | none =>
    have hn : news = [] := by
      rcases hr with h | ⟨b, off, hp, _⟩
      · exact h
      · cases hp
    subst hn
    have hm : m = 0 := by
      simp only [List.length_nil] at hl
      rcases Nat.mul_eq_zero.1 hl.symm with h | h
      · exact h
      · omega
    subst hm
    refine ⟨v, w, ?_, by simpa using hown, ⟨rfl, rfl, rfl, Nat.le_refl _, fun _ _ _ => rfl⟩, .inl rfl⟩
    rcases hown.2 with ⟨rfl, rfl⟩ | ⟨g, cap, cur, rfl, _, _, hnc, _⟩
    · simp [Builtin.append_, run_underlying ht, sizeOf, typeInfo, hi, Builtin.lenOf, Builtin.firstCells]
    · simp [Builtin.append_, run_underlying ht, sizeOf, typeInfo, hi, Builtin.lenOf, Builtin.firstCells, hnc, storeCells]
  | some a =>
    have hnews : ∀ j u, news[j]? = some u → w.cell? (a.add j) = some u := by
      intro j u hu
      rcases hr with h | ⟨b, off, hp, hc⟩
      · subst h; simp at hu
      · cases hp
        rw [cell_add]
        exact hc j u hu
    obtain ⟨v', w', h2, h3, h4, _, h5⟩ := run_append_own_at (P := P) w base t ty e i z size bytes ht hi hz hsize hby hzs hsz v n xs hown a m c news hl hnews h1 h63 hbytes hbase
    exact ⟨v', w', h2, h3, h4, h5⟩
theorem wpList_appAt {P : Program} {w : World} {ops : Array Oper} {rest : List Oper} {o : Oper} {a : Act} {Q : Exit → Act → World → Prop} (s x : Operand) (t : TypeId)
    (ho : o.op = .call { callee := .builtin .append, args := #[s, x], argTypes := #[t, t] }) (hw : Region.wanted o (yielded ops a.tmps) = true)
    (base : Nat) (e : TypeId) (i : TypeInfo) (z : Value) (size bytes : Nat) (ht : P.underlying t = some (.slice e)) (hi : P.info? e = some i) (hz : i.zero = some z)
    (hsize : i.size = size) (hby : i.bytes = bytes) (hzs : z.cells.size = size) (hsz : 0 < size)
    (v : Value) (n : Nat) (xs : List Value) (hs : a.eval s = v) (hown : w.ownsRow base e size v n xs)
    (p : Option Addr) (m c : Nat) (news : List Value) (hx : a.eval x = .slice p m c) (hl : news.length = m * size) (hr : Rd w p news) (h1 : ∀ u ∈ news, u.oneCell' = true)
    (h63 : n + m ≤ maxLen) (hbytes : (n + m) * bytes ≤ 140737488355328) (hbase : base ≤ w.heap.size)
    (h : ∀ v' w', w'.ownsRow base e size v' (n + m) (xs ++ news) → w.grownBy w' v.ownBlock → (v'.ownBlock = v.ownBlock ∨ v'.ownBlock = some w.heap.size) → wpList P ops Q rest (a.put o.dst v') w') : wpList P ops Q (o :: rest) a w := by
  obtain ⟨v', w', hrun, h2, h3, h4⟩ := run_appAt (P := P) base t o.type e i z size bytes ht hi hz hsize hby hzs hsz v n xs hown p m c news hl hr h1 h63 hbytes hbase
  refine wpList_run hw (v := v') (w' := w') ?_ (h v' w' h2 h3 h4)
  unfold execOp
  simp only [ho, resolve, invoke, builtin, Sem.run_bind, Sem.run_pure, Result.andThen_ok, List.map_toArray, List.map_cons, List.map_nil, hs, hx, hrun]
theorem tb_ne : 5 ≠ 57 := by decide
theorem tp_only {w w' : World} {a : Nat} {o : Option Nat} {s s' : TSt} {v : Value} (hB : v.ownBlock = o) (hb : TB w a v s) (ho : w.ownsRow 0 5 1 v s.l.length (bvs s.l)) (k : Only a w w') (hb' : TB w' a v s') (hl : s'.l = s.l) (hs : s'.Ok) : Tp w' a o s' :=
  ⟨v, hB, hb', by rw [hl]; exact k.owns hb ho tb_ne, hs⟩

/-- a method that only reads -/
def TapeQ (w : World) (r : Value) (e : Ending) (w' : World) : Prop := e = .returned r ∧ Below w.heap.size w w'
theorem bytes_of_tape (w : World) (a : Nat) (o : Option Nat) (s : TSt) (ht : Tp w a o s) : Calls Tryd.prog 20 #[.pointer (some ⟨a, 0, none⟩)] w (Cloned w s.l) := by
  obtain ⟨v, hB, hb, ho, hs⟩ := ht
  have HBK := Lib.hid hB
  clear hB
  obtain ⟨c0, c1, c2, c3, c4, c5⟩ := hb.cells
  have hlen := hs.len
  have hy := owns_byt ho
  obtain ⟨p, c, rfl, h1, h2, h3⟩ := owns_rd ho
  have HY := Lib.hid hy
  clear hb ho hs hy h3
  go_enter Tryd.func20, Tryd.ntmps20
  go_wp2_with fail
  refine (clone_any _ s.l w (by omega) HY.out).mono ?_
  rintro e w1 ⟨v1, rfl, ho1, hb1⟩
  go_wp2_with fail
  go_ret
  exact ⟨_, rfl, ho1, hb1⟩
theorem setRoom_any (w : World) (E : Nat → Addr) (a : Nat) (o : Option Nat) (s : TSt) (n : Int) (he : ErrsOn [0] w E) (ht : Tp w a o s) :
    Calls Tryd.prog 36 #[.pointer (some ⟨a, 0, none⟩), .int .i64 n] w (fun e w' => e = .returned (errV E (TSt.setRoomE n)) ∧ Tp w' a o (s.setRoom n) ∧ But (a :: o.toList) w w') := by
  have HT := Lib.hid ht
  obtain ⟨v, hB, hb, ho, hs⟩ := ht
  have HBK := Lib.hid hB
  clear hB
  have HB := Lib.hid hb
  have HS := Lib.hid (hs.setRoom n)
  have HO := Lib.hid ho
  have e0 := he.cell 0 rfl
  simp only [errVar, List.getD_cons_zero, List.getD_cons_succ, errAt] at e0
  obtain ⟨c0, c1, c2, c3, c4, c5⟩ := hb.cells
  have f5 := hb.frozen 5
  clear hb ho hs he
  by_cases hn : n < 0 ∨ 65536 < n
  · have hr := Lib.hid (show s.setRoom n = s ∧ TSt.setRoomE n = 1 by unfold TSt.setRoom TSt.setRoomE; rw [if_pos hn, if_pos hn]; exact ⟨rfl, rfl⟩)
    have d : (decide (n < 0) = true) ∨ (decide (n < 0) = false ∧ decide (65536 < n) = true) := by
      simp only [decide_eq_true_eq, decide_eq_false_iff_not]; omega
    rcases d with d1 | ⟨d1, d2⟩
    all_goals
      clear hn
      go_enter Tryd.func36, Tryd.ntmps36
      go_wp2_with fail
      first | go_quiet (fail) | skip
      go_wp2_with fail
      go_ret
      exact ⟨by rw [hr.out.2]; rfl, by rw [hr.out.1]; exact HT.out, by first | exact but_refl _ _ | exact but_drewN _ _ _⟩
  · have hr := Lib.hid (show s.setRoom n = { s with room := n } ∧ TSt.setRoomE n = 0 by unfold TSt.setRoom TSt.setRoomE; rw [if_neg hn, if_neg hn]; exact ⟨rfl, rfl⟩)
    have d1 : decide (n < 0) = false := by simp; omega
    have d2 : decide (65536 < n) = false := by simp; omega
    clear hn
    go_enter Tryd.func36, Tryd.ntmps36
    go_wp2_with fail
    go_ret
    have k : Only a w (w.setCell ⟨a, 5, none⟩ (.int .i64 n)) := (Only.refl _ _).set_ 5 _
    refine ⟨by rw [hr.out.2]; rfl, ?_, but_only k⟩
    refine tp_only HBK.out HB.out HO.out k ?_ (by rw [hr.out.1]) HS.out
    rw [hr.out.1]
    exact HB.out.set_ 5 _

theorem stepE_on {s : TSt} (h : s.step.off = true) : s.stepE = 7 := by unfold TSt.stepE; rw [h]; rfl
theorem stepE_off {s : TSt} (h : s.step.off = false) : s.stepE = 0 := by unfold TSt.stepE; rw [h]; rfl
theorem st_with_l (s : TSt) (v : Value) (d : List UInt8) (v' : Value) : ((s.step).cells v).setIfInBounds 3 v' = ({ s.step with l := d } : TSt).cells v' := rfl
theorem st_with_sure (s : TSt) (v : Value) (n : Nat) : ((s.step).cells v).setIfInBounds 4 (.int .i64 (n : Int)) = ({ s.step with sure := n } : TSt).cells v := rfl
set_option maxRecDepth 20000 in
set_option maxHeartbeats 1000000 in
theorem append_any (w : World) (E : Nat → Addr) (a : Nat) (o : Option Nat) (s : TSt) (vb : Value) (d : List UInt8) (he : ErrsOn [5, 6] w E) (ht : Tp w a o s) (hv : Byt w vb d) (hvo : ∀ w', Only a w w' → Byt w' vb d) (hd : d.length ≤ 1099511627776) :
    Calls Tryd.prog 13 #[.pointer (some ⟨a, 0, none⟩), vb] w (TapeR w a o (s.append d) (errV E (s.appendE d))) := by
  have HT := Lib.hid ht
  obtain ⟨v, hB, hb, ho, hs⟩ := ht
  have HBK := Lib.hid hB
  clear hB
  have HB := Lib.hid hb
  have HS := Lib.hid hs
  have HO := Lib.hid ho
  have HV := Lib.hid hv
  have HVO := Lib.hid hvo
  have e5 := he.cell 5 rfl
  have he6 := errs_sub he (T := [6]) rfl
  simp only [errVar, List.getD_cons_zero, List.getD_cons_succ, errAt] at e5
  obtain ⟨c0, c1, c2, c3, c4, c5⟩ := hb.cells
  obtain ⟨p, cap, rfl, h1, h2, h3⟩ := hv
  obtain ⟨i0, hi, hz0, hz1, hz2⟩ := info_parts byt8Info
  obtain ⟨q, c, rfl, g1, g2, g3⟩ := owns_rd ho
  unfold maxLen at h2 g2
  have hroom := hs.room
  have hlen := hs.len
  clear hb ho he hvo h3 g3 hs
  by_cases hf : s.room - (s.l.length : Int) < (d.length : Int)
  · have hr := Lib.hid (show s.append d = s ∧ s.appendE d = 6 by
      unfold TSt.append TSt.appendE TSt.full; rw [if_pos (by simpa using hf), if_pos (by simpa using hf)]; exact ⟨rfl, rfl⟩)
    have d1 := decide_eq_true hf
    clear hf
    go_enter Tryd.func13, Tryd.ntmps13
    go_wp2_with fail
    go_quiet (fail)
    go_wp2_with fail
    go_ret
    obtain ⟨v0, a1, a2, a3, a4⟩ := HT.out
    exact ⟨by rw [hr.out.2]; rfl, ⟨o, .inl rfl, by rw [hr.out.1]; exact ⟨v0, a1, a2, a3, a4⟩⟩, but_drewN _ _ _⟩
  · have hfull : s.full d = false := by unfold TSt.full; simpa using hf
    have d1 := decide_eq_false hf
    clear hf
    go_enter Tryd.func13, Tryd.ntmps13
    go_wp2_with fail
    go_quiet (fail)
    go_wp2_with fail
    refine (step_any (w.drewN nq) E a _ s HS.out (he6.below (below_drewN _ _)) HB.out).mono ?_
    rintro e w1 ⟨rfl, hb1, ho1⟩
    have k1 : Only a w w1 := (Only.refl a w).drewN nq |>.trans ho1
    have HB1 := Lib.hid hb1
    have K1 := Lib.hid (show But (a :: o.toList) w w1 from but_only k1)
    have KSZ := Lib.hid (show w1.heap.size = w.heap.size from k1.size)
    have HO1 := Lib.hid (k1.owns HB.out HO.out tb_ne)
    have HV1 := HVO.out w1 k1
    obtain ⟨p', cap', hp', _, _, hR⟩ := HV1
    cases hp'
    have HR := Lib.hid hR
    clear c0 c1 c2 c3 c4 c5 ho1 k1 hR e5 he6
    cases hoff : s.step.off
    · have hr := Lib.hid (show s.append d = { s.step with l := s.l ++ d } ∧ s.appendE d = 0 by
        unfold TSt.append TSt.appendE; rw [hfull, hoff, stepE_off hoff]; exact ⟨rfl, rfl⟩)
      rw [stepE_off hoff, errV_nil]
      obtain ⟨c0, c1, c2, c3, c4, c5⟩ := hb1.cells
      clear hb1 hoff hfull c0 c1 c2 c4 c5
      go_wp2_with (at_builtin; refine wpList_appAt (.tmp 31) (.tmp 32) 22 rfl rfl 0 5 i0 (.int .u8 0) 1 1 Tryd.underlying22 hi hz0 hz1 hz2 rfl (by decide) _ _ _ rfl HO1.out _ _ _ (bvs d) rfl ?b0 HR.out bvs_one ?b2 ?b3 (Nat.zero_le _) ?_)
      case b0 => rw [bvs_len]; omega
      case b2 => unfold maxLen; omega
      case b3 => omega
      intro v2 w2 ho2 hg2 hat2
      have HAT := Lib.hid (show Nx w o v2.ownBlock from by
        rcases hat2 with h | h
        · exact .inl (h.trans HBK.out)
        · exact .inr fun g hg => by rw [h] at hg; cases hg; exact Nat.le_of_eq KSZ.out.symm)
      clear hat2
      have hb2 := grown_blk hg2 HO1.out HB1.out tb_ne
      have K2 := Lib.hid (K1.out.trans (but_grown HBK.out hg2))
      have HB2 := Lib.hid hb2
      have c3' := (hb2.cell 3).trans rfl
      have f3 := hb2.frozen 3
      obtain ⟨p2, cc2, rfl, _, _, _⟩ := owns_rd ho2
      have HO2 := Lib.hid ho2
      clear hb2 hg2 ho2 c3
      go_wp2_with fail
      go_ret
      have k3 : Only a w2 (w2.setCell ⟨a, 3, none⟩ (.slice p2 (s.l.length + d.length) cc2)) := (Only.refl _ _).set_ 3 _
      refine ⟨by rw [hr.out.2]; rfl, ⟨_, HAT.out, .slice p2 (s.l.length + d.length) cc2, rfl, ?_, ?_, HS.out.append d⟩, K2.out.trans (but_only k3)⟩
      · rw [hr.out.1]; exact HB2.out.set_ 3 _
      · rw [hr.out.1]
        show World.ownsRow _ 0 _ 1 _ (s.l ++ d).length (bvs (s.l ++ d))
        rw [bvs_app, List.length_append]
        exact k3.owns HB2.out HO2.out tb_ne
    · have hr := Lib.hid (show s.append d = s.step ∧ s.appendE d = 7 by
        unfold TSt.append TSt.appendE; rw [hfull, hoff, stepE_on hoff]; exact ⟨rfl, rfl⟩)
      rw [stepE_on hoff, errV_suc]
      clear hb1 hoff hfull
      go_wp2_with fail
      go_ret
      exact ⟨by rw [hr.out.2]; rfl, ⟨o, .inl rfl, _, HBK.out, by rw [hr.out.1]; exact HB1.out, by rw [hr.out.1, TSt.step_l]; exact HO1.out, HS.out.append d⟩, K1.out⟩

/-! ### Sync -/
set_option maxRecDepth 20000 in
set_option maxHeartbeats 1000000 in
theorem sync_any (w : World) (E : Nat → Addr) (a : Nat) (o : Option Nat) (s : TSt) (he : ErrsOn [6] w E) (ht : Tp w a o s) :
    Calls Tryd.prog 14 #[.pointer (some ⟨a, 0, none⟩)] w (TapeR w a o s.sync (errV E s.stepE)) := by
  obtain ⟨v, hB, hb, ho, hs⟩ := ht
  have HBK := Lib.hid hB
  clear hB
  have HB := Lib.hid hb
  have HS := Lib.hid hs
  have HO := Lib.hid ho
  obtain ⟨q, c, rfl, _, _, _⟩ := owns_rd ho
  clear ho hs
  go_enter Tryd.func14, Tryd.ntmps14
  have hne := hb.cell 0
  clear hb hne
  go_wp2_with fail
  refine (step_any w E a _ s HS.out he HB.out).mono ?_
  rintro e w1 ⟨rfl, hb1, ho1⟩
  have HB1 := Lib.hid hb1
  have K1 := Lib.hid (show But (a :: o.toList) w w1 from but_only ho1)
  have KSZ := Lib.hid (show w1.heap.size = w.heap.size from ho1.size)
  have HO1 := Lib.hid (ho1.owns HB.out HO.out tb_ne)
  clear ho1 he
  cases hoff : s.step.off
  · have hr := Lib.hid (show s.sync = { s.step with sure := s.l.length } by unfold TSt.sync; rw [hoff]; rfl)
    have HE := Lib.hid (stepE_off hoff)
    rw [stepE_off hoff, errV_nil]
    obtain ⟨c0, c1, c2, c3, c4, c5⟩ := hb1.cells
    have f4 := hb1.frozen 4
    clear hb1 hoff c0 c1 c2 c5
    go_wp2_with fail
    go_ret
    have k3 : Only a w1 (w1.setCell ⟨a, 4, none⟩ (.int .i64 (s.l.length : Int))) := (Only.refl _ _).set_ 4 _
    refine ⟨by rw [HE.out]; rfl, ⟨o, .inl rfl, .slice q s.l.length c, HBK.out, ?_, ?_, HS.out.sync⟩, K1.out.trans (but_only k3)⟩
    · rw [hr.out]; exact HB1.out.set_ 4 _
    · rw [hr.out]
      show World.ownsRow _ 0 _ 1 _ s.step.l.length (bvs s.step.l)
      rw [s.step_l]
      exact k3.owns HB1.out HO1.out tb_ne
  · have hr := Lib.hid (show s.sync = s.step by unfold TSt.sync; rw [hoff]; rfl)
    have HE := Lib.hid (stepE_on hoff)
    rw [stepE_on hoff, errV_suc]
    clear hb1 hoff
    go_wp2_with fail
    go_ret
    exact ⟨by rw [HE.out]; rfl, ⟨o, .inl rfl, _, HBK.out, by rw [hr.out]; exact HB1.out, by rw [hr.out, TSt.step_l]; exact HO1.out, HS.out.sync⟩, K1.out⟩

/-! ### set, Swap, Cut -/
set_option maxRecDepth 20000 in
set_option maxHeartbeats 1000000 in
theorem set_any (w : World) (E : Nat → Addr) (a : Nat) (o : Option Nat) (s : TSt) (vb : Value) (d : List UInt8) (he : ErrsOn [6] w E) (ht : Tp w a o s) (hv : Byt w vb d) (hvo : ∀ w', Only a w w' → Byt w' vb d) (hd : d.length ≤ 65536) :
    Calls Tryd.prog 58 #[.pointer (some ⟨a, 0, none⟩), vb] w (TapeR w a o (s.set d) (errV E s.stepE)) := by
  obtain ⟨v, hB, hb, ho, hs⟩ := ht
  have HBK := Lib.hid hB
  clear hB
  have HB := Lib.hid hb
  have HS := Lib.hid hs
  have HO := Lib.hid ho
  obtain ⟨q, c, rfl, _, _, _⟩ := owns_rd ho
  obtain ⟨p, cap, rfl, _, _, _⟩ := hv
  have HVO := Lib.hid hvo
  clear ho hs hvo hb
  go_enter Tryd.func58, Tryd.ntmps58
  go_wp2_with fail
  refine (step_any w E a _ s HS.out he HB.out).mono ?_
  rintro e w1 ⟨rfl, hb1, ho1⟩
  have HB1 := Lib.hid hb1
  have K1 := Lib.hid (show But (a :: o.toList) w w1 from but_only ho1)
  have KSZ := Lib.hid (show w1.heap.size = w.heap.size from ho1.size)
  have HO1 := Lib.hid (ho1.owns HB.out HO.out tb_ne)
  have HV1 := HVO.out w1 ho1
  clear ho1 he
  cases hoff : s.step.off
  · have hr := Lib.hid (show s.set d = { s.step with l := d, sure := d.length } by unfold TSt.set; rw [hoff]; rfl)
    have HE := Lib.hid (stepE_off hoff)
    rw [stepE_off hoff, errV_nil]
    clear hb1 hoff
    go_wp2_with fail
    refine (clone_any _ d w1 (by omega) HV1).mono ?_
    rintro e w2 ⟨v2, rfl, ho2, hb2⟩
    have HNX := Lib.hid (show Nx w o v2.ownBlock from .inr fun g hg => by have := (ho2.lt g hg).1; have := KSZ.out; omega)
    have HO2 := Lib.hid (owns_lower ho2 (Nat.zero_le _))
    have HB2 := Lib.hid (HB1.out.below hb2 HB1.out.lt)
    have K2 := Lib.hid (K1.out.trans (But.of_below hb2))
    obtain ⟨p2, cc2, rfl, _, _, _⟩ := owns_rd ho2
    have c3 := (HB2.out.cell 3).trans rfl
    have c4 := (HB2.out.cell 4).trans rfl
    have f3 := HB2.out.frozen 3
    have f4 := HB2.out.frozen 4
    clear ho2 hb2 HV1
    go_wp2_with fail
    go_ret
    have k3 : Only a w2 ((w2.setCell ⟨a, 3, none⟩ (.slice p2 d.length cc2)).setCell ⟨a, 4, none⟩ (.int .i64 (d.length : Int))) := ((Only.refl _ _).set_ 3 _).set_ 4 _
    refine ⟨by rw [HE.out]; rfl, ⟨_, HNX.out, .slice p2 d.length cc2, rfl, ?_, ?_, HS.out.set hd⟩, K2.out.trans (but_only k3)⟩
    · rw [hr.out]; exact (HB2.out.set_ 3 _).set_ 4 _
    · rw [hr.out]
      exact k3.owns HB2.out HO2.out tb_ne
  · have hr := Lib.hid (show s.set d = s.step by unfold TSt.set; rw [hoff]; rfl)
    have HE := Lib.hid (stepE_on hoff)
    rw [stepE_on hoff, errV_suc]
    clear hb1 hoff
    go_wp2_with fail
    go_ret
    exact ⟨by rw [HE.out]; rfl, ⟨o, .inl rfl, _, HBK.out, by rw [hr.out]; exact HB1.out, by rw [hr.out, TSt.step_l]; exact HO1.out, HS.out.set hd⟩, K1.out⟩
set_option maxRecDepth 20000 in
set_option maxHeartbeats 1000000 in
theorem swap_any (w : World) (E : Nat → Addr) (a : Nat) (o : Option Nat) (s : TSt) (vb : Value) (d : List UInt8) (he : ErrsOn [5, 6] w E) (ht : Tp w a o s) (hv : Byt w vb d) (hvo : ∀ w', Only a w w' → Byt w' vb d) :
    Calls Tryd.prog 44 #[.pointer (some ⟨a, 0, none⟩), vb] w (TapeR w a o (s.swap d) (errV E (s.swapE d))) := by
  have HT := Lib.hid ht
  obtain ⟨v, hB, hb, ho, hs⟩ := ht
  have HBK := Lib.hid hB
  clear hB
  have e5 := he.cell 5 rfl
  have he6 := Lib.hid (errs_sub he (T := [6]) rfl)
  simp only [errVar, List.getD_cons_zero, List.getD_cons_succ, errAt] at e5
  obtain ⟨c0, c1, c2, c3, c4, c5⟩ := hb.cells
  have HV := Lib.hid hv
  have HVO := Lib.hid hvo
  obtain ⟨p, cap, rfl, _, h2, _⟩ := hv
  have hroom := hs.room
  unfold maxLen at h2
  clear hb ho hs hvo he c0 c1 c2 c3 c4
  by_cases hf : s.room < (d.length : Int)
  · have hr := Lib.hid (show s.swap d = s ∧ s.swapE d = 6 by unfold TSt.swap TSt.swapE; rw [if_pos hf, if_pos hf]; exact ⟨rfl, rfl⟩)
    have d1 := decide_eq_true hf
    clear hf
    go_enter Tryd.func44, Tryd.ntmps44
    go_wp2_with fail
    go_ret
    obtain ⟨v0, a1, a2, a3, a4⟩ := HT.out
    exact ⟨by rw [hr.out.2]; rfl, ⟨o, .inl rfl, by rw [hr.out.1]; exact ⟨v0, a1, a2, a3, a4⟩⟩, but_refl _ _⟩
  · have hr := Lib.hid (show s.swap d = s.set d ∧ s.swapE d = s.stepE by unfold TSt.swap TSt.swapE; rw [if_neg hf, if_neg hf]; exact ⟨rfl, rfl⟩)
    have d1 := decide_eq_false hf
    go_enter Tryd.func44, Tryd.ntmps44
    go_wp2_with fail
    refine (set_any w E a o s _ d he6.out HT.out HV.out HVO.out (by omega)).mono ?_
    rintro e w1 ⟨rfl, ht1, k1⟩
    go_wp2_with fail
    go_ret
    exact ⟨by rw [hr.out.2]; rfl, by rw [hr.out.1]; exact ht1, k1⟩

set_option maxRecDepth 20000 in
set_option maxHeartbeats 1000000 in
theorem cut_any (w : World) (E : Nat → Addr) (a : Nat) (o : Option Nat) (s : TSt) (n : Int) (he : ErrsOn [0, 6] w E) (ht : Tp w a o s) :
    Calls Tryd.prog 39 #[.pointer (some ⟨a, 0, none⟩), .int .i64 n] w (TapeR w a o (s.cut n) (errV E (s.cutE n))) := by
  have HT := Lib.hid ht
  obtain ⟨v, hB, hb, ho, hs⟩ := ht
  have HBK := Lib.hid hB
  clear hB
  have e0 := he.cell 0 rfl
  have he6 := Lib.hid (errs_sub he (T := [6]) rfl)
  simp only [errVar, List.getD_cons_zero, List.getD_cons_succ, errAt] at e0
  obtain ⟨c0, c1, c2, c3, c4, c5⟩ := hb.cells
  have HB := Lib.hid hb
  have HO := Lib.hid ho
  obtain ⟨i0, hi, hz0, hz1, hz2⟩ := info_parts byt8Info
  have hlen := hs.len
  obtain ⟨q, c, rfl, g1, g2, _⟩ := owns_rd ho
  unfold maxLen at g2
  clear hb ho hs he c0 c1 c2 c4 c5
  by_cases hf : n < 0 ∨ (s.l.length : Int) < n
  · have hr := Lib.hid (show s.cut n = s ∧ s.cutE n = 1 by unfold TSt.cut TSt.cutE; rw [if_pos hf, if_pos hf]; exact ⟨rfl, rfl⟩)
    have d : (decide (n < 0) = true) ∨ (decide (n < 0) = false ∧ decide ((s.l.length : Int) < n) = true) := by
      simp only [decide_eq_true_eq, decide_eq_false_iff_not]; omega
    clear hf
    rcases d with d1 | ⟨d1, d2⟩
    all_goals
      go_enter Tryd.func39, Tryd.ntmps39
      go_wp2_with fail
      first | go_quiet (fail) | skip
      go_wp2_with fail
      go_ret
      obtain ⟨v0, a1, a2, a3, a4⟩ := HT.out
      exact ⟨by rw [hr.out.2]; rfl, ⟨o, .inl rfl, by rw [hr.out.1]; exact ⟨v0, a1, a2, a3, a4⟩⟩, by first | exact but_refl _ _ | exact but_drewN _ _ _⟩
  · obtain ⟨m, rfl⟩ : ∃ m : Nat, n = (m : Int) := ⟨n.toNat, by omega⟩
    have hm : m ≤ s.l.length := by omega
    have hr := Lib.hid (show s.cut (m : Int) = s.set (s.l.take m) ∧ s.cutE (m : Int) = s.stepE by
      unfold TSt.cut TSt.cutE; rw [if_neg hf, if_neg hf]; exact ⟨rfl, rfl⟩)
    have d1 : decide ((m : Int) < 0) = false := by simp
    have d2 : decide ((s.l.length : Int) < (m : Int)) = false := by simp; omega
    have d2' : decide (s.l.length < m) = false := by simp; omega
    have hto := fun w => run_slice_to (P := Tryd.prog) Tryd.underlying22 hi q s.l.length c m (by omega) w
    clear hf
    go_enter Tryd.func39, Tryd.ntmps39
    go_wp2_with fail
    first | go_quiet (fail) | skip
    go_wp2_with fail
    have hlt : (s.l.take m).length = m := by rw [List.length_take]; omega
    have hby : ∀ w', Only a w w' → Byt w' (.slice q m c) (s.l.take m) := fun w' k => byt_take (owns_byt (k.owns HB.out HO.out tb_ne)) m hm
    have hby2 : ∀ (x w' : World), x.heap = w.heap → x.os = w.os → x.tape = w.tape → x.output = w.output → Only a x w' → Byt w' (.slice q m c) (s.l.take m) := fun x w' h1 h2 h3 h4 k =>
      hby w' ⟨k.os.trans h2, k.tape.trans h3, k.output.trans h4, by rw [k.size, h1], fun i hi => by rw [k.block i hi, h1]⟩
    first
      | refine (set_any w E a o s _ (s.l.take m) he6.out HT.out (hby w (Only.refl _ _)) hby (by omega)).mono ?_
      | refine (set_any (w.drewN _) E a o s _ (s.l.take m) (he6.out.below (below_drewN _ _)) HT.out (hby w (Only.refl _ _)) (fun w' k => hby2 _ w' rfl rfl rfl rfl k) (by omega)).mono ?_
    rintro e w1 ⟨rfl, ht1, k1⟩
    go_wp2_with fail
    go_ret
    exact ⟨by rw [hr.out.2]; rfl, by rw [hr.out.1]; exact ht1, by first | exact k1 | exact (but_drewN _ _ _).trans k1⟩

/-- the call gives nothing, the tape is s' -/
def TapeN (w : World) (a : Nat) (o : Option Nat) (s' : TSt) (e : Ending) (w' : World) : Prop := e = .returned (.tuple #[]) ∧ Tp w' a o s' ∧ But (a :: o.toList) w w'
set_option maxRecDepth 20000 in
set_option maxHeartbeats 1000000 in
theorem arm_any (w : World) (a : Nat) (o : Option Nat) (s : TSt) (n : Int) (hn : -9223372036854775808 ≤ n ∧ n ≤ 9223372036854775807) (ht : Tp w a o s) :
    Calls Tryd.prog 24 #[.pointer (some ⟨a, 0, none⟩), .int .i64 n] w (TapeN w a o (s.arm n)) := by
  obtain ⟨v, hB, hb, ho, hs⟩ := ht
  have HBK := Lib.hid hB
  clear hB
  have HB := Lib.hid hb
  have HO := Lib.hid ho
  have HS := Lib.hid (hs.arm hn)
  obtain ⟨c0, c1, c2, c3, c4, c5⟩ := hb.cells
  have f1 := hb.frozen 1
  have f2 := hb.frozen 2
  clear hb ho hs hn
  go_enter Tryd.func24, Tryd.ntmps24
  go_wp2_with fail
  go_end0
  have k3 : Only a w ((w.setCell ⟨a, 1, none⟩ (.bool (decide (0 ≤ n)))).setCell ⟨a, 2, none⟩ (.int .i64 n)) := ((Only.refl _ _).set_ 1 _).set_ 2 _
  exact ⟨rfl, ⟨v, HBK.out, (HB.out.set_ 1 (.bool (decide (0 ≤ n)))).set_ 2 (.int .i64 n), k3.owns HB.out HO.out tb_ne, HS.out⟩, but_only k3⟩
set_option maxRecDepth 20000 in
set_option maxHeartbeats 1000000 in
theorem crash_any (w : World) (a : Nat) (o : Option Nat) (s : TSt) (n : Int) (hn : -9223372036854775808 ≤ n ∧ n ≤ 9223372036854775807) (ht : Tp w a o s) :
    Calls Tryd.prog 26 #[.pointer (some ⟨a, 0, none⟩), .int .i64 n] w (TapeN w a o (s.crash n)) := by
  obtain ⟨v, hB, hb, ho, hs⟩ := ht
  have HBK := Lib.hid hB
  clear hB
  have HB := Lib.hid hb
  have HO := Lib.hid ho
  have HS := Lib.hid (hs.crash n)
  have HK := Lib.hid (s.kept_le hs n)
  obtain ⟨c0, c1, c2, c3, c4, c5⟩ := hb.cells
  have f0 := hb.frozen 0
  have f1 := hb.frozen 1
  have f2 := hb.frozen 2
  have f3 := hb.frozen 3
  have f4 := hb.frozen 4
  obtain ⟨i0, hi, hz0, hz1, hz2⟩ := info_parts byt8Info
  have hlen := hs.len
  have hsure := hs.sure
  obtain ⟨q, c, rfl, g1, g2, _⟩ := owns_rd ho
  unfold maxLen at g2
  clear hb ho hs
  go_enter Tryd.func26, Tryd.ntmps26
  go_wp2_with fail
  go_quiet (fail)
  have hk : (if (s.l.length : Int) - (s.sure : Int) < (if n < 0 then 0 else n) then (s.l.length : Int) - (s.sure : Int) else if n < 0 then 0 else n) = (s.kept n : Int) := by
    unfold TSt.kept; repeat' split
    all_goals omega
  rw [hk]
  clear hk
  generalize (if n < 0 then (0 : Int) else n) = mx
  have HC := Lib.hid (show s.crash n = { s with off := false, armed := false, left := 0, l := s.l.take (s.sure + s.kept n), sure := s.sure + s.kept n } from rfl)
  have hkl := HK.out
  obtain ⟨kk, hkk⟩ : ∃ kk, s.kept n = kk := ⟨_, rfl⟩
  rw [hkk] at hkl HC ⊢
  clear hkk
  have hto := fun w => run_slice_to (P := Tryd.prog) Tryd.underlying22 hi q s.l.length c (s.sure + kk) (by omega) w
  have hto' : ∀ w : World, (Instr.slice 22 (.slice q s.l.length c) none (some (.int .i64 ((s.sure : Int) + (kk : Int)))) none).run Tryd.prog w = .ok (.slice q (s.sure + kk) c) w := fun w => by
    have := hto w
    rwa [show ((s.sure + kk : Nat) : Int) = (s.sure : Int) + (kk : Int) by omega] at this
  clear hto
  go_wp2_with fail
  have hb2 : TB ((w.drewN nq).setCell ⟨a, 4, none⟩ (.int .i64 ((s.sure : Int) + (kk : Int)))) a (.slice q s.l.length c) { s with sure := s.sure + kk } :=
    Blk.set_ (w := w.drewN nq) HB.out 4 (.int .i64 ((s.sure : Int) + (kk : Int)))
  have k2 : Only a w ((w.drewN nq).setCell ⟨a, 4, none⟩ (.int .i64 ((s.sure : Int) + (kk : Int)))) := ((Only.refl a w).drewN nq).set_ 4 _
  clear c0 c1 c2 c3 c4 c5 f0 f1 f2 f3 f4
  generalize (w.drewN nq).setCell ⟨a, 4, none⟩ (.int .i64 ((s.sure : Int) + (kk : Int))) = w2 at *
  obtain ⟨c0, c1, c2, c3, c4, c5⟩ := hb2.cells
  simp only [Int.natCast_add] at c4
  have f0 := hb2.frozen 0
  have f1 := hb2.frozen 1
  have f2 := hb2.frozen 2
  have f3 := hb2.frozen 3
  have HB2 := Lib.hid hb2
  have K2 := Lib.hid k2
  clear hb2 k2
  go_still_tail 12, (by kernel_rfl)
  change wpList _ _ _ _ _ w2.drew
  have HB3 := Lib.hid (show TB w2.drew a (.slice q s.l.length c) { s with sure := s.sure + kk } from HB2.out)
  have K3 := Lib.hid (show Only a w w2.drew from K2.out.drew)
  clear c0 c1 c2 c3 c4 c5 f0 f1 f2 f3 HB2 K2 hto'
  generalize w2.drew = w3 at *
  have c0 := (HB3.out.cell 0).trans rfl
  have c1 := (HB3.out.cell 1).trans rfl
  have c2 := (HB3.out.cell 2).trans rfl
  have c3 := (HB3.out.cell 3).trans rfl
  have f0 := HB3.out.frozen 0
  have f1 := HB3.out.frozen 1
  have f2 := HB3.out.frozen 2
  have f3 := HB3.out.frozen 3
  have h3 := Lib.hid (Blk.set_ (w := w3) HB3.out 3 (.slice q (s.sure + kk) c))
  have k3 := Lib.hid (K3.out.set_ 3 (.slice q (s.sure + kk) c))
  go_wp2_with (refine wpList_store (.tmp 40) (.tmp 38) 55 rfl rfl a 0 _ _ #[.bool false, .bool false, .int .i64 0] rfl rfl h3.out (by kernel_rfl) ?s1 ?s2 ?_)
  case s1 => first | exact ⟨rfl, rfl⟩ | simp [Value.oneCell']
  case s2 => simp [TSt.cells]
  intro w4 hb4 k4
  go_wp2_with fail
  go_end0
  have k5 := k3.out.trans k4
  refine ⟨rfl, ⟨.slice q (s.sure + kk) c, (by rw [← HBK.out]; cases q <;> rfl), ?_, ?_, HS.out⟩, but_only k5⟩
  · rw [HC.out]; exact hb4
  · rw [HC.out]
    show World.ownsRow _ 0 _ 1 _ (s.l.take (s.sure + kk)).length (bvs (s.l.take (s.sure + kk)))
    have e : (s.l.take (s.sure + kk)).length = s.sure + kk := by rw [List.length_take]; omega
    rw [e, bvs_take]
    exact k5.owns HB.out (owns_shorter HO.out hkl) tb_ne

theorem Tp.but {S : List Nat} {w w' : World} {a : Nat} {o : Option Nat} {s : TSt} (h : Tp w a o s) (k : But S w w') (ha : S.contains a = false) (ho : ∀ g, o = some g → S.contains g = false) : Tp w' a o s := by
  obtain ⟨v, h1, h2, h3, h4⟩ := h
  exact ⟨v, h1, k.blk h2 ha, k.owns2 (fun g hg => ho g (h1.symm.trans hg)) h3, h4⟩
theorem Tp.below {w w' : World} {a : Nat} {o : Option Nat} {s : TSt} (h : Tp w a o s) (k : Below w.heap.size w w') : Tp w' a o s := by
  obtain ⟨v, h1, h2, h3, h4⟩ := h
  exact ⟨v, h1, h2.below k h2.lt, owns_below h3 k, h4⟩
theorem Tp.ok {w : World} {a : Nat} {o : Option Nat} {s : TSt} (h : Tp w a o s) : s.Ok := h.choose_spec.2.2.2
theorem Tp.lt {w : World} {a : Nat} {o : Option Nat} {s : TSt} (h : Tp w a o s) : a < w.heap.size ∧ ∀ g, o = some g → g < w.heap.size := by
  obtain ⟨v, h1, h2, h3, _⟩ := h
  exact ⟨h2.lt, fun g hg => (h3.lt g (h1.trans hg)).2⟩
theorem Tp.own {w : World} {a : Nat} {o : Option Nat} {s : TSt} (h : Tp w a o s) : ∀ g, o = some g → ∃ cs, Blk w g 5 cs := by
  obtain ⟨v, rfl, h2, h3, _⟩ := h
  intro g hg
  rcases h3.2 with ⟨rfl, _⟩ | ⟨g', cap, cur, rfl, _, hh, _⟩
  · cases hg
  · cases hg
    exact ⟨cur, hh⟩
/-- tape.New -/
def NewT (w : World) (E : Nat → Addr) (n : Int) (e : Ending) (w' : World) : Prop :=
  (TSt.setRoomE n = 0 ∧ e = .returned (.tuple #[.pointer (some ⟨w.heap.size, 0, none⟩), .nilIface]) ∧ Tp w' w.heap.size none (TSt.zero.setRoom n) ∧ Below w.heap.size w w') ∨
  (TSt.setRoomE n = 1 ∧ e = .returned (.tuple #[.pointer none, errV E 1]) ∧ Below w.heap.size w w')
set_option maxRecDepth 20000 in
set_option maxHeartbeats 1000000 in
theorem new_any (w : World) (E : Nat → Addr) (n : Int) (he : ErrsOn [0] w E) : Calls Tryd.prog 12 #[.int .i64 n] w (NewT w E n) := by
  have he' := Lib.hid (he.below (below_alloc1 w (.cells (TSt.zero.cells (.slice none 0 0)) 57)))
  have ht : Tp (w.alloc (.cells (TSt.zero.cells (.slice none 0 0)) 57)) w.heap.size none TSt.zero :=
    ⟨.slice none 0 0, rfl, Blk.new w _ _, ⟨rfl, .inl ⟨rfl, rfl⟩⟩, TSt.zero_ok⟩
  have HT := Lib.hid ht
  clear ht he
  go_enter Tryd.func12, Tryd.ntmps12
  go_wp2_with fail
  refine (setRoom_any _ E w.heap.size none TSt.zero n he'.out HT.out).mono ?_
  rintro e w1 ⟨rfl, ht1, k1⟩
  have K1 := Lib.hid ((below_alloc1 w (.cells (TSt.zero.cells (.slice none 0 0)) 57)).trans (k1.below (B := w.heap.size) (by simp) (by simp)))
  have HT1 := Lib.hid ht1
  clear ht1 k1
  have hc : TSt.setRoomE n = 0 ∨ TSt.setRoomE n = 1 := by unfold TSt.setRoomE; split <;> simp
  rcases hc with hc | hc
  · have HC := Lib.hid hc
    rw [hc, errV_nil]
    clear hc
    go_wp2_with fail
    go_ret2
    exact .inl ⟨HC.out, rfl, HT1.out, K1.out⟩
  · have HC := Lib.hid hc
    rw [hc, errV_suc]
    clear hc
    go_wp2_with fail
    go_ret2
    exact .inr ⟨HC.out, rfl, K1.out⟩
end Go.Proofs.YtoiknidlincdkaaDoor
