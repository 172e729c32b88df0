/-
  TapeM: the document's tape over plain data, and that a tape answers as it does. No program.
-/
import Derived.Test.YtehoenojjdgphaaDoorTapeF
import Derived.Test.YtehoenojjdgphaaDoorStr
namespace Go.Proofs.YtehoenojjdgphaaDoor
open Go.RowKit

structure MSt where
  sure : List UInt8
  tail : List UInt8
  room : Int
  left : Int
  off : Bool
def MSt.cells (m : MSt) : Array Value := #[.string (bs m.sure), .string (bs m.tail), .int .i64 m.room, .int .i64 m.left, .bool m.off]
def MSt.cut (m : MSt) : Bool := m.off || m.left == 0
def MSt.step (m : MSt) : MSt := if m.cut then { m with off := true } else if 0 < m.left then { m with left := m.left - 1 } else m
def MSt.stepE (m : MSt) : Nat := if m.cut then 7 else 0
def MSt.append (m : MSt) (b : List UInt8) : MSt := if m.room - m.sure.length - m.tail.length < b.length then m else if m.cut then m.step else { m.step with tail := m.tail ++ b }
def MSt.appendE (m : MSt) (b : List UInt8) : Nat := if m.room - m.sure.length - m.tail.length < b.length then 6 else m.stepE
def MSt.sync (m : MSt) : MSt := if m.cut then m.step else { m.step with sure := m.sure ++ m.tail, tail := [] }
def MSt.swap (m : MSt) (b : List UInt8) : MSt := if m.room < b.length then m else if m.cut then m.step else { m.step with sure := b, tail := [] }
def MSt.swapE (m : MSt) (b : List UInt8) : Nat := if m.room < b.length then 6 else m.stepE
def MSt.cutTo (m : MSt) (n : Int) : MSt := if n < 0 ∨ ((m.sure ++ m.tail).length : Int) < n then m else if m.cut then m.step else { m.step with sure := (m.sure ++ m.tail).take n.toNat, tail := [] }
def MSt.cutE (m : MSt) (n : Int) : Nat := if n < 0 ∨ ((m.sure ++ m.tail).length : Int) < n then 1 else m.stepE
def MSt.arm (m : MSt) (n : Int) : MSt := { m with left := if n < 0 then -1 else n }
def MSt.crash (m : MSt) (k : Int) : MSt := { m with sure := m.sure ++ m.tail.take (min k.toNat m.tail.length), tail := [], off := false, left := -1 }
def MSt.setRoom (m : MSt) (n : Int) : MSt := if n < 0 ∨ 65536 < n then m else { m with room := n }
def MSt.new (n : Int) : MSt := ⟨[], [], n, -1, false⟩
/-- the tape s answers as the model m -/
structure Rel (s : TSt) (m : MSt) : Prop where
  ok : s.Ok
  l : s.l = m.sure ++ m.tail
  sure : s.sure = m.sure.length
  room : s.room = m.room
  off : s.off = m.off
  left : -1 ≤ m.left ∧ m.left ≤ 9223372036854775807
  pw : s.off = false → s.armed = decide (0 ≤ m.left) ∧ (s.armed = true → s.left = m.left)
section
variable {s : TSt} {m : MSt}
theorem MSt.step_sure (m : MSt) : m.step.sure = m.sure := by unfold MSt.step; split <;> (try split) <;> rfl
theorem MSt.step_tail (m : MSt) : m.step.tail = m.tail := by unfold MSt.step; split <;> (try split) <;> rfl
theorem MSt.step_room (m : MSt) : m.step.room = m.room := by unfold MSt.step; split <;> (try split) <;> rfl
theorem Rel.cut (h : Rel s m) : s.step.off = m.cut := by
  unfold TSt.step MSt.cut
  have ho := h.off
  have hl := h.left
  cases hoff : s.off with
  | true => rw [← ho, hoff]; simp [hoff]
  | false =>
    obtain ⟨p1, p2⟩ := h.pw hoff
    rw [← ho, hoff]
    cases ha : s.armed with
    | true =>
      have := p2 ha
      simp [this]
    | false =>
      rw [ha] at p1
      have : ¬ 0 ≤ m.left := by simpa using p1.symm
      simp [hoff]; omega
theorem Rel.step (h : Rel s m) : Rel s.step m.step := by
  have hc := h.cut
  have hl := h.left
  refine ⟨h.ok.step, by rw [TSt.step_l, MSt.step_sure, MSt.step_tail]; exact h.l, by rw [TSt.step_sure, MSt.step_sure]; exact h.sure, by rw [TSt.step_room, MSt.step_room]; exact h.room, ?_, ?_, ?_⟩
  · rw [hc]
    unfold MSt.step
    split
    · rename_i h1; exact h1
    · rename_i h1
      have h1' : m.cut = false := by simpa using h1
      have : m.off = false := by unfold MSt.cut at h1'; simp at h1'; exact h1'.1
      rw [h1']
      split <;> exact this.symm
  · unfold MSt.step
    split
    · exact hl
    · split
      · simp only; omega
      · exact hl
  · intro hoff
    rw [hc] at hoff
    have hoff0 : m.off = false ∧ ¬ m.left = 0 := by unfold MSt.cut at hoff; simpa using hoff
    have hso : s.off = false := by rw [h.off]; exact hoff0.1
    obtain ⟨p1, p2⟩ := h.pw hso
    have e : m.step = if 0 < m.left then { m with left := m.left - 1 } else m := by unfold MSt.step; rw [hoff]; rfl
    cases ha : s.armed with
    | true =>
      have hle := p2 ha
      rw [ha] at p1
      have h0 : 0 ≤ m.left := by simpa using p1.symm
      have h1 : 0 < m.left := by omega
      have e2 : s.step = { s with off := s.left == 0, left := s.left - 1 } := by unfold TSt.step; rw [ha, hso]; rfl
      rw [e, e2, if_pos h1]
      refine ⟨?_, fun _ => ?_⟩
      · show s.armed = decide (0 ≤ m.left - 1)
        rw [ha]; symm; rw [decide_eq_true_eq]; omega
      · show s.left - 1 = m.left - 1
        rw [hle]
    | false =>
      rw [ha] at p1
      have h0 : ¬ 0 ≤ m.left := by simpa using p1.symm
      have h1 : ¬ 0 < m.left := by omega
      have e2 : s.step = s := by unfold TSt.step; rw [ha]; rfl
      rw [e, e2, if_neg h1]
      exact ⟨ha.trans p1, fun hx => by rw [ha] at hx; cases hx⟩
theorem Rel.stepE (h : Rel s m) : s.stepE = m.stepE := by unfold TSt.stepE MSt.stepE; rw [h.cut]
theorem Rel.full (h : Rel s m) (d : List UInt8) : (s.full d = true ↔ m.room - m.sure.length - m.tail.length < d.length) := by
  unfold TSt.full
  rw [h.l, h.room, List.length_append, decide_eq_true_eq]
  omega
theorem Rel.append (h : Rel s m) (d : List UInt8) : Rel (s.append d) (m.append d) ∧ s.appendE d = m.appendE d := by
  have hs := h.step
  have hf := h.full d
  have hk := h.ok.append d
  have hst := h.stepE
  have hc := h.cut
  unfold TSt.append at hk ⊢
  unfold MSt.append TSt.appendE MSt.appendE
  by_cases c : m.room - m.sure.length - m.tail.length < d.length
  · rw [if_pos (hf.2 c), if_pos c, if_pos (hf.2 c), if_pos c]; exact ⟨h, rfl⟩
  · have c' : ¬ s.full d = true := fun x => c (hf.1 x)
    rw [if_neg c', if_neg c, if_neg c', if_neg c]
    rw [if_neg c'] at hk
    rw [hc] at hk ⊢
    cases hcc : m.cut with
    | true => simp only [if_true]; exact ⟨hs, hst⟩
    | false =>
      rw [hcc] at hk
      simp only [Bool.false_eq_true, if_false] at hk ⊢
      refine ⟨⟨hk, ?_, hs.sure, hs.room, hs.off, hs.left, hs.pw⟩, hst⟩
      simp only
      rw [h.l, MSt.step_sure, List.append_assoc]
theorem Rel.sync (h : Rel s m) : Rel s.sync m.sync := by
  have hs := h.step
  have hk := h.ok.sync
  have hc := h.cut
  unfold TSt.sync at hk ⊢
  unfold MSt.sync
  rw [hc] at hk ⊢
  cases hcc : m.cut with
  | true => simp only [if_true]; exact hs
  | false =>
    rw [hcc] at hk
    simp only [Bool.false_eq_true, if_false] at hk ⊢
    refine ⟨hk, ?_, ?_, hs.room, hs.off, hs.left, hs.pw⟩
    · simp only; rw [TSt.step_l, h.l, List.append_nil]
    · simp only; rw [h.l]
theorem Rel.set (h : Rel s m) (d : List UInt8) (hd : d.length ≤ 65536) : Rel (s.set d) (if m.cut then m.step else { m.step with sure := d, tail := [] }) := by
  have hs := h.step
  have hk := h.ok.set hd
  have hc := h.cut
  unfold TSt.set at hk ⊢
  rw [hc] at hk ⊢
  cases hcc : m.cut with
  | true => simp only [if_true]; exact hs
  | false =>
    rw [hcc] at hk
    simp only [Bool.false_eq_true, if_false] at hk ⊢
    exact ⟨hk, by simp only; rw [List.append_nil], rfl, hs.room, hs.off, hs.left, hs.pw⟩
theorem Rel.swap (h : Rel s m) (d : List UInt8) : Rel (s.swap d) (m.swap d) ∧ s.swapE d = m.swapE d := by
  have hr := h.ok.room
  have e := h.room
  unfold TSt.swap MSt.swap TSt.swapE MSt.swapE
  rw [e] at hr ⊢
  by_cases c : m.room < d.length
  · rw [if_pos c, if_pos c, if_pos c, if_pos c]; exact ⟨h, rfl⟩
  · rw [if_neg c, if_neg c, if_neg c, if_neg c]
    exact ⟨h.set d (by omega), h.stepE⟩
theorem Rel.cutTo (h : Rel s m) (n : Int) : Rel (s.cut n) (m.cutTo n) ∧ s.cutE n = m.cutE n := by
  have hl := h.ok.len
  unfold TSt.cut MSt.cutTo TSt.cutE MSt.cutE
  rw [h.l] at hl ⊢
  by_cases c : n < 0 ∨ ((m.sure ++ m.tail).length : Int) < n
  · rw [if_pos c, if_pos c, if_pos c, if_pos c]; exact ⟨h, rfl⟩
  · rw [if_neg c, if_neg c, if_neg c, if_neg c]
    exact ⟨h.set _ (by rw [List.length_take]; omega), h.stepE⟩
theorem Rel.arm (h : Rel s m) (n : Int) (hn : -9223372036854775808 ≤ n ∧ n ≤ 9223372036854775807) : Rel (s.arm n) (m.arm n) := by
  refine ⟨h.ok.arm hn, h.l, h.sure, h.room, h.off, ?_, fun _ => ⟨?_, fun hx => ?_⟩⟩
  · show -1 ≤ (if n < 0 then (-1 : Int) else n) ∧ _ ≤ _
    have : (m.arm n).left = if n < 0 then (-1 : Int) else n := rfl
    rw [this]
    split <;> omega
  · show decide (0 ≤ n) = decide (0 ≤ if n < 0 then (-1 : Int) else n)
    rw [decide_eq_decide]
    split <;> omega
  · have h0 : 0 ≤ n := by simpa [TSt.arm] using hx
    show n = if n < 0 then (-1 : Int) else n
    rw [if_neg (by omega)]
theorem Rel.crash (h : Rel s m) (k : Int) : Rel (s.crash k) (m.crash k) := by
  have hkept : s.kept k = min k.toNat m.tail.length := by
    unfold TSt.kept
    rw [h.l, h.sure, List.length_append]
    congr 1; omega
  refine ⟨h.ok.crash k, ?_, ?_, h.room, rfl, ⟨by show (-1 : Int) ≤ -1; omega, by show (-1 : Int) ≤ _; omega⟩, fun _ => ⟨rfl, fun hx => by cases hx⟩⟩
  · show s.l.take (s.sure + s.kept k) = (m.sure ++ m.tail.take (min k.toNat m.tail.length)) ++ []
    rw [hkept, h.l, h.sure, List.append_nil, List.take_append]
    rw [List.take_of_length_le (by omega)]
    congr 2; omega
  · show s.sure + s.kept k = (m.sure ++ m.tail.take (min k.toNat m.tail.length)).length
    rw [hkept, h.sure, List.length_append, List.length_take]
    omega
theorem Rel.setRoom (h : Rel s m) (n : Int) : Rel (s.setRoom n) (m.setRoom n) := by
  have hk := h.ok.setRoom n
  unfold TSt.setRoom at hk ⊢
  unfold MSt.setRoom
  by_cases c : n < 0 ∨ 65536 < n
  · rw [if_pos c, if_pos c]; exact h
  · rw [if_neg c, if_neg c]
    rw [if_neg c] at hk
    exact ⟨hk, h.l, h.sure, rfl, h.off, h.left, h.pw⟩
theorem Rel.new (n : Int) (h0 : 0 ≤ n) (h1 : n ≤ 65536) : Rel (TSt.zero.setRoom n) (MSt.new n) := by
  have hk := TSt.zero_ok.setRoom n
  have e : TSt.zero.setRoom n = { TSt.zero with room := n } := by unfold TSt.setRoom; rw [if_neg (by omega)]
  rw [e] at hk ⊢
  exact ⟨hk, rfl, rfl, rfl, rfl, ⟨by show (-1 : Int) ≤ -1; omega, by show (-1 : Int) ≤ _; omega⟩, fun _ => ⟨rfl, fun hx => by cases hx⟩⟩
end
end Go.Proofs.YtehoenojjdgphaaDoor
