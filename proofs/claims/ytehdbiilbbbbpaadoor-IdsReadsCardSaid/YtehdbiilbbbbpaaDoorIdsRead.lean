/-
  IdsRead: the document's reading of a text by a pattern.
-/
import Derived.Test.YtehdbiilbbbbpaaDoorIdsB
import Derived.Test.YtehdbiilbbbbpaaDoorInts
import Derived.Deep.DeepCutAuto
namespace Go.Proofs.YtehdbiilbbbbpaaDoor
open Go.RowKit Go.Extern.Stop Go.Stop Go.Extern

/-- one digit more, up to a million -/
def capS (n : Nat) (c : UInt8) : Nat := if 1000000 < 10 * n + (c.toNat - 48) then 1000000 else 10 * n + (c.toNat - 48)
def capV (l : List UInt8) : Nat := l.foldl capS 0
theorem capS_le (n : Nat) (c : UInt8) : capS n c ≤ 1000000 := by unfold capS; split <;> omega
theorem capV_le (l : List UInt8) : capV l ≤ 1000000 := by
  unfold capV
  have : ∀ (l : List UInt8) (a : Nat), a ≤ 1000000 → l.foldl capS a ≤ 1000000 := by
    intro l
    induction l with
    | nil => intro a h; exact h
    | cons x xs ih => intro a _; exact ih _ (capS_le a x)
  exact this l 0 (by omega)
theorem capV_snoc (l : List UInt8) (c : UInt8) : capV (l ++ [c]) = capS (capV l) c := by simp [capV]
/-- the digits at the beginning, and what is behind them -/
def digs (s : List UInt8) : List UInt8 := s.takeWhile digitB
def undigs (s : List UInt8) : List UInt8 := s.dropWhile digitB
/-- a text read by a pattern: its numbers, and what is left -/
def readL : List UInt8 → List UInt8 → Option (List Nat × List UInt8)
  | [], s => some ([], s)
  | c :: ps, s =>
    if c = 35 then (if headB (digs s) = true then (readL ps (undigs s)).map fun p => (capV (digs s) :: p.1, p.2) else none)
    else match s with
      | [] => none
      | x :: xs => if x = c then readL ps xs else none
theorem readL_hash (ps s : List UInt8) : readL (35 :: ps) s = if headB (digs s) = true then (readL ps (undigs s)).map fun p => (capV (digs s) :: p.1, p.2) else none := by
  conv => lhs; unfold readL
  simp
theorem readL_nil (c : UInt8) (ps : List UInt8) (h : c ≠ 35) : readL (c :: ps) [] = none := by
  unfold readL; rw [if_neg h]
theorem readL_sign (c : UInt8) (ps : List UInt8) (h : c ≠ 35) (x : UInt8) (xs : List UInt8) : readL (c :: ps) (x :: xs) = if x = c then readL ps xs else none := by
  conv => lhs; unfold readL
  rw [if_neg h]
/-- what Read answers: the numbers, and whether nothing is left; none: it fails ahead of the end -/
def ReadR (o : Option (List Nat × List UInt8)) (w : World) (e : Ending) (w' : World) : Prop :=
  Below w.heap.size w w' ∧ ((∃ v l, o = some (l, []) ∧ e = .returned (.tuple #[v, .bool true]) ∧ Iv w' v (l.map fun n : Nat => (n : Int))) ∨ ((∀ l, o ≠ some (l, [])) ∧ ∃ v, e = .returned (.tuple #[v, .bool false])))
/-- how far the pattern is read -/
def Sofar (pat s : List UInt8) (i at_ : Nat) (l : List Nat) : Prop := i ≤ pat.length ∧ at_ ≤ s.length ∧ readL pat s = (readL (pat.drop i) (s.drop at_)).map fun p => (l ++ p.1, p.2)
theorem Sofar.start (pat s : List UInt8) : Sofar pat s 0 0 [] := by
  refine ⟨Nat.zero_le _, Nat.zero_le _, ?_⟩
  simp
theorem sofar_sign {pat s : List UInt8} {i a : Nat} {l : List Nat} (h : Sofar pat s i a l) (hi : i < pat.length) (hc : pat[i] ≠ 35) (ha : a < s.length) (he : s[a] = pat[i]) : Sofar pat s (i + 1) (a + 1) l := by
  refine ⟨by omega, by omega, ?_⟩
  rw [h.2.2, List.drop_eq_getElem_cons hi, List.drop_eq_getElem_cons ha, readL_sign _ _ hc, if_pos he]
theorem sofar_stop {pat s : List UInt8} {i a : Nat} {l : List Nat} (h : Sofar pat s i a l) (hi : i < pat.length) (hc : pat[i] ≠ 35) (he : a = s.length ∨ ∃ ha : a < s.length, s[a] ≠ pat[i]) : readL pat s = none := by
  rw [h.2.2, List.drop_eq_getElem_cons hi]
  rcases he with rfl | ⟨ha, he⟩
  · rw [List.drop_length, readL_nil _ _ hc]; rfl
  · rw [List.drop_eq_getElem_cons ha, readL_sign _ _ hc, if_neg he]; rfl
theorem sofar_hash {pat s : List UInt8} {i a b : Nat} {l : List Nat} (h : Sofar pat s i a l) (hi : i < pat.length) (hc : pat[i] = 35) (hb : b ≤ s.length) (hab : a ≤ b) (hd : digs (s.drop a) = (s.drop a).take (b - a)) (hu : undigs (s.drop a) = s.drop b) (hh : headB ((s.drop a).take (b - a)) = true) :
    Sofar pat s (i + 1) b (l ++ [capV ((s.drop a).take (b - a))]) := by
  refine ⟨by omega, hb, ?_⟩
  rw [h.2.2, List.drop_eq_getElem_cons hi, hc, readL_hash, hd, if_pos hh, hu, Option.map_map]
  congr 1
  funext p
  simp
theorem sofar_bad {pat s : List UInt8} {i a b : Nat} {l : List Nat} (h : Sofar pat s i a l) (hi : i < pat.length) (hc : pat[i] = 35) (hd : digs (s.drop a) = (s.drop a).take (b - a)) (hh : headB ((s.drop a).take (b - a)) = false) : readL pat s = none := by
  rw [h.2.2, List.drop_eq_getElem_cons hi, hc, readL_hash, hd, if_neg (by rw [hh]; simp)]; rfl
theorem tw_all (l : List UInt8) (h : ∀ x ∈ l, digitB x = true) : l.takeWhile digitB = l ∧ l.dropWhile digitB = [] := by
  induction l with
  | nil => exact ⟨rfl, rfl⟩
  | cons x xs ih =>
    have := ih (fun y hy => h y (List.mem_cons_of_mem _ hy))
    simp [h x (List.mem_cons_self ..), this]
theorem tw_stop (l : List UInt8) (h : ∀ x ∈ l, digitB x = true) (c : UInt8) (q : List UInt8) (hc : digitB c = false) : (l ++ c :: q).takeWhile digitB = l ∧ (l ++ c :: q).dropWhile digitB = c :: q := by
  induction l with
  | nil => simp [hc]
  | cons x xs ih =>
    have := ih (fun y hy => h y (List.mem_cons_of_mem _ hy))
    simp [h x (List.mem_cons_self ..), this]
/-- the digits end at b -/
theorem digs_at (s : List UInt8) (a b : Nat) (hab : a ≤ b) (hb : b ≤ s.length) (hall : ((s.drop a).take (b - a)).all digitB = true) (hend : b = s.length ∨ ∃ h : b < s.length, digitB s[b] = false) :
    digs (s.drop a) = (s.drop a).take (b - a) ∧ undigs (s.drop a) = s.drop b := by
  have e : s.drop a = (s.drop a).take (b - a) ++ s.drop b := by
    conv => lhs; rw [← List.take_append_drop (b - a) (s.drop a)]
    rw [List.drop_drop, show a + (b - a) = b by omega]
  have hl : ∀ x ∈ (s.drop a).take (b - a), digitB x = true := by rw [List.all_eq_true] at hall; exact hall
  unfold digs undigs
  rcases hend with rfl | ⟨h, hf⟩
  · rw [List.drop_length, List.append_nil] at e
    rw [← e] at hl ⊢
    rw [List.drop_length]
    exact tw_all _ hl
  · rw [List.drop_eq_getElem_cons h] at e
    have := tw_stop ((s.drop a).take (b - a)) hl s[b] (s.drop (b + 1)) hf
    rw [← e] at this
    rw [this.1, this.2, List.drop_eq_getElem_cons h]
    exact ⟨rfl, rfl⟩
end Go.Proofs.YtehdbiilbbbbpaaDoor
