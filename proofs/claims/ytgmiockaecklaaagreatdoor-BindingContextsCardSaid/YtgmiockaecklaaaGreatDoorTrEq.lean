/-
  TrEq: when trees are the same, plainly. No program.
-/
import Derived.Test.YtgmiockaecklaaaGreatDoorTree
namespace Go.Proofs.YtgmiockaecklaaaGreatDoor
open Go.RowKit

mutual
def Tr.eqb : Tr → Tr → Bool
  | .node n1 a1 k1 t1, .node n2 a2 k2 t2 => (n1 == n2) && (t1 == t2) && (a1 == a2) && Tr.eqbL k1 k2
def Tr.eqbL : List Tr → List Tr → Bool
  | [], [] => true
  | x :: xs, y :: ys => x.eqb y && Tr.eqbL xs ys
  | [], _ :: _ => false
  | _ :: _, [] => false
end
mutual
theorem Tr.eqb_refl : ∀ x : Tr, x.eqb x = true
  | .node n a k t => by unfold Tr.eqb; simp [Tr.eqbL_refl k]
theorem Tr.eqbL_refl : ∀ xs : List Tr, Tr.eqbL xs xs = true
  | [] => by unfold Tr.eqbL; rfl
  | x :: xs => by unfold Tr.eqbL; simp [Tr.eqb_refl x, Tr.eqbL_refl xs]
end
mutual
theorem Tr.eqb_eq : ∀ x y : Tr, x.eqb y = true → x = y
  | .node n1 a1 k1 t1, .node n2 a2 k2 t2, h => by
    unfold Tr.eqb at h
    simp only [Bool.and_eq_true, beq_iff_eq] at h
    obtain ⟨⟨⟨rfl, rfl⟩, rfl⟩, h4⟩ := h
    rw [Tr.eqbL_eq k1 k2 h4]
theorem Tr.eqbL_eq : ∀ xs ys : List Tr, Tr.eqbL xs ys = true → xs = ys
  | [], [], _ => rfl
  | x :: xs, y :: ys, h => by
    unfold Tr.eqbL at h
    simp only [Bool.and_eq_true] at h
    rw [Tr.eqb_eq x y h.1, Tr.eqbL_eq xs ys h.2]
  | [], _ :: _, h => by unfold Tr.eqbL at h; cases h
  | _ :: _, [], h => by unfold Tr.eqbL at h; cases h
end
theorem Tr.eqb_iff (x y : Tr) : x.eqb y = true ↔ x = y := ⟨Tr.eqb_eq x y, fun h => h ▸ Tr.eqb_refl x⟩
theorem Tr.eqbL_len {xs ys : List Tr} (h : xs.length ≠ ys.length) : Tr.eqbL xs ys = false := by
  rw [Bool.eq_false_iff]
  intro e
  exact h (by rw [Tr.eqbL_eq xs ys e])
/-- the kids behind the first i -/
theorem Tr.eqbL_drop {xs ys : List Tr} (h : xs.length = ys.length) {i : Nat} (hi : i < xs.length) :
    Tr.eqbL (xs.drop i) (ys.drop i) = (xs[i].eqb (ys[i]'(h ▸ hi)) && Tr.eqbL (xs.drop (i + 1)) (ys.drop (i + 1))) := by
  rw [List.drop_eq_getElem_cons hi, List.drop_eq_getElem_cons (show i < ys.length from h ▸ hi)]
  conv => lhs; unfold Tr.eqbL
mutual
/-- how many elements and texts a tree has -/
def Tr.sz : Tr → Nat
  | .node _ _ ks _ => 1 + Tr.szL ks
def Tr.szL : List Tr → Nat
  | [] => 0
  | x :: xs => x.sz + Tr.szL xs
end
theorem Tr.sz_get : ∀ (xs : List Tr) (i : Nat) (hi : i < xs.length), xs[i].sz ≤ Tr.szL xs
  | [], i, hi => by simp at hi
  | x :: xs, i, hi => by
    unfold Tr.szL
    cases i with
    | zero => simp
    | succ i => have := Tr.sz_get xs i (by simpa using hi); simp; omega
theorem Tr.sz_pos (x : Tr) : 1 ≤ x.sz := by cases x; unfold Tr.sz; omega
theorem Tr.sz_kid (x : Tr) (i : Nat) (hi : i < x.ks.length) : x.ks[i].sz < x.sz := by
  obtain ⟨nm, ats, ks, t⟩ := x
  have h : ks[i].sz ≤ Tr.szL ks := Tr.sz_get ks i hi
  show ks[i].sz < Tr.sz (.node nm ats ks t)
  rw [Tr.sz]
  omega
/-- two names -/
theorem two_of {l : List (List UInt8)} (h : l.length = 2) : ∃ a b, l = [a, b] := by
  match l, h with
  | [a, b], _ => exact ⟨a, b, rfl⟩
theorem one_of {l : List (List UInt8)} (h : l.length = 1) : ∃ a, l = [a] := by
  match l, h with
  | [a], _ => exact ⟨a, rfl⟩
theorem three_of {l : List (List UInt8)} (h : l.length = 3) : ∃ a b c, l = [a, b, c] := by
  match l, h with
  | [a, b, c], _ => exact ⟨a, b, c, rfl⟩
theorem take_step {α : Type} {xs ys : List α} {i : Nat} (hx : i < xs.length) (hy : i < ys.length) (h : xs.take i = ys.take i) (he : xs[i] = ys[i]) : xs.take (i + 1) = ys.take (i + 1) := by
  rw [List.take_succ_eq_append_getElem hx, List.take_succ_eq_append_getElem hy, h, he]
end Go.Proofs.YtgmiockaecklaaaGreatDoor
