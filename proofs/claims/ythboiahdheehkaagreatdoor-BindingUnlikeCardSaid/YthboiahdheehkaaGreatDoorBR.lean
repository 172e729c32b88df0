/- TryAct -/
import Derived.Test.YthboiahdheehkaaGreatDoorBA
import Derived.Test.YthboiahdheehkaaGreatDoorBB
import Derived.Lib.IndexBytes
import Derived.Lib.IndexLaws
import Derived.Lib.CutLaws
import Derived.Test.YthboiahdheehkaaGreatDoorShelf
import Derived.BigCall
import Derived.BigGuard
import Derived.Deep.Draws
import Derived.Laws.Strings3
import Derived.IntWalk
namespace Go.Proofs.YthboiahdheehkaaGreatDoor
open Go.RowKit Go.Extern.Stop Go.Stop Go.Extern
end Go.Proofs.YthboiahdheehkaaGreatDoor
namespace Go.Proofs.YthboiahdheehkaaGreatDoor
open Go.RowKit
def digitB (c : UInt8) : Bool := decide (48 ≤ c.toNat) && decide (c.toNat ≤ 57)
def val7 (l : List UInt8) : Nat := l.foldl (fun n c => 10 * n + (c.toNat - 48)) 0
theorem val7_snoc (l : List UInt8) (c : UInt8) : val7 (l ++ [c]) = 10 * val7 l + (c.toNat - 48) := by simp [val7]
def headB (l : List UInt8) : Bool := !(l == []) && !(decide (1 < l.length) && l.head? == some 48)
def digT (l : List UInt8) : Option Nat := if headB l = true ∧ l.all digitB = true then some (val7 (l.take 7)) else none
end Go.Proofs.YthboiahdheehkaaGreatDoor
namespace Go.Proofs.YthboiahdheehkaaGreatDoor
open Go.RowKit Go.Extern.Stop Go.Stop Go.Extern
def digX (l : List UInt8) : Except Nat Nat := match digT l with | some n => .ok n | none => .error 3
end Go.Proofs.YthboiahdheehkaaGreatDoor
namespace Go.Proofs.YthboiahdheehkaaGreatDoor
open Go.RowKit Go.Extern.Stop Go.Stop Go.Extern
def afterT (c : UInt8) (l : List UInt8) : Except Nat (List UInt8) := match l with | [] => .error 3 | x :: xs => if x = c then .ok xs else .error 3
def cutT (c : UInt8) : List UInt8 → Option (List UInt8 × List UInt8)
  | [] => none
  | x :: xs => if x = c then some ([], xs) else (cutT c xs).map fun p => (x :: p.1, p.2)
def twoT (c : UInt8) (l : List UInt8) : Except Nat (Nat × Nat) :=
  match cutT c l with
  | none => .error 3
  | some p => match digX p.1 with
    | .error n => .error n
    | .ok a => match digX p.2 with
      | .error n => .error n
      | .ok b => .ok (a, b)
end Go.Proofs.YthboiahdheehkaaGreatDoor
namespace Go.Proofs.YthboiahdheehkaaGreatDoor
open Go.RowKit Go.Extern.Stop Go.Stop Go.Extern
def limX (n : Nat) (m : Nat) : Except Nat Unit := if n ≤ m then .ok () else .error 0
def toActT (s : List UInt8) : Except Nat (Nat × Nat) := (afterT 97 s).bind fun t => (twoT 46 t).bind fun p => (limX p.1 3).bind fun _ => (limX p.2 999999).bind fun _ => .ok p
theorem bind_ok {α β : Type} {x : Except Nat α} {f : α → Except Nat β} {a : α} (h : x = .ok a) : x.bind f = f a := by rw [h]; rfl
end Go.Proofs.YthboiahdheehkaaGreatDoor
namespace Go.Proofs.YthboiahdheehkaaGreatDoor
open Go.RowKit Go.Extern.Stop Go.Stop Go.Extern
def actS (a b : Nat) : List UInt8 := 97 :: (dec a ++ 46 :: dec b)
end Go.Proofs.YthboiahdheehkaaGreatDoor
namespace Go.Proofs.YthboiahdheehkaaGreatDoor
open Go.RowKit
theorem dec_all (n : Nat) : (dec n).all digitB = true := by
  induction n using Nat.strongRecOn with
  | _ n ih =>
    rw [dec_def]
    split
    · rename_i h
      simp only [List.all_cons, List.all_nil, Bool.and_true, digitB, Bool.and_eq_true, decide_eq_true_eq, UInt8.toNat_ofNat']
      omega
    · rename_i h
      rw [List.all_append, ih (n / 10) (by omega)]
      simp only [List.all_cons, List.all_nil, Bool.and_true, Bool.true_and, digitB, Bool.and_eq_true, decide_eq_true_eq, UInt8.toNat_ofNat']
      omega
theorem dec_val (n : Nat) : val7 (dec n) = n := by
  induction n using Nat.strongRecOn with
  | _ n ih =>
    rw [dec_def]
    split
    · rename_i h
      simp only [val7, List.foldl_cons, List.foldl_nil, UInt8.toNat_ofNat']
      omega
    · rename_i h
      rw [val7_snoc, ih (n / 10) (by omega), UInt8.toNat_ofNat']
      omega
theorem dec_ne (n : Nat) : dec n ≠ [] := by
  rw [dec_def]
  split <;> simp
theorem dec_head (n : Nat) (h : 1 ≤ n) : (dec n).head? ≠ some 48 := by
  induction n using Nat.strongRecOn with
  | _ n ih =>
    rw [dec_def]
    split
    · rename_i h10
      simp only [List.head?_cons, ne_eq, Option.some.injEq]
      intro e
      have := congrArg UInt8.toNat e
      rw [UInt8.toNat_ofNat'] at this
      simp at this
      omega
    · rename_i h10
      have h1 := ih (n / 10) (by omega) (by omega)
      cases hd : dec (n / 10) with
      | nil => exact absurd hd (dec_ne _)
      | cons x xs => rw [hd] at h1; simpa using h1
theorem dec_headB (n : Nat) : headB (dec n) = true := by
  unfold headB
  simp only [Bool.and_eq_true, Bool.not_eq_true', beq_eq_false_iff_ne, Bool.and_eq_false_iff, decide_eq_false_iff_not]
  refine ⟨dec_ne n, ?_⟩
  by_cases h : n < 10
  · exact .inl (by rw [dec_small h]; simp)
  · exact .inr (dec_head n (by omega))
theorem digX_dec (n : Nat) (h : n < 10000000) : digX (dec n) = .ok n := by
  unfold digX digT
  rw [if_pos ⟨dec_headB n, dec_all n⟩, List.take_of_length_le (by have := (dec_len n 6 (by omega)).2; omega), dec_val]
theorem all_notin {l : List UInt8} (h : l.all digitB = true) {c : UInt8} (hc : digitB c = false) : c ∉ l := by
  intro hm
  rw [List.all_eq_true] at h
  rw [h c hm] at hc
  cases hc
theorem cutT_at (c : UInt8) (l m : List UInt8) (h : c ∉ l) : cutT c (l ++ c :: m) = some (l, m) := by
  induction l with
  | nil => simp [cutT]
  | cons x xs ih =>
    simp only [List.mem_cons, not_or] at h
    simp [cutT, Ne.symm h.1, ih h.2]
theorem twoT_dec (a b : Nat) (ha : a < 10000000) (hb : b < 10000000) : twoT 46 (dec a ++ 46 :: dec b) = .ok (a, b) := by
  unfold twoT
  rw [cutT_at 46 _ _ (all_notin (dec_all a) (by decide))]
  simp only [digX_dec a ha, digX_dec b hb]
theorem limX_yes {n m : Nat} (h : n ≤ m) : limX n m = .ok () := by unfold limX; rw [if_pos h]
theorem toActT_act (a b : Nat) (ha : a < 4) (hb : b < 1000000) : toActT (actS a b) = .ok (a, b) := by
  unfold toActT actS
  rw [bind_ok (a := dec a ++ 46 :: dec b) (by simp [afterT]), bind_ok (twoT_dec a b (by omega) (by omega)), bind_ok (limX_yes (by omega)), bind_ok (limX_yes (by omega))]
theorem act_inj {a b a' b' : Nat} (h : a < 4) (h2 : b < 1000000) (h' : a' < 4) (h2' : b' < 1000000) : actS a b = actS a' b' ↔ a = a' ∧ b = b' := by
  refine ⟨fun e => ?_, fun ⟨e1, e2⟩ => by rw [e1, e2]⟩
  have := (toActT_act a b h h2).symm.trans ((congrArg toActT e).trans (toActT_act a' b' h' h2'))
  simpa using this
end Go.Proofs.YthboiahdheehkaaGreatDoor
