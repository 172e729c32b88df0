/-
  IdsB: what has a text is read from it. No program.
-/
import Derived.Test.YtehdbiilbbbbpaaDoorIdsR4
import Derived.Test.YtehdbiilbbbbpaaDoorIdsL2
namespace Go.Proofs.YtehdbiilbbbbpaaDoor
open Go.RowKit

theorem dec_all (n : Nat) : (dec n).all digitB = true := by
  induction n using Nat.strongRecOn with
  | _ n ih =>
    rw [dec_def]
    split
    · rename_i h
      simp only [List.all_cons, List.all_nil, Bool.and_true, digitB, Bool.and_eq_true, decide_eq_true_eq, UInt8.toNat_ofNat']
      omega
    · rename_i h
      rw [List.all_append, ih (n / 10) (by omega)]
      simp only [List.all_cons, List.all_nil, Bool.and_true, Bool.true_and, digitB, Bool.and_eq_true, decide_eq_true_eq, UInt8.toNat_ofNat']
      omega
theorem dec_val (n : Nat) : val7 (dec n) = n := by
  induction n using Nat.strongRecOn with
  | _ n ih =>
    rw [dec_def]
    split
    · rename_i h
      simp only [val7, List.foldl_cons, List.foldl_nil, UInt8.toNat_ofNat']
      omega
    · rename_i h
      rw [val7_snoc, ih (n / 10) (by omega), UInt8.toNat_ofNat']
      omega
theorem dec_ne (n : Nat) : dec n ≠ [] := by
  rw [dec_def]
  split <;> simp
theorem dec_head (n : Nat) (h : 1 ≤ n) : (dec n).head? ≠ some 48 := by
  induction n using Nat.strongRecOn with
  | _ n ih =>
    rw [dec_def]
    split
    · rename_i h10
      simp only [List.head?_cons, ne_eq, Option.some.injEq]
      intro e
      have := congrArg UInt8.toNat e
      rw [UInt8.toNat_ofNat'] at this
      simp at this
      omega
    · rename_i h10
      have h1 := ih (n / 10) (by omega) (by omega)
      cases hd : dec (n / 10) with
      | nil => exact absurd hd (dec_ne _)
      | cons x xs => rw [hd] at h1; simpa using h1
theorem dec_headB (n : Nat) : headB (dec n) = true := by
  unfold headB
  simp only [Bool.and_eq_true, Bool.not_eq_true', beq_eq_false_iff_ne, Bool.and_eq_false_iff, decide_eq_false_iff_not]
  refine ⟨dec_ne n, ?_⟩
  by_cases h : n < 10
  · exact .inl (by rw [dec_small h]; simp)
  · exact .inr (dec_head n (by omega))
theorem digX_dec (n : Nat) (h : n < 10000000) : digX (dec n) = .ok n := by
  unfold digX digT
  rw [if_pos ⟨dec_headB n, dec_all n⟩, List.take_of_length_le (by have := (dec_len n 6 (by omega)).2; omega), dec_val]
theorem all_notin {l : List UInt8} (h : l.all digitB = true) {c : UInt8} (hc : digitB c = false) : c ∉ l := by
  intro hm
  rw [List.all_eq_true] at h
  rw [h c hm] at hc
  cases hc
theorem cutT_at (c : UInt8) (l m : List UInt8) (h : c ∉ l) : cutT c (l ++ c :: m) = some (l, m) := by
  induction l with
  | nil => simp [cutT]
  | cons x xs ih =>
    simp only [List.mem_cons, not_or] at h
    simp [cutT, Ne.symm h.1, ih h.2]
theorem cutT_none (c : UInt8) (l : List UInt8) (h : c ∉ l) : cutT c l = none := by
  induction l with
  | nil => rfl
  | cons x xs ih =>
    simp only [List.mem_cons, not_or] at h
    simp [cutT, Ne.symm h.1, ih h.2]
theorem twoT_dec (a b : Nat) (ha : a < 10000000) (hb : b < 10000000) : twoT 46 (dec a ++ 46 :: dec b) = .ok (a, b) := by
  unfold twoT
  rw [cutT_at 46 _ _ (all_notin (dec_all a) (by decide))]
  simp only [digX_dec a ha, digX_dec b hb]
theorem limX_yes {n m : Nat} (h : n ≤ m) : limX n m = .ok () := by unfold limX; rw [if_pos h]
theorem toActT_act (a b : Nat) (ha : a < 4) (hb : b < 1000000) : toActT (actS a b) = .ok (a, b) := by
  unfold toActT actS
  rw [bind_ok (a := dec a ++ 46 :: dec b) (by simp [afterT]), bind_ok (twoT_dec a b (by omega) (by omega)), bind_ok (limX_yes (by omega)), bind_ok (limX_yes (by omega))]
theorem toPartT_part (a p : Nat) (ha : a < 4) (hp : p < 8) : toPartT (112 :: (dec a ++ 46 :: dec p)) = .ok (a, p) := by
  unfold toPartT
  rw [bind_ok (a := dec a ++ 46 :: dec p) (by simp [afterT]), bind_ok (twoT_dec a p (by omega) (by omega)), bind_ok (limX_yes (by omega)), bind_ok (limX_yes (by omega))]
theorem act_no47 (a b : Nat) : (47 : UInt8) ∉ actS a b := by
  unfold actS
  simp only [List.mem_cons, List.mem_append, not_or]
  exact ⟨by decide, all_notin (dec_all a) (by decide), by decide, all_notin (dec_all b) (by decide)⟩
theorem toRegT_reg (a b r : Nat) (ha : a < 4) (hb : b < 1000000) (hr : r < 6) : toRegT (actS a b ++ 47 :: dec r) = .ok (a, b, r) := by
  rw [toRegT_some (cutT_at 47 _ _ (act_no47 a b))]
  unfold actS
  rw [bind_ok (a := dec a ++ 46 :: dec b) (by simp [afterT]), bind_ok (twoT_dec a b (by omega) (by omega)), bind_ok (digX_dec r (by omega)), bind_ok (limX_yes (by omega)), bind_ok (limX_yes (by omega)), bind_ok (limX_yes (by omega))]
theorem toRegT_act (a b : Nat) : toRegT (actS a b) = .error 3 := toRegT_none (cutT_none 47 _ (act_no47 a b))
theorem toPartT_act (a b : Nat) : toPartT (actS a b) = .error 3 := by
  unfold toPartT actS
  exact bind_error (by simp [afterT])
theorem toNodeT_act (a b : Nat) : toNodeT (actS a b) = .error 3 := by
  unfold toNodeT actS
  exact bind_error (by simp [afterT])
theorem toActT_reg (a b r : Nat) (ha : a < 4) : toActT (actS a b ++ 47 :: dec r) = .error 3 := by
  unfold toActT actS
  rw [bind_ok (a := dec a ++ 46 :: (dec b ++ 47 :: dec r)) (by simp [afterT])]
  refine bind_error ?_
  unfold twoT
  rw [cutT_at 46 _ _ (all_notin (dec_all a) (by decide))]
  simp only [digX_dec a (by omega)]
  have : digX (dec b ++ 47 :: dec r) = .error 3 := by
    unfold digX digT
    rw [if_neg]
    intro h
    have h2 := h.2
    rw [List.all_append] at h2
    simp [digitB] at h2
  rw [this]
/-- unlike things have unlike texts -/
theorem act_inj {a b a' b' : Nat} (h : a < 4) (h2 : b < 1000000) (h' : a' < 4) (h2' : b' < 1000000) : actS a b = actS a' b' ↔ a = a' ∧ b = b' := by
  refine ⟨fun e => ?_, fun ⟨e1, e2⟩ => by rw [e1, e2]⟩
  have := (toActT_act a b h h2).symm.trans ((congrArg toActT e).trans (toActT_act a' b' h' h2'))
  simpa using this
theorem reg_inj {a b r a' b' r' : Nat} (h : a < 4) (h2 : b < 1000000) (h3 : r < 6) (h' : a' < 4) (h2' : b' < 1000000) (h3' : r' < 6) : actS a b ++ 47 :: dec r = actS a' b' ++ 47 :: dec r' ↔ a = a' ∧ b = b' ∧ r = r' := by
  refine ⟨fun e => ?_, fun ⟨e1, e2, e3⟩ => by rw [e1, e2, e3]⟩
  have := (toRegT_reg a b r h h2 h3).symm.trans ((congrArg toRegT e).trans (toRegT_reg a' b' r' h' h2' h3'))
  simpa using this
theorem part_inj {a p a' p' : Nat} (h : a < 4) (h2 : p < 8) (h' : a' < 4) (h2' : p' < 8) : (112 : UInt8) :: (dec a ++ 46 :: dec p) = 112 :: (dec a' ++ 46 :: dec p') ↔ a = a' ∧ p = p' := by
  refine ⟨fun e => ?_, fun ⟨e1, e2⟩ => by rw [e1, e2]⟩
  have := (toPartT_part a p h h2).symm.trans ((congrArg toPartT e).trans (toPartT_part a' p' h' h2'))
  simpa using this
end Go.Proofs.YtehdbiilbbbbpaaDoor
