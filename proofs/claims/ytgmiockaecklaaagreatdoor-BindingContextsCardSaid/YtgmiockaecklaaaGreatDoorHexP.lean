/-
  HexP: numbers' digits as binding reads them, hexadecimal digits. No program.
-/
import Derived.Test.YtgmiockaecklaaaGreatDoorBR
import Derived.Test.YtgmiockaecklaaaGreatDoorBI
namespace Go.Proofs.YtgmiockaecklaaaGreatDoor
open Go.RowKit

/-- a number's text is the one that is read to it -/
theorem dec_of (l : List UInt8) : headB l = true → l.all digitB = true → dec (val7 l) = l := by
  suffices H : ∀ (k : Nat) (l : List UInt8), l.length = k → headB l = true → l.all digitB = true → dec (val7 l) = l from H l.length l rfl
  intro k
  induction k with
  | zero =>
    intro l hl hh
    obtain rfl : l = [] := List.length_eq_zero_iff.1 hl
    simp [headB] at hh
  | succ k ih =>
    intro l hl hh ha
    have hne : l ≠ [] := by intro e; subst e; simp at hl
    obtain ⟨m, c, rfl⟩ : ∃ m c, l = m ++ [c] := ⟨l.dropLast, l.getLast hne, (List.dropLast_concat_getLast hne).symm⟩
    rw [List.all_append, Bool.and_eq_true] at ha
    have hc := digitB_le (show digitB c = true by simpa using ha.2)
    have ec : UInt8.ofNat (48 + (c.toNat - 48)) = c := by
      rw [show 48 + (c.toNat - 48) = c.toNat by omega]
      exact UInt8.ofNat_toNat
    rw [val7_snoc]
    cases m with
    | nil =>
      rw [show val7 [] = 0 from rfl, dec_small (by omega)]
      simp only [Nat.mul_zero, Nat.zero_add, List.nil_append]
      rw [ec]
    | cons x xs =>
      have hx : x ≠ 48 := by
        intro e
        subst e
        have h1 : decide (1 < (((48 : UInt8) :: xs) ++ [c]).length) = true := decide_eq_true (by simp)
        unfold headB at hh
        rw [h1] at hh
        simp at hh
      have hd : digitB x = true := by have := ha.1; rw [List.all_cons, Bool.and_eq_true] at this; exact this.1
      have h48 := digitB_le hd
      have hx2 : x.toNat ≠ 48 := fun e => hx (UInt8.toNat_inj.1 e)
      have hv : 1 ≤ val7 (x :: xs) := by
        have := fold_ge xs (x.toNat - 48)
        have hp : 1 ≤ 10 ^ xs.length := Nat.pow_pos (by omega)
        unfold val7
        rw [List.foldl_cons]
        simp only [Nat.mul_zero, Nat.zero_add]
        refine Nat.le_trans ?_ this
        exact Nat.mul_le_mul (show 1 ≤ x.toNat - 48 by omega) hp
      rw [dec_def, if_neg (by omega), show (10 * val7 (x :: xs) + (c.toNat - 48)) / 10 = val7 (x :: xs) by omega, show (10 * val7 (x :: xs) + (c.toNat - 48)) % 10 = c.toNat - 48 by omega, ec]
      rw [ih (x :: xs) (by simpa using hl) (by unfold headB; simp [hx]) ha.1]
/-- a hexadecimal digit, and what it is worth -/
def hexD (n : Nat) : UInt8 := if n < 10 then UInt8.ofNat (48 + n) else UInt8.ofNat (87 + n)
def hexB (c : UInt8) : Bool := digitB c || (decide (97 ≤ c.toNat) && decide (c.toNat ≤ 102))
def hexV (c : UInt8) : Nat := if c.toNat ≤ 57 then c.toNat - 48 else c.toNat - 87
theorem hexD_B : ∀ n, n < 16 → hexB (hexD n) = true ∧ hexV (hexD n) = n := by decide
theorem hexV_D {c : UInt8} (h : hexB c = true) : hexD (hexV c) = c ∧ hexV c < 16 := by
  unfold hexB digitB at h
  simp only [Bool.or_eq_true, Bool.and_eq_true, decide_eq_true_eq] at h
  unfold hexV
  rcases h with h | h
  · rw [if_pos h.2]
    refine ⟨?_, by omega⟩
    unfold hexD
    rw [if_pos (by omega), show 48 + (c.toNat - 48) = c.toNat by omega]
    exact UInt8.ofNat_toNat
  · rw [if_neg (by omega)]
    refine ⟨?_, by omega⟩
    unfold hexD
    rw [if_neg (by omega), show 87 + (c.toNat - 87) = c.toNat by omega]
    exact UInt8.ofNat_toNat
/-- the last k hexadecimal digits -/
def hexN : Nat → Nat → List UInt8
  | 0, _ => []
  | k + 1, x => hexN k (x / 16) ++ [hexD (x % 16)]
theorem hexN_len : ∀ k x, (hexN k x).length = k
  | 0, _ => rfl
  | k + 1, x => by rw [hexN, List.length_append, hexN_len k]; rfl
theorem hexN_all : ∀ k x, (hexN k x).all hexB = true
  | 0, _ => rfl
  | k + 1, x => by
    rw [hexN, List.all_append, hexN_all k]
    simp [(hexD_B (x % 16) (Nat.mod_lt _ (by omega))).1]
theorem hexN_cons : ∀ k x, hexN (k + 1) x = hexD (x / 16 ^ k % 16) :: hexN k x
  | 0, x => by simp [hexN]
  | k + 1, x => by
    rw [hexN, hexN_cons k (x / 16), Nat.div_div_eq_div_mul, ← Nat.pow_succ', List.cons_append]
    rfl
def valH (l : List UInt8) : Nat := l.foldl (fun n c => 16 * n + hexV c) 0
theorem valH_snoc (l : List UInt8) (c : UInt8) : valH (l ++ [c]) = 16 * valH l + hexV c := by simp [valH]
theorem valH_hexN : ∀ k x, x < 16 ^ k → valH (hexN k x) = x
  | 0, x, h => by simp at h; subst h; rfl
  | k + 1, x, h => by
    rw [hexN, valH_snoc, valH_hexN k (x / 16) (by rw [Nat.div_lt_iff_lt_mul (by omega)]; rw [Nat.pow_succ] at h; exact h), (hexD_B (x % 16) (Nat.mod_lt _ (by omega))).2]
    omega
theorem valH_lt : ∀ (k : Nat) (l : List UInt8), l.length = k → l.all hexB = true → valH l < 16 ^ k ∧ hexN k (valH l) = l := by
  intro k
  induction k with
  | zero =>
    intro l hl _
    obtain rfl : l = [] := List.length_eq_zero_iff.1 hl
    exact ⟨by decide, rfl⟩
  | succ k ih =>
    intro l hl ha
    have hne : l ≠ [] := by intro e; subst e; simp at hl
    obtain ⟨m, c, rfl⟩ : ∃ m c, l = m ++ [c] := ⟨l.dropLast, l.getLast hne, (List.dropLast_concat_getLast hne).symm⟩
    rw [List.all_append, Bool.and_eq_true] at ha
    obtain ⟨h1, h2⟩ := hexV_D (show hexB c = true by simpa using ha.2)
    obtain ⟨h3, h4⟩ := ih m (by simpa using hl) ha.1
    rw [valH_snoc]
    refine ⟨by rw [Nat.pow_succ]; omega, ?_⟩
    rw [hexN, show (16 * valH m + hexV c) / 16 = valH m by omega, show (16 * valH m + hexV c) % 16 = hexV c by omega, h4, h1]
/-- 16 hexadecimal digits, as they are read -/
def unhT (l : List UInt8) : Option Nat := if l.length = 16 ∧ l.all hexB = true then some (valH l) else none
theorem unhT_hex {x : Nat} (h : x < 18446744073709551616) : unhT (hexN 16 x) = some x := by
  unfold unhT
  rw [if_pos ⟨hexN_len 16 x, hexN_all 16 x⟩, valH_hexN 16 x (by omega)]
theorem unhT_some {l : List UInt8} {x : Nat} (h : unhT l = some x) : hexN 16 x = l ∧ x < 18446744073709551616 := by
  unfold unhT at h
  split at h
  · rename_i hc
    cases h
    have := valH_lt 16 l hc.1 hc.2
    exact ⟨this.2, by have := this.1; omega⟩
  · cases h
/-- what the document reads: of up to 17 letters those that are digits -/
def refS (n : Nat) (c : UInt8) : Nat := if hexB c then (16 * n + hexV c) % 18446744073709551616 else n
def refH (l : List UInt8) : Nat := (l.take 17).foldl refS 0
theorem refS_fold : ∀ (l : List UInt8) (n : Nat), l.all hexB = true → l.foldl (fun n c => 16 * n + hexV c) n < 18446744073709551616 → l.foldl refS n = l.foldl (fun n c => 16 * n + hexV c) n
  | [], _, _, _ => rfl
  | c :: l, n, ha, hl => by
    rw [List.all_cons, Bool.and_eq_true] at ha
    rw [List.foldl_cons] at hl ⊢
    have hmono : ∀ (l : List UInt8) (a : Nat), a ≤ l.foldl (fun n c => 16 * n + hexV c) a := by
      intro l
      induction l with
      | nil => intro a; exact Nat.le_refl _
      | cons y ys ih => intro a; rw [List.foldl_cons]; exact Nat.le_trans (by omega) (ih _)
    have hle := hmono l (16 * n + hexV c)
    have e : refS n c = 16 * n + hexV c := by
      unfold refS
      rw [if_pos ha.1, Nat.mod_eq_of_lt (by omega)]
    rw [e, List.foldl_cons]
    exact refS_fold l _ ha.2 hl
theorem refH_hex {x : Nat} (h : x < 18446744073709551616) : refH (hexN 16 x) = x := by
  unfold refH
  rw [List.take_of_length_le (by rw [hexN_len]; omega)]
  have hv := valH_hexN 16 x (by omega)
  unfold valH at hv
  rw [refS_fold _ _ (hexN_all 16 x) (by rw [hv]; exact h), hv]
/-- a number's digits, at most nine of them -/
def dig9 (l : List UInt8) : Option Nat := if headB l = true ∧ l.length ≤ 9 ∧ l.all digitB = true then some (val7 l) else none
theorem dig9_some {l : List UInt8} {n : Nat} (h : dig9 l = some n) : dec n = l := by
  unfold dig9 at h
  split at h
  · rename_i hc
    cases h
    exact dec_of l hc.1 hc.2.2
  · cases h
theorem dig9_dec {n : Nat} (h : n < 1000000000) : dig9 (dec n) = some n := by
  unfold dig9
  rw [if_pos ⟨dec_headB n, (dec_len n 8 (by omega)).2, dec_all n⟩, dec_val]
theorem digX_dec_of {l : List UInt8} {n m : Nat} (h : digX l = .ok n) (hm : m ≤ 999999) (hn : n ≤ m) : l = dec n := by
  obtain ⟨h1, h2, h3⟩ := digX_ok h
  have ha := List.all_eq_true.2 h2
  by_cases h7 : 7 ≤ l.length
  · have := val7_big l h1 ha h7
    omega
  · rw [List.take_of_length_le (by omega)] at h3
    rw [h3, dec_of l h1 ha]
theorem toActT_some {s : List UInt8} {a b : Nat} (h : toActT s = .ok (a, b)) : a < 4 ∧ b < 1000000 ∧ s = actS a b := by
  unfold toActT at h
  cases h1 : afterT 97 s with
  | error k => rw [h1] at h; cases h
  | ok t =>
    rw [h1, bind_ok rfl] at h
    have hs : s = 97 :: t := by
      unfold afterT at h1
      split at h1
      · cases h1
      · split at h1
        · rename_i e
          cases h1
          rw [e]
        · cases h1
    cases h2 : twoT 46 t with
    | error k => rw [h2] at h; cases h
    | ok p =>
      obtain ⟨x, y⟩ := p
      rw [h2, bind_ok rfl] at h
      by_cases hx : x ≤ 3
      · rw [limX_yes hx, bind_ok rfl] at h
        by_cases hy : y ≤ 999999
        · rw [limX_yes hy, bind_ok rfl] at h
          cases h
          refine ⟨by omega, by omega, ?_⟩
          unfold twoT at h2
          cases h3 : cutT 46 t with
          | none => rw [h3] at h2; cases h2
          | some q =>
            obtain ⟨u, v⟩ := q
            rw [h3] at h2
            simp only at h2
            cases h4 : digX u with
            | error k => rw [h4] at h2; cases h2
            | ok n =>
              rw [h4] at h2
              simp only at h2
              cases h5 : digX v with
              | error k => rw [h5] at h2; cases h2
              | ok m =>
                rw [h5] at h2
                simp only at h2
                cases h2
                rw [hs, cutT_split 46 t u v h3, digX_dec_of h4 (by omega) hx, digX_dec_of h5 (by omega) hy]
                rfl
        · rw [show limX y 999999 = .error 0 by unfold limX; rw [if_neg hy]] at h
          cases h
      · rw [show limX x 3 = .error 0 by unfold limX; rw [if_neg hx]] at h
        cases h
end Go.Proofs.YtgmiockaecklaaaGreatDoor
