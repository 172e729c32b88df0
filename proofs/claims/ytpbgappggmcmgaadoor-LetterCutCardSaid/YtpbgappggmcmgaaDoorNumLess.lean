/-
  NumLess: bytes' number, and numbers' order by their bytes. No program.
-/
import Derived.Test.YtpbgappggmcmgaaDoorNumB
import Derived.WalkLawsBesides
namespace Go.Proofs.YtpbgappggmcmgaaDoor
open Go.RowKit

/-- bytes' number, the greatest byte first -/
def valB (l : List UInt8) : Nat := l.foldl (fun u c => 256 * u + c.toNat) 0
theorem valB_from (l : List UInt8) (u : Nat) : l.foldl (fun u c => 256 * u + c.toNat) u = u * 256 ^ l.length + valB l := by
  unfold valB
  induction l generalizing u with
  | nil => simp
  | cons c l ih =>
    rw [List.foldl_cons, List.foldl_cons, ih, ih (256 * 0 + c.toNat), List.length_cons, Nat.pow_succ]
    rw [Nat.add_mul, Nat.mul_zero, Nat.zero_add]
    rw [Nat.mul_comm 256 u, Nat.mul_assoc, Nat.mul_comm 256, Nat.add_assoc]
theorem valB_cons (c : UInt8) (l : List UInt8) : valB (c :: l) = c.toNat * 256 ^ l.length + valB l := by
  have := valB_from l c.toNat
  unfold valB
  rw [List.foldl_cons, Nat.mul_zero, Nat.zero_add]
  exact this
theorem valB_app (l : List UInt8) (c : UInt8) : valB (l ++ [c]) = 256 * valB l + c.toNat := by
  unfold valB; rw [List.foldl_append]; rfl
theorem valB_nil : valB [] = 0 := rfl
theorem valB_lt (l : List UInt8) : valB l < 256 ^ l.length := by
  induction l with
  | nil => decide
  | cons c l ih =>
    rw [valB_cons, List.length_cons, Nat.pow_succ]
    have h := c.toNat_lt
    have : c.toNat * 256 ^ l.length + 256 ^ l.length ≤ 256 * 256 ^ l.length := by
      rw [← Nat.succ_mul]; exact Nat.mul_le_mul_right _ h
    omega
theorem valB_take (l : List UInt8) (k : Nat) (h : k < l.length) : valB (l.take (k + 1)) = 256 * valB (l.take k) + l[k].toNat := by
  rw [List.take_succ_eq_append_getElem h, valB_app]
theorem valB_numB (n : Nat) : valB (numB n) = n := by
  induction n using Nat.strongRecOn with
  | ind n ih =>
    by_cases h0 : n = 0
    · rw [h0, numB_zero]; rfl
    · rw [numB_pos h0, valB_app, ih (n / 256) (by omega), byte_wrap]; omega
theorem numB_inj {a b : Nat} (h : numB a = numB b) : a = b := by
  have := congrArg valB h
  rwa [valB_numB, valB_numB] at this
theorem head_app (k m : List UInt8) (h : k ≠ []) : (k ++ m).head? = k.head? := by
  cases k with
  | nil => exact absurd rfl h
  | cons c k => rfl
/-- no nought at the head -/
theorem numB_head (n : Nat) : (numB n).head? ≠ some 0 := by
  induction n using Nat.strongRecOn with
  | ind n ih =>
    by_cases h0 : n = 0
    · rw [h0, numB_zero]; simp
    · rw [numB_pos h0]
      by_cases h1 : n / 256 = 0
      · rw [h1, numB_zero]
        intro h
        simp only [List.nil_append, List.head?_cons, Option.some.injEq] at h
        have := congrArg UInt8.toNat h
        rw [byte_wrap] at this
        have : n % 256 = 0 := this
        omega
      · have := ih (n / 256) (by omega)
        have hne : numB (n / 256) ≠ [] := by rw [numB_pos h1]; simp
        rw [head_app _ _ hne]
        exact this
/-- bytes without a nought at the head are their number's -/
theorem numB_valB (l : List UInt8) (h : l.head? ≠ some 0) : numB (valB l) = l := by
  have gen : ∀ (m : Nat) (l : List UInt8), l.length = m → l.head? ≠ some 0 → numB (valB l) = l := by
    intro m
    induction m with
    | zero => intro l hl _; rw [List.eq_nil_of_length_eq_zero hl, valB_nil, numB_zero]
    | succ m ih =>
      intro l hl hh
      have hne : l ≠ [] := by intro e; subst e; simp at hl
      obtain ⟨k, c, rfl⟩ : ∃ k c, l = k ++ [c] := ⟨l.dropLast, l.getLast hne, (List.dropLast_concat_getLast hne).symm⟩
      have hk : k.length = m := by simpa using hl
      have hc := c.toNat_lt
      have hd : (256 * valB k + c.toNat) / 256 = valB k := by omega
      have hb : UInt8.ofNat (256 * valB k + c.toNat) = c := by
        apply UInt8.toNat_inj.1
        rw [byte_wrap]; omega
      rw [valB_app]
      by_cases hk0 : k = []
      · subst hk0
        have hc0 : c.toNat ≠ 0 := by
          intro e
          apply hh
          simp only [List.nil_append, List.head?_cons, Option.some.injEq]
          exact UInt8.toNat_inj.1 e
        rw [numB_pos (by rw [valB_nil]; omega), hd, hb, valB_nil, numB_zero]
      · have hkh : k.head? ≠ some 0 := by rwa [head_app _ _ hk0] at hh
        have hkk := ih k hk hkh
        have hv : valB k ≠ 0 := by
          intro e; rw [e, numB_zero] at hkk; exact hk0 hkk.symm
        rw [numB_pos (by omega), hd, hb, hkk]
  exact gen _ l rfl h

theorem valB_big (c : UInt8) (l : List UInt8) (h : c ≠ 0) : 256 ^ l.length ≤ valB (c :: l) := by
  rw [valB_cons]
  have : 1 ≤ c.toNat := by
    rcases Nat.eq_zero_or_pos c.toNat with h0 | h0
    · exact absurd (UInt8.toNat_inj.1 h0) h
    · exact h0
  have := Nat.mul_le_mul_right (256 ^ l.length) this
  omega
theorem numB_short {a b : Nat} (h : (numB a).length < (numB b).length) : a < b := by
  have h1 := valB_lt (numB a)
  rw [valB_numB] at h1
  have hb := numB_head b
  have hv := valB_numB b
  cases hl : numB b with
  | nil => rw [hl] at h; simp at h
  | cons c l =>
    rw [hl] at hb hv h
    have hc : c ≠ 0 := by intro e; subst e; simp at hb
    have h2 := valB_big c l hc
    rw [hv] at h2
    have h3 : 256 ^ (numB a).length ≤ 256 ^ l.length := Nat.pow_le_pow_right (by omega) (by simpa using Nat.le_of_lt_succ h)
    omega
theorem less_val : ∀ (x y : List UInt8), x.length = y.length → Op.bytesLess x y = decide (valB x < valB y)
  | [], [], _ => rfl
  | a :: x, b :: y, h => by
    have hl : x.length = y.length := by simpa using h
    rw [Op.bytesLess, less_val x y hl, valB_cons, valB_cons, hl]
    have hx := valB_lt x
    have hy := valB_lt y
    rw [hl] at hx
    generalize 256 ^ y.length = p at *
    rcases Nat.lt_trichotomy a.toNat b.toNat with hab | hab | hab
    · have e : (a < b) := UInt8.lt_iff_toNat_lt.2 hab
      have := Nat.mul_le_mul_right p (Nat.succ_le_of_lt hab)
      rw [Nat.succ_mul] at this
      simp only [e, decide_true, Bool.true_or, true_eq_decide_iff]
      omega
    · have e : a = b := UInt8.toNat_inj.1 hab
      subst e
      have : ¬ a < a := by rw [UInt8.lt_iff_toNat_lt]; omega
      simp only [this, decide_false, Bool.false_or, beq_self_eq_true, Bool.true_and]
      rw [Bool.eq_iff_iff]; simp only [decide_eq_true_eq]; omega
    · have e : ¬ a < b := by rw [UInt8.lt_iff_toNat_lt]; omega
      have e2 : (a == b) = false := by rw [beq_eq_false_iff_ne]; intro e; subst e; omega
      have := Nat.mul_le_mul_right p (Nat.succ_le_of_lt hab)
      rw [Nat.succ_mul] at this
      simp only [e, decide_false, e2, Bool.false_and, Bool.or_self, false_eq_decide_iff]
      omega
  | [], _ :: _, h => by simp at h
  | _ :: _, [], h => by simp at h

/-- THE ORDER OF NUMBERS BY THEIR BYTES -/
theorem numB_less (a b : Nat) : (decide ((numB a).length < (numB b).length) || ((numB a).length == (numB b).length && Op.bytesLess (numB a) (numB b))) = decide (a < b) := by
  rcases Nat.lt_trichotomy (numB a).length (numB b).length with h | h | h
  · have := numB_short h
    simp [h, this]
  · rw [less_val _ _ h, valB_numB, valB_numB]
    simp [h]
  · have := numB_short h
    have h1 : ¬ (numB a).length < (numB b).length := by omega
    have h2 : ¬ (numB a).length = (numB b).length := by omega
    have h3 : ¬ a < b := by omega
    simp [h1, h2, h3]
theorem numB_same (a b : Nat) : (numB a == numB b) = decide (a = b) := by
  rw [Bool.eq_iff_iff]; simp only [beq_iff_eq, decide_eq_true_eq]
  exact ⟨numB_inj, fun h => by rw [h]⟩
end Go.Proofs.YtpbgappggmcmgaaDoor
