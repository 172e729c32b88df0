/-
  FltArith: sums and doubles of floats that are not negative, told by their rungs. No program.
-/
import Derived.Test.YtejdnpbkljdahaaDoorFltDef
namespace Go.Proofs.YtejdnpbkljdahaaDoor
open Go.RowKit Ieee

/-- cutting n by g digits, to the nearest, between two to the even one -/
def cutE (n g : Nat) : Nat := n / 2 ^ g + (2 ^ g < 2 * (n % 2 ^ g) || (2 ^ g == 2 * (n % 2 ^ g) && n / 2 ^ g % 2 == 1) : Bool).toNat
theorem cut_cutE (n g : Nat) (h : g ≤ n.log2 + 2) : Toward.even.cut false n g = cutE n g := by
  unfold Toward.cut cutE
  simp only [Nat.min_eq_left h, Nat.one_shiftLeft]
theorem cut_zero (n : Nat) : cutE n 0 = n := by
  unfold cutE; simp [Nat.mod_one]
theorem cut_mul (n d g : Nat) : cutE (n * 2 ^ d) (g + d) = cutE n g := by
  have hd : 0 < 2 ^ d := Nat.two_pow_pos d
  unfold cutE
  have e1 : n * 2 ^ d / 2 ^ (g + d) = n / 2 ^ g := by rw [Nat.pow_add, Nat.mul_div_mul_right _ _ hd]
  have e2 : n * 2 ^ d % 2 ^ (g + d) = (n % 2 ^ g) * 2 ^ d := by rw [Nat.pow_add, Nat.mul_mod_mul_right]
  have e3 : (2 ^ (g + d) < 2 * (n * 2 ^ d % 2 ^ (g + d))) ↔ (2 ^ g < 2 * (n % 2 ^ g)) := by
    rw [e2, Nat.pow_add, ← Nat.mul_assoc]; exact Nat.mul_lt_mul_right hd
  have e4 : (2 ^ (g + d) = 2 * (n * 2 ^ d % 2 ^ (g + d))) ↔ (2 ^ g = 2 * (n % 2 ^ g)) := by
    rw [e2, Nat.pow_add, ← Nat.mul_assoc]; exact Nat.mul_left_inj (by omega)
  have e5 : decide (2 ^ (g + d) < 2 * (n * 2 ^ d % 2 ^ (g + d))) = decide (2 ^ g < 2 * (n % 2 ^ g)) := by rw [decide_eq_decide]; exact e3
  have e6 : (2 ^ (g + d) == 2 * (n * 2 ^ d % 2 ^ (g + d))) = (2 ^ g == 2 * (n % 2 ^ g)) := by
    rw [Bool.eq_iff_iff]; simp only [beq_iff_eq]; exact e4
  rw [e5, e6, e1]
theorem log2_mul (m d : Nat) (h : m ≠ 0) : (m * 2 ^ d).log2 = m.log2 + d := by
  have h1 := Nat.log2_self_le h
  have h2 := @Nat.lt_log2_self m
  have hm : m * 2 ^ d ≠ 0 := Nat.mul_ne_zero h (by have := Nat.two_pow_pos d; omega)
  rw [Nat.log2_eq_iff hm]
  constructor
  · rw [Nat.pow_add]; exact Nat.mul_le_mul_right _ h1
  · rw [show m.log2 + d + 1 = (m.log2 + 1) + d by omega, Nat.pow_add]; exact Nat.mul_lt_mul_of_pos_right h2 (Nat.two_pow_pos d)

/-- the rung nearest to N units of the last place -/
def rnd (N : Nat) : Nat := min ((N.log2 - 52) * binB + cutE N (N.log2 - 52)) infR
theorem double_binade : double.binade = binB := by decide
theorem double_inf : double.infRung = infR := by decide
theorem nearest_eq (m : Nat) (p : Int) (d : Nat) (e : Nat) (hp : p = -1074 + (d : Int) - (e : Int)) (he : e = 0 ∨ ∃ m', m = m' * 2 ^ e) : double.nearest false m p = rnd (m * 2 ^ d / 2 ^ e) := by
  have key : ∀ m d : Nat, ∀ e : Nat, double.nearest false (m * 2 ^ e) (-1074 + (d : Int) - (e : Int)) = rnd (m * 2 ^ d) := by
    intro m d e
    unfold Format.nearest
    by_cases h0 : m = 0
    · subst h0; simp; decide
    · have hm : m * 2 ^ e ≠ 0 := Nat.mul_ne_zero h0 (by have := Nat.two_pow_pos e; omega)
      have hd : m * 2 ^ d ≠ 0 := Nat.mul_ne_zero h0 (by have := Nat.two_pow_pos d; omega)
      rw [if_neg hm]
      have l1 := log2_mul m e h0
      have l2 := log2_mul m d h0
      obtain ⟨k, hk⟩ : ∃ k, k = m.log2 + d - 52 := ⟨_, rfl⟩
      have hlast : max (-1074 + (d : Int) - (e : Int) + ((m * 2 ^ e).log2 : Nat) - (double.fractionBits : Nat)) double.leastPlace = -1074 + (k : Int) := by
        rw [l1]
        show max (-1074 + (d : Int) - (e : Int) + ((m.log2 + e : Nat) : Int) - ((52 : Nat) : Int)) (-1074) = _
        omega
      simp only [hlast]
      have a1 : (-1074 + (d : Int) - (e : Int) - (-1074 + (k : Int))).toNat = d - (e + k) := by omega
      have a2 : (-1074 + (k : Int) - (-1074 + (d : Int) - (e : Int))).toNat = (e + k) - d := by omega
      have a3 : ((-1074 + (k : Int)) - double.leastPlace).toNat = k := by show ((-1074 + (k : Int)) - (-1074)).toNat = k; omega
      rw [a1, a2, a3]
      have hcut : Toward.even.cut false ((m * 2 ^ e) <<< (d - (e + k))) (e + k - d) = cutE (m * 2 ^ d) k := by
        rw [Nat.shiftLeft_eq, Nat.mul_assoc, ← Nat.pow_add]
        rcases Nat.le_total (e + k) d with h | h
        · have b1 : e + k - d = 0 := by omega
          have b2 : e + (d - (e + k)) + k = d := by omega
          rw [b1, cut_cutE _ _ (by omega), cut_zero]
          conv => rhs; rw [← b2, Nat.pow_add, ← Nat.mul_assoc, show k = 0 + k by omega]
          rw [show (0 + k) = k by omega]
          have := cut_mul (m * 2 ^ (e + (d - (e + k)))) k 0
          rw [Nat.zero_add, cut_zero] at this
          exact this.symm
        · have b1 : d - (e + k) = 0 := by omega
          rw [b1, Nat.add_zero]
          rw [cut_cutE _ _ (by rw [l1]; omega)]
          rcases Nat.le_total e d with h2 | h2
          · obtain ⟨c, hc⟩ : ∃ c, d = e + c := ⟨d - e, by omega⟩
            have b2 : e + k - d + c = k := by omega
            have := cut_mul (m * 2 ^ e) c (e + k - d)
            rw [b2, Nat.mul_assoc, ← Nat.pow_add, ← hc] at this
            exact this.symm
          · obtain ⟨c, hc⟩ : ∃ c, e = d + c := ⟨e - d, by omega⟩
            have b2 : e + k - d = k + c := by omega
            have := cut_mul (m * 2 ^ d) c k
            rw [Nat.mul_assoc, ← Nat.pow_add, ← hc, ← b2] at this
            exact this
      rw [hcut]
      unfold rnd Format.word
      rw [l2, ← hk, double_binade, double_inf]
      exact if_neg (by decide)
  rw [hp]
  rcases he with rfl | ⟨m', rfl⟩
  · have := key m d 0; simpa using this
  · have := key m' d e
    rw [this, Nat.mul_right_comm, Nat.mul_div_cancel _ (Nat.two_pow_pos e)]

/-! ### a rung's magnitude is rounded to itself; rounding keeps the order -/
theorem binB_pow : binB = 2 ^ 52 := by decide
theorem magOf_form (B k g : Nat) (hB : 0 < B) (hg : g ≤ B) : magOf B ((k + 1) * B + g) = (B + g) * 2 ^ k := by
  unfold magOf
  have h1 : ¬ ((k + 1) * B + g < B) := by rw [Nat.succ_mul]; omega
  rw [if_neg h1]
  rcases Nat.lt_or_eq_of_le hg with h | h
  · have e1 : ((k + 1) * B + g) / B = k + 1 := by rw [Nat.mul_comm, Nat.mul_add_div hB, Nat.div_eq_of_lt h]
    have e2 : ((k + 1) * B + g) % B = g := by rw [Nat.mul_comm, Nat.mul_add_mod, Nat.mod_eq_of_lt h]
    rw [e1, e2]; simp
  · subst h
    have e0 : (k + 1) * g + g = g * (k + 2) := by rw [Nat.mul_comm g, Nat.succ_mul (k + 1)]
    rw [e0, Nat.mul_div_cancel_left _ hB, Nat.mul_mod_right]
    have : k + 2 - 1 = k + 1 := by omega
    rw [this, Nat.pow_succ, Nat.add_zero, Nat.mul_comm (2 ^ k) 2, ← Nat.mul_assoc, Nat.mul_two]
theorem log2_small {N : Nat} (h : N < 2 * binB) : N.log2 - 52 = 0 := by
  by_cases h0 : N = 0
  · subst h0; decide
  · have : N.log2 < 53 := (Nat.log2_lt h0).2 (by rw [binB_pow] at h; omega)
    omega
theorem log2_form {k g : Nat} (hg : g < binB) : ((binB + g) * 2 ^ k).log2 = 52 + k := by
  have h0 : binB + g ≠ 0 := by have := binB_pos; omega
  rw [log2_mul _ _ h0]
  have : (binB + g).log2 = 52 := by
    rw [Nat.log2_eq_iff h0, ← binB_pow]
    constructor
    · omega
    · rw [Nat.pow_succ, ← binB_pow]; omega
  rw [this]
theorem rnd_mag (r : Nat) : rnd (magOf binB r) = min r infR := by
  have hB := binB_pos
  unfold rnd
  by_cases h : r < binB
  · have e : magOf binB r = r := by unfold magOf; rw [if_pos h]
    rw [e, log2_small (by omega), cut_zero]; simp
  · obtain ⟨k, hk⟩ : ∃ k, r / binB = k + 1 := ⟨r / binB - 1, by have : 1 ≤ r / binB := (Nat.le_div_iff_mul_le hB).2 (by omega); omega⟩
    have hm := Nat.mod_lt r hB
    have hr : r = (k + 1) * binB + r % binB := by rw [← hk, Nat.mul_comm]; exact (Nat.div_add_mod r binB).symm
    have e : magOf binB r = (binB + r % binB) * 2 ^ k := by
      conv => lhs; rw [hr]
      exact magOf_form binB k _ hB (Nat.le_of_lt hm)
    rw [e, log2_form hm]
    have h2 : 52 + k - 52 = k := by omega
    have h3 := cut_mul (binB + r % binB) k 0
    rw [Nat.zero_add, cut_zero] at h3
    rw [h2, h3]
    congr 1
    rw [Nat.succ_mul] at hr; omega
theorem binB_two : 2 ^ 53 = 2 * binB := by decide
theorem mag_over {B : Nat} (hB : 0 < B) (k N : Nat) (h : (k = 0 ∧ N < 2 * B) ∨ (B ≤ N / 2 ^ k ∧ N / 2 ^ k < 2 * B)) : N < magOf B (k * B + N / 2 ^ k + 1) := by
  rcases h with ⟨rfl, h⟩ | ⟨g1, g2⟩
  · simp only [Nat.zero_mul, Nat.pow_zero, Nat.div_one, Nat.zero_add]
    by_cases h1 : N + 1 < B
    · unfold magOf; rw [if_pos h1]; omega
    · have := magOf_form B 0 (N + 1 - B) hB (by omega)
      rw [show (0 + 1) * B + (N + 1 - B) = N + 1 by omega] at this
      rw [this, Nat.pow_zero, Nat.mul_one]; omega
  · have hp : 0 < 2 ^ k := Nat.two_pow_pos k
    have hd := Nat.div_add_mod N (2 ^ k)
    have hm := Nat.mod_lt N hp
    generalize N / 2 ^ k = q at *
    have := magOf_form B k (q - B + 1) hB (by omega)
    rw [show (k + 1) * B + (q - B + 1) = k * B + q + 1 by rw [Nat.succ_mul]; omega] at this
    rw [this, show B + (q - B + 1) = q + 1 by omega, Nat.succ_mul, Nat.mul_comm q]
    omega
theorem log2_range {N : Nat} (hs : ¬ N < 2 * binB) : ∃ k, N.log2 = 52 + k ∧ binB * 2 ^ k ≤ N ∧ N < 2 * binB * 2 ^ k := by
  have hb := binB_pos
  have hN0 : N ≠ 0 := by intro h; apply hs; rw [h]; exact Nat.mul_pos (by decide) hb
  have hl : 53 ≤ N.log2 := by rw [Nat.le_log2 hN0, binB_two]; exact Nat.le_of_not_lt hs
  have h1 := Nat.log2_self_le hN0
  have h2 := @Nat.lt_log2_self N
  obtain ⟨k, hk⟩ : ∃ k, N.log2 = 52 + k := ⟨N.log2 - 52, by omega⟩
  rw [hk, Nat.pow_add, ← binB_pow] at h1
  rw [hk, show 52 + k + 1 = 53 + k by omega, Nat.pow_add, binB_two] at h2
  exact ⟨k, hk, h1, h2⟩
theorem rung_over (N : Nat) : N < magOf binB ((N.log2 - 52) * binB + N / 2 ^ (N.log2 - 52) + 1) := by
  apply mag_over binB_pos
  by_cases hs : N < 2 * binB
  · exact .inl ⟨log2_small hs, hs⟩
  · obtain ⟨k, hk, h1, h2⟩ := log2_range hs
    have hp : 0 < 2 ^ k := Nat.two_pow_pos k
    rw [hk, Nat.add_sub_cancel_left]
    exact .inr ⟨(Nat.le_div_iff_mul_le hp).2 h1, (Nat.div_lt_iff_lt_mul hp).2 h2⟩
theorem mag_le {B : Nat} (hB : 0 < B) {r s : Nat} (h : r ≤ s) : magOf B r ≤ magOf B s := by
  rcases Nat.lt_or_eq_of_le h with h3 | h3
  · exact Nat.le_of_lt (magOf_lt hB h3)
  · exact Nat.le_of_eq (by rw [h3])
theorem cutE_ge (n g : Nat) : n / 2 ^ g ≤ cutE n g := by unfold cutE; exact Nat.le_add_right _ _
theorem rnd_ge {N r : Nat} (h : magOf binB r ≤ N) (hr : r ≤ infR) : r ≤ rnd N := by
  have hfl := rung_over N
  have hc := cutE_ge N (N.log2 - 52)
  unfold rnd
  generalize (N.log2 - 52) * binB = a at *
  generalize N / 2 ^ (N.log2 - 52) = b at *
  generalize cutE N (N.log2 - 52) = c at *
  rcases Nat.lt_or_ge (a + b) r with h1 | h1
  · have h2 : magOf binB (a + b + 1) ≤ magOf binB r := mag_le binB_pos h1
    exact absurd (Nat.lt_of_lt_of_le hfl (Nat.le_trans h2 h)) (Nat.lt_irrefl _)
  · exact Nat.le_min.2 ⟨by omega, hr⟩

/-! ### sums and doubles -/
theorem rung_small {x : Nat} (h : x ≤ infR) : rung x = x := by unfold rung; unfold infR at h; omega
theorem fneg_small {x : Nat} (h : x ≤ infR) : fneg x = false := by
  unfold fneg; unfold infR at h
  have : x / 9223372036854775808 = 0 := by omega
  rw [this]; rfl
def addN (x y : Nat) : Nat := if x = infR ∨ y = infR then infR else rnd (magOf binB x + magOf binB y)
def dblN (x : Nat) : Nat := addN x x
theorem write_inf : double.write (.infinity false) = infR := by decide
theorem signed_false (m u : Nat) : signed false m u = ((m * 2 ^ u : Nat) : Int) := by
  unfold signed; rw [Nat.shiftLeft_eq]; rfl
theorem write_pos (m : Nat) (d : Nat) : double.write (.number false m (-1074 + (d : Int))) = rnd (m * 2 ^ d) := by
  show double.nearest false m _ = _
  rw [nearest_eq m _ d 0 (by omega) (.inl rfl), Nat.pow_zero, Nat.div_one]
theorem sum_pos (m n u v : Nat) : ∃ t d : Nat, Datum.sum (.number false m (-1074 + (u : Int))) (.number false n (-1074 + (v : Int))) = some (.number false t (-1074 + (d : Int))) ∧ t * 2 ^ d = m * 2 ^ u + n * 2 ^ v := by
  obtain ⟨d, hd⟩ : ∃ d : Nat, d = min u v := ⟨_, rfl⟩
  have hb : min (-1074 + (u : Int)) (-1074 + (v : Int)) = -1074 + (d : Int) := by omega
  have hdu : d ≤ u := by omega
  have hdv : d ≤ v := by omega
  refine ⟨m * 2 ^ (u - d) + n * 2 ^ (v - d), d, ?_, ?_⟩
  · unfold Datum.sum
    simp only [hb]
    have a1 : (-1074 + (u : Int) - (-1074 + (d : Int))).toNat = u - d := by omega
    have a2 : (-1074 + (v : Int) - (-1074 + (d : Int))).toNat = v - d := by omega
    rw [a1, a2, signed_false, signed_false]
    generalize m * 2 ^ (u - d) = a
    generalize n * 2 ^ (v - d) = b
    have h1 : (((a : Nat) : Int) + ((b : Nat) : Int)).natAbs = a + b := by omega
    have h2 : decide (((a : Nat) : Int) + ((b : Nat) : Int) < 0) = false := by simp; omega
    rw [h1, h2]
    simp
  · rw [Nat.add_mul, Nat.mul_assoc, Nat.mul_assoc, ← Nat.pow_add, ← Nat.pow_add, Nat.sub_add_cancel hdu, Nat.sub_add_cancel hdv]
theorem add_eq {x y : Nat} (hx : x ≤ infR) (hy : y ≤ infR) : double.add x y = some (addN x y) := by
  unfold Format.add addN
  rcases Nat.lt_or_eq_of_le hx with h1 | h1
  · obtain ⟨m, u, e1, e2⟩ := read_num x (by rw [rung_small hx]; exact h1)
    rw [fneg_small hx] at e1
    rw [rung_small hx] at e2
    rcases Nat.lt_or_eq_of_le hy with h2 | h2
    · obtain ⟨n, v, e3, e4⟩ := read_num y (by rw [rung_small hy]; exact h2)
      rw [fneg_small hy] at e3
      rw [rung_small hy] at e4
      obtain ⟨t, d, e5, e6⟩ := sum_pos m n u v
      rw [e1, e3, e5, if_neg (by intro h; rcases h with h | h; exact Nat.ne_of_lt h1 h; exact Nat.ne_of_lt h2 h), ← e2, ← e4, ← e6, ← write_pos]
      rfl
    · have e3 := read_inf y (by rw [rung_small hy]; exact h2)
      rw [fneg_small hy] at e3
      rw [e1, e3, if_pos (.inr h2)]
      show some (double.write (.infinity false)) = _
      rw [write_inf]
  · have e1 := read_inf x (by rw [rung_small hx]; exact h1)
    rw [fneg_small hx] at e1
    rw [e1, if_pos (.inl h1)]
    rcases Nat.lt_or_eq_of_le hy with h2 | h2
    · obtain ⟨n, v, e3, e4⟩ := read_num y (by rw [rung_small hy]; exact h2)
      rw [e3]
      show some (double.write (.infinity false)) = _
      rw [write_inf]
    · have e3 := read_inf y (by rw [rung_small hy]; exact h2)
      rw [fneg_small hy] at e3
      rw [e3]
      show some (double.write (.infinity false)) = _
      rw [write_inf]
theorem addN_comm (x y : Nat) : addN x y = addN y x := by
  unfold addN
  rw [Nat.add_comm (magOf binB x)]
  by_cases h : x = infR ∨ y = infR
  · rw [if_pos h, if_pos h.symm]
  · rw [if_neg h, if_neg (fun h' => h h'.symm)]
theorem addN_ge {x y : Nat} (hx : x ≤ infR) : x ≤ addN x y := by
  unfold addN
  split
  · exact hx
  · exact rnd_ge (Nat.le_add_right _ _) hx
theorem rnd_le (N : Nat) : rnd N ≤ infR := Nat.min_le_right _ _
theorem addN_le (x y : Nat) : addN x y ≤ infR := by
  unfold addN
  split
  · exact Nat.le_refl _
  · exact rnd_le _
def twoF : Nat := 4611686018427387904
theorem read_two : double.read twoF = .number false binB (-51) := by decide
theorem pow51 : binB = 2 * 2 ^ 51 := by decide
theorem mul_eq {x : Nat} (hx : x ≤ infR) : double.mul x twoF = some (dblN x) := by
  unfold Format.mul dblN addN
  rw [read_two]
  rcases Nat.lt_or_eq_of_le hx with h1 | h1
  · obtain ⟨m, u, e1, e2⟩ := read_num x (by rw [rung_small hx]; exact h1)
    rw [fneg_small hx] at e1
    rw [rung_small hx] at e2
    rw [e1, if_neg (by intro h; rcases h with h | h <;> exact Nat.ne_of_lt h1 h)]
    show some (double.nearest false (m * binB) (-1074 + (u : Int) + -51)) = _
    rw [nearest_eq (m * binB) _ u 51 (by omega) (.inr ⟨m * 2, by rw [pow51, Nat.mul_assoc]⟩)]
    congr 2
    rw [← e2, pow51, ← Nat.mul_assoc, Nat.mul_right_comm, Nat.mul_div_cancel _ (Nat.two_pow_pos 51), ← Nat.mul_two, Nat.mul_right_comm]
  · have e1 := read_inf x (by rw [rung_small hx]; exact h1)
    rw [fneg_small hx] at e1
    rw [e1, if_pos (.inl h1)]
    show Option.map double.write (if binB = 0 then none else some (Datum.infinity (false ^^ false))) = _
    rw [if_neg (by decide)]
    show some (double.write (.infinity false)) = _
    rw [write_inf]

/-! ### doubling, again and again -/
theorem dbl_ge {x : Nat} (hx : x ≤ infR) : x ≤ dblN x := addN_ge hx
theorem dbl_le (x : Nat) : dblN x ≤ infR := addN_le x x
theorem dbl_zero : dblN 0 = 0 := by decide
theorem mag_dbl (x : Nat) : magOf binB x + magOf binB x = magOf binB (if x < binB then 2 * x else x + binB) := by
  have hB := binB_pos
  by_cases h : x < binB
  · rw [if_pos h]
    have e : magOf binB x = x := by unfold magOf; rw [if_pos h]
    rw [e]
    by_cases h2 : 2 * x < binB
    · unfold magOf; rw [if_pos h2]; omega
    · have := magOf_form binB 0 (2 * x - binB) hB (by omega)
      rw [show (0 + 1) * binB + (2 * x - binB) = 2 * x by omega] at this
      rw [this, Nat.pow_zero, Nat.mul_one]; omega
  · rw [if_neg h]
    obtain ⟨k, hk⟩ : ∃ k, x / binB = k + 1 := ⟨x / binB - 1, by have : 1 ≤ x / binB := (Nat.le_div_iff_mul_le hB).2 (by omega); omega⟩
    have hm := Nat.mod_lt x hB
    have hr : x = (k + 1) * binB + x % binB := by rw [← hk, Nat.mul_comm]; exact (Nat.div_add_mod x binB).symm
    have e1 := magOf_form binB k (x % binB) hB (Nat.le_of_lt hm)
    have e2 := magOf_form binB (k + 1) (x % binB) hB (Nat.le_of_lt hm)
    rw [← hr] at e1
    have e3 : (k + 1 + 1) * binB + x % binB = x + binB := by rw [Nat.succ_mul (k + 1)]; omega
    rw [e3] at e2
    rw [e1, e2, Nat.pow_succ, ← Nat.mul_two, Nat.mul_assoc]
theorem dbl_eq {x : Nat} (hx : x < infR) : dblN x = min (if x < binB then 2 * x else x + binB) infR := by
  unfold dblN addN
  rw [if_neg (by intro h; rcases h with h | h <;> exact Nat.ne_of_lt hx h), mag_dbl, rnd_mag]
theorem dbl_inf : dblN infR = infR := by unfold dblN addN; rw [if_pos (.inl rfl)]
def dblI (x : Nat) : Nat → Nat
  | 0 => x
  | n + 1 => dblN (dblI x n)
theorem dblI_le {x : Nat} (hx : x ≤ infR) (n : Nat) : dblI x n ≤ infR := by
  cases n with
  | zero => exact hx
  | succ n => exact dbl_le _
theorem dblI_succ (x n : Nat) : dblI x (n + 1) = dblI (dblN x) n := by
  induction n with
  | zero => rfl
  | succ n ih => show dblN (dblI x (n + 1)) = dblN (dblI (dblN x) n); rw [ih]
theorem dblI_mono {x : Nat} (hx : x ≤ infR) {n m : Nat} (h : n ≤ m) : dblI x n ≤ dblI x m := by
  induction h with
  | refl => exact Nat.le_refl _
  | step _ ih => exact Nat.le_trans ih (dbl_ge (dblI_le hx _))
theorem dblI_pow {x : Nat} (h1 : 1 ≤ x) (hx : x ≤ infR) (j : Nat) : min (2 ^ j) binB ≤ dblI x j := by
  induction j with
  | zero => exact Nat.le_trans (Nat.min_le_left _ _) h1
  | succ j ih =>
    show _ ≤ dblN (dblI x j)
    have hle := dblI_le hx j
    have hbi : binB ≤ infR := by decide
    generalize dblI x j = v at *
    by_cases hv : v < binB
    · rw [dbl_eq (Nat.lt_of_lt_of_le hv hbi), if_pos hv, Nat.pow_succ]
      omega
    · exact Nat.le_trans (Nat.min_le_right _ _) (Nat.le_trans (Nat.le_of_not_lt hv) (dbl_ge hle))
theorem dblI_lin {x : Nat} (h1 : binB ≤ x) (hx : x ≤ infR) (j : Nat) : min ((j + 1) * binB) infR ≤ dblI x j := by
  induction j with
  | zero => rw [Nat.zero_add, Nat.one_mul]; exact Nat.le_trans (Nat.min_le_left _ _) h1
  | succ j ih =>
    show _ ≤ dblN (dblI x j)
    have hle := dblI_le hx j
    have hge : binB ≤ dblI x j := Nat.le_trans h1 (by have := dblI_mono hx (Nat.zero_le j); exact this)
    generalize dblI x j = v at *
    rcases Nat.lt_or_eq_of_le hle with hv | hv
    · rw [dbl_eq hv, if_neg (Nat.not_lt.2 hge), Nat.succ_mul (j + 1)]
      omega
    · rw [hv, dbl_inf]; exact Nat.min_le_right _ _
theorem dblI_add (x a b : Nat) : dblI x (a + b) = dblI (dblI x a) b := by
  induction b with
  | zero => rfl
  | succ b ih => show dblN (dblI x (a + b)) = _; rw [ih]; rfl
theorem inf_lin : infR = 2047 * binB := by decide
theorem dblI_all {x : Nat} (h1 : 1 ≤ x) (hx : x ≤ infR) : dblI x 2200 = infR := by
  have a1 := dblI_pow h1 hx 52
  rw [← binB_pow, Nat.min_self] at a1
  have a2 := dblI_lin a1 (dblI_le hx 52) 2046
  rw [← dblI_add, ← inf_lin, Nat.min_self] at a2
  exact Nat.le_antisymm (dblI_le hx _) (Nat.le_trans a2 (dblI_mono hx (by omega)))

/-- the text's loop -/
def goB (limit : Nat) : Nat → Nat → Nat
  | x, 0 => x
  | x, n + 1 => if 0 < x ∧ x < limit then goB limit (dblN x) n else x
theorem goB_le {x : Nat} (limit n : Nat) (hx : x ≤ infR) : goB limit x n ≤ infR := by
  induction n generalizing x with
  | zero => exact hx
  | succ n ih => unfold goB; split; exact ih (dbl_le x); exact hx
theorem dblI_zero (n : Nat) : dblI 0 n = 0 := by
  induction n with
  | zero => rfl
  | succ n ih => show dblN (dblI 0 n) = 0; rw [ih]; exact dbl_zero
theorem goB_min {x : Nat} (limit n : Nat) (hx : x ≤ infR) : min (goB limit x n) limit = min (dblI x n) limit := by
  induction n generalizing x with
  | zero => rfl
  | succ n ih =>
    unfold goB
    split
    · rw [ih (dbl_le x), dblI_succ]
    · rename_i h
      have hm := dblI_mono hx (Nat.zero_le (n + 1))
      have h0 : dblI x 0 = x := rfl
      rw [h0] at hm
      by_cases hz : x = 0
      · rw [hz, dblI_zero]
      · have : limit ≤ x := by omega
        rw [Nat.min_eq_right this, Nat.min_eq_right (Nat.le_trans this hm)]
theorem goB_ref {x : Nat} (limit n : Nat) (hx : x ≤ infR) (hl : limit ≤ infR) : min (goB limit x n) limit = min (dblI x (min n 2200)) limit := by
  rw [goB_min limit n hx]
  rcases Nat.le_total n 2200 with h | h
  · rw [Nat.min_eq_left h]
  · rw [Nat.min_eq_right h]
    by_cases hz : x = 0
    · rw [hz, dblI_zero, dblI_zero]
    · have h1 := dblI_all (Nat.pos_of_ne_zero hz) hx
      have h2 := dblI_mono hx h
      rw [h1] at h2
      rw [h1, Nat.min_eq_right hl, Nat.min_eq_right (Nat.le_trans hl h2)]
end Go.Proofs.YtejdnpbkljdahaaDoor
