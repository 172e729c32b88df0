/-
  LawOne: the walk of FloatsOne.
-/
import Derived.Test.YteoiedlffifpoaaDoorFltAlive
namespace Go.Proofs.YteoiedlffifpoaaDoor
open Go.RowKit Ieee
attribute [local go_sem] flt_def fgt_def feq_def fne_def

theorem cmp_cases (p q : Int) : (cmpI p q = -1 ∧ p < q) ∨ (cmpI p q = 0 ∧ p = q) ∨ (cmpI p q = 1 ∧ q < p) := by
  unfold cmpI
  rcases Int.lt_trichotomy p q with h | h | h
  · exact .inl ⟨if_pos h, h⟩
  · exact .inr (.inl ⟨by rw [if_neg (by omega), if_neg (by omega)], h⟩)
  · exact .inr (.inr ⟨by rw [if_neg (by omega), if_pos h], h⟩)
theorem lt_eq {p q r : Int} (h : p < q) (e : q = r) : p < r := e ▸ h
theorem eq_lt {p q r : Int} (e : p = q) (h : q < r) : p < r := e ▸ h
theorem cmp_self0 (p : Int) : cmpI p p = 0 := by unfold cmpI; rw [if_neg (by omega), if_neg (by omega)]
theorem flt_cmp {a b : Nat} (ha : a < 18446744073709551616) (hb : b < 18446744073709551616) (h : flt a b = true) : cmpI (place a) (place b) = -1 := by
  rw [← ordN_eq ha hb]; unfold ordN; rw [if_pos h]
theorem fgt_cmp {a b : Nat} (ha : a < 18446744073709551616) (hb : b < 18446744073709551616) (h : fgt a b = true) : cmpI (place a) (place b) = 1 := by
  rw [← ordN_eq ha hb]; unfold ordN
  have : flt a b = false := by
    unfold flt fgt at *
    simp only [beq_iff_eq] at h
    rw [h]; rfl
  rw [this, if_pos h]; rfl
theorem plain_nan {x : Nat} (h : isNan x = true) : plainN x = nanC := by unfold plainN; rw [if_pos h]
theorem plain_num {x : Nat} (h : isNan x = false) : plainN x = if x = 9223372036854775808 then 0 else x := by unfold plainN; rw [h]; rfl
theorem plain_iff {a b : Nat} (ha : a < 18446744073709551616) (hb : b < 18446744073709551616) (h : ¬ (feq a 0 = true ∧ feq b 0 = true)) : (plainN a = plainN b) = (place a = place b) := by
  rw [feq_zero ha, feq_zero hb] at h
  simp only [Bool.or_eq_true, decide_eq_true_eq] at h
  apply propext
  cases na : isNan a
  · have pa := place_num na
    have qa := plain_num na
    cases nb : isNan b
    · have pb := place_num nb
      have qb := plain_num nb
      rw [pa, pb, qa, qb]
      constructor
      · intro e
        split at e <;> split at e <;> split <;> split <;> omega
      · intro e
        have : a = b := by split at e <;> split at e <;> omega
        rw [this]
    · have pa' := place_lt ha na
      rw [place_nan nb, plain_nan nb]
      constructor
      · intro e
        exfalso
        have h1 : a = nanC ∨ (0 : Nat) = nanC := by rw [qa] at e; split at e; exact .inr e; exact .inl e
        rcases h1 with h1 | h1
        · rw [h1] at na; revert na; decide
        · revert h1; decide
      · intro e; omega
  · cases nb : isNan b
    · have pb := place_num nb
      have qb := plain_num nb
      have pb' := place_lt hb nb
      rw [place_nan na, plain_nan na]
      constructor
      · intro e
        exfalso
        have h1 : b = nanC ∨ (0 : Nat) = nanC := by rw [qb] at e; split at e; exact .inr e.symm; exact .inl e.symm
        rcases h1 with h1 | h1
        · rw [h1] at nb; revert nb; decide
        · revert h1; decide
      · intro e; omega
    · rw [place_nan na, place_nan nb, plain_nan na, plain_nan nb]; simp
theorem bits_any (x : Nat) (hx : x < 18446744073709551616) (w : World) :
    Calls Tryd.prog 13 #[.float .f64 x] w (Gives w (.int .u64 (plainN x : Int))) := by
  have h1 := run_bits (plainN x)
  go_enter Tryd.func13, Tryd.ntmps13
  go_wp2_with fail
  refine (plain_any x hx w).mono ?_
  rintro e w1 ⟨rfl, hb1⟩
  go_wp2_with fail
  go_ret
  exact ⟨rfl, hb1⟩
set_option maxHeartbeats 2000000 in
theorem floatsone_any (a b c : Nat) (ha : a < 18446744073709551616) (hb : b < 18446744073709551616) (hc : c < 18446744073709551616) (w : World) (E : Nat → Addr) (he : ErrsOn [0, 3] w E) :
    Calls Tryd.prog 4 #[.float .f64 a, .float .f64 b, .float .f64 c] w (Gives w (.bool true)) := by
  have HA := alive_any w E he
  clear he
  go_enter Tryd.func4, Tryd.ntmps4
  go_wp2_with fail
  refine HA.mono ?_
  rintro e w1 ⟨rfl, hb1⟩
  go_wp2_with fail
  refine (order_any a b ha hb w1).mono ?_
  rintro e w2 ⟨rfl, hb2'⟩
  have hb2 := hb1.trans (hb2'.mono hb1.size)
  clear hb2'
  go_wp2_with fail
  refine (order_any b c hb hc w2).mono ?_
  rintro e w3 ⟨rfl, hb3'⟩
  have hb3 := hb2.trans (hb3'.mono hb2.size)
  clear hb3'
  go_wp2_with fail
  refine (order_any a c ha hc w3).mono ?_
  rintro e w4 ⟨rfl, hb4'⟩
  have hb4 := hb3.trans (hb4'.mono hb3.size)
  clear hb4'
  have hpl : (((plainN a : Nat) : Int) == ((plainN b : Nat) : Int)) = (plainN a == plainN b) := by
    rw [Bool.eq_iff_iff]; simp only [beq_iff_eq]; omega
  have hlt := @flt_cmp a b ha hb
  have hgt := @fgt_cmp a b ha hb
  have hiff := @plain_iff a b ha hb
  have hself := cmp_self0 (place a)
  have HA2 := fun w => order_any a a ha ha w
  rw [hself] at HA2
  clear hself hb1 hb2 hb3 HA
  have h8 : feq a 0 = false ∨ feq b 0 = false ∨ feq a 0 = true ∧ feq b 0 = true := by
    cases feq a 0 <;> cases feq b 0 <;> simp
  have HB1 := fun w => bits_any a ha w
  have HB2 := fun w => bits_any b hb w
  have fin : ∀ (x : Int), (cmpI (place a) (place b) = x) → True := fun _ _ => trivial
  clear fin
  generalize hfa : feq a 0 = fa at *
  generalize hfb : feq b 0 = fb at *
  generalize hfl : flt a b = fl at *
  generalize hfg : fgt a b = fg at *
  have hpq : ¬ (fa = true ∧ fb = true) → (plainN a == plainN b) = decide (place a = place b) := by
    intro h
    have := hiff h
    rw [Bool.eq_iff_iff]; simp only [beq_iff_eq, decide_eq_true_eq]; rw [this]
  clear hiff
  generalize (plainN a == plainN b) = pq at *
  have HPL := Lib.hid hpl
  clear hpl
  have hz1 : place a < place c → cmpI (place a) (place c) = -1 := fun h => by unfold cmpI; rw [if_pos h]
  have hz0 : place a = place c → cmpI (place a) (place c) = 0 := fun h => by rw [h]; exact cmp_self0 _
  generalize cmpI (place a) (place c) = z at *
  rcases cmp_cases (place a) (place b) with ⟨hx, gx⟩ | ⟨hx, gx⟩ | ⟨hx, gx⟩ <;> rw [hx] <;> rw [hx] at hlt hgt <;>
  rcases cmp_cases (place b) (place c) with ⟨hy, gy⟩ | ⟨hy, gy⟩ | ⟨hy, gy⟩ <;> rw [hy]
  all_goals first | (have h' := hz1 (Int.lt_trans gx gy); subst h') | (have h' := hz1 (lt_eq gx gy); subst h') | (have h' := hz1 (eq_lt gx gy); subst h') | (have h' := hz0 (Eq.trans gx gy); subst h') | skip
  all_goals clear hz1 hz0
  all_goals (cases fl <;> cases fg)
  all_goals first | (exact absurd (hlt rfl) (by decide)) | (exact absurd (hgt rfl) (by decide)) | skip
  all_goals clear hlt hgt
  all_goals go_wp2_with fail
  all_goals (refine (HA2 _).mono ?_; rintro e w5 ⟨rfl, hb5⟩; have hb15 := hb4.trans (hb5.mono hb4.size); clear hb5)
  all_goals (cases fa <;> cases fb)
  all_goals go_wp2_with fail
  all_goals first
    | (go_ret; exact ⟨rfl, hb15⟩)
    | (refine (HB1 _).mono ?_; rintro e w6 ⟨rfl, hb6⟩; have hb16 := hb15.trans (hb6.mono hb15.size); clear hb6
       go_wp2_with fail
       refine (HB2 _).mono ?_; rintro e w7 ⟨rfl, hb7⟩; have hb17 := hb16.trans (hb7.mono hb16.size); clear hb7
       first
         | (have hq : pq = false := by (rw [hpq (by decide)]; exact decide_eq_false (fun h => by omega))
            subst hq
            clear hpq gx gy HB1 HB2 HA2
            have hpl := HPL.out
            clear HPL
            go_wp2_with fail
            go_ret; exact ⟨rfl, hb17⟩)
         | (have hq : pq = true := by (rw [hpq (by decide)]; exact decide_eq_true (by omega))
            subst hq
            clear hpq gx gy HB1 HB2 HA2
            have hpl := HPL.out
            clear HPL
            go_wp2_with fail
            go_ret; exact ⟨rfl, hb17⟩))
end Go.Proofs.YteoiedlffifpoaaDoor
