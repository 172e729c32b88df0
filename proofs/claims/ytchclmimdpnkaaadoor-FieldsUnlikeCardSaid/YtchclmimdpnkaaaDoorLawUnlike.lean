/-
  LawUnlike: the walk of FieldsUnlike.
-/
import Derived.Test.YtchclmimdpnkaaaDoorFldAlive
import Derived.Test.YtchclmimdpnkaaaDoorFlagW
import Derived.Test.YtchclmimdpnkaaaDoorNumLess
namespace Go.Proofs.YtchclmimdpnkaaaDoor
open Go.RowKit
attribute [local go_sem] bs_toList

theorem numG (x : Int) (w : World) (E : Nat → Addr) (hx : x ≤ 9223372036854775807) (he : ErrsOn [0, 3] w E) :
    Calls Tryd.prog 10 #[.int .i64 x] w (GivesB w E (numR x) (numE x)) := number_r x w E hx (errs_sub he rfl)
theorem errV_one (E : Nat → Addr) (n : Nat) : errV E (n + 1) = .iface 100 (.pointer (some (E n))) := rfl
theorem flag_w (is : Bool) (w : World) :
    Calls Tryd.prog 12 #[.bool is] w fun e w' => ∃ p cap, e = .returned (.slice p (flagL is).length cap) ∧ Byt w' (.slice p (flagL is).length cap) (flagL is) ∧ Below w.heap.size w w' := by
  refine (flag_any is w).mono ?_
  rintro e w' ⟨v, rfl, ho, hb⟩
  have hby := owns_byt ho
  have hby' := hby
  obtain ⟨p, cap, rfl, _⟩ := hby'
  exact ⟨p, cap, rfl, hby, hb⟩

set_option maxRecDepth 20000 in
set_option maxHeartbeats 1000000 in
theorem unlike_any (a b : Int) (is : Bool) (ha : a ≤ 9223372036854775807) (hb : b ≤ 9223372036854775807) (w : World) (E : Nat → Addr) (he : ErrsOn [0, 3] w E) :
    Calls Tryd.prog 3 #[.int .i64 a, .int .i64 b, .bool is] w (ok1 w) := by
  have HE := Lib.hid he
  have HA := alive_any w E he
  clear he
  go_enter Tryd.func3, Tryd.ntmps3
  go_wp2_with fail
  refine HA.mono ?_
  rintro e w1 ⟨rfl, hb1⟩
  go_wp2_with fail
  refine (numG a w1 E ha (HE.out.below hb1)).mono ?_
  rintro e w2 hg
  obtain ⟨p2, c2, rfl, hby2, hb2⟩ := gb_byt hg
  replace hb2 := hb1.trans (hb2.mono hb1.size)
  have HY2 := Lib.hid hby2
  clear hby2 hg
  go_wp2_with fail
  refine (numG b w2 E hb (HE.out.below hb2)).mono ?_
  rintro e w3 hg
  obtain ⟨p3, c3, rfl, hby3, hb3⟩ := gb_byt hg
  have HY2' := Lib.hid (HY2.out.keep (Below.keeps hb3))
  replace hb3 := hb2.trans (hb3.mono hb2.size)
  have HY3 := Lib.hid hby3
  clear hby3 hg HY2
  by_cases hna : a < 0
  · rw [numR_neg hna, numE_neg hna, errV_one]
    have d1 : decide (a < 0) = true := by simpa using hna
    go_wp2_with fail
    go_ret
    exact ⟨rfl, hb3⟩
  · obtain ⟨x, rfl⟩ : ∃ n : Nat, a = (n : Int) := ⟨a.toNat, by omega⟩
    rw [numR_nat] at HY2' ⊢
    rw [numE_nat, errV_zero]
    by_cases hnb : b < 0
    · rw [numR_neg hnb, numE_neg hnb, errV_one]
      have d1 : decide ((x : Int) < 0) = false := by simp
      have d2 : decide (b < 0) = true := by simpa using hnb
      go_wp2_with fail
      go_ret
      exact ⟨rfl, hb3⟩
    · obtain ⟨y, rfl⟩ : ∃ n : Nat, b = (n : Int) := ⟨b.toNat, by omega⟩
      rw [numR_nat] at HY3 ⊢
      rw [numE_nat, errV_zero]
      have hcase : ∃ A B C D F : Bool, decide ((numB x).length < (numB y).length) = A ∧ (((numB x).length : Int) == ((numB y).length : Int)) = B ∧ Op.bytesLess (numB x) (numB y) = C ∧ (numB x == numB y) = F ∧
          decide ((x : Int) < (y : Int)) = D ∧ decide (x < y) = D ∧ ((x : Int) == (y : Int)) = F ∧ D = (A || (B && C)) := by
        refine ⟨_, _, _, _, _, rfl, rfl, rfl, rfl, by simp, rfl, ?_, ?_⟩
        · rw [numB_same, Bool.eq_iff_iff]; simp; omega
        · rw [← numB_less x y]
          congr 2
          rw [Bool.eq_iff_iff]; simp; omega
      obtain ⟨A, B, C, D, F, f1, f2, f3, f4, f5, f6, f7, hD⟩ := hcase
      have HD := Lib.hid hD
      clear hD HA
      have s1 := str_of HY2'.out
      have s2 := str_of HY3.out
      generalize numB x = lx at *
      generalize numB y = ly at *
      cases A <;> cases B <;> cases C <;> simp only [Bool.true_or, Bool.false_or, Bool.true_and, Bool.false_and, Bool.or_false, Bool.and_false] at HD <;> (obtain rfl := HD.out; clear HD)
      all_goals
        cases F
      all_goals
        go_wp2_with fail
        refine (flag_w is w3).mono ?_
        rintro e w4 ⟨p4, c4, rfl, hby4, hb4⟩
        have s3 := str_of (HY2'.out.keep (Below.keeps hb4))
        have s4 := str_of (HY3.out.keep (Below.keeps hb4))
        have hb4' := hb3.trans (hb4.mono hb3.size)
        have hh4 := Lib.hid hby4
        clear hby4
        go_wp2_with fail
        refine (toflag_flag is _ w4 hh4.out).mono ?_
        rintro e w5 ⟨rfl, hb5⟩
        have s5 := str_of ((HY2'.out.keep (Below.keeps hb4)).keep (Below.keeps hb5))
        have s6 := str_of ((HY3.out.keep (Below.keeps hb4)).keep (Below.keeps hb5))
        have hb6 := hb4'.trans (hb5.mono hb4'.size)
        have his : (is == is) = true := by simp
        clear s3 s4
        go_wp2_with fail
        go_ret
        exact ⟨rfl, hb6⟩
end Go.Proofs.YtchclmimdpnkaaaDoor
