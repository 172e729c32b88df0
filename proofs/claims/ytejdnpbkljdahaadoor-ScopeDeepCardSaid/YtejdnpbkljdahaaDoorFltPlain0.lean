/-
  FltPlain0: the walks of floats' plain form and delays.
-/
import Derived.Test.YtejdnpbkljdahaaDoorFltWalk0
import Derived.Test.YtejdnpbkljdahaaDoorFltArith
import Derived.Test.YtejdnpbkljdahaaDoorPhi
import Derived.Test.YtejdnpbkljdahaaDoorErrOn
namespace Go.Proofs.YtejdnpbkljdahaaDoor
open Go.RowKit Ieee
attribute [local go_sem] flt_def fgt_def feq_def fne_def

def nanC : Nat := 9221120237041090561
def plainN (x : Nat) : Nat := if isNan x then nanC else if x = 9223372036854775808 then 0 else x
def isDel (x : Nat) : Bool := !isNan x && (decide (x < 9223372036854775808) || decide (x = 9223372036854775808))
theorem plain_le {x : Nat} (h : isDel x = true) : plainN x ≤ infR := by
  unfold isDel at h
  simp only [Bool.and_eq_true, Bool.not_eq_true', Bool.or_eq_true, decide_eq_true_eq] at h
  unfold plainN
  rw [h.1]
  simp only [Bool.false_eq_true, if_false]
  split
  · decide
  · have h1 := h.1
    unfold isNan rung at h1
    simp only [decide_eq_false_iff_not] at h1
    unfold infR at *
    omega
theorem del_eq {x : Nat} (hx : x < 18446744073709551616) : (fgt x 0 || feq x 0) = isDel x := by
  rw [fgt_eq, feq_eq, key_zero, key_big hx, show isNan 0 = false from by decide]
  unfold isDel
  cases isNan x
  · simp only [Bool.not_false, Bool.true_and]
    rw [← Bool.decide_or, ← Bool.decide_or, decide_eq_decide]
    split <;> omega
  · rfl
theorem key_small {x : Nat} (h : x ≤ infR) : key x = (x : Int) := by
  unfold key; rw [fneg_small h, rung_small h]; rfl
theorem nan_small {x : Nat} (h : x ≤ infR) : isNan x = false := by
  unfold isNan; rw [rung_small h]; simp; exact h
theorem flt_small {x y : Nat} (hx : x ≤ infR) (hy : y ≤ infR) : flt x y = decide (x < y) := by
  rw [flt_eq, nan_small hx, nan_small hy, key_small hx, key_small hy]; simp
theorem fgt_small {x y : Nat} (hx : x ≤ infR) (hy : y ≤ infR) : fgt x y = decide (y < x) := by
  rw [fgt_eq, nan_small hx, nan_small hy, key_small hx, key_small hy]; simp
theorem feq_small {x y : Nat} (hx : x ≤ infR) (hy : y ≤ infR) : feq x y = decide (x = y) := by
  rw [feq_eq, nan_small hx, nan_small hy, key_small hx, key_small hy]; simp only [Bool.not_false, Bool.true_and, decide_eq_decide]; omega
theorem place_small {x : Nat} (h : x ≤ infR) : place x = (x : Int) := by
  rw [place_num (nan_small h), if_neg (by unfold infR at h; omega)]
theorem run_min_small {P : Program} {w : World} (ts : Array TypeId) (t : TypeId) {x y : Nat} (hx : x ≤ infR) (hy : y ≤ infR) :
    (Builtin.min_ ts t #[.float .f64 x, .float .f64 y]).run P w = .ok (.float .f64 (min x y)) w := by
  have h := order_key x y (nan_small hx) (nan_small hy)
  rw [key_small hx, key_small hy] at h
  have h' : FloatKind.f64.format.order x y = some (compare (x : Int) (y : Int)) := h
  rcases Nat.lt_trichotomy x y with h1 | h1 | h1
  · rw [cmp_lt (show (x : Int) < y by omega)] at h'
    simp [Builtin.min_, Builtin.min2, h', Nat.min_eq_left (Nat.le_of_lt h1)]
  · subst h1
    rw [cmp_self] at h'
    simp [Builtin.min_, Builtin.min2, h']
  · rw [cmp_gt (show (y : Int) < x by omega)] at h'
    simp [Builtin.min_, Builtin.min2, h', Nat.min_eq_right (Nat.le_of_lt h1)]

theorem nan_any (w : World) : Calls Tryd.prog 48 #[] w (Gives w (.float .f64 nanC)) := by
  have h1 := run_frombits nanC
  have h2 : ((nanC : Nat) : Int) = 9221120237041090561 := rfl
  rw [h2] at h1
  go_enter Tryd.func48, Tryd.ntmps48
  go_wp2_with fail
  go_ret
  exact ⟨rfl, Below.refl _ _⟩
theorem plain_any (x : Nat) (hx : x < 18446744073709551616) (w : World) :
    Calls Tryd.prog 40 #[.float .f64 x] w (Gives w (.float .f64 (plainN x))) := by
  go_enter Tryd.func40, Tryd.ntmps40
  go_wp2_with fail
  refine (class_any x hx w).mono ?_
  rintro e w1 ⟨rfl, hb1⟩
  cases hn : isNan x
  · by_cases h0 : x = 9223372036854775808
    · have hc : clsN x = 0 := by unfold clsN; rw [hn, if_pos h0]; rfl
      have HC := Lib.hid (show plainN x = 0 by unfold plainN; rw [hn, if_pos h0]; rfl)
      rw [hc]
      clear h0
      go_wp2_with fail
      go_ret
      exact ⟨by rw [HC.out]; rfl, hb1⟩
    · have hc : clsN x = 1 := by unfold clsN; rw [hn, if_neg h0]; rfl
      have HC := Lib.hid (show plainN x = x by unfold plainN; rw [hn, if_neg h0]; rfl)
      rw [hc]
      clear h0
      go_wp2_with fail
      go_ret
      exact ⟨by rw [HC.out]; rfl, hb1⟩
  · have hc : clsN x = 2 := by unfold clsN; rw [hn]; rfl
    have HC := Lib.hid (show plainN x = nanC by unfold plainN; rw [hn]; rfl)
    rw [hc]
    go_wp2_with fail
    refine (nan_any w1).mono ?_
    rintro e w2 ⟨rfl, hb2⟩
    go_wp2_with fail
    go_ret
    exact ⟨by rw [HC.out]; rfl, hb1.trans (hb2.mono hb1.size)⟩
def delF (x : Nat) : Nat := if isDel x then plainN x else 0
def delE (x : Nat) : Nat := if isDel x then 0 else 4
theorem del_yes {x : Nat} (h : isDel x = true) : delF x = plainN x ∧ delE x = 0 := by unfold delF delE; rw [h]; exact ⟨rfl, rfl⟩
theorem del_no {x : Nat} (h : isDel x = false) : delF x = 0 ∧ delE x = 4 := by unfold delF delE; rw [h]; exact ⟨rfl, rfl⟩
def delV (E : Nat → Addr) (x : Nat) : Value := .tuple #[.float .f64 (delF x), errV E (delE x)]
theorem delay_any (x : Nat) (hx : x < 18446744073709551616) (w : World) (E : Nat → Addr) (he : ErrsOn [0, 3] w E) :
    Calls Tryd.prog 29 #[.float .f64 x] w (Gives w (delV E x)) := by
  have HE := Lib.hid he
  clear he
  have hd := del_eq hx
  unfold delV
  go_enter Tryd.func29, Tryd.ntmps29
  cases h1 : isDel x
  · rw [h1] at hd
    rw [(del_no h1).1, (del_no h1).2]
    go_wp2_with fail
    refine wp_phi (fun w' => ErrsOn [0, 3] w' E ∧ Below w.heap.size w w') [] [] (by kernel_rfl) (by kernel_rfl) ?_ ?_ ⟨HE.out.below ((Below.refl _ _).drew), (Below.refl _ _).drew⟩ ?_
    · rintro w1 w2 ⟨a1, a2⟩ hb
      exact ⟨a1.below hb, a2.trans (hb.mono a2.size)⟩
    · intro p hp; cases hp
    repeat (refine phi_pureK rfl rfl (fun K hK => ?_); apply Exists.intro; constructor; (rintro w' ⟨hI1, hI2⟩; have s1 := hI1.cell 3 rfl; simp only [errVar, List.getD_cons_zero, List.getD_cons_succ] at s1; clear hI1 hI2; first | (go_simp; (try go_bits); (try go_simp); rfl) | go_simp); simp only [Act.put, List.setIfInBounds_toArray, List.set_cons_succ, List.set_cons_zero]; (try simp only [List.cons_append]); (try simp only [List.nil_append]); apply hK; clear hK K)
    refine phi_done ?_
    rintro w1 ⟨_, hbw⟩ _
    refine wpList_nil ?_
    go_wp2_with fail
    go_ret2
    exact ⟨rfl, hbw⟩
  · rw [h1] at hd
    rw [(del_yes h1).1, (del_yes h1).2]
    go_wp2_with fail
    refine (plain_any x hx w).mono ?_
    rintro e w1 ⟨rfl, hb1⟩
    go_wp2_with fail
    go_ret2
    exact ⟨rfl, hb1⟩

theorem errV_four (E : Nat → Addr) : errV E 4 = .iface 105 (.pointer (some (E 3))) := rfl
def bothDel (a b : Nat) : Bool := isDel a && isDel b
end Go.Proofs.YtejdnpbkljdahaaDoor
