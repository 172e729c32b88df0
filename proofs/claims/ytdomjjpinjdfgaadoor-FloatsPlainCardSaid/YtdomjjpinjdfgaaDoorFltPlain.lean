/-
  FltPlain: the walks of floats' plain form, delays and doubled delays.
-/
import Derived.Test.YtdomjjpinjdfgaaDoorFltWalk0
import Derived.Test.YtdomjjpinjdfgaaDoorFltArith
import Derived.Test.YtdomjjpinjdfgaaDoorPhi
import Derived.Test.YtdomjjpinjdfgaaDoorErrOn
namespace Go.Proofs.YtdomjjpinjdfgaaDoor
open Go.RowKit Ieee
attribute [local go_sem] flt_def fgt_def feq_def fne_def

def nanC : Nat := 9221120237041090561
def plainN (x : Nat) : Nat := if isNan x then nanC else if x = 9223372036854775808 then 0 else x
def isDel (x : Nat) : Bool := !isNan x && (decide (x < 9223372036854775808) || decide (x = 9223372036854775808))
theorem plain_le {x : Nat} (h : isDel x = true) : plainN x ≤ infR := by
  unfold isDel at h
  simp only [Bool.and_eq_true, Bool.not_eq_true', Bool.or_eq_true, decide_eq_true_eq] at h
  unfold plainN
  rw [h.1]
  simp only [Bool.false_eq_true, if_false]
  split
  · decide
  · have h1 := h.1
    unfold isNan rung at h1
    simp only [decide_eq_false_iff_not] at h1
    unfold infR at *
    omega
theorem del_eq {x : Nat} (hx : x < 18446744073709551616) : (fgt x 0 || feq x 0) = isDel x := by
  rw [fgt_eq, feq_eq, key_zero, key_big hx, show isNan 0 = false from by decide]
  unfold isDel
  cases isNan x
  · simp only [Bool.not_false, Bool.true_and]
    rw [← Bool.decide_or, ← Bool.decide_or, decide_eq_decide]
    split <;> omega
  · rfl
theorem key_small {x : Nat} (h : x ≤ infR) : key x = (x : Int) := by
  unfold key; rw [fneg_small h, rung_small h]; rfl
theorem nan_small {x : Nat} (h : x ≤ infR) : isNan x = false := by
  unfold isNan; rw [rung_small h]; simp; exact h
theorem flt_small {x y : Nat} (hx : x ≤ infR) (hy : y ≤ infR) : flt x y = decide (x < y) := by
  rw [flt_eq, nan_small hx, nan_small hy, key_small hx, key_small hy]; simp
theorem fgt_small {x y : Nat} (hx : x ≤ infR) (hy : y ≤ infR) : fgt x y = decide (y < x) := by
  rw [fgt_eq, nan_small hx, nan_small hy, key_small hx, key_small hy]; simp
theorem feq_small {x y : Nat} (hx : x ≤ infR) (hy : y ≤ infR) : feq x y = decide (x = y) := by
  rw [feq_eq, nan_small hx, nan_small hy, key_small hx, key_small hy]; simp only [Bool.not_false, Bool.true_and, decide_eq_decide]; omega
theorem place_small {x : Nat} (h : x ≤ infR) : place x = (x : Int) := by
  rw [place_num (nan_small h), if_neg (by unfold infR at h; omega)]
theorem run_min_small {P : Program} {w : World} (ts : Array TypeId) (t : TypeId) {x y : Nat} (hx : x ≤ infR) (hy : y ≤ infR) :
    (Builtin.min_ ts t #[.float .f64 x, .float .f64 y]).run P w = .ok (.float .f64 (min x y)) w := by
  have h := order_key x y (nan_small hx) (nan_small hy)
  rw [key_small hx, key_small hy] at h
  have h' : FloatKind.f64.format.order x y = some (compare (x : Int) (y : Int)) := h
  rcases Nat.lt_trichotomy x y with h1 | h1 | h1
  · rw [cmp_lt (show (x : Int) < y by omega)] at h'
    simp [Builtin.min_, Builtin.min2, h', Nat.min_eq_left (Nat.le_of_lt h1)]
  · subst h1
    rw [cmp_self] at h'
    simp [Builtin.min_, Builtin.min2, h']
  · rw [cmp_gt (show (y : Int) < x by omega)] at h'
    simp [Builtin.min_, Builtin.min2, h', Nat.min_eq_right (Nat.le_of_lt h1)]

theorem nan_any (w : World) : Calls Tryd.prog 20 #[] w (Gives w (.float .f64 nanC)) := by
  have h1 := run_frombits nanC
  have h2 : ((nanC : Nat) : Int) = 9221120237041090561 := rfl
  rw [h2] at h1
  go_enter Tryd.func20, Tryd.ntmps20
  go_wp2_with fail
  go_ret
  exact ⟨rfl, Below.refl _ _⟩
theorem plain_any (x : Nat) (hx : x < 18446744073709551616) (w : World) :
    Calls Tryd.prog 5 #[.float .f64 x] w (Gives w (.float .f64 (plainN x))) := by
  go_enter Tryd.func5, Tryd.ntmps5
  go_wp2_with fail
  refine (class_any x hx w).mono ?_
  rintro e w1 ⟨rfl, hb1⟩
  cases hn : isNan x
  · by_cases h0 : x = 9223372036854775808
    · have hc : clsN x = 0 := by unfold clsN; rw [hn, if_pos h0]; rfl
      have HC := Lib.hid (show plainN x = 0 by unfold plainN; rw [hn, if_pos h0]; rfl)
      rw [hc]
      clear h0
      go_wp2_with fail
      go_ret
      exact ⟨by rw [HC.out]; rfl, hb1⟩
    · have hc : clsN x = 1 := by unfold clsN; rw [hn, if_neg h0]; rfl
      have HC := Lib.hid (show plainN x = x by unfold plainN; rw [hn, if_neg h0]; rfl)
      rw [hc]
      clear h0
      go_wp2_with fail
      go_ret
      exact ⟨by rw [HC.out]; rfl, hb1⟩
  · have hc : clsN x = 2 := by unfold clsN; rw [hn]; rfl
    have HC := Lib.hid (show plainN x = nanC by unfold plainN; rw [hn]; rfl)
    rw [hc]
    go_wp2_with fail
    refine (nan_any w1).mono ?_
    rintro e w2 ⟨rfl, hb2⟩
    go_wp2_with fail
    go_ret
    exact ⟨by rw [HC.out]; rfl, hb1.trans (hb2.mono hb1.size)⟩
def delF (x : Nat) : Nat := if isDel x then plainN x else 0
def delE (x : Nat) : Nat := if isDel x then 0 else 4
theorem del_yes {x : Nat} (h : isDel x = true) : delF x = plainN x ∧ delE x = 0 := by unfold delF delE; rw [h]; exact ⟨rfl, rfl⟩
theorem del_no {x : Nat} (h : isDel x = false) : delF x = 0 ∧ delE x = 4 := by unfold delF delE; rw [h]; exact ⟨rfl, rfl⟩
def delV (E : Nat → Addr) (x : Nat) : Value := .tuple #[.float .f64 (delF x), errV E (delE x)]
theorem delay_any (x : Nat) (hx : x < 18446744073709551616) (w : World) (E : Nat → Addr) (he : ErrsOn [0, 3] w E) :
    Calls Tryd.prog 6 #[.float .f64 x] w (Gives w (delV E x)) := by
  have HE := Lib.hid he
  clear he
  have hd := del_eq hx
  unfold delV
  go_enter Tryd.func6, Tryd.ntmps6
  cases h1 : isDel x
  · rw [h1] at hd
    rw [(del_no h1).1, (del_no h1).2]
    go_wp2_with fail
    refine wp_phi (fun w' => ErrsOn [0, 3] w' E ∧ Below w.heap.size w w') [] [] (by kernel_rfl) (by kernel_rfl) ?_ ?_ ⟨HE.out.below ((Below.refl _ _).drew), (Below.refl _ _).drew⟩ ?_
    · rintro w1 w2 ⟨a1, a2⟩ hb
      exact ⟨a1.below hb, a2.trans (hb.mono a2.size)⟩
    · intro p hp; cases hp
    repeat (refine phi_pureK rfl rfl (fun K hK => ?_); apply Exists.intro; constructor; (rintro w' ⟨hI1, hI2⟩; have s1 := hI1.cell 3 rfl; simp only [errVar, List.getD_cons_zero, List.getD_cons_succ] at s1; clear hI1 hI2; first | (go_simp; (try go_bits); (try go_simp); rfl) | go_simp); simp only [Act.put, List.setIfInBounds_toArray, List.set_cons_succ, List.set_cons_zero]; (try simp only [List.cons_append]); (try simp only [List.nil_append]); apply hK; clear hK K)
    refine phi_done ?_
    rintro w1 ⟨_, hbw⟩ _
    refine wpList_nil ?_
    go_wp2_with fail
    go_ret2
    exact ⟨rfl, hbw⟩
  · rw [h1] at hd
    rw [(del_yes h1).1, (del_yes h1).2]
    go_wp2_with fail
    refine (plain_any x hx w).mono ?_
    rintro e w1 ⟨rfl, hb1⟩
    go_wp2_with fail
    go_ret2
    exact ⟨rfl, hb1⟩

theorem errV_zero (E : Nat → Addr) : errV E 0 = .nilIface := rfl
theorem errV_four (E : Nat → Addr) : errV E 4 = .iface 59 (.pointer (some (E 3))) := rfl
def bothDel (a b : Nat) : Bool := isDel a && isDel b
def boffN (a b : Nat) (times : Int) : Nat := if bothDel a b then if times < 0 then 0 else min (dblI (plainN a) (min times.toNat 2200)) (plainN b) else 0
def boffE (a b : Nat) (times : Int) : Nat := if bothDel a b then if times < 0 then 1 else 0 else 4
set_option maxHeartbeats 1000000 in
theorem backoff_any (a b : Nat) (times : Int) (ha : a < 18446744073709551616) (hb : b < 18446744073709551616) (ht : times ≤ 9223372036854775807) (w : World) (E : Nat → Addr) (he : ErrsOn [0, 3] w E) :
    Calls Tryd.prog 16 #[.float .f64 a, .int .i64 times, .float .f64 b] w (Gives w (.tuple #[.float .f64 (boffN a b times), errV E (boffE a b times)])) := by
  have HE := Lib.hid he
  clear he
  go_enter Tryd.func16, Tryd.ntmps16
  go_wp2_with fail
  refine (delay_any a ha w E HE.out).mono ?_
  rintro e w1 ⟨rfl, hb1⟩
  unfold delV
  have HE1 := Lib.hid (HE.out.below hb1)
  go_wp2_with fail
  refine (delay_any b hb w1 E HE1.out).mono ?_
  rintro e w2 ⟨rfl, hb2⟩
  unfold delV
  have hb12 := hb1.trans (hb2.mono hb1.size)
  have HE2 := Lib.hid (HE.out.below hb12)
  clear hb1 hb2 HE1
  by_cases hd : bothDel a b = true
  · have hd' := hd
    unfold bothDel at hd'
    simp only [Bool.and_eq_true] at hd'
    obtain ⟨hda, hdb⟩ := hd'
    have px := plain_le hda
    have pl := plain_le hdb
    rw [(del_yes hda).1, (del_yes hda).2, (del_yes hdb).1, (del_yes hdb).2, errV_zero]
    by_cases hneg : times < 0
    · have HB := Lib.hid (show boffN a b times = 0 ∧ boffE a b times = 1 by unfold boffN boffE; rw [hd, if_pos hneg, if_pos hneg]; exact ⟨rfl, rfl⟩)
      have dn : decide (times < 0) = true := by simp; omega
      go_wp2_with fail
      refine wp_phi (fun w' => ErrsOn [0, 3] w' E ∧ Below w2.heap.size w2 w') [] [] (by kernel_rfl) (by kernel_rfl) ?_ ?_ ⟨HE2.out.below ((Below.refl _ _).drew), (Below.refl _ _).drew⟩ ?_
      · rintro w1 w2 ⟨a1, a2⟩ hb
        exact ⟨a1.below hb, a2.trans (hb.mono a2.size)⟩
      · intro p hp; cases hp
      repeat (refine phi_pureK rfl rfl (fun K hK => ?_); apply Exists.intro; constructor; (rintro w' ⟨hI1, hI2⟩; have s1 := hI1.cell 0 rfl; simp only [errVar, List.getD_cons_zero, List.getD_cons_succ] at s1; clear hI1 hI2; first | (go_simp; (try go_bits); (try go_simp); rfl) | go_simp); simp only [Act.put, List.setIfInBounds_toArray, List.set_cons_succ, List.set_cons_zero]; (try simp only [List.cons_append]); (try simp only [List.nil_append]); apply hK; clear hK K)
      refine phi_done ?_
      rintro w3 ⟨_, hbw⟩ _
      refine wpList_nil ?_
      go_wp2_with fail
      go_ret2
      exact ⟨by rw [HB.out.1, HB.out.2]; rfl, hb12.trans (hbw.mono hb12.size)⟩
    · obtain ⟨n, rfl⟩ : ∃ n : Nat, times = (n : Int) := ⟨times.toNat, by omega⟩
      have HB := Lib.hid (show boffN a b n = min (goB (plainN b) (plainN a) n) (plainN b) ∧ boffE a b n = 0 by
        unfold boffN boffE; rw [hd, if_neg hneg, if_neg hneg, goB_ref _ _ px pl]; exact ⟨by simp, rfl⟩)
      have dn : decide ((n : Int) < 0) = false := by simp
      generalize plainN a = x0 at *
      generalize plainN b = lim at *
      clear hneg hd hda hdb
      go_wp2_with fail
      go_loop [1, 8] (fun i v => ∃ k y : Nat, k ≤ n ∧ i = .int .i64 k ∧ v = .float .f64 y ∧ y ≤ infR ∧ goB lim y k = goB lim x0 n) (fun i _ => (intOf i).toNat)
      case atStart => exact ⟨n, x0, Nat.le_refl _, rfl, rfl, px, rfl⟩
      case round =>
        obtain ⟨k, y, hk, rfl, rfl, hy, hg⟩ := hrel
        have HY := Lib.hid hy
        have HG := Lib.hid hg
        have hm := fun w t => run_float_arith (P := Tryd.prog) w .mul t .f64 y 4611686018427387904 (dblN y) (mul_eq hy)
        have hmin := fun ts t w => run_min_small (P := Tryd.prog) (w := w) ts t hy pl
        have g1 : fgt y 0 = decide (0 < y) := fgt_small hy (by decide)
        have g2 : flt y lim = decide (y < lim) := flt_small hy pl
        have HL := Lib.hid pl
        have hgB : goB lim y k = if h : 0 < k then (if 0 < y ∧ y < lim then goB lim (dblN y) (k - 1) else y) else y := by
          cases k with
          | zero => rfl
          | succ k => rw [dif_pos (by omega)]; rfl
        have HGB := Lib.hid hgB
        clear hg hgB hy pl
        by_cases h1 : 0 < k
        · obtain ⟨j, rfl⟩ : ∃ j, k = j + 1 := ⟨k - 1, by omega⟩
          have d1 : decide ((0 : Int) < (j : Int) + 1) = true := decide_eq_true (by omega)
          by_cases h2 : 0 < y
          · have d2 : decide (0 < y) = true := by simp [h2]
            by_cases h3 : y < lim
            · have d3 : decide (y < lim) = true := by simp [h3]
              have HN := Lib.hid (show goB lim (dblN y) j = goB lim x0 n by rw [← HG.out, HGB.out, dif_pos (by omega), if_pos ⟨h2, h3⟩]; rfl)
              rw [d2] at g1
              rw [d3] at g2
              clear h2 h3 d2 d3 h1
              go_wp2_with fail
              go_round
              case rel => exact ⟨j, dblN y, by omega, by go_num, rfl, dbl_le y, HN.out⟩
              case measure => simp [intOf]
            · have d3 : decide (y < lim) = false := decide_eq_false (by omega)
              have HN := Lib.hid (show y = goB lim x0 n by rw [← HG.out, HGB.out, dif_pos (by omega), if_neg (by omega)])
              rw [d2] at g1
              rw [d3] at g2
              clear h2 h3 d2 d3 h1
              go_wp2_with fail
              go_ret2
              exact ⟨by rw [HB.out.1, HB.out.2, ← HN.out]; rfl, hb12⟩
          · have d2 : decide (0 < y) = false := decide_eq_false (by omega)
            have HN := Lib.hid (show y = goB lim x0 n by rw [← HG.out, HGB.out, dif_pos (by omega), if_neg (by omega)])
            rw [d2] at g1
            clear h2 d2 h1
            go_wp2_with fail
            go_ret2
            exact ⟨by rw [HB.out.1, HB.out.2, ← HN.out]; rfl, hb12⟩
        · have HN := Lib.hid (show y = goB lim x0 n by rw [← HG.out, HGB.out, dif_neg h1])
          obtain rfl : k = 0 := by omega
          have d1 : decide ((0 : Int) < ((0 : Nat) : Int)) = false := decide_eq_false (by omega)
          clear h1
          go_wp2_with fail
          go_ret2
          exact ⟨by rw [HB.out.1, HB.out.2, ← HN.out]; rfl, hb12⟩
  · have HB := Lib.hid (show boffN a b times = 0 ∧ boffE a b times = 4 by unfold boffN boffE; rw [if_neg hd, if_neg hd]; exact ⟨rfl, rfl⟩)
    have hd2 : bothDel a b = false := by simpa using hd
    unfold bothDel at hd2
    clear hd
    cases hda : isDel a <;> cases hdb : isDel b
    · rw [(del_no hda).1, (del_no hda).2, (del_no hdb).1, (del_no hdb).2, errV_four]
      clear hda hdb hd2
      go_wp2_with fail
      refine wp_phi (fun w' => ErrsOn [0, 3] w' E ∧ Below w2.heap.size w2 w') [] [] (by kernel_rfl) (by kernel_rfl) ?_ ?_ ⟨HE2.out.below ((Below.refl _ _).drew), (Below.refl _ _).drew⟩ ?_
      · rintro w1 w2 ⟨a1, a2⟩ hb
        exact ⟨a1.below hb, a2.trans (hb.mono a2.size)⟩
      · intro p hp; cases hp
      repeat (refine phi_pureK rfl rfl (fun K hK => ?_); apply Exists.intro; constructor; (rintro w' ⟨hI1, hI2⟩; have s1 := hI1.cell 3 rfl; simp only [errVar, List.getD_cons_zero, List.getD_cons_succ] at s1; clear hI1 hI2; first | (go_simp; (try go_bits); (try go_simp); rfl) | go_simp); simp only [Act.put, List.setIfInBounds_toArray, List.set_cons_succ, List.set_cons_zero]; (try simp only [List.cons_append]); (try simp only [List.nil_append]); apply hK; clear hK K)
      refine phi_done ?_
      rintro w3 ⟨_, hbw⟩ _
      refine wpList_nil ?_
      go_wp2_with fail
      go_ret2
      exact ⟨by rw [HB.out.1, HB.out.2]; rfl, hb12.trans (hbw.mono hb12.size)⟩
    · rw [(del_no hda).1, (del_no hda).2, (del_yes hdb).1, (del_yes hdb).2, errV_four, errV_zero]
      clear hda hdb hd2
      go_wp2_with fail
      refine wp_phi (fun w' => ErrsOn [0, 3] w' E ∧ Below w2.heap.size w2 w') [] [] (by kernel_rfl) (by kernel_rfl) ?_ ?_ ⟨HE2.out.below ((Below.refl _ _).drew), (Below.refl _ _).drew⟩ ?_
      · rintro w1 w2 ⟨a1, a2⟩ hb
        exact ⟨a1.below hb, a2.trans (hb.mono a2.size)⟩
      · intro p hp; cases hp
      repeat (refine phi_pureK rfl rfl (fun K hK => ?_); apply Exists.intro; constructor; (rintro w' ⟨hI1, hI2⟩; have s1 := hI1.cell 3 rfl; simp only [errVar, List.getD_cons_zero, List.getD_cons_succ] at s1; clear hI1 hI2; first | (go_simp; (try go_bits); (try go_simp); rfl) | go_simp); simp only [Act.put, List.setIfInBounds_toArray, List.set_cons_succ, List.set_cons_zero]; (try simp only [List.cons_append]); (try simp only [List.nil_append]); apply hK; clear hK K)
      refine phi_done ?_
      rintro w3 ⟨_, hbw⟩ _
      refine wpList_nil ?_
      go_wp2_with fail
      go_ret2
      exact ⟨by rw [HB.out.1, HB.out.2]; rfl, hb12.trans (hbw.mono hb12.size)⟩
    · rw [(del_yes hda).1, (del_yes hda).2, (del_no hdb).1, (del_no hdb).2, errV_four, errV_zero]
      clear hda hdb hd2
      go_wp2_with fail
      refine wp_phi (fun w' => ErrsOn [0, 3] w' E ∧ Below w2.heap.size w2 w') [] [] (by kernel_rfl) (by kernel_rfl) ?_ ?_ ⟨HE2.out.below ((Below.refl _ _).drew), (Below.refl _ _).drew⟩ ?_
      · rintro w1 w2 ⟨a1, a2⟩ hb
        exact ⟨a1.below hb, a2.trans (hb.mono a2.size)⟩
      · intro p hp; cases hp
      repeat (refine phi_pureK rfl rfl (fun K hK => ?_); apply Exists.intro; constructor; (rintro w' ⟨hI1, hI2⟩; have s1 := hI1.cell 3 rfl; simp only [errVar, List.getD_cons_zero, List.getD_cons_succ] at s1; clear hI1 hI2; first | (go_simp; (try go_bits); (try go_simp); rfl) | go_simp); simp only [Act.put, List.setIfInBounds_toArray, List.set_cons_succ, List.set_cons_zero]; (try simp only [List.cons_append]); (try simp only [List.nil_append]); apply hK; clear hK K)
      refine phi_done ?_
      rintro w3 ⟨_, hbw⟩ _
      refine wpList_nil ?_
      go_wp2_with fail
      go_ret2
      exact ⟨by rw [HB.out.1, HB.out.2]; rfl, hb12.trans (hbw.mono hb12.size)⟩
    · rw [hda, hdb] at hd2
      exact absurd hd2 (by decide)
end Go.Proofs.YtdomjjpinjdfgaaDoor
