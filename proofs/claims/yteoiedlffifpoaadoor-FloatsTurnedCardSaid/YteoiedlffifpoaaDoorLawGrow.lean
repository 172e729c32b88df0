/-
  LawGrow: floats.Later, floats.Due, math.Inf; the walk of FloatsGrow.
-/
import Derived.Test.YteoiedlffifpoaaDoorFltAlive
import Derived.Test.YteoiedlffifpoaaDoorU64
namespace Go.Proofs.YteoiedlffifpoaaDoor
open Go.RowKit Ieee
attribute [local go_sem] flt_def fgt_def feq_def fne_def

def laterF (a b : Nat) : Nat := if bothDel a b then addN (plainN a) (plainN b) else 0
def laterE (a b : Nat) : Nat := if bothDel a b then 0 else 4
theorem inf_any (w : World) : Calls Tryd.prog 14 #[.int .i64 1] w (Gives w (.float .f64 infR)) := by
  have h1 := run_frombits infR
  have h2 : ((infR : Nat) : Int) = 9218868437227405312 := rfl
  rw [h2] at h1
  go_enter Tryd.func14, Tryd.ntmps14
  go_wp2_with fail
  go_ret
  exact ⟨rfl, Below.refl _ _⟩
theorem later_any (a b : Nat) (ha : a < 18446744073709551616) (hb : b < 18446744073709551616) (w : World) (E : Nat → Addr) (he : ErrsOn [0, 3] w E) :
    Calls Tryd.prog 19 #[.float .f64 a, .float .f64 b] w (Gives w (.tuple #[.float .f64 (laterF a b), errV E (laterE a b)])) := by
  have HE := Lib.hid he
  clear he
  go_enter Tryd.func19, Tryd.ntmps19
  go_wp2_with fail
  refine (delay_any a ha w E HE.out).mono ?_
  rintro e w1 ⟨rfl, hb1⟩
  unfold delV
  have HE1 := Lib.hid (HE.out.below hb1)
  go_wp2_with fail
  refine (delay_any b hb w1 E HE1.out).mono ?_
  rintro e w2 ⟨rfl, hb2⟩
  unfold delV
  have hb12 := hb1.trans (hb2.mono hb1.size)
  have HE2 := Lib.hid (HE.out.below hb12)
  clear hb1 hb2 HE1
  by_cases hd : bothDel a b = true
  · have hd' := hd
    unfold bothDel at hd'
    simp only [Bool.and_eq_true] at hd'
    obtain ⟨hda, hdb⟩ := hd'
    have px := plain_le hda
    have pl := plain_le hdb
    rw [(del_yes hda).1, (del_yes hda).2, (del_yes hdb).1, (del_yes hdb).2, errV_zero]
    have HB := Lib.hid (show laterF a b = addN (plainN a) (plainN b) ∧ laterE a b = 0 by unfold laterF laterE; rw [hd]; exact ⟨if_pos rfl, if_pos rfl⟩)
    have hm := fun w t => run_float_arith (P := Tryd.prog) w .add t .f64 (plainN a) (plainN b) (addN (plainN a) (plainN b)) (add_eq px pl)
    clear hd hda hdb px pl
    generalize addN (plainN a) (plainN b) = s at *
    generalize plainN a = x0 at *
    generalize plainN b = y0 at *
    go_wp2_with fail
    go_ret2
    exact ⟨by rw [HB.out.1, HB.out.2]; rfl, hb12⟩
  · have HB := Lib.hid (show laterF a b = 0 ∧ laterE a b = 4 by unfold laterF laterE; rw [if_neg hd, if_neg hd]; exact ⟨rfl, rfl⟩)
    have hd2 : bothDel a b = false := by simpa using hd
    unfold bothDel at hd2
    clear hd
    cases hda : isDel a <;> cases hdb : isDel b
    · rw [(del_no hda).1, (del_no hda).2, (del_no hdb).1, (del_no hdb).2, errV_four]
      clear hda hdb hd2
      go_wp2_with fail
      refine wp_phi (fun w' => ErrsOn [0, 3] w' E ∧ Below w2.heap.size w2 w') [] [] (by kernel_rfl) (by kernel_rfl) ?_ ?_ ⟨HE2.out.below ((Below.refl _ _).drew), (Below.refl _ _).drew⟩ ?_
      · rintro w1 w2 ⟨a1, a2⟩ hb
        exact ⟨a1.below hb, a2.trans (hb.mono a2.size)⟩
      · intro p hp; cases hp
      repeat (refine phi_pureK rfl rfl (fun K hK => ?_); apply Exists.intro; constructor; (rintro w' ⟨hI1, hI2⟩; have s1 := hI1.cell 3 rfl; simp only [errVar, List.getD_cons_zero, List.getD_cons_succ] at s1; clear hI1 hI2; first | (go_simp; (try go_bits); (try go_simp); rfl) | go_simp); simp only [Act.put, List.setIfInBounds_toArray, List.set_cons_succ, List.set_cons_zero, List.nil_append, List.cons_append]; apply hK; clear hK K)
      refine phi_done ?_
      rintro w3 ⟨_, hbw⟩ _
      refine wpList_nil ?_
      go_wp2_with fail
      go_ret2
      exact ⟨by rw [HB.out.1, HB.out.2]; rfl, hb12.trans (hbw.mono hb12.size)⟩
    · rw [(del_no hda).1, (del_no hda).2, (del_yes hdb).1, (del_yes hdb).2, errV_four, errV_zero]
      clear hda hdb hd2
      go_wp2_with fail
      refine wp_phi (fun w' => ErrsOn [0, 3] w' E ∧ Below w2.heap.size w2 w') [] [] (by kernel_rfl) (by kernel_rfl) ?_ ?_ ⟨HE2.out.below ((Below.refl _ _).drew), (Below.refl _ _).drew⟩ ?_
      · rintro w1 w2 ⟨a1, a2⟩ hb
        exact ⟨a1.below hb, a2.trans (hb.mono a2.size)⟩
      · intro p hp; cases hp
      repeat (refine phi_pureK rfl rfl (fun K hK => ?_); apply Exists.intro; constructor; (rintro w' ⟨hI1, hI2⟩; have s1 := hI1.cell 3 rfl; simp only [errVar, List.getD_cons_zero, List.getD_cons_succ] at s1; clear hI1 hI2; first | (go_simp; (try go_bits); (try go_simp); rfl) | go_simp); simp only [Act.put, List.setIfInBounds_toArray, List.set_cons_succ, List.set_cons_zero, List.nil_append, List.cons_append]; apply hK; clear hK K)
      refine phi_done ?_
      rintro w3 ⟨_, hbw⟩ _
      refine wpList_nil ?_
      go_wp2_with fail
      go_ret2
      exact ⟨by rw [HB.out.1, HB.out.2]; rfl, hb12.trans (hbw.mono hb12.size)⟩
    · rw [(del_yes hda).1, (del_yes hda).2, (del_no hdb).1, (del_no hdb).2, errV_four, errV_zero]
      clear hda hdb hd2
      go_wp2_with fail
      refine wp_phi (fun w' => ErrsOn [0, 3] w' E ∧ Below w2.heap.size w2 w') [] [] (by kernel_rfl) (by kernel_rfl) ?_ ?_ ⟨HE2.out.below ((Below.refl _ _).drew), (Below.refl _ _).drew⟩ ?_
      · rintro w1 w2 ⟨a1, a2⟩ hb
        exact ⟨a1.below hb, a2.trans (hb.mono a2.size)⟩
      · intro p hp; cases hp
      repeat (refine phi_pureK rfl rfl (fun K hK => ?_); apply Exists.intro; constructor; (rintro w' ⟨hI1, hI2⟩; have s1 := hI1.cell 3 rfl; simp only [errVar, List.getD_cons_zero, List.getD_cons_succ] at s1; clear hI1 hI2; first | (go_simp; (try go_bits); (try go_simp); rfl) | go_simp); simp only [Act.put, List.setIfInBounds_toArray, List.set_cons_succ, List.set_cons_zero, List.nil_append, List.cons_append]; apply hK; clear hK K)
      refine phi_done ?_
      rintro w3 ⟨_, hbw⟩ _
      refine wpList_nil ?_
      go_wp2_with fail
      go_ret2
      exact ⟨by rw [HB.out.1, HB.out.2]; rfl, hb12.trans (hbw.mono hb12.size)⟩
    · rw [hda, hdb] at hd2
      exact absurd hd2 (by decide)
def dueB (now at_ : Nat) : Bool := isDel now && isDel at_ && (flt at_ now || feq at_ now)
theorem due_any (a b : Nat) (ha : a < 18446744073709551616) (hb : b < 18446744073709551616) (w : World) :
    Calls Tryd.prog 21 #[.float .f64 a, .float .f64 b] w (Gives w (.bool (dueB a b))) := by
  have h1 := del_eq ha
  have h2 := del_eq hb
  go_enter Tryd.func21, Tryd.ntmps21
  cases da : isDel a
  · have HD := Lib.hid (show dueB a b = false by unfold dueB; rw [da]; rfl)
    rw [da] at h1
    go_wp2_with fail
    go_ret
    exact ⟨by rw [HD.out]; rfl, Below.refl _ _⟩
  · rw [da] at h1
    cases db : isDel b
    · have HD := Lib.hid (show dueB a b = false by unfold dueB; rw [da, db]; rfl)
      rw [db] at h2
      go_wp2_with fail
      go_ret
      exact ⟨by rw [HD.out]; rfl, Below.refl _ _⟩
    · have HD := Lib.hid (show dueB a b = (flt b a || feq b a) by unfold dueB; rw [da, db]; rfl)
      rw [db] at h2
      go_wp2_with fail
      go_ret
      exact ⟨by rw [HD.out]; rfl, Below.refl _ _⟩
theorem del_small {x : Nat} (h : x ≤ infR) : isDel x = true := by
  unfold isDel; rw [nan_small h]
  have : x < 9223372036854775808 := by unfold infR at h; omega
  simp [this]
theorem plain_small {x : Nat} (h : x ≤ infR) : plainN x = x := by
  unfold plainN
  rw [nan_small h, if_neg (by decide), if_neg (by unfold infR at h; omega)]
theorem key_plain {x : Nat} (h : isDel x = true) : key x = (plainN x : Int) ∧ isNan x = false := by
  unfold isDel at h
  simp only [Bool.and_eq_true, Bool.not_eq_true', Bool.or_eq_true, decide_eq_true_eq] at h
  obtain ⟨hn, hx⟩ := h
  refine ⟨?_, hn⟩
  have hx2 : x < 18446744073709551616 := by omega
  have hp : plainN x = if x = 9223372036854775808 then 0 else x := by unfold plainN; rw [hn]; rfl
  rw [key_big hx2, hp]
  by_cases h0 : x = 9223372036854775808
  · rw [if_pos h0, if_pos (by omega)]; omega
  · rw [if_neg h0, if_neg (by omega)]
theorem due_of_le {t a : Nat} (ht : t ≤ infR) (ha : isDel a = true) (h : plainN a ≤ t) : dueB t a = true := by
  obtain ⟨k1, n1⟩ := key_plain ha
  unfold dueB
  rw [del_small ht, ha, flt_eq, feq_eq, n1, nan_small ht, k1, key_small ht]
  simp only [Bool.not_false, Bool.true_and, Bool.or_eq_true, decide_eq_true_eq]
  omega
theorem boff_inf {d : Nat} (hd : isDel d = true) (k : Nat) (hk : k ≤ 2200) : boffN d infR k = dblI (plainN d) k ∧ boffE d infR k = 0 := by
  have hb : bothDel d infR = true := by unfold bothDel; rw [hd, del_small (Nat.le_refl _)]; rfl
  unfold boffN boffE
  rw [if_pos hb, if_pos hb, if_neg (by omega), if_neg (by omega), plain_small (Nat.le_refl _)]
  refine ⟨?_, rfl⟩
  have e : min ((k : Int).toNat) 2200 = k := by omega
  rw [e, Nat.min_eq_left (dblI_le (plain_le hd) k)]
set_option maxHeartbeats 1000000 in
theorem floatsgrow_any (a b : Nat) (x : Int) (ha : a < 18446744073709551616) (hb : b < 18446744073709551616) (w : World) (E : Nat → Addr) (he : ErrsOn [0, 3] w E) :
    Calls Tryd.prog 6 #[.float .f64 a, .float .f64 b, .int .i64 x] w (Gives w (.bool true)) := by
  have HA := alive_any w E he
  have HE := Lib.hid he
  clear he
  have hu := u64_conv x
  go_enter Tryd.func6, Tryd.ntmps6
  go_wp2_with fail
  refine HA.mono ?_
  rintro e w1 ⟨rfl, hb1⟩
  go_wp2_with fail
  refine (later_any a b ha hb w1 E (HE.out.below hb1)).mono ?_
  rintro e w2 ⟨rfl, hb2'⟩
  have hb2 := hb1.trans (hb2'.mono hb1.size)
  clear hb2'
  by_cases hd : bothDel a b = true
  · have HL := Lib.hid (show laterF a b = addN (plainN a) (plainN b) by unfold laterF; rw [if_pos hd])
    have HM := Lib.hid (show laterE a b = 0 by unfold laterE; rw [if_pos hd])
    have hd' := hd
    unfold bothDel at hd'
    simp only [Bool.and_eq_true] at hd'
    obtain ⟨hda, hdb⟩ := hd'
    have px := plain_le hda
    have pl := plain_le hdb
    rw [HL.out, HM.out, errV_zero]
    obtain ⟨k, hk⟩ : ∃ k, k = u64n x % 100 := ⟨_, rfl⟩
    have hkl : k < 100 := by omega
    have hkm : (u64n x : Int) % 100 = (k : Int) := by omega
    have hB1 := boff_inf hdb k (by omega)
    have hB2 := boff_inf hdb (k + 1) (by omega)
    have h3 : dblI (plainN b) k ≤ dblI (plainN b) (k + 1) := dblI_mono pl (by omega)
    have h4 := dblI_le pl k
    have h5 := dblI_le pl (k + 1)
    have D1 := due_of_le (addN_le (plainN a) (plainN b)) hda (addN_ge px)
    have D2 := due_of_le (addN_le (plainN a) (plainN b)) hdb (by rw [addN_comm]; exact addN_ge pl)
    have D3 := due_of_le h5 (del_small h4) (by rw [plain_small h4]; exact h3)
    have D4 : decide (cmpI (place (dblI (plainN b) k)) (place (dblI (plainN b) (k + 1))) ≤ 0) = true := by
      rw [place_small h4, place_small h5]; unfold cmpI
      rw [decide_eq_true_eq]; repeat' split
      all_goals omega
    have hs : addN (plainN a) (plainN b) < 18446744073709551616 := by have := addN_le (plainN a) (plainN b); unfold infR at this; omega
    have h4' : dblI (plainN b) k < 18446744073709551616 := by unfold infR at h4; omega
    have h5' : dblI (plainN b) (k + 1) < 18446744073709551616 := by unfold infR at h5; omega
    have HHk := Lib.hid hkl
    have R1 := fun w he => backoff_any b infR (k : Int) hb (by decide) (by omega) w E he
    have R2 := fun w he => backoff_any b infR ((k : Int) + 1) hb (by decide) (by omega) w E he
    rw [show ((k : Int) + 1) = ((k + 1 : Nat) : Int) by omega] at R2
    simp only [hB1.1, hB1.2, errV_zero] at R1
    simp only [hB2.1, hB2.2, errV_zero] at R2
    rw [show ((k + 1 : Nat) : Int) = ((k : Int) + 1) by omega] at R2
    clear hB1 hB2 h3 h4 h5 px pl hd hda hdb HL HM hk
    generalize addN (plainN a) (plainN b) = s at *
    generalize dblI (plainN b) k = u at *
    generalize dblI (plainN b) (k + 1) = v at *
    go_wp2_with fail
    refine (inf_any w2).mono ?_
    rintro e w3 ⟨rfl, hb3'⟩
    have hb3 := hb2.trans (hb3'.mono hb2.size)
    clear hb3'
    go_wp2_with fail
    refine (R1 w3 (HE.out.below hb3)).mono ?_
    rintro e w4 ⟨rfl, hb4'⟩
    have hb4 := hb3.trans (hb4'.mono hb3.size)
    clear hb4'
    go_wp2_with fail
    refine (inf_any w4).mono ?_
    rintro e w5 ⟨rfl, hb5'⟩
    have hb5 := hb4.trans (hb5'.mono hb4.size)
    clear hb5'
    go_wp2_with fail
    refine (R2 w5 (HE.out.below hb5)).mono ?_
    rintro e w6 ⟨rfl, hb6'⟩
    have hb6 := hb5.trans (hb6'.mono hb5.size)
    clear hb6'
    go_wp2_with fail
    refine (due_any s a hs ha w6).mono ?_
    rintro e w7 ⟨rfl, hb7'⟩
    have hb7 := hb6.trans (hb7'.mono hb6.size)
    clear hb7'
    rw [D1]
    go_wp2_with fail
    refine (due_any s b hs hb w7).mono ?_
    rintro e w8 ⟨rfl, hb8'⟩
    have hb8 := hb7.trans (hb8'.mono hb7.size)
    clear hb8'
    rw [D2]
    go_wp2_with fail
    refine (order_any u v h4' h5' w8).mono ?_
    rintro e w9 ⟨rfl, hb9'⟩
    have hb9 := hb8.trans (hb9'.mono hb8.size)
    clear hb9'
    go_wp2_with fail
    refine (due_any v u h5' h4' w9).mono ?_
    rintro e w10 ⟨rfl, hb10'⟩
    have hb10 := hb9.trans (hb10'.mono hb9.size)
    clear hb10'
    rw [D3]
    go_wp2_with fail
    go_ret
    exact ⟨rfl, hb10⟩
  · have HL := Lib.hid (show laterF a b = 0 ∧ laterE a b = 4 by unfold laterF laterE; rw [if_neg hd, if_neg hd]; exact ⟨rfl, rfl⟩)
    rw [HL.out.1, HL.out.2, errV_four]
    clear hd
    go_wp2_with fail
    go_ret
    exact ⟨rfl, hb2⟩
end Go.Proofs.YteoiedlffifpoaaDoor
