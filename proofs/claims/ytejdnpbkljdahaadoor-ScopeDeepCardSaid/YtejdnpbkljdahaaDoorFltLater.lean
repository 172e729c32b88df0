/-
  FltLater: floats.Later.
-/
import Derived.Test.YtejdnpbkljdahaaDoorFltPlain0
namespace Go.Proofs.YtejdnpbkljdahaaDoor
open Go.RowKit Ieee
attribute [local go_sem] flt_def fgt_def feq_def fne_def

def laterF (a b : Nat) : Nat := if bothDel a b then addN (plainN a) (plainN b) else 0
def laterE (a b : Nat) : Nat := if bothDel a b then 0 else 4
theorem later_any (a b : Nat) (ha : a < 18446744073709551616) (hb : b < 18446744073709551616) (w : World) (E : Nat → Addr) (he : ErrsOn [0, 3] w E) :
    Calls Tryd.prog 22 #[.float .f64 a, .float .f64 b] w (Gives w (.tuple #[.float .f64 (laterF a b), errV E (laterE a b)])) := by
  have HE := Lib.hid he
  clear he
  go_enter Tryd.func22, Tryd.ntmps22
  go_wp2_with fail
  refine (delay_any a ha w E HE.out).mono ?_
  rintro e w1 ⟨rfl, hb1⟩
  unfold delV
  have HE1 := Lib.hid (HE.out.below hb1)
  go_wp2_with fail
  refine (delay_any b hb w1 E HE1.out).mono ?_
  rintro e w2 ⟨rfl, hb2⟩
  unfold delV
  have hb12 := hb1.trans (hb2.mono hb1.size)
  have HE2 := Lib.hid (HE.out.below hb12)
  clear hb1 hb2 HE1
  by_cases hd : bothDel a b = true
  · have hd' := hd
    unfold bothDel at hd'
    simp only [Bool.and_eq_true] at hd'
    obtain ⟨hda, hdb⟩ := hd'
    have px := plain_le hda
    have pl := plain_le hdb
    rw [(del_yes hda).1, (del_yes hda).2, (del_yes hdb).1, (del_yes hdb).2, errV_zero]
    have HB := Lib.hid (show laterF a b = addN (plainN a) (plainN b) ∧ laterE a b = 0 by unfold laterF laterE; rw [hd]; exact ⟨if_pos rfl, if_pos rfl⟩)
    have hm := fun w t => run_float_arith (P := Tryd.prog) w .add t .f64 (plainN a) (plainN b) (addN (plainN a) (plainN b)) (add_eq px pl)
    clear hd hda hdb px pl
    generalize addN (plainN a) (plainN b) = s at *
    generalize plainN a = x0 at *
    generalize plainN b = y0 at *
    go_wp2_with fail
    go_ret2
    exact ⟨by rw [HB.out.1, HB.out.2]; rfl, hb12⟩
  · have HB := Lib.hid (show laterF a b = 0 ∧ laterE a b = 4 by unfold laterF laterE; rw [if_neg hd, if_neg hd]; exact ⟨rfl, rfl⟩)
    have hd2 : bothDel a b = false := by simpa using hd
    unfold bothDel at hd2
    clear hd
    cases hda : isDel a <;> cases hdb : isDel b
    · rw [(del_no hda).1, (del_no hda).2, (del_no hdb).1, (del_no hdb).2, errV_four]
      clear hda hdb hd2
      go_wp2_with fail
      refine wp_phi (fun w' => ErrsOn [0, 3] w' E ∧ Below w2.heap.size w2 w') [] [] (by kernel_rfl) (by kernel_rfl) ?_ ?_ ⟨HE2.out.below ((Below.refl _ _).drew), (Below.refl _ _).drew⟩ ?_
      · rintro w1 w2 ⟨a1, a2⟩ hb
        exact ⟨a1.below hb, a2.trans (hb.mono a2.size)⟩
      · intro p hp; cases hp
      repeat (refine phi_pureK rfl rfl (fun K hK => ?_); apply Exists.intro; constructor; (rintro w' ⟨hI1, hI2⟩; have s1 := hI1.cell 3 rfl; simp only [errVar, List.getD_cons_zero, List.getD_cons_succ] at s1; clear hI1 hI2; first | (go_simp; (try go_bits); (try go_simp); rfl) | go_simp); simp only [Act.put, List.setIfInBounds_toArray, List.set_cons_succ, List.set_cons_zero]; (try simp only [List.cons_append]); (try simp only [List.nil_append]); apply hK; clear hK K)
      refine phi_done ?_
      rintro w3 ⟨_, hbw⟩ _
      refine wpList_nil ?_
      go_wp2_with fail
      go_ret2
      exact ⟨by rw [HB.out.1, HB.out.2]; rfl, hb12.trans (hbw.mono hb12.size)⟩
    · rw [(del_no hda).1, (del_no hda).2, (del_yes hdb).1, (del_yes hdb).2, errV_four, errV_zero]
      clear hda hdb hd2
      go_wp2_with fail
      refine wp_phi (fun w' => ErrsOn [0, 3] w' E ∧ Below w2.heap.size w2 w') [] [] (by kernel_rfl) (by kernel_rfl) ?_ ?_ ⟨HE2.out.below ((Below.refl _ _).drew), (Below.refl _ _).drew⟩ ?_
      · rintro w1 w2 ⟨a1, a2⟩ hb
        exact ⟨a1.below hb, a2.trans (hb.mono a2.size)⟩
      · intro p hp; cases hp
      repeat (refine phi_pureK rfl rfl (fun K hK => ?_); apply Exists.intro; constructor; (rintro w' ⟨hI1, hI2⟩; have s1 := hI1.cell 3 rfl; simp only [errVar, List.getD_cons_zero, List.getD_cons_succ] at s1; clear hI1 hI2; first | (go_simp; (try go_bits); (try go_simp); rfl) | go_simp); simp only [Act.put, List.setIfInBounds_toArray, List.set_cons_succ, List.set_cons_zero]; (try simp only [List.cons_append]); (try simp only [List.nil_append]); apply hK; clear hK K)
      refine phi_done ?_
      rintro w3 ⟨_, hbw⟩ _
      refine wpList_nil ?_
      go_wp2_with fail
      go_ret2
      exact ⟨by rw [HB.out.1, HB.out.2]; rfl, hb12.trans (hbw.mono hb12.size)⟩
    · rw [(del_yes hda).1, (del_yes hda).2, (del_no hdb).1, (del_no hdb).2, errV_four, errV_zero]
      clear hda hdb hd2
      go_wp2_with fail
      refine wp_phi (fun w' => ErrsOn [0, 3] w' E ∧ Below w2.heap.size w2 w') [] [] (by kernel_rfl) (by kernel_rfl) ?_ ?_ ⟨HE2.out.below ((Below.refl _ _).drew), (Below.refl _ _).drew⟩ ?_
      · rintro w1 w2 ⟨a1, a2⟩ hb
        exact ⟨a1.below hb, a2.trans (hb.mono a2.size)⟩
      · intro p hp; cases hp
      repeat (refine phi_pureK rfl rfl (fun K hK => ?_); apply Exists.intro; constructor; (rintro w' ⟨hI1, hI2⟩; have s1 := hI1.cell 3 rfl; simp only [errVar, List.getD_cons_zero, List.getD_cons_succ] at s1; clear hI1 hI2; first | (go_simp; (try go_bits); (try go_simp); rfl) | go_simp); simp only [Act.put, List.setIfInBounds_toArray, List.set_cons_succ, List.set_cons_zero]; (try simp only [List.cons_append]); (try simp only [List.nil_append]); apply hK; clear hK K)
      refine phi_done ?_
      rintro w3 ⟨_, hbw⟩ _
      refine wpList_nil ?_
      go_wp2_with fail
      go_ret2
      exact ⟨by rw [HB.out.1, HB.out.2]; rfl, hb12.trans (hbw.mono hb12.size)⟩
    · rw [hda, hdb] at hd2
      exact absurd hd2 (by decide)
end Go.Proofs.YtejdnpbkljdahaaDoor
