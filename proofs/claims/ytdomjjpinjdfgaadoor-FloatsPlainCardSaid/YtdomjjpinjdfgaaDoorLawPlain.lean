/-
  LawPlain: the walk of FloatsPlain.
-/
import Derived.Test.YtdomjjpinjdfgaaDoorRefPlain
import Derived.Test.YtdomjjpinjdfgaaDoorFltFin
import Derived.Test.YtdomjjpinjdfgaaDoorErr
namespace Go.Proofs.YtdomjjpinjdfgaaDoor
open Go.RowKit Ieee
attribute [local go_sem] flt_def fgt_def feq_def fne_def

theorem plainN_lt {x : Nat} (hx : x < 18446744073709551616) : plainN x < 18446744073709551616 := by
  unfold plainN nanC
  split
  · omega
  · split <;> omega
theorem nan_nanC : isNan nanC = true := by decide
theorem plain_idem (x : Nat) : plainN (plainN x) = plainN x := by
  unfold plainN
  cases h : isNan x with
  | true => simp only [if_true]; rw [nan_nanC]; rfl
  | false =>
    by_cases h0 : x = 9223372036854775808
    · subst h0; rfl
    · simp only [Bool.false_eq_true, if_false, if_neg h0]
      rw [h]; simp [h0]
def ok1 (w : World) (e : Ending) (w' : World) : Prop := e = .returned (.bool true) ∧ Below w.heap.size w w'
set_option maxRecDepth 20000 in
set_option maxHeartbeats 2000000 in
theorem plainlaw_any (x b : Nat) (hx : x < 18446744073709551616) (hb : b < 18446744073709551616) (w : World) (E : Nat → Addr) (he : Errs w E) :
    Calls Tryd.prog 3 #[.float .f64 x, .int .u64 (b : Int)] w (ok1 w) := by
  have HE := Lib.hid he
  have HXX := Lib.hid hx
  have HBB := Lib.hid hb
  have HP := Lib.hid (plainN_lt hx)
  have HI := Lib.hid (plain_idem x)
  have HA := alive_any w E (he.on [0, 3] rfl)
  clear he hx hb
  go_enter Tryd.func3, Tryd.ntmps3
  go_wp2_with fail
  refine HA.mono ?_
  rintro e w1 ⟨rfl, hb1⟩
  clear HA
  go_wp2_with fail
  refine (plain_any x HXX.out w1).mono ?_
  rintro e w2 ⟨rfl, hb2'⟩
  have hb2 := hb1.trans (hb2'.mono hb1.size)
  clear hb2'
  go_wp2_with fail
  have HDV := delay_any x HXX.out w2 E ((HE.out.below hb2).on [0, 3] rfl)
  unfold delV at HDV
  refine HDV.mono ?_
  rintro e w3 ⟨rfl, hb3'⟩
  have hb3 := hb2.trans (hb3'.mono hb2.size)
  clear hb3' HDV
  go_wp2_with fail
  refine (refdel_any x w3).mono ?_
  rintro e w4 ⟨rfl, hb4'⟩
  have hb4 := hb3.trans (hb4'.mono hb3.size)
  clear hb4'
  go_wp2_with fail
  refine (refplain_any x HXX.out w4).mono ?_
  rintro e w5 ⟨rfl, hb5'⟩
  have hb5 := hb4.trans (hb5'.mono hb4.size)
  clear hb5'
  have HFP := Lib.hid (fun w => from_any (plainN x) HP.out w)
  rw [HI.out] at HFP
  have hpp : ((plainN x : Int) == (plainN x : Int)) = true := by simp
  have HB6 := Lib.hid (fun w => bits_any x HXX.out w)
  have HRB := Lib.hid (fun w => refbits_any x HXX.out w)
  cases hd : isDel x with
  | true =>
    rw [(del_yes hd).1, (del_yes hd).2, errV_zero]
    clear hd HI HP HXX
    generalize plainN x = p at *
    go_wp2_with fail
    refine (same_any p p w5).mono ?_
    rintro e w6 ⟨rfl, hb6'⟩
    have hb6 := hb5.trans (hb6'.mono hb5.size)
    clear hb6'
    go_wp2_with fail
    refine (HB6.out w6).mono ?_
    rintro e w7 ⟨rfl, hb7'⟩
    have hb7 := hb6.trans (hb7'.mono hb6.size)
    clear hb7'
    go_wp2_with fail
    refine (HRB.out w7).mono ?_
    rintro e w8 ⟨rfl, hb8'⟩
    have hb8 := hb7.trans (hb8'.mono hb7.size)
    clear hb8'
    go_wp2_with fail
    refine (HB6.out w8).mono ?_
    rintro e w9 ⟨rfl, hb9'⟩
    have hb9 := hb8.trans (hb9'.mono hb8.size)
    clear hb9'
    go_wp2_with fail
    refine (HFP.out w9).mono ?_
    rintro e wa ⟨rfl, hba'⟩
    have hba := hb9.trans (hba'.mono hb9.size)
    clear hba'
    go_wp2_with fail
    refine (same_any p p wa).mono ?_
    rintro e wb ⟨rfl, hbb'⟩
    have hbb := hba.trans (hbb'.mono hba.size)
    clear hbb'
    go_wp2_with fail
    refine (same_any p p wb).mono ?_
    rintro e wc ⟨rfl, hbc'⟩
    have hbc := hbb.trans (hbc'.mono hbb.size)
    clear hbc'
    have hfb := run_frombits b
    have hfin := fin_bits HBB.out
    have hfin2 : (bits .and .u64 (b : Int) 9218868437227405312 == 9218868437227405312) = !isFin b := by rw [← hfin]; unfold bne; rw [Bool.not_not]
    go_wp2_with fail
    refine (from_any b HBB.out wc).mono ?_
    rintro e wj ⟨rfl, hbj'⟩
    have hbj := hbc.trans (hbj'.mono hbc.size)
    clear hbj'
    go_wp2_with fail
    refine (refplain_any b HBB.out wj).mono ?_
    rintro e wk ⟨rfl, hbk'⟩
    have hbk := hbj.trans (hbk'.mono hbj.size)
    clear hbk'
    go_wp2_with fail
    refine (same_any (plainN b) (plainN b) wk).mono ?_
    rintro e wl ⟨rfl, hbl'⟩
    have hbl := hbk.trans (hbl'.mono hbk.size)
    clear hbl'
    go_wp2_with fail
    refine (finite_any b wl).mono ?_
    rintro e wm ⟨rfl, hbm'⟩
    have hbm := hbl.trans (hbm'.mono hbl.size)
    clear hbm'
    have hbb : ((plainN b : Int) == (plainN b : Int)) = true := by simp
    go_wp2_with fail
    go_ret
    exact ⟨by simp, hbm⟩
  | false =>
    rw [(del_no hd).1, (del_no hd).2]
    clear hd HI HP HXX
    have h4 := errV_four E
    have HN := Lib.hid (fun w' he => num_any w' E 4 (by omega) he)
    have h00 : ((0 : Int) == 0) = true := rfl
    have HS0 := Lib.hid (fun w => same_any 0 0 w)
    rw [show (((0 : Nat) : Int) == ((0 : Nat) : Int)) = true from rfl] at HS0
    generalize plainN x = p at *
    rw [h4] at HN ⊢
    clear h4
    go_wp2_with fail
    refine (same_any p p w5).mono ?_
    rintro e w6 ⟨rfl, hb6'⟩
    have hb6 := hb5.trans (hb6'.mono hb5.size)
    clear hb6'
    go_wp2_with fail
    refine (HB6.out w6).mono ?_
    rintro e w7 ⟨rfl, hb7'⟩
    have hb7 := hb6.trans (hb7'.mono hb6.size)
    clear hb7'
    go_wp2_with fail
    refine (HRB.out w7).mono ?_
    rintro e w8 ⟨rfl, hb8'⟩
    have hb8 := hb7.trans (hb8'.mono hb7.size)
    clear hb8'
    go_wp2_with fail
    refine (HB6.out w8).mono ?_
    rintro e w9 ⟨rfl, hb9'⟩
    have hb9 := hb8.trans (hb9'.mono hb8.size)
    clear hb9'
    go_wp2_with fail
    refine (HFP.out w9).mono ?_
    rintro e wa ⟨rfl, hba'⟩
    have hba := hb9.trans (hba'.mono hb9.size)
    clear hba'
    go_wp2_with fail
    refine (same_any p p wa).mono ?_
    rintro e wb ⟨rfl, hbb'⟩
    have hbb := hba.trans (hbb'.mono hba.size)
    clear hbb'
    go_wp2_with fail
    refine (HS0.out wb).mono ?_
    rintro e wc ⟨rfl, hbc'⟩
    have hbc := hbb.trans (hbc'.mono hbb.size)
    clear hbc'
    go_wp2_with fail
    refine (HN.out wc (HE.out.below hbc)).mono ?_
    rintro e wd ⟨rfl, hbd'⟩
    have hbd := hbc.trans (hbd'.mono hbc.size)
    clear hbd'
    have hfb := run_frombits b
    have hfin := fin_bits HBB.out
    have hfin2 : (bits .and .u64 (b : Int) 9218868437227405312 == 9218868437227405312) = !isFin b := by rw [← hfin]; unfold bne; rw [Bool.not_not]
    go_wp2_with fail
    refine (from_any b HBB.out wd).mono ?_
    rintro e wj ⟨rfl, hbj'⟩
    have hbj := hbd.trans (hbj'.mono hbd.size)
    clear hbj'
    go_wp2_with fail
    refine (refplain_any b HBB.out wj).mono ?_
    rintro e wk ⟨rfl, hbk'⟩
    have hbk := hbj.trans (hbk'.mono hbj.size)
    clear hbk'
    go_wp2_with fail
    refine (same_any (plainN b) (plainN b) wk).mono ?_
    rintro e wl ⟨rfl, hbl'⟩
    have hbl := hbk.trans (hbl'.mono hbk.size)
    clear hbl'
    go_wp2_with fail
    refine (finite_any b wl).mono ?_
    rintro e wm ⟨rfl, hbm'⟩
    have hbm := hbl.trans (hbm'.mono hbl.size)
    clear hbm'
    have hbb : ((plainN b : Int) == (plainN b : Int)) = true := by simp
    go_wp2_with fail
    go_ret
    exact ⟨by simp, hbm⟩
end Go.Proofs.YtdomjjpinjdfgaaDoor
