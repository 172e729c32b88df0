/-
  FltRef: the document's plain form and delays by bits; floats.Bits.
-/
import Derived.Test.YtejdnpbkljdahaaDoorFltPlain0
namespace Go.Proofs.YtejdnpbkljdahaaDoor
open Go.RowKit Ieee
attribute [local go_sem] flt_def fgt_def feq_def fne_def

theorem refbits_any (x : Nat) (hx : x < 18446744073709551616) (w : World) :
    Calls Tryd.prog 27 #[.float .f64 x] w (Gives w (.int .u64 (plainN x : Int))) := by
  go_enter Tryd.func27, Tryd.ntmps27
  go_wp2_with fail
  refine (refnan_any x w).mono ?_
  rintro e w1 ⟨rfl, hb1⟩
  cases hn : isNan x
  · go_wp2_with fail
    refine (raw_any x w1).mono ?_
    rintro e w2 ⟨rfl, hb2'⟩
    have hb2 := hb1.trans (hb2'.mono hb1.size)
    clear hb2'
    by_cases h0 : x = 9223372036854775808
    · have hd : ((x : Int) == 9223372036854775808) = true := by simp; omega
      have HC := Lib.hid (show plainN x = 0 by unfold plainN; rw [hn, if_pos h0]; rfl)
      clear h0
      go_wp2_with fail
      go_ret
      exact ⟨by rw [HC.out]; rfl, hb2⟩
    · have hd : ((x : Int) == 9223372036854775808) = false := by simp; omega
      have HC := Lib.hid (show plainN x = x by unfold plainN; rw [hn, if_neg h0]; rfl)
      clear h0
      go_wp2_with fail
      refine (raw_any x w2).mono ?_
      rintro e w3 ⟨rfl, hb3'⟩
      have hb3 := hb2.trans (hb3'.mono hb2.size)
      clear hb3'
      go_wp2_with fail
      go_ret
      exact ⟨by rw [HC.out]; rfl, hb3⟩
  · have HC := Lib.hid (show plainN x = nanC by unfold plainN; rw [hn]; rfl)
    go_wp2_with fail
    go_ret
    exact ⟨by rw [HC.out]; rfl, hb1⟩
theorem refplain_any (x : Nat) (hx : x < 18446744073709551616) (w : World) :
    Calls Tryd.prog 26 #[.float .f64 x] w (Gives w (.float .f64 (plainN x))) := by
  have h1 := run_frombits (plainN x)
  go_enter Tryd.func26, Tryd.ntmps26
  go_wp2_with fail
  refine (refbits_any x hx w).mono ?_
  rintro e w1 ⟨rfl, hb1⟩
  generalize plainN x = p at *
  go_wp2_with fail
  go_ret
  exact ⟨rfl, hb1⟩
theorem refdel_any (x : Nat) (w : World) :
    Calls Tryd.prog 25 #[.float .f64 x] w (Gives w (.bool (isDel x))) := by
  go_enter Tryd.func25, Tryd.ntmps25
  go_wp2_with fail
  refine (refnan_any x w).mono ?_
  rintro e w1 ⟨rfl, hb1⟩
  cases hn : isNan x
  · go_wp2_with fail
    refine (raw_any x w1).mono ?_
    rintro e w2 ⟨rfl, hb2'⟩
    have hb2 := hb1.trans (hb2'.mono hb1.size)
    clear hb2'
    by_cases h1 : x < 9223372036854775808
    · have hd : decide ((x : Int) < 9223372036854775808) = true := by simp; omega
      have HC := Lib.hid (show isDel x = true by unfold isDel; rw [hn]; simp [h1])
      clear h1
      go_wp2_with fail
      go_ret
      exact ⟨by rw [HC.out]; rfl, hb2⟩
    · have hd : decide ((x : Int) < 9223372036854775808) = false := by simp; omega
      have HC := Lib.hid (show isDel x = ((x : Int) == 9223372036854775808) by
        unfold isDel; rw [hn, decide_eq_false h1, Bool.eq_iff_iff]; simp; omega)
      clear h1
      go_wp2_with fail
      refine (raw_any x w2).mono ?_
      rintro e w3 ⟨rfl, hb3'⟩
      have hb3 := hb2.trans (hb3'.mono hb2.size)
      clear hb3'
      go_wp2_with fail
      go_ret
      exact ⟨by rw [HC.out]; rfl, hb3⟩
  · have HC := Lib.hid (show isDel x = false by unfold isDel; rw [hn]; rfl)
    go_wp2_with fail
    go_ret
    exact ⟨by rw [HC.out]; rfl, hb1⟩
theorem bits_any (x : Nat) (hx : x < 18446744073709551616) (w : World) :
    Calls Tryd.prog 34 #[.float .f64 x] w (Gives w (.int .u64 (plainN x : Int))) := by
  have h1 := run_bits (plainN x)
  go_enter Tryd.func34, Tryd.ntmps34
  go_wp2_with fail
  refine (plain_any x hx w).mono ?_
  rintro e w1 ⟨rfl, hb1⟩
  go_wp2_with fail
  go_ret
  exact ⟨rfl, hb1⟩
end Go.Proofs.YtejdnpbkljdahaaDoor
