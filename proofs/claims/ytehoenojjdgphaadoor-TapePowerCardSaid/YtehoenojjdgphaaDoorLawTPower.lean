/-
  LawTPower: the walk of TapePower.
-/
import Derived.Test.YtehoenojjdgphaaDoorTapeAlive
import Derived.Test.YtehoenojjdgphaaDoorTapePw
import Derived.Test.YtehoenojjdgphaaDoorTapeQ
import Derived.Test.YtehoenojjdgphaaDoorModK
namespace Go.Proofs.YtehoenojjdgphaaDoor
open Go.RowKit
attribute [local go_sem] bs_toList bs_size

def ZZ : List UInt8 := List.replicate 21 0
def ZC : Array Value := (bvs ZZ).toArray
theorem run_make21 (w : World) : (Instr.makeSlice 22 (.int .i64 21) (.int .i64 21)).run Tryd.prog w = .ok (.slice (some ⟨w.heap.size, 0, none⟩) 21 21) (w.alloc (.cells ZC 5)) := by kernel_rfl
theorem byt_zz (w : World) : Byt (w.alloc (.cells ZC 5)) (.slice (some ⟨w.heap.size, 0, none⟩) 21 21) ZZ :=
  ⟨_, _, rfl, by decide, by unfold maxLen; omega, rd_new w ZC _ _⟩
set_option maxRecDepth 20000 in
set_option maxHeartbeats 2000000 in
theorem tapepower_any (x y : Int) (w : World) (E : Nat → Addr) (he : Errs w E) :
    Calls Tryd.prog 5 #[.int .i64 x, .int .i64 y] w (ok1 w) := by
  have HE := Lib.hid he
  have HA := alive_any w E (he.on [0, 5, 6] rfl)
  obtain ⟨i0, hi, hz0, hz1, hz2⟩ := info_parts byt8Info
  have hu1 := u64_conv x
  have hu2 := u64_conv y
  obtain ⟨L, hL, hk1⟩ : ∃ k : Nat, k < 20 ∧ (u64n x : Int) % 20 = (k : Int) := ⟨u64n x % 20, by omega, by omega⟩
  obtain ⟨S, hS, hk2⟩ : ∃ k : Nat, k < 30 ∧ (u64n y : Int) % 30 = (k : Int) := ⟨u64n y % 30, by omega, by omega⟩
  clear he
  go_enter Tryd.func5, Tryd.ntmps5
  go_wp2_with fail
  refine HA.mono ?_
  rintro e w1 ⟨rfl, hb1⟩
  have K1 : Keeps w.heap.size tapeTs w w1 := Keeps.of_below hb1 (Nat.le_refl _)
  clear HA hb1
  go_wp2_with fail
  refine (new_ok w1 E w.heap.size 20 ((HE.out.below K1.below).on [0] rfl) (by decide) K1.size).mono ?_
  rintro e w2 ⟨rfl, ht2, K2'⟩
  have K2 := K1.trans K2'
  clear K2'
  have HT2 := Lib.hid ht2
  have hB := tp_base ht2
  clear ht2
  go_wp2_with fail
  clear hu1 hu2 hk1 hk2
  refine (arm_any w2 w.heap.size w1.heap.size _ (L : Int) (by omega) HT2.out).mono ?_
  rintro e w3 ⟨rfl, ht3, K3'⟩
  have K3 := K2.trans K3'
  clear K3'
  rw [pw_arm] at ht3
  have HT3 := Lib.hid ht3
  clear ht3
  go_wp2_with fail
  go_loopw [31] (fun i wr => ∃ k : Nat, k ≤ S ∧ i = .int .i64 k ∧ Tp wr w.heap.size w1.heap.size (pw L k) ∧ Keeps w.heap.size tapeTs w wr) (fun i _ => S - (intOf i).toNat)
  case atStart => exact ⟨0, by omega, rfl, HT3.out, K3⟩
  case round =>
    obtain ⟨k, hk, rfl, htr, Kr⟩ := hrel
    have HTR := Lib.hid htr
    clear htr
    have hlt2 := tp_lt HTR.out
    by_cases hlt : k < S
    · have hmk := run_make21
      have hal := below_alloc1 wr (.cells ZC 5)
      have Kz := Kr.call Kr.size hal
      have hyz := byt_zz wr
      have HTZ := Lib.hid (HTR.out.below hal)
      clear hal
      go_wp2_with fail
      generalize hwz : wr.alloc (.cells ZC 5) = wz at *
      refine (append_any wz E w.heap.size w1.heap.size _ _ ZZ ((HE.out.below Kz.below).on [5, 6] rfl) HTZ.out Kz.size hyz (fun w' k' => byt_only hyz (by omega) k') (by decide)).mono ?_
      rintro e w4 ⟨rfl, ht4, K4'⟩
      have K4 := Kz.trans K4'
      clear K4'
      rw [(pw_full L k ZZ rfl).2]
      rw [(pw_full L k ZZ rfl).1] at ht4
      have HT4 := Lib.hid ht4
      clear ht4 hyz hwz hmk
      go_wp2_with fail
      refine (num_any w4 E 6 (by omega) (HE.out.below K4.below)).mono ?_
      rintro e w5 ⟨rfl, hb5⟩
      have K5 := K4.call K4.below.size hb5
      have HT5 := Lib.hid (HT4.out.below hb5)
      clear hb5
      go_wp2_with fail
      refine (cut_any w5 E w.heap.size w1.heap.size _ 100 ((HE.out.below K5.below).on [0, 6] rfl) HT5.out K5.size).mono ?_
      rintro e w6 ⟨rfl, ht6, K6'⟩
      have K6 := K5.trans K6'
      clear K6'
      rw [(pw_cut L k).2]
      rw [(pw_cut L k).1] at ht6
      have HT6 := Lib.hid ht6
      clear ht6
      go_wp2_with fail
      refine (num_any w6 E 1 (by omega) (HE.out.below K6.below)).mono ?_
      rintro e w7 ⟨rfl, hb7⟩
      have K7 := K6.call K6.below.size hb7
      have HT7 := Lib.hid (HT6.out.below hb7)
      clear hb7
      go_wp2_with fail
      refine (sync_any w7 E w.heap.size w1.heap.size _ ((HE.out.below K7.below).on [6] rfl) HT7.out).mono ?_
      rintro e w8 ⟨rfl, ht8, K8'⟩
      have K8 := K7.trans K8'
      clear K8'
      rw [pw_stepE]
      rw [pw_sync] at ht8
      have HT8 := Lib.hid ht8
      clear ht8
      by_cases hkL : k < L
      · have d1 : decide ((k : Int) < (L : Int)) = true := by rw [decide_eq_true_eq]; omega
        have d2 : decide (k < L) = true := by rw [decide_eq_true_eq]; omega
        rw [if_pos hkL, errV_nil]
        go_wp2_with fail
        go_roundw
        case rel => exact ⟨k + 1, by omega, by go_num, HT8.out, K8⟩
        case measure => simp [intOf]; omega
      · have d1 : decide ((k : Int) < (L : Int)) = false := by rw [decide_eq_false_iff_not]; omega
        have d2 : decide (k < L) = false := by rw [decide_eq_false_iff_not]; omega
        rw [if_neg hkL, errV_suc]
        go_wp2_with fail
        refine (num_any w8 E 7 (by omega) (HE.out.below K8.below)).mono ?_
        rintro e w9 ⟨rfl, hb9⟩
        have K9 := K8.call K8.below.size hb9
        have HT9 := Lib.hid (HT8.out.below hb9)
        clear hb9
        go_wp2_with fail
        go_roundw
        case rel => exact ⟨k + 1, by omega, by go_num, HT9.out, K9⟩
        case measure => simp [intOf]; omega
    · obtain rfl : k = S := by omega
      go_wp2_with fail
      refine (off_any wr w.heap.size w1.heap.size _ HTR.out).mono ?_
      rintro e w9 ⟨rfl, hb9⟩
      have K9 := Kr.call Kr.size hb9
      rw [pw_off]
      by_cases hd : L < k
      · have d1 : decide ((L : Int) < (k : Int)) = true := by rw [decide_eq_true_eq]; omega
        have d2 : decide (L < k) = true := by rw [decide_eq_true_eq]; omega
        go_wp2_with fail
        go_ret
        exact ⟨rfl, K9.below⟩
      · have d1 : decide ((L : Int) < (k : Int)) = false := by rw [decide_eq_false_iff_not]; omega
        have d2 : decide (L < k) = false := by rw [decide_eq_false_iff_not]; omega
        go_wp2_with fail
        go_ret
        exact ⟨rfl, K9.below⟩
end Go.Proofs.YtehoenojjdgphaaDoor
