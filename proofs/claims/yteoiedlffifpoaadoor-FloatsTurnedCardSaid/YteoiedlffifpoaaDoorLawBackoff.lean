/-
  LawBackoff: the document's delays by bits; the walk of FloatsBackoff.
-/
import Derived.Test.YteoiedlffifpoaaDoorFltAlive
namespace Go.Proofs.YteoiedlffifpoaaDoor
open Go.RowKit Ieee
attribute [local go_sem] flt_def fgt_def feq_def fne_def

theorem refbits_any (x : Nat) (hx : x < 18446744073709551616) (w : World) :
    Calls Tryd.prog 28 #[.float .f64 x] w (Gives w (.int .u64 (plainN x : Int))) := by
  go_enter Tryd.func28, Tryd.ntmps28
  go_wp2_with fail
  refine (refnan_any x w).mono ?_
  rintro e w1 ⟨rfl, hb1⟩
  cases hn : isNan x
  · go_wp2_with fail
    refine (raw_any x w1).mono ?_
    rintro e w2 ⟨rfl, hb2'⟩
    have hb2 := hb1.trans (hb2'.mono hb1.size)
    clear hb2'
    by_cases h0 : x = 9223372036854775808
    · have hd : ((x : Int) == 9223372036854775808) = true := by simp; omega
      have HC := Lib.hid (show plainN x = 0 by unfold plainN; rw [hn, if_pos h0]; rfl)
      clear h0
      go_wp2_with fail
      go_ret
      exact ⟨by rw [HC.out]; rfl, hb2⟩
    · have hd : ((x : Int) == 9223372036854775808) = false := by simp; omega
      have HC := Lib.hid (show plainN x = x by unfold plainN; rw [hn, if_neg h0]; rfl)
      clear h0
      go_wp2_with fail
      refine (raw_any x w2).mono ?_
      rintro e w3 ⟨rfl, hb3'⟩
      have hb3 := hb2.trans (hb3'.mono hb2.size)
      clear hb3'
      go_wp2_with fail
      go_ret
      exact ⟨by rw [HC.out]; rfl, hb3⟩
  · have HC := Lib.hid (show plainN x = nanC by unfold plainN; rw [hn]; rfl)
    go_wp2_with fail
    go_ret
    exact ⟨by rw [HC.out]; rfl, hb1⟩
theorem refplain_any (x : Nat) (hx : x < 18446744073709551616) (w : World) :
    Calls Tryd.prog 18 #[.float .f64 x] w (Gives w (.float .f64 (plainN x))) := by
  have h1 := run_frombits (plainN x)
  go_enter Tryd.func18, Tryd.ntmps18
  go_wp2_with fail
  refine (refbits_any x hx w).mono ?_
  rintro e w1 ⟨rfl, hb1⟩
  generalize plainN x = p at *
  go_wp2_with fail
  go_ret
  exact ⟨rfl, hb1⟩
theorem refdel_any (x : Nat) (w : World) :
    Calls Tryd.prog 27 #[.float .f64 x] w (Gives w (.bool (isDel x))) := by
  go_enter Tryd.func27, Tryd.ntmps27
  go_wp2_with fail
  refine (refnan_any x w).mono ?_
  rintro e w1 ⟨rfl, hb1⟩
  cases hn : isNan x
  · go_wp2_with fail
    refine (raw_any x w1).mono ?_
    rintro e w2 ⟨rfl, hb2'⟩
    have hb2 := hb1.trans (hb2'.mono hb1.size)
    clear hb2'
    by_cases h1 : x < 9223372036854775808
    · have hd : decide ((x : Int) < 9223372036854775808) = true := by simp; omega
      have HC := Lib.hid (show isDel x = true by unfold isDel; rw [hn]; simp [h1])
      clear h1
      go_wp2_with fail
      go_ret
      exact ⟨by rw [HC.out]; rfl, hb2⟩
    · have hd : decide ((x : Int) < 9223372036854775808) = false := by simp; omega
      have HC := Lib.hid (show isDel x = ((x : Int) == 9223372036854775808) by
        unfold isDel; rw [hn, decide_eq_false h1, Bool.eq_iff_iff]; simp; omega)
      clear h1
      go_wp2_with fail
      refine (raw_any x w2).mono ?_
      rintro e w3 ⟨rfl, hb3'⟩
      have hb3 := hb2.trans (hb3'.mono hb2.size)
      clear hb3'
      go_wp2_with fail
      go_ret
      exact ⟨by rw [HC.out]; rfl, hb3⟩
  · have HC := Lib.hid (show isDel x = false by unfold isDel; rw [hn]; rfl)
    go_wp2_with fail
    go_ret
    exact ⟨by rw [HC.out]; rfl, hb1⟩
theorem same_any (x y : Nat) (w : World) :
    Calls Tryd.prog 16 #[.float .f64 x, .float .f64 y] w (Gives w (.bool ((x : Int) == (y : Int)))) := by
  go_enter Tryd.func16, Tryd.ntmps16
  go_wp2_with fail
  refine (raw_any x w).mono ?_
  rintro e w1 ⟨rfl, hb1⟩
  go_wp2_with fail
  refine (raw_any y w1).mono ?_
  rintro e w2 ⟨rfl, hb2'⟩
  have hb2 := hb1.trans (hb2'.mono hb1.size)
  clear hb2'
  go_wp2_with fail
  go_ret
  exact ⟨rfl, hb2⟩
set_option maxRecDepth 20000 in
set_option maxHeartbeats 1000000 in
theorem refbackoff_any (a b : Nat) (times : Int) (ha : a < 18446744073709551616) (hb : b < 18446744073709551616) (ht : times ≤ 9223372036854775807) (w : World) :
    Calls Tryd.prog 23 #[.float .f64 a, .int .i64 times, .float .f64 b] w (Gives w (.tuple #[.float .f64 (boffN a b times), .int .i64 (boffE a b times : Int)])) := by
  go_enter Tryd.func23, Tryd.ntmps23
  go_wp2_with fail
  refine (refdel_any a w).mono ?_
  rintro e w1 ⟨rfl, hb1⟩
  have hno : bothDel a b = false → boffN a b times = 0 ∧ boffE a b times = 4 := fun h => by
    unfold boffN boffE; rw [if_neg (by rw [h]; decide), if_neg (by rw [h]; decide)]; exact ⟨rfl, rfl⟩
  cases hda : isDel a
  · have HB := Lib.hid (hno (by unfold bothDel; rw [hda]; rfl))
    clear hno
    go_wp2_with fail
    go_ret2
    exact ⟨by rw [HB.out.1, HB.out.2]; rfl, hb1⟩
  · go_wp2_with fail
    refine (refdel_any b w1).mono ?_
    rintro e w2 ⟨rfl, hb2'⟩
    have hb2 := hb1.trans (hb2'.mono hb1.size)
    clear hb2'
    cases hdb : isDel b
    · have HB := Lib.hid (hno (by unfold bothDel; rw [hda, hdb]; rfl))
      clear hno
      go_wp2_with fail
      go_ret2
      exact ⟨by rw [HB.out.1, HB.out.2]; rfl, hb2⟩
    · clear hno
      have hd : bothDel a b = true := by unfold bothDel; rw [hda, hdb]; rfl
      have px := plain_le hda
      have pl := plain_le hdb
      by_cases hneg : times < 0
      · have HB := Lib.hid (show boffN a b times = 0 ∧ boffE a b times = 1 by unfold boffN boffE; rw [if_pos hd, if_pos hd, if_pos hneg, if_pos hneg]; exact ⟨rfl, rfl⟩)
        have dn : decide (times < 0) = true := by simp; omega
        go_wp2_with fail
        go_ret2
        exact ⟨by rw [HB.out.1, HB.out.2]; rfl, hb2⟩
      · obtain ⟨n, rfl⟩ : ∃ n : Nat, times = (n : Int) := ⟨times.toNat, by omega⟩
        have HB := Lib.hid (show boffN a b n = min (dblI (plainN a) (min n 2200)) (plainN b) ∧ boffE a b n = 0 by
          unfold boffN boffE; rw [if_pos hd, if_pos hd, if_neg hneg, if_neg hneg]; exact ⟨by simp, rfl⟩)
        have dn : decide ((n : Int) < 0) = false := by simp
        obtain ⟨N, hN⟩ : ∃ N, N = min n 2200 := ⟨_, rfl⟩
        rw [← hN] at HB
        have HN2 := Lib.hid hN
        clear hN
        have RP := fun w => refplain_any a ha w
        have RL := fun w => refplain_any b hb w
        generalize plainN a = x0 at *
        generalize plainN b = lim at *
        clear hneg hd hda hdb
        go_wp2_with fail
        refine (RP w2).mono ?_
        rintro e w3 ⟨rfl, hb3'⟩
        have hb3 := hb2.trans (hb3'.mono hb2.size)
        clear hb3'
        go_wp2_with fail
        go_loopw [8, 9] (fun v i wr => ∃ k : Nat, k ≤ N ∧ i = .int .i64 k ∧ v = .float .f64 (dblI x0 k) ∧ Below w.heap.size w wr) (fun _ i _ => N - (intOf i).toNat)
        case atStart => exact ⟨0, by omega, rfl, rfl, hb3⟩
        case round =>
          obtain ⟨k, hk, rfl, rfl, hbw⟩ := hrel
          have hy := dblI_le px k
          have hN := HN2.out
          have hk22 : k ≤ 2200 := by omega
          have HS := Lib.hid (show dblI x0 (k + 1) = addN (dblI x0 k) (dblI x0 k) from rfl)
          have hm := fun w t => run_float_arith (P := Tryd.prog) w .add t .f64 (dblI x0 k) (dblI x0 k) (addN (dblI x0 k) (dblI x0 k)) (add_eq hy hy)
          have HY := Lib.hid hy
          have HK := Lib.hid (show ¬ k < N → dblI x0 k = dblI x0 (N) from fun h => by rw [show k = N by omega])
          clear hy
          generalize hyy : dblI x0 k = y at *
          generalize addN y y = y2 at *
          by_cases hlt : k < N
          · have d1 : decide ((k : Int) < (n : Int)) = true := decide_eq_true (by omega)
            have d1' : decide (k < n) = true := decide_eq_true (by omega)
            have d2 : decide ((k : Int) < 2200) = true := decide_eq_true (by omega)
            have d2' : decide (k < 2200) = true := decide_eq_true (by omega)
            have HLT := Lib.hid (show k + 1 ≤ N by omega)
            have HL2 := Lib.hid (show k < 2200 by omega)
            clear hyy HK hlt hk hN
            go_wp2_with fail
            go_roundw
            case rel => exact ⟨k + 1, HLT.out, by go_num, by rw [HS.out], hbw⟩
            case measure => have := HLT.out; simp [intOf]; omega
          · have HN := Lib.hid (HK.out hlt)
            have hy' : y < 18446744073709551616 := by have := HY.out; unfold infR at this; omega
            have hl' : lim < 18446744073709551616 := by unfold infR at pl; omega
            have key : (decide (cmpI (place lim) (place y) < 0) = true ∧ min y lim = lim) ∨ (decide (cmpI (place lim) (place y) < 0) = false ∧ min y lim = y) := by
              rw [place_small pl, place_small HY.out]
              unfold cmpI
              rcases Nat.lt_or_ge lim y with h | h
              · exact .inl ⟨by rw [if_pos (by omega)]; rfl, Nat.min_eq_right (Nat.le_of_lt h)⟩
              · exact .inr ⟨by rw [if_neg (by omega)]; split <;> rfl, Nat.min_eq_left h⟩
            have HKEY := Lib.hid key
            have RO := fun w => reforder_any lim y hl' hy' w
            clear key hy' hl' HK hm hyy
            by_cases h1 : k < n
            · have d1 : decide ((k : Int) < (n : Int)) = true := decide_eq_true (by omega)
              have d1' : decide (k < n) = true := decide_eq_true (by omega)
              have d2 : decide ((k : Int) < 2200) = false := decide_eq_false (by omega)
              have d2' : decide (k < 2200) = false := decide_eq_false (by omega)
              clear h1 hlt hk hN
              go_wp2_with fail
              refine (RL wr).mono ?_
              rintro e w5 ⟨rfl, hb5'⟩
              have hb5 := hbw.trans (hb5'.mono hbw.size)
              clear hb5'
              go_wp2_with fail
              refine (RO w5).mono ?_
              rintro e w6 ⟨rfl, hb6'⟩
              have hb6 := hb5.trans (hb6'.mono hb5.size)
              clear hb6'
              rcases HKEY.out with ⟨k1, k2⟩ | ⟨k1, k2⟩
              · have d3 := k1
                have HK2 := Lib.hid k2
                clear k1 k2
                go_wp2_with fail
                refine (RL w6).mono ?_
                rintro e w7 ⟨rfl, hb7'⟩
                have hb7 := hb6.trans (hb7'.mono hb6.size)
                clear hb7'
                go_wp2_with fail
                go_ret2
                exact ⟨by rw [HB.out.1, HB.out.2, ← HN.out, HK2.out]; rfl, hb7⟩
              · have d3 := k1
                have HK2 := Lib.hid k2
                clear k1 k2
                go_wp2_with fail
                go_ret2
                exact ⟨by rw [HB.out.1, HB.out.2, ← HN.out, HK2.out]; rfl, hb6⟩
            · have d1 : decide ((k : Int) < (n : Int)) = false := decide_eq_false (by omega)
              have d1' : decide (k < n) = false := decide_eq_false (by omega)
              clear h1 hlt hk hN
              go_wp2_with fail
              refine (RL wr).mono ?_
              rintro e w5 ⟨rfl, hb5'⟩
              have hb5 := hbw.trans (hb5'.mono hbw.size)
              clear hb5'
              go_wp2_with fail
              refine (RO w5).mono ?_
              rintro e w6 ⟨rfl, hb6'⟩
              have hb6 := hb5.trans (hb6'.mono hb5.size)
              clear hb6'
              rcases HKEY.out with ⟨k1, k2⟩ | ⟨k1, k2⟩
              · have d3 := k1
                have HK2 := Lib.hid k2
                clear k1 k2
                go_wp2_with fail
                refine (RL w6).mono ?_
                rintro e w7 ⟨rfl, hb7'⟩
                have hb7 := hb6.trans (hb7'.mono hb6.size)
                clear hb7'
                go_wp2_with fail
                go_ret2
                exact ⟨by rw [HB.out.1, HB.out.2, ← HN.out, HK2.out]; rfl, hb7⟩
              · have d3 := k1
                have HK2 := Lib.hid k2
                clear k1 k2
                go_wp2_with fail
                go_ret2
                exact ⟨by rw [HB.out.1, HB.out.2, ← HN.out, HK2.out]; rfl, hb6⟩
set_option maxHeartbeats 1000000 in
theorem floatsbackoff_any (a b : Nat) (times : Int) (ha : a < 18446744073709551616) (hb : b < 18446744073709551616) (ht : -9223372036854775808 ≤ times ∧ times ≤ 9223372036854775807) (w : World) (E : Nat → Addr) (he : Errs w E) :
    Calls Tryd.prog 8 #[.float .f64 a, .int .i64 times, .float .f64 b] w (Gives w (.bool true)) := by
  have HA := alive_any w E (he.on [0, 3] rfl)
  have HE := Lib.hid he
  clear he
  have hE14 : boffE a b times ≤ 14 := by unfold boffE; repeat' split
                                         all_goals omega
  go_enter Tryd.func8, Tryd.ntmps8
  go_wp2_with fail
  refine HA.mono ?_
  rintro e w1 ⟨rfl, hb1⟩
  go_wp2_with fail
  refine (backoff_any a b times ha hb ht.2 w1 E ((HE.out.below hb1).on [0, 3] rfl)).mono ?_
  rintro e w2 ⟨rfl, hb2'⟩
  have hb2 := hb1.trans (hb2'.mono hb1.size)
  clear hb2'
  go_wp2_with fail
  refine (refbackoff_any a b times ha hb ht.2 w2).mono ?_
  rintro e w3 ⟨rfl, hb3'⟩
  have hb3 := hb2.trans (hb3'.mono hb2.size)
  clear hb3'
  generalize boffN a b times = x at *
  generalize boffE a b times = n at *
  have hs : ((x : Int) == (x : Int)) = true := by simp
  have hn : ((n : Int) == (n : Int)) = true := by simp
  go_wp2_with fail
  refine (same_any x x w3).mono ?_
  rintro e w4 ⟨rfl, hb4'⟩
  have hb4 := hb3.trans (hb4'.mono hb3.size)
  clear hb4'
  rw [hs]
  go_wp2_with fail
  refine (num_any w4 E n hE14 (HE.out.below hb4)).mono ?_
  rintro e w5 ⟨rfl, hb5'⟩
  have hb5 := hb4.trans (hb5'.mono hb4.size)
  clear hb5'
  go_wp2_with fail
  go_ret
  exact ⟨rfl, hb5⟩
end Go.Proofs.YteoiedlffifpoaaDoor
