/-
  LawJC: JournalCompacts answers true.
-/
import Derived.Test.YtoiknidlincdkaaDoorJourV
import Derived.Test.YtoiknidlincdkaaDoorSameL
import Derived.Test.YtoiknidlincdkaaDoorLong7
namespace Go.Proofs.YtoiknidlincdkaaDoor
open Go.RowKit

/-- the script of two calls that the laws ask of long -/
theorem opl_two (w : World) (p q : Option Addr) (n m : Nat) (cp cq : Nat) (ls ms : List (List UInt8)) (h1 : BytL w (.slice p ls.length cp) ls) (h2 : BytL w (.slice q ms.length cq) ms) (g : Nat) (hg : g = w.heap.size) :
    OpLJ (w.alloc (.cells #[.int .i64 0, .int .i64 0, .slice p ls.length cp, .int .i64 0, .int .i64 0, .slice q ms.length cq] 49)) (.slice (some ⟨g, 0, none⟩) 2 2) [(0, 0, ls), (0, 0, ms)] := by
  subst hg
  have hb := Blk.new w 49 #[.int .i64 0, .int .i64 0, .slice p ls.length cp, .int .i64 0, .int .i64 0, .slice q ms.length cq]
  refine ⟨_, 2, rfl, Nat.le_refl _, by unfold maxLen; omega, fun i o ho => ?_⟩
  match i, ho with
  | 0, ho =>
    cases ho
    exact ⟨_, 0, p, cp, rfl, (hb.cell 0).trans rfl, (hb.cell 1).trans rfl, (hb.cell 2).trans rfl, h1.keep (keep_alloc _ _)⟩
  | 1, ho =>
    cases ho
    exact ⟨_, 0, q, cq, rfl, (hb.cell 3).trans rfl, (hb.cell 4).trans rfl, (hb.cell 5).trans rfl, h2.keep (keep_alloc _ _)⟩
  | i + 2, ho => simp at ho
theorem long_two {ls ms : List (List UInt8)} (h : longR [(0, 0, ls), (0, 0, ms)] = false) : (ls.length ≤ 10 ∧ ms.length ≤ 10) := by
  obtain ⟨_, h2⟩ := longR_no h
  exact ⟨(longRow_no (h2 _ (List.mem_cons_self ..))).1, (longRow_no (h2 (0, 0, ms) (by simp))).1⟩
theorem emod2 (k : Int) : k % 2 = 0 ∨ k % 2 = 1 := by omega
theorem tmod2 (n : Int) : wrap64 ((u64n n : Int).tmod 2) = 0 ∨ wrap64 ((u64n n : Int).tmod 2) = 1 := by
  obtain ⟨k, h1, h2⟩ := mod_k n 2 (by decide) (by decide)
  rw [Int.tmod_eq_emod_of_nonneg (Int.natCast_nonneg _)]
  have h3 : wrap64 ((u64n n : Int) % 2) = (k : Int) := h2
  rw [h3]
  omega
set_option maxRecDepth 20000 in
set_option maxHeartbeats 8000000 in
theorem compacts_any (w : World) (E : Nat → Addr) (he : Errs w E) (ht : HalfTab w) (v1 v2 : Value) (ls ms : List (List UInt8)) (n : Int) (hv1 : BytL w v1 ls) (hv2 : BytL w v2 ms) :
    Calls Tryd.prog 6 #[v1, v2, .int .i64 n] w (ok1 w) := by
  have HE := Lib.hid he
  have HGL := Lib.hid (Glob.of he ht)
  have HAL := Lib.hid (alive_any w E he ht)
  have HV1 := Lib.hid hv1
  have HV2 := Lib.hid hv2
  obtain ⟨p1, c1, us1, rfl, _, a2, _⟩ := hv1
  obtain ⟨p2, c2, us2, rfl, _, b2, _⟩ := hv2
  unfold maxLen at a2 b2
  clear he ht
  have hu := u64_conv n
  go_enter Tryd.func6, Tryd.ntmps6
  go_wp2_with fail
  refine HAL.out.mono ?_
  rintro e w1 ⟨rfl, hb1⟩
  have HB1 := Lib.hid hb1
  clear hb1 HAL
  go_wp2_with fail
  have HOL := Lib.hid (opl_two w1 p1 p2 ls.length ms.length c1 c2 ls ms (HV1.out.keep (Below.keeps HB1.out)) (HV2.out.keep (Below.keeps HB1.out)) _ rfl)
  have HBX := Lib.hid (below_alloc HB1.out (.cells #[.int .i64 0, .int .i64 0, .slice p1 ls.length c1, .int .i64 0, .int .i64 0, .slice p2 ms.length c2] 49))
  generalize w1.alloc (.cells #[.int .i64 0, .int .i64 0, .slice p1 ls.length c1, .int .i64 0, .int .i64 0, .slice p2 ms.length c2] 49) = wx at *
  refine (long_any _ _ wx HOL.out).mono ?_
  rintro e w2 ⟨rfl, hb2⟩
  have HB2 := Lib.hid (HBX.out.trans (hb2.mono HBX.out.size))
  clear hb2 HOL HBX HB1
  cases hlo : longR [(0, 0, ls), (0, 0, ms)] with
  | true =>
    go_wp2_with fail
    go_ret
    exact ⟨rfl, HB2.out⟩
  | false =>
  have hlen := long_two hlo
  have HLEN := Lib.hid hlen
  clear hlo hlen
  go_wp2_with fail
  refine (newP_any w2 E 10000 ((HE.out.below HB2.out).on [0] rfl) (by decide) (by decide)).mono ?_
  rintro e w3 ⟨rfl, ht3, hb3⟩
  have HT3 := Lib.hid ht3
  have HB3 := Lib.hid (HB2.out.trans (hb3.mono HB2.out.size))
  clear ht3 hb3
  have haw : w.heap.size ≤ w2.heap.size := HB2.out.size
  generalize w2.heap.size = a at *
  go_wp2_with fail
  refine (openR_any w.heap.size w3 E a none [] [] 10000 HT3.out rfl (HGL.out.below HB3.out) HB3.out.size (by simp; omega) (by simp)).mono ?_
  rintro e w4 ⟨rfl, ⟨p4, o4, _, hj4⟩, k4⟩
  have HJ4 := Lib.hid hj4
  have HB4 := Lib.hid (HB3.out.trans (k4.below (B := w.heap.size) (by simp; omega) HB3.out.size))
  clear hj4 k4 HT3
  generalize w3.heap.size = j at *
  have HPU := Lib.hid (put_any w.heap.size w4 E j a p4 o4 [] (JSt.rest [] 10000) _ ls HJ4.out (stay_old HV1.out HB4.out HJ4.out.base) (by decide) (by have := HLEN.out; omega))
  cases hok : okRows ls with
  | false =>
    have HQ := Lib.hid (put_bad (JSt.rest [] 10000) ls rfl hok)
    rw [HQ.out.1, HQ.out.2, errV_suc] at HPU
    clear hok
    go_wp2_with fail
    refine HPU.out.mono ?_
    rintro e w5 ⟨rfl, ⟨p5, o5, _, _, hj5⟩, k5⟩
    have HB5 := Lib.hid (HB4.out.trans (HJ4.out.below k5))
    clear hj5 k5
    go_wp2_with fail
    go_ret
    exact ⟨rfl, HB5.out⟩
  | true =>
  have hfl := framesJ_bound ls 200 (fun r hr => ((okRow_iff r).1 ((okRows_iff ls).1 hok r hr)).2)
  have hfl2 : (framesJ ls).length ≤ 2060 := by have := HLEN.out.1; omega
  have HOKL := Lib.hid hok
  have HQ := Lib.hid (put_rest [] ls 10000 hok (by rw [List.nil_append]; omega))
  rw [HQ.out.1, HQ.out.2, errV_zero, List.nil_append] at HPU
  clear hok hfl HQ
  go_wp2_with fail
  refine HPU.out.mono ?_
  rintro e w5 ⟨rfl, ⟨p5, o5, _, _, hj5⟩, k5⟩
  have HJ5 := Lib.hid hj5
  have HB5 := Lib.hid (HB4.out.trans (HJ4.out.below k5))
  clear hj5 k5 HPU HJ4
  go_wp2_with fail
  have hm2 : (u64n n : Int) % 2 = 0 ∨ (u64n n : Int) % 2 = 1 := emod2 _
  clear hu
  generalize (u64n n : Int) % 2 = m2 at *
  refine (arm_any w5 a o5 _ m2 (by omega) HJ5.out.jn.tape).mono ?_
  rintro e w6 ⟨rfl, ht6, k6⟩
  obtain ⟨o6, hn6, hj6⟩ := HJ5.out.jn.tapes ⟨o5, .inl rfl, ht6⟩ k6
  have HJ6 := Lib.hid (HJ5.out.new (k6.wider (jS_tape j a p5 o5)) hj6 (.inl rfl) hn6)
  have HB6 := Lib.hid (HB5.out.trans (k6.below HJ5.out.tp HJ5.out.hB))
  clear hj6 hn6 k6 ht6
  have HCO := Lib.hid (compact_any w.heap.size w6 E j a p5 o6 [] _ _ ms HJ6.out (stay_old HV2.out HB6.out HJ6.out.base) (by have := HLEN.out; omega))
  cases hok2 : okRows ms with
  | false =>
    have HQ := Lib.hid (compact_bad ⟨TSt.arm (JSt.rest ls 10000).t m2, ls, false⟩ ms rfl hok2)
    rw [show (⟨TSt.arm (JSt.rest ls 10000).t m2, (JSt.rest ls 10000).rows, (JSt.rest ls 10000).dead⟩ : JSt) = ⟨TSt.arm (JSt.rest ls 10000).t m2, ls, false⟩ from rfl, HQ.out.1, HQ.out.2] at HCO
    clear hok2
    go_wp2_with fail
    refine HCO.out.mono ?_
    rintro e w7 ⟨rfl, ⟨p7, o7, _, _, hj7⟩, k7⟩
    have HJ7 := Lib.hid hj7
    have HB7 := Lib.hid (HB6.out.trans (HJ6.out.below k7))
    clear hj7 k7 HCO
    rw [errV_suc]
    have HNU := Lib.hid (num_any w7 E 4 (by decide) (HE.out.below HB7.out))
    rw [errV_suc] at HNU
    go_wp2_with fail
    refine HNU.out.mono ?_
    rintro e w8 ⟨rfl, hb8⟩
    have HB8 := Lib.hid (HB7.out.trans (hb8.mono HB7.out.size))
    have HJ8 := Lib.hid (HJ7.out.same hb8)
    clear hb8 HNU
    go_wp2_with fail
    refine (rowsOf_any w8 j a p7 o7 [] _ HJ8.out.jn (by show ls.length ≤ _; have := HLEN.out; omega)).mono ?_
    rintro e w9 ⟨v9, rfl, ho9, hb9⟩
    have HY9 := Lib.hid ho9.bytl
    have HB9 := Lib.hid (HB8.out.trans (hb9.mono HB8.out.size))
    obtain ⟨_, _, hown, _⟩ := ho9
    obtain ⟨pr, cr, rfl, _, _, _⟩ := owns_rd hown
    clear hown hb9
    have HSA := Lib.hid (samel_any w9 _ _ ls ls HY9.out (HV1.out.keep (Below.keeps HB9.out)))
    rw [decide_eq_true (rfl : ls = ls)] at HSA
    go_wp2_with fail
    refine HSA.out.mono ?_
    rintro e w10 ⟨rfl, hb10⟩
    go_wp2_with fail
    go_ret
    exact ⟨rfl, HB9.out.trans (hb10.mono HB9.out.size)⟩
  | true =>
  have hfm := framesJ_bound ms 200 (fun r hr => ((okRow_iff r).1 ((okRows_iff ms).1 hok2 r hr)).2)
  have hfm2 : (framesJ ms).length ≤ 2060 := by have := HLEN.out.2; omega
  rcases hm2 with rfl | rfl
  · have HQ := Lib.hid (compact_arm ls ms 10000 0 hok2 (by omega))
    have HQ := Lib.hid (show (⟨TSt.arm (JSt.rest ls 10000).t 0, ls, false⟩ : JSt).compact ms = ⟨⟨true, true, -1, framesJ ls, (framesJ ls).length, 10000⟩, ls, true⟩ ∧ (⟨TSt.arm (JSt.rest ls 10000).t 0, ls, false⟩ : JSt).compactE ms = 7 from HQ.out)
    rw [show (⟨TSt.arm (JSt.rest ls 10000).t 0, (JSt.rest ls 10000).rows, (JSt.rest ls 10000).dead⟩ : JSt) = ⟨TSt.arm (JSt.rest ls 10000).t 0, ls, false⟩ from rfl, HQ.out.1, HQ.out.2] at HCO
    have HOK2 := Lib.hid hok2
    clear hok2 hfm
    go_wp2_with fail
    refine HCO.out.mono ?_
    rintro e w7 ⟨rfl, ⟨p7, o7, _, _, hj7⟩, k7⟩
    have HJ7 := Lib.hid hj7
    have HB7 := Lib.hid (HB6.out.trans (HJ6.out.below k7))
    clear hj7 k7 HCO
    have HNU := Lib.hid (num_any w7 E 7 (by decide) (HE.out.below HB7.out))
    rw [errV_suc] at HNU
    rw [errV_suc]
    go_wp2_with fail
    refine HNU.out.mono ?_
    rintro e w8 ⟨rfl, hb8⟩
    have HB8 := Lib.hid (HB7.out.trans (hb8.mono HB7.out.size))
    have HJ8 := Lib.hid (HJ7.out.same hb8)
    clear hb8 HNU
    go_wp2_with fail
    refine (crash_any w8 a o7 _ 0 (by decide) HJ8.out.jn.tape).mono ?_
    rintro e w9 ⟨rfl, ht9, k9⟩
    have HT9 := Lib.hid (show Tp w9 a o7 (JSt.rest ls 10000).t from by
      have e : TSt.crash ⟨true, true, -1, framesJ ls, (framesJ ls).length, 10000⟩ 0 = (JSt.rest ls 10000).t := by
        show TSt.P ((framesJ ls).take ((framesJ ls).length + min (0 : Int).toNat ((framesJ ls).length - (framesJ ls).length))) _ 10000 = _
        rw [Nat.sub_self, Nat.min_zero, Nat.add_zero, List.take_of_length_le (Nat.le_refl _)]
        unfold TSt.kept
        rfl
      rw [← e]
      exact ht9)
    have HA9 := Lib.hid HJ8.out.tp
    have HB9 := Lib.hid (HB8.out.trans (k9.below HJ8.out.tp HJ8.out.hB))
    clear ht9 k9
    go_wp2_with fail
    refine (openR_any w.heap.size w9 E a o7 [] ls 10000 HT9.out HOKL.out (HGL.out.below HB9.out) HB9.out.size HA9.out (by simp)).mono ?_
    rintro e wa ⟨rfl, ⟨pa, oa, _, hja⟩, ka⟩
    have HJA := Lib.hid hja
    have HBA := Lib.hid (HB9.out.trans (ka.below HA9.out HB9.out.size))
    clear hja ka
    go_wp2_with fail
    refine (rowsOf_any wa _ a pa oa [] _ HJA.out.jn (by show List.length ls ≤ _; have := HLEN.out; omega)).mono ?_
    rintro e wb ⟨vb, rfl, hob, hbb⟩
    have HYB := Lib.hid hob.bytl
    have HBB := Lib.hid (HBA.out.trans (hbb.mono HBA.out.size))
    obtain ⟨_, _, hown, _⟩ := hob
    obtain ⟨pr, cr, rfl, _, _, _⟩ := owns_rd hown
    clear hown hbb
    have HSA := Lib.hid (samel_any wb _ _ ls ls HYB.out (HV1.out.keep (Below.keeps HBB.out)))
    rw [decide_eq_true (rfl : ls = ls)] at HSA
    go_wp2_with fail
    refine HSA.out.mono ?_
    rintro e wc ⟨rfl, hbc⟩
    go_wp2_with fail
    go_ret
    exact ⟨rfl, HBB.out.trans (hbc.mono HBB.out.size)⟩
  · have HQ := Lib.hid (compact_arm ls ms 10000 1 hok2 (by omega))
    have HQ := Lib.hid (show (⟨TSt.arm (JSt.rest ls 10000).t 1, ls, false⟩ : JSt).compact ms = ⟨⟨false, true, (1 : Int) - 1, framesJ ms, (framesJ ms).length, 10000⟩, ms, false⟩ ∧ (⟨TSt.arm (JSt.rest ls 10000).t 1, ls, false⟩ : JSt).compactE ms = 0 from HQ.out)
    rw [show (⟨TSt.arm (JSt.rest ls 10000).t 1, (JSt.rest ls 10000).rows, (JSt.rest ls 10000).dead⟩ : JSt) = ⟨TSt.arm (JSt.rest ls 10000).t 1, ls, false⟩ from rfl, HQ.out.1, HQ.out.2] at HCO
    have HOK2 := Lib.hid hok2
    clear hok2 hfm
    go_wp2_with fail
    refine HCO.out.mono ?_
    rintro e w7 ⟨rfl, ⟨p7, o7, _, _, hj7⟩, k7⟩
    have HJ7 := Lib.hid hj7
    have HB7 := Lib.hid (HB6.out.trans (HJ6.out.below k7))
    clear hj7 k7 HCO
    have HNU := Lib.hid (num_any w7 E 0 (by decide) (HE.out.below HB7.out))
    rw [errV_zero] at HNU
    rw [errV_zero]
    go_wp2_with fail
    refine HNU.out.mono ?_
    rintro e w8 ⟨rfl, hb8⟩
    have HB8 := Lib.hid (HB7.out.trans (hb8.mono HB7.out.size))
    have HJ8 := Lib.hid (HJ7.out.same hb8)
    clear hb8 HNU
    go_wp2_with fail
    refine (crash_any w8 a o7 _ 0 (by decide) HJ8.out.jn.tape).mono ?_
    rintro e w9 ⟨rfl, ht9, k9⟩
    have HT9 := Lib.hid (show Tp w9 a o7 (JSt.rest ms 10000).t from by
      have e : TSt.crash ⟨false, true, (1 : Int) - 1, framesJ ms, (framesJ ms).length, 10000⟩ 0 = (JSt.rest ms 10000).t := by
        show TSt.P ((framesJ ms).take ((framesJ ms).length + min (0 : Int).toNat ((framesJ ms).length - (framesJ ms).length))) _ 10000 = _
        rw [Nat.sub_self, Nat.min_zero, Nat.add_zero, List.take_of_length_le (Nat.le_refl _)]
        unfold TSt.kept
        rfl
      rw [← e]
      exact ht9)
    have HA9 := Lib.hid HJ8.out.tp
    have HB9 := Lib.hid (HB8.out.trans (k9.below HJ8.out.tp HJ8.out.hB))
    clear ht9 k9
    go_wp2_with fail
    refine (openR_any w.heap.size w9 E a o7 [] ms 10000 HT9.out HOK2.out (HGL.out.below HB9.out) HB9.out.size HA9.out (by simp)).mono ?_
    rintro e wa ⟨rfl, ⟨pa, oa, _, hja⟩, ka⟩
    have HJA := Lib.hid hja
    have HBA := Lib.hid (HB9.out.trans (ka.below HA9.out HB9.out.size))
    clear hja ka
    go_wp2_with fail
    refine (rowsOf_any wa _ a pa oa [] _ HJA.out.jn (by show List.length ms ≤ _; have := HLEN.out; omega)).mono ?_
    rintro e wb ⟨vb, rfl, hob, hbb⟩
    have HYB := Lib.hid hob.bytl
    have HBB := Lib.hid (HBA.out.trans (hbb.mono HBA.out.size))
    obtain ⟨_, _, hown, _⟩ := hob
    obtain ⟨pr, cr, rfl, _, _, _⟩ := owns_rd hown
    clear hown hbb
    have HSA := Lib.hid (samel_any wb _ _ ms ms HYB.out (HV2.out.keep (Below.keeps HBB.out)))
    rw [decide_eq_true (rfl : ms = ms)] at HSA
    go_wp2_with fail
    refine HSA.out.mono ?_
    rintro e wc ⟨rfl, hbc⟩
    go_wp2_with fail
    go_ret
    exact ⟨rfl, HBB.out.trans (hbc.mono HBB.out.size)⟩
end Go.Proofs.YtoiknidlincdkaaDoor
