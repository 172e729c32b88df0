/-
  LawJK: JournalKeeps answers true.
-/
import Derived.Test.YtoiknidlincdkaaDoorLawJC
import Derived.Lib.SlBytesConst
namespace Go.Proofs.YtoiknidlincdkaaDoor
open Go.RowKit

theorem one_of {w : World} {us : List Value} {ls : List (List UInt8)} (h1 : us.length = ls.length) (h : ∀ (i : Nat) (l : List UInt8), ls[i]? = some l → ∃ u, us[i]? = some u ∧ Byt w u l) : ∀ u ∈ us, u.oneCell' = true := by
  intro u hu
  obtain ⟨i, hi, rfl⟩ := List.getElem_of_mem hu
  obtain ⟨u', hu', p, c, rfl, _⟩ := h i ls[i] (by simp)
  rw [List.getElem?_eq_getElem hi] at hu'
  rw [Option.some.inj hu']
  rfl
theorem bytl_take {w : World} {p : Option Addr} {n k : Nat} {ls : List (List UInt8)} (h : BytL w (.slice p n k) ls) (m : Nat) (hm : m ≤ ls.length) : BytL w (.slice p m k) (ls.take m) := by
  obtain ⟨q, c, us, he, h1, h2, h3, h4, h5⟩ := h
  cases he
  refine ⟨p, k, us.take m, by rw [List.length_take, Nat.min_eq_left hm], by rw [List.length_take]; omega, h2, h3.take m, by rw [List.length_take, List.length_take, h4], fun i l hl => ?_⟩
  have him : i < m := by
    have := (List.getElem?_eq_some_iff.1 hl).1
    rw [List.length_take] at this
    omega
  rw [List.getElem?_take, if_pos him] at hl
  obtain ⟨u, hu, hy⟩ := h5 i l hl
  exact ⟨u, by rw [List.getElem?_take, if_pos him]; exact hu, hy⟩
theorem lenB_any (w : World) (j : Nat) (x y z : Value) (p : Option Addr) (n c : Nat) (hb : Blk w j 83 #[x, .slice p n c, y, z]) :
    Calls Tryd.prog 23 #[.pointer (some ⟨j, 0, none⟩)] w fun e w' => e = .returned (.int .i64 (n : Int)) ∧ w = w' := by
  have c1 := (hb.cell 1).trans rfl
  clear hb
  go_enter Tryd.func23, Tryd.ntmps23
  go_wp2_with fail
  go_ret
  exact ⟨rfl, rfl⟩
set_option maxRecDepth 20000 in
set_option maxHeartbeats 8000000 in
theorem keeps_any (w : World) (E : Nat → Addr) (he : Errs w E) (ht : HalfTab w) (v1 v2 : Value) (ls ms : List (List UInt8)) (n : Int) (hn : -9223372036854775808 ≤ n ∧ n ≤ 9223372036854775807) (hv1 : BytL w v1 ls) (hv2 : BytL w v2 ms) :
    Calls Tryd.prog 5 #[v1, v2, .int .i64 n] w (ok1 w) := by
  have HE := Lib.hid he
  have HGL := Lib.hid (Glob.of he ht)
  have HAL := Lib.hid (alive_any w E he ht)
  have HV1 := Lib.hid hv1
  have HV2 := Lib.hid hv2
  obtain ⟨p1, c1, us1, rfl, _, a2, _⟩ := hv1
  obtain ⟨p2, c2, us2, rfl, _, b2, _⟩ := hv2
  unfold maxLen at a2 b2
  clear he ht
  go_enter Tryd.func5, Tryd.ntmps5
  go_wp2_with fail
  refine HAL.out.mono ?_
  rintro e w1 ⟨rfl, hb1⟩
  have HB1 := Lib.hid hb1
  clear hb1 HAL
  go_wp2_with fail
  have HOL := Lib.hid (opl_two w1 p1 p2 ls.length ms.length c1 c2 ls ms (HV1.out.keep (Below.keeps HB1.out)) (HV2.out.keep (Below.keeps HB1.out)) _ rfl)
  have HBX := Lib.hid (below_alloc HB1.out (.cells #[.int .i64 0, .int .i64 0, .slice p1 ls.length c1, .int .i64 0, .int .i64 0, .slice p2 ms.length c2] 49))
  generalize w1.alloc (.cells #[.int .i64 0, .int .i64 0, .slice p1 ls.length c1, .int .i64 0, .int .i64 0, .slice p2 ms.length c2] 49) = wx at *
  refine (long_any _ _ wx HOL.out).mono ?_
  rintro e w2 ⟨rfl, hb2⟩
  have HB2 := Lib.hid (HBX.out.trans (hb2.mono HBX.out.size))
  clear hb2 HOL HBX HB1
  cases hlo : longR [(0, 0, ls), (0, 0, ms)] with
  | true =>
    go_wp2_with fail
    go_ret
    exact ⟨rfl, HB2.out⟩
  | false =>
  have hlen := long_two hlo
  have HLEN := Lib.hid hlen
  clear hlo hlen
  go_wp2_with fail
  refine (newP_any w2 E 10000 ((HE.out.below HB2.out).on [0] rfl) (by decide) (by decide)).mono ?_
  rintro e w3 ⟨rfl, ht3, hb3⟩
  have HT3 := Lib.hid ht3
  have HB3 := Lib.hid (HB2.out.trans (hb3.mono HB2.out.size))
  clear ht3 hb3
  have haw : w.heap.size ≤ w2.heap.size := HB2.out.size
  generalize w2.heap.size = a at *
  go_wp2_with fail
  refine (openR_any w.heap.size w3 E a none [] [] 10000 HT3.out rfl (HGL.out.below HB3.out) HB3.out.size (by simp; omega) (by simp)).mono ?_
  rintro e w4 ⟨rfl, ⟨p4, o4, _, hj4⟩, k4⟩
  have HJ4 := Lib.hid hj4
  have HB4 := Lib.hid (HB3.out.trans (k4.below (B := w.heap.size) (by simp; omega) HB3.out.size))
  clear hj4 k4 HT3
  generalize w3.heap.size = j at *
  have HPU := Lib.hid (put_any w.heap.size w4 E j a p4 o4 [] (JSt.rest [] 10000) _ ls HJ4.out (stay_old HV1.out HB4.out HJ4.out.base) (by decide) (by have := HLEN.out; omega))
  cases hok : okRows ls with
  | false =>
    have HQ := Lib.hid (put_bad (JSt.rest [] 10000) ls rfl hok)
    rw [HQ.out.1, HQ.out.2, errV_suc] at HPU
    clear hok
    go_wp2_with fail
    refine HPU.out.mono ?_
    rintro e w5 ⟨rfl, ⟨p5, o5, _, _, hj5⟩, k5⟩
    have HB5 := Lib.hid (HB4.out.trans (HJ4.out.below k5))
    have HJ5 := Lib.hid hj5
    clear hj5 k5
    go_wp2_with fail
    refine (lenOf_any w5 j a p5 o5 [] _ HJ5.out.jn).mono ?_
    rintro e w5' ⟨rfl, rfl⟩
    rw [show (((JSt.rest [] 10000).rows.length : Nat) : Int) = 0 from rfl]
    go_wp2_with fail
    go_ret
    exact ⟨rfl, HB5.out⟩
  | true =>
  have hfl := framesJ_bound ls 200 (fun r hr => ((okRow_iff r).1 ((okRows_iff ls).1 hok r hr)).2)
  have hfl2 : (framesJ ls).length ≤ 2060 := by have := HLEN.out.1; omega
  have HOKL := Lib.hid hok
  have HQ := Lib.hid (put_rest [] ls 10000 hok (by rw [List.nil_append]; omega))
  rw [HQ.out.1, HQ.out.2, errV_zero, List.nil_append] at HPU
  clear hok hfl HQ
  go_wp2_with fail
  refine HPU.out.mono ?_
  rintro e w5 ⟨rfl, ⟨p5, o5, _, _, hj5⟩, k5⟩
  have HJ5 := Lib.hid hj5
  have HB5 := Lib.hid (HB4.out.trans (HJ4.out.below k5))
  clear hj5 k5 HPU HJ4
  go_wp2_with fail
  refine (arm_any w5 a o5 _ 1 (by omega) HJ5.out.jn.tape).mono ?_
  rintro e w6 ⟨rfl, ht6, k6⟩
  obtain ⟨o6, hn6, hj6⟩ := HJ5.out.jn.tapes ⟨o5, .inl rfl, ht6⟩ k6
  have HJ6 := Lib.hid (HJ5.out.new (k6.wider (jS_tape j a p5 o5)) hj6 (.inl rfl) hn6)
  have HB6 := Lib.hid (HB5.out.trans (k6.below HJ5.out.tp HJ5.out.hB))
  clear hj6 hn6 k6 ht6
  have HCO := Lib.hid (put_any w.heap.size w6 E j a p5 o6 [] _ _ ms HJ6.out (stay_old HV2.out HB6.out HJ6.out.base) (by show ls.length ≤ _; have := HLEN.out; omega) (by have := HLEN.out; omega))
  cases hok2 : okRows ms with
  | false =>
    have HQ := Lib.hid (put_bad ⟨TSt.arm (JSt.rest ls 10000).t 1, ls, false⟩ ms rfl hok2)
    rw [show (⟨TSt.arm (JSt.rest ls 10000).t 1, (JSt.rest ls 10000).rows, (JSt.rest ls 10000).dead⟩ : JSt) = ⟨TSt.arm (JSt.rest ls 10000).t 1, ls, false⟩ from rfl, HQ.out.1, HQ.out.2] at HCO
    clear hok2
    go_wp2_with fail
    refine HCO.out.mono ?_
    rintro e w7 ⟨rfl, ⟨p7, o7, _, _, hj7⟩, k7⟩
    have HJ7 := Lib.hid hj7
    have HB7 := Lib.hid (HB6.out.trans (HJ6.out.below k7))
    clear hj7 k7 HCO
    rw [errV_suc]
    go_wp2_with fail
    refine (deadOf_any w7 j a p7 o7 [] _ HJ7.out.jn).mono ?_
    rintro e w7' ⟨rfl, rfl⟩
    have HNU := Lib.hid (num_any w7 E 4 (by decide) (HE.out.below HB7.out))
    rw [errV_suc] at HNU
    go_wp2_with fail
    refine HNU.out.mono ?_
    rintro e w8 ⟨rfl, hb8⟩
    go_wp2_with fail
    go_ret
    exact ⟨rfl, HB7.out.trans (hb8.mono HB7.out.size)⟩
  | true =>
  have hfm := framesJ_bound ms 200 (fun r hr => ((okRow_iff r).1 ((okRows_iff ms).1 hok2 r hr)).2)
  have hfm2 : (framesJ ms).length ≤ 2060 := by have := HLEN.out.2; omega
  have HOKM := Lib.hid hok2
  clear hok2 hfm
  by_cases hms : ms = []
  · have HQ := Lib.hid (put_nil ⟨TSt.arm (JSt.rest ls 10000).t 1, ls, false⟩ rfl)
    subst hms
    rw [show (⟨TSt.arm (JSt.rest ls 10000).t 1, (JSt.rest ls 10000).rows, (JSt.rest ls 10000).dead⟩ : JSt) = ⟨TSt.arm (JSt.rest ls 10000).t 1, ls, false⟩ from rfl, HQ.out.1, HQ.out.2, errV_zero] at HCO
    go_wp2_with fail
    refine HCO.out.mono ?_
    rintro e w7 ⟨rfl, ⟨p7, o7, _, _, hj7⟩, k7⟩
    have HB7 := Lib.hid (HB6.out.trans (HJ6.out.below k7))
    clear hj7 k7 HCO
    go_wp2_with fail
    go_ret
    exact ⟨rfl, HB7.out⟩
  have HQ := Lib.hid (put_arm ls ms 10000 HOKM.out hms (by rw [framesJ_app, List.length_append]; omega))
  have HQ := Lib.hid (show (⟨TSt.arm (JSt.rest ls 10000).t 1, ls, false⟩ : JSt).put ms = ⟨⟨true, true, -1, framesJ ls ++ framesJ ms, (framesJ ls).length, 10000⟩, ls, true⟩ ∧ (⟨TSt.arm (JSt.rest ls 10000).t 1, ls, false⟩ : JSt).putE ms = 7 from HQ.out)
  rw [show (⟨TSt.arm (JSt.rest ls 10000).t 1, (JSt.rest ls 10000).rows, (JSt.rest ls 10000).dead⟩ : JSt) = ⟨TSt.arm (JSt.rest ls 10000).t 1, ls, false⟩ from rfl, HQ.out.1, HQ.out.2] at HCO
  clear hms
  go_wp2_with fail
  refine HCO.out.mono ?_
  rintro e w7 ⟨rfl, ⟨p7, o7, _, _, hj7⟩, k7⟩
  have HJ7 := Lib.hid hj7
  have HB7 := Lib.hid (HB6.out.trans (HJ6.out.below k7))
  clear hj7 k7 HCO
  rw [errV_suc]
  go_wp2_with fail
  refine (deadOf_any w7 j a p7 o7 [] _ HJ7.out.jn).mono ?_
  rintro e w7' ⟨rfl, rfl⟩
  go_wp2_with fail
  obtain ⟨i, hi, ho1, ho2⟩ := open_cut ls ms 10000 n HOKL.out HOKM.out
  have HO := Lib.hid (And.intro ho1 ho2)
  clear ho1 ho2
  refine (crash_any w7 a o7 _ n hn HJ7.out.jn.tape).mono ?_
  rintro e w8 ⟨rfl, ht8, k8⟩
  have HT8 := Lib.hid ht8
  have HA8 := Lib.hid HJ7.out.tp
  have HB8 := Lib.hid (HB7.out.trans (k8.below HJ7.out.tp HJ7.out.hB))
  clear ht8 k8
  go_wp2_with fail
  refine (open_any7 w.heap.size w8 E a o7 [] _ HT8.out HO.out.2 (HGL.out.below HB8.out) HB8.out.size HA8.out (by simp)).mono ?_
  rintro e w9 ⟨rfl, ⟨p9, o9, _, _, hj9⟩, k9⟩
  rw [HO.out.1] at hj9
  have HJ9 := Lib.hid hj9
  have HB9 := Lib.hid (HB8.out.trans (k9.below HA8.out HB8.out.size))
  clear hj9 k9 HO
  generalize w8.heap.size = j2 at *
  have HLN := Lib.hid (show ((JSt.rest (ls ++ ms.take i) 10000).rows.length : Int) = (ls.length : Int) + (i : Int) from by
    show ((ls ++ ms.take i).length : Int) = _
    rw [List.length_append, List.length_take, Nat.min_eq_left hi]
    omega)
  have HLE := Lib.hid (fun w' (h : Jn w' j2 a p9 o9 [] (JSt.rest (ls ++ ms.take i) 10000)) => HLN.out ▸ lenOf_any w' j2 a p9 o9 [] _ h)
  have d1 : decide ((ls.length : Int) + (i : Int) < (ls.length : Int)) = false := by rw [decide_eq_false_iff_not]; omega
  have d2 : decide ((ls.length : Int) + (ms.length : Int) < (ls.length : Int) + (i : Int)) = false := by rw [decide_eq_false_iff_not]; omega
  have h10 := HLEN.out
  go_wp2_with fail
  refine (HLE.out w9 HJ9.out.jn).mono ?_
  rintro e w9' ⟨rfl, rfl⟩
  go_wp2_with fail
  refine (HLE.out w9 HJ9.out.jn).mono ?_
  rintro e w9' ⟨rfl, rfl⟩
  obtain ⟨q1, e1, us1, he1, _, _, r1, l1, f1⟩ := HV1.out
  cases he1
  obtain ⟨q2, e2, us2, he2, _, _, r2, l2, f2⟩ := HV2.out
  cases he2
  obtain ⟨i0, hi0, hz0, hz1, hz2⟩ := info_parts rowInfo
  have HR1 := Lib.hid r1
  have HR2 := Lib.hid r2
  have HF1 := Lib.hid (And.intro l1 f1)
  have HF2 := Lib.hid (And.intro l2 f2)
  have ho0 : (w9.alloc (.cells #[] 22)).ownsRow w.heap.size 22 1 (.slice (some ⟨w9.heap.size, 0, none⟩) 0 0) 0 [] := by
    simpa using World.ownsRow_lit (base := w.heap.size) (e := 22) (size := 1) w9 #[] 0 HB9.out.size (by unfold maxLen; omega) rfl
  have hs0 := (below_alloc HB9.out (.cells #[] 22)).size
  have hr0 := Lib.hid ((HR1.out.below HB9.out).keep (keep_alloc w9 (.cells #[] 22)))
  have hu1 := Lib.hid (one_of HF1.out.1 HF1.out.2)
  have hu2 := Lib.hid (one_of HF2.out.1 HF2.out.2)
  clear r1 l1 f1 r2 l2 f2 d1 d2
  go_wp2_with (at_builtin; refine wpList_appAt (.tmp 85) (.tmp 86) 39 rfl rfl w.heap.size 22 i0 (.slice none 0 0) 1 24 Tryd.underlying39 hi0 hz0 hz1 hz2 rfl (by decide) _ _ _ rfl ho0 _ _ _ us1 rfl ?b0 hr0.out hu1.out ?b2 ?b3 hs0 ?_)
  case b0 => rw [HF1.out.1]; omega
  case b2 => unfold maxLen; omega
  case b3 => omega
  intro v3 wa hoa hga hat
  have HBA := Lib.hid ((below_alloc HB9.out (.cells #[] 22)).grown hga hs0 (fun g hg => (ho0.lt g hg).1))
  have HK9 := Lib.hid (show Below w9.heap.size w9 wa from (below_alloc1 w9 (.cells #[] 22)).grown hga (by simp) (fun g hg => by cases hg; exact Nat.le_refl _))
  have hr9 := Lib.hid (HR2.out.below HBA.out)
  have hsa := HBA.out.size
  obtain ⟨p3, k3, rfl, _, _, _⟩ := owns_rd hoa
  have hgb : ∀ g, (Value.slice p3 ls.length k3).ownBlock = some g → w9.heap.size ≤ g := fun g hg => by
    rcases hat with h | h
    · have h9 := h.symm.trans hg
      cases h9
      exact Nat.le_refl _
    · have h9 := h.symm.trans hg
      cases h9
      simp
  have HGB := Lib.hid hgb
  clear ho0 hga hs0 hr0 hgb hat
  go_wp2_with (at_builtin; refine wpList_appAt (.tmp 87) (.tmp 88) 39 rfl rfl w.heap.size 22 i0 (.slice none 0 0) 1 24 Tryd.underlying39 hi0 hz0 hz1 hz2 rfl (by decide) _ _ _ rfl hoa _ _ _ us2 rfl ?d0 hr9.out hu2.out ?d2 ?d3 hsa ?_)
  case d0 => rw [HF2.out.1]; omega
  case d2 => unfold maxLen; omega
  case d3 => omega
  intro v4 wb hob hgb hat
  have HBB := Lib.hid (HBA.out.grown hgb hsa (fun g hg => (hoa.lt g hg).1))
  have HK9b := Lib.hid (show Below w9.heap.size w9 wb from HK9.out.grown hgb HK9.out.size HGB.out)
  have HYB := Lib.hid (show BytL wb v4 (ls ++ ms) from by
    obtain ⟨p4, k4, hv4, y1, y2, y3⟩ := owns_rd hob
    refine ⟨p4, k4, us1 ++ us2, by rw [hv4, List.length_append], by rw [List.length_append]; exact y1, y2, y3, by rw [List.length_append, List.length_append, HF1.out.1, HF2.out.1], fun x l hx => ?_⟩
    by_cases hxl : x < ls.length
    · rw [List.getElem?_append_left hxl] at hx
      obtain ⟨u, hu, hy⟩ := HF1.out.2 x l hx
      exact ⟨u, by rw [List.getElem?_append_left (by rw [HF1.out.1]; exact hxl)]; exact hu, hy.below HBB.out⟩
    · rw [List.getElem?_append_right (by omega)] at hx
      obtain ⟨u, hu, hy⟩ := HF2.out.2 _ l hx
      exact ⟨u, by rw [List.getElem?_append_right (by rw [HF1.out.1]; omega), HF1.out.1]; exact hu, hy.below HBB.out⟩)
  obtain ⟨p4, k4, rfl, hk4, hk5, _⟩ := owns_rd hob
  unfold maxLen at hk5
  have HJB := Lib.hid (HJ9.out.same HK9b.out)
  clear hoa hgb hob hsa hr9 hat
  have HRO := Lib.hid (rowsOf_any wb j2 a p9 o9 [] _ HJB.out.jn (by have := HLN.out; omega))
  go_wp2_with fail
  refine HRO.out.mono ?_
  rintro e wc ⟨vc, rfl, hoc, hbc⟩
  have HBC := Lib.hid (HBB.out.trans (hbc.mono HBB.out.size))
  have HYC := Lib.hid hoc.bytl
  have HYD := Lib.hid (HYB.out.keep (Below.keeps hbc))
  have HJC := Lib.hid (HJB.out.same hbc)
  obtain ⟨_, _, hownc, _⟩ := hoc
  obtain ⟨pr, cr, rfl, _, _, _⟩ := owns_rd hownc
  clear hownc hbc HRO
  have hsl := fun w => run_slice_to (P := Tryd.prog) Tryd.underlying39 hi0 p4 (ls.length + ms.length) k4 (ls.length + i) (by omega) w
  go_wp2_with fail
  refine (HLE.out wc HJC.out.jn).mono ?_
  rintro e wc' ⟨rfl, rfl⟩
  go_wp2_with fail
  have HYT := Lib.hid (show BytL wc (.slice p4 (ls.length + i) k4) (ls ++ ms.take i) from by
    have h := bytl_take (HYD.out) (ls.length + i) (by rw [List.length_append]; omega)
    rw [List.take_append, List.take_of_length_le (by omega), Nat.add_sub_cancel_left] at h
    exact h)
  have HSA := Lib.hid (samel_any wc _ _ (ls ++ ms.take i) (ls ++ ms.take i) HYC.out HYT.out)
  rw [decide_eq_true (rfl : ls ++ ms.take i = ls ++ ms.take i)] at HSA
  refine HSA.out.mono ?_
  rintro e wd ⟨rfl, hbd⟩
  have HBD := Lib.hid (HBC.out.trans (hbd.mono HBC.out.size))
  have HJD := Lib.hid (HJC.out.same hbd)
  clear hbd hsl HSA
  have kc := fun (w : World) (C : Array Value) (n c : Nat) => Lib.run_convert_bytes_const (P := Tryd.prog) w 22 5 C n c Tryd.underlying22 Tryd.underlying5
  go_wp2_with fail
  have hbl := below_alloc (below_alloc1 wd (.cells #[.int .u8 109, .int .u8 111, .int .u8 114, .int .u8 101] 5 (4, 5))) (.cells #[.slice (some ⟨wd.heap.size, 0, none⟩) 4 4] 22)
  have g1 := (Below.heap_alloc _ (.cells #[.slice (some ⟨wd.heap.size, 0, none⟩) 4 4] 22) wd.heap.size (by simp)).trans (heap_alloc_new wd (.cells #[.int .u8 109, .int .u8 111, .int .u8 114, .int .u8 101] 5 (4, 5)))
  have g2 : ((wd.alloc (.cells #[.int .u8 109, .int .u8 111, .int .u8 114, .int .u8 101] 5 (4, 5))).alloc (.cells #[.slice (some ⟨wd.heap.size, 0, none⟩) 4 4] 22)).heap[wd.heap.size + 1]? = some (.cells #[.slice (some ⟨wd.heap.size, 0, none⟩) 4 4] 22) := by
    have h := heap_alloc_new (wd.alloc (.cells #[.int .u8 109, .int .u8 111, .int .u8 114, .int .u8 101] 5 (4, 5))) (.cells #[.slice (some ⟨wd.heap.size, 0, none⟩) 4 4] 22)
    rw [World.size_alloc] at h
    exact h
  have hnj : ∀ g, wd.heap.size ≤ g → (jS j2 a p9 o9).contains g = false := fun g hg => HJD.out.jsn hg
  have HST := Lib.hid (stay_rows (S := jS j2 a p9 o9) (us := [.slice (some ⟨wd.heap.size, 0, none⟩) 4 4]) (ls := [[109, 111, 114, 101]]) g2 (hnj (wd.heap.size + 1) (by omega)) rfl (by decide) (fun i l hil => by
    have y1 := stay_byt (S := jS j2 a p9 o9) (c := 4) (l := [109, 111, 114, 101]) g1 (hnj wd.heap.size (Nat.le_refl _)) rfl (by decide) (by decide)
    match i, hil with
    | 0, hil => cases hil; exact ⟨_, rfl, y1⟩
    | i + 1, hil => simp at hil))
  have HJE := Lib.hid (HJD.out.same hbl)
  have HBE := Lib.hid (HBD.out.trans (hbl.mono HBD.out.size))
  clear hbl g1 g2 hnj kc
  generalize (wd.alloc (.cells #[.int .u8 109, .int .u8 111, .int .u8 114, .int .u8 101] 5 (4, 5))).alloc (.cells #[.slice (some ⟨wd.heap.size, 0, none⟩) 4 4] 22) = we at *
  have HRL := Lib.hid (show (ls ++ ms.take i).length = ls.length + i from by rw [List.length_append, List.length_take, Nat.min_eq_left hi])
  have HOKR := Lib.hid (show okRows (ls ++ ms.take i ++ [[109, 111, 114, 101]]) = true from by
    rw [okRows_app, okRows_app, HOKL.out, okRows_take HOKM.out]
    decide)
  have HPU := Lib.hid (put_any w.heap.size we E j2 a p9 o9 [] (JSt.rest (ls ++ ms.take i) 10000) _ [[109, 111, 114, 101]] HJE.out HST.out (by show (ls ++ ms.take i).length ≤ _; rw [HRL.out]; omega) (by decide))
  obtain ⟨hq1, hq2⟩ := put_rest (ls ++ ms.take i) [[109, 111, 114, 101]] 10000 (by decide) (by
    have h := okRows_bound HOKR.out
    have h2 : (ls ++ ms.take i ++ [[109, 111, 114, 101]]).length = ls.length + i + 1 := by rw [List.length_append, HRL.out]; rfl
    rw [h2] at h
    omega)
  rw [hq1, hq2, errV_zero] at HPU
  clear hq1 hq2
  refine HPU.out.mono ?_
  rintro e wf ⟨rfl, ⟨pf, of, _, _, hjf⟩, kf⟩
  have HJF := Lib.hid hjf
  have HBF := Lib.hid (HBE.out.trans (HJE.out.below kf))
  clear hjf kf HPU
  generalize hR : ls ++ ms.take i ++ [[109, 111, 114, 101]] = R at *
  have hRl : R.length ≤ 1000 := by rw [← hR, List.length_append, HRL.out]; show _ + 1 ≤ _; omega
  clear hR
  go_wp2_with fail
  refine (crash_any wf a of _ 0 (by decide) HJF.out.jn.tape).mono ?_
  rintro e wg ⟨rfl, htg, kg⟩
  rw [crash_rest] at htg
  obtain ⟨vq, -, hbj, hrr⟩ := HJF.out.jn.j
  obtain ⟨pq, kq, rfl⟩ : ∃ p c, vq = .slice p R.length c := by
    obtain ⟨_, _, ho9, _⟩ := hrr
    obtain ⟨p, c, h, _⟩ := owns_rd ho9
    exact ⟨p, c, h⟩
  have hnja : (a :: of.toList).contains j2 = false := by
    obtain ⟨va, _, ha2, _, _⟩ := HJF.out.jn.tape
    rw [Bool.eq_false_iff]
    intro hc
    rcases List.mem_cons.1 (List.contains_iff_mem.1 hc) with h | h
    · exact Blk.ne_ hbj ha2 (by decide) h
    · obtain ⟨cs, hcs⟩ := HJF.out.jn.tape.own j2 (Option.mem_toList.1 h)
      exact Blk.ne_ hbj hcs (by decide) rfl
  have HJB2 := Lib.hid (kg.blk hbj hnja)
  have HTG := Lib.hid htg
  have HAG := Lib.hid HJF.out.tp
  have HBG := Lib.hid (HBF.out.trans (kg.below HJF.out.tp HJF.out.hB))
  clear htg kg hbj hrr hnja
  go_wp2_with fail
  refine (openR_any w.heap.size wg E a of [] R 10000 HTG.out HOKR.out (HGL.out.below HBG.out) HBG.out.size HAG.out (by simp)).mono ?_
  rintro e wh ⟨rfl, ⟨ph, oh, _, hjh⟩, kh⟩
  have HJH := Lib.hid hjh
  have HBH := Lib.hid (HBG.out.trans (kh.below HAG.out HBG.out.size))
  have hnja : (a :: of.toList).contains j2 = false := by
    obtain ⟨va, _, ha2, _, _⟩ := HTG.out
    rw [Bool.eq_false_iff]
    intro hc
    rcases List.mem_cons.1 (List.contains_iff_mem.1 hc) with h | h
    · exact Blk.ne_ HJB2.out ha2 (by decide) h
    · obtain ⟨cs, hcs⟩ := HTG.out.own j2 (Option.mem_toList.1 h)
      exact Blk.ne_ HJB2.out hcs (by decide) rfl
  have HJB3 := Lib.hid (kh.blk HJB2.out hnja)
  clear hjh kh hnja
  have HL1 := Lib.hid (lenOf_any wh _ a ph oh [] _ HJH.out.jn)
  have HL2 := Lib.hid (lenB_any wh j2 _ _ _ _ _ _ HJB3.out)
  rw [show ((JSt.rest R 10000).rows.length : Int) = (R.length : Int) from rfl] at HL1
  go_wp2_with fail
  refine HL1.out.mono ?_
  rintro e wh' ⟨rfl, rfl⟩
  go_wp2_with fail
  refine HL2.out.mono ?_
  rintro e wh' ⟨rfl, rfl⟩
  go_wp2_with fail
  go_ret
  exact ⟨rfl, HBH.out⟩
end Go.Proofs.YtoiknidlincdkaaDoor
