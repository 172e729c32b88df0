/-
  LawJG: JournalGroups answers true.
-/
import Derived.Test.YtoiknidlincdkaaDoorJourG
namespace Go.Proofs.YtoiknidlincdkaaDoor
open Go.RowKit
attribute [local go_sem] bs_toList

theorem opl_one (w : World) (p : Option Addr) (cp : Nat) (ls : List (List UInt8)) (h1 : BytL w (.slice p ls.length cp) ls) (g : Nat) (hg : g = w.heap.size) :
    OpLJ (w.alloc (.cells #[.int .i64 0, .int .i64 0, .slice p ls.length cp] 49)) (.slice (some ⟨g, 0, none⟩) 1 1) [(0, 0, ls)] := by
  subst hg
  have hb := Blk.new w 49 #[.int .i64 0, .int .i64 0, .slice p ls.length cp]
  refine ⟨_, 1, rfl, Nat.le_refl _, by unfold maxLen; omega, fun i o ho => ?_⟩
  match i, ho with
  | 0, ho =>
    cases ho
    exact ⟨_, 0, p, cp, rfl, (hb.cell 0).trans rfl, (hb.cell 1).trans rfl, (hb.cell 2).trans rfl, h1.keep (keep_alloc _ _)⟩
  | i + 1, ho => simp at ho
theorem long_one {ls : List (List UInt8)} (h : longR [(0, 0, ls)] = false) : ls.length ≤ 10 :=
  (longRow_no ((longR_no h).2 (0, 0, ls) (by simp))).1
set_option maxRecDepth 20000 in
set_option maxHeartbeats 8000000 in
theorem groups_any (w : World) (E : Nat → Addr) (he : Errs w E) (ht : HalfTab w) (v1 : Value) (ls : List (List UInt8)) (hv1 : BytL w v1 ls) :
    Calls Tryd.prog 4 #[v1] w (ok1 w) := by
  have HE := Lib.hid he
  have HGL := Lib.hid (Glob.of he ht)
  have HAL := Lib.hid (alive_any w E he ht)
  have HV1 := Lib.hid hv1
  obtain ⟨p1, c1, us1, rfl, _, a2, _⟩ := hv1
  unfold maxLen at a2
  clear he ht
  go_enter Tryd.func4, Tryd.ntmps4
  go_wp2_with fail
  refine HAL.out.mono ?_
  rintro e w1 ⟨rfl, hb1⟩
  have HB1 := Lib.hid hb1
  clear hb1 HAL
  go_wp2_with fail
  have HOL := Lib.hid (opl_one w1 p1 c1 ls (HV1.out.keep (Below.keeps HB1.out)) _ rfl)
  have HBX := Lib.hid (below_alloc HB1.out (.cells #[.int .i64 0, .int .i64 0, .slice p1 ls.length c1] 49))
  generalize w1.alloc (.cells #[.int .i64 0, .int .i64 0, .slice p1 ls.length c1] 49) = wx at *
  refine (long_any _ _ wx HOL.out).mono ?_
  rintro e w2 ⟨rfl, hb2⟩
  have HB2 := Lib.hid (HBX.out.trans (hb2.mono HBX.out.size))
  clear hb2 HOL HBX HB1
  cases hlo : longR [(0, 0, ls)] with
  | true =>
    go_wp2_with fail
    go_ret
    exact ⟨rfl, HB2.out⟩
  | false =>
  have hlen := long_one hlo
  have HLEN := Lib.hid hlen
  clear hlo hlen
  go_wp2_with fail
  refine (newP_any w2 E 10000 ((HE.out.below HB2.out).on [0] rfl) (by decide) (by decide)).mono ?_
  rintro e w3 ⟨rfl, ht3, hb3⟩
  have HT3 := Lib.hid ht3
  have HB3 := Lib.hid (HB2.out.trans (hb3.mono HB2.out.size))
  have haw : w.heap.size ≤ w2.heap.size := HB2.out.size
  have haw2 : w2.heap.size < w3.heap.size := ht3.lt.1
  clear ht3 hb3
  generalize w2.heap.size = a at *
  go_wp2_with fail
  refine (newP_any w3 E 10000 ((HE.out.below HB3.out).on [0] rfl) (by decide) (by decide)).mono ?_
  rintro e w4 ⟨rfl, ht4, hb4⟩
  have HT4 := Lib.hid (HT3.out.below hb4)
  have HU4 := Lib.hid ht4
  have HB4 := Lib.hid (HB3.out.trans (hb4.mono HB3.out.size))
  have hbw2 : w3.heap.size < w4.heap.size := ht4.lt.1
  clear ht4 hb4 HT3
  generalize w3.heap.size = a2 at *
  go_wp2_with fail
  refine (openR_any w.heap.size w4 E a none [] [] 10000 HT4.out rfl (HGL.out.below HB4.out) HB4.out.size (by simp; omega) (by simp)).mono ?_
  rintro e w5 ⟨rfl, ⟨p5, o5, _, hj5⟩, k5⟩
  have HJ5 := Lib.hid hj5
  have HU5 := Lib.hid (HU4.out.but k5 (by simp; omega) (fun g hg => by cases hg))
  have HB5 := Lib.hid (HB4.out.trans (k5.below (B := w.heap.size) (by simp; omega) HB4.out.size))
  clear hj5 k5 HT4 HU4
  generalize w4.heap.size = j at *
  go_wp2_with fail
  have h := open_rest [] 0 10000 rfl
  have HOA := Lib.hid (open_any7 w.heap.size w5 E a2 none o5.toList (TSt.P [] 0 10000) HU5.out h.2 (HGL.out.below HB5.out) HB5.out.size (by simp; omega) (fun g hg => HJ5.out.jn.lt g (mem_jS.2 (.inr (.inr (.inr (Option.mem_toList.1 hg)))))))
  have he1 : openJ (TSt.P [] 0 10000) = JSt.rest [] 10000 := h.1
  rw [he1] at HOA
  clear h he1
  refine HOA.out.mono ?_
  rintro e w6 ⟨rfl, ⟨p6, o6, hp6, hn6, hj6⟩, k6⟩
  obtain ⟨cT, hT2⟩ : ∃ cs, Blk w5 a2 57 cs := by
    obtain ⟨_, _, ha2, _⟩ := HU5.out
    exact ⟨_, ha2⟩
  have hna : ¬ a2 ∈ jS j a p5 o5 := fun hm => by
    obtain ⟨⟨cj, tj⟩, ⟨ca, ta⟩, tp, to⟩ := HJ5.out.jn.types
    rcases mem_jS.1 hm with rfl | h | h | h
    · exact Blk.ne_ tj hT2 (by decide) rfl
    · omega
    · obtain ⟨cp, hcp⟩ := tp a2 h
      exact Blk.ne_ hcp hT2 (by decide) rfl
    · obtain ⟨co, hco⟩ := to a2 h
      exact Blk.ne_ hco hT2 (by decide) rfl
  have HD6 := Lib.hid (show ∀ g ∈ jS j a p5 o5, ¬ g ∈ jS w5.heap.size a2 p6 o6 from fun g hg hc => by
    have hlt := HJ5.out.jn.lt g hg
    rcases mem_jS.1 hc with h | h | h | h
    · omega
    · exact hna (h ▸ hg)
    · have := hp6 g h; omega
    · rcases hn6 with rfl | hn6
      · cases h
      · have := hn6 g h; omega)
  have HJ6 := Lib.hid (show JG w.heap.size w6 E j a p5 o5 o6.toList (JSt.rest [] 10000) from by
    have h1 : Jn w5 j a p5 o5 o6.toList (JSt.rest [] 10000) := HJ5.out.jn.next (Y := o6.toList) fun g hg => by
      rcases hn6 with rfl | hn6
      · cases hg
      · exact .inr (hn6 g (Option.mem_toList.1 hg))
    have h2 := h1.but k6 (fun g hg => by
      rw [Bool.eq_false_iff]
      intro hc
      rcases List.mem_cons.1 (List.contains_iff_mem.1 hc) with rfl | hm
      · exact hna hg
      · cases hm) (fun g hg => by
      rcases List.mem_cons.1 hg with rfl | hm
      · exact .inr fun cs hcs => Blk.ne_ hcs hT2 (by decide) rfl
      · cases hm)
    exact ⟨h2, HJ5.out.base, Nat.le_trans HJ5.out.hB k6.size, HGL.out.below (HB5.out.trans (k6.below (B := w.heap.size) (by simp; omega) HB5.out.size)), fun g hg => hj6.jn.lt g (mem_jS.2 (.inr (.inr (.inr (Option.mem_toList.1 hg)))))⟩)
  have HK6 := Lib.hid hj6
  have HB6 := Lib.hid (HB5.out.trans (k6.below (B := w.heap.size) (by simp; omega) HB5.out.size))
  clear hj6 k6 HU5 hp6 hn6 hT2 hna HJ5 HOA
  generalize w5.heap.size = j2 at *
  have HPU := Lib.hid (put_any w.heap.size w6 E j a p5 o5 o6.toList (JSt.rest [] 10000) _ ls HJ6.out (stay_old HV1.out HB6.out HJ6.out.base) (by decide) (by have := HLEN.out; omega))
  cases hok : okRows ls with
  | false =>
    have HQ := Lib.hid (put_bad (JSt.rest [] 10000) ls rfl hok)
    rw [HQ.out.1, HQ.out.2, errV_suc] at HPU
    clear hok
    go_wp2_with fail
    refine HPU.out.mono ?_
    rintro e w7 ⟨rfl, ⟨p7, o7, _, _, hj7⟩, k7⟩
    have HJ7 := Lib.hid hj7
    have HB7 := Lib.hid (HB6.out.trans (HJ6.out.below k7))
    clear hj7 k7
    go_wp2_with fail
    refine (lenOf_any w7 j a p7 o7 _ _ HJ7.out.jn).mono ?_
    rintro e w7' ⟨rfl, rfl⟩
    rw [show (((JSt.rest [] 10000).rows.length : Nat) : Int) = 0 from rfl]
    go_wp2_with fail
    refine (bytes_of_tape w7 a o7 _ HJ7.out.jn.tape).mono ?_
    rintro e w8 ⟨v8, rfl, ho8, hb8⟩
    obtain ⟨pr, cr, rfl, _, _, _⟩ := owns_rd ho8
    have HB8 := Lib.hid (HB7.out.trans (hb8.mono HB7.out.size))
    rw [show (JSt.rest [] 10000).t.l.length = 0 from rfl]
    clear ho8 hb8
    go_wp2_with fail
    go_ret
    exact ⟨rfl, HB8.out⟩
  | true =>
  have hfl := framesJ_bound ls 200 (fun r hr => ((okRow_iff r).1 ((okRows_iff ls).1 hok r hr)).2)
  have hfl2 : (framesJ ls).length ≤ 2060 := by have := HLEN.out; omega
  have HOKL := Lib.hid hok
  have HQ := Lib.hid (put_rest [] ls 10000 hok (by rw [List.nil_append]; omega))
  rw [HQ.out.1, HQ.out.2, errV_zero, List.nil_append] at HPU
  clear hok hfl HQ
  go_wp2_with fail
  refine HPU.out.mono ?_
  rintro e w7 ⟨rfl, ⟨p7, o7, hp7, ho7, hj7⟩, k7⟩
  have hbs := HK6.out.jn.beside HJ6.out.jn (fun g hg hc => HD6.out g hc hg) k7 hp7 ho7
  have HJ7 := Lib.hid (show Jn w7 j a p7 o7 o6.toList (JSt.rest ls 10000) from hj7.jn)
  have HB7 := Lib.hid (HB6.out.trans (HJ6.out.below k7))
  have HK7 := Lib.hid (show JG w.heap.size w7 E j2 a2 p6 o6 [] (JSt.rest [] 10000) from ⟨hbs.1.next (fun g hg => by cases hg), HK6.out.base, Nat.le_trans HK6.out.hB k7.size, HGL.out.below HB7.out, by simp⟩)
  have HD7 := Lib.hid (show ∀ g ∈ jS j a p7 o7, ¬ g ∈ jS j2 a2 p6 o6 from fun g hg hc => hbs.2 g hc hg)
  clear hj7 k7 HPU hbs hp7 ho7 HJ6 HK6 HD6
  have HLQ := Lib.hid (fun k => show (framesJ (ls.take k)).length ≤ 2060 from by
    have h := okRows_bound (okRows_take HOKL.out k)
    have h2 : (ls.take k).length ≤ ls.length := List.length_take_le' ..
    have := HLEN.out
    omega)
  have HAS := Lib.hid HJ7.out.lt
  go_wp2_with fail
  go_loopw [64] (fun i wr => ∃ (k : Nat) (p2 o2 : Option Nat), k ≤ ls.length ∧ i = .int .i64 k ∧ Jn wr j a p7 o7 o2.toList (JSt.rest ls 10000) ∧ JG w.heap.size wr E j2 a2 p2 o2 [] (JSt.rest (ls.take k) 10000) ∧ (∀ g ∈ jS j a p7 o7, ¬ g ∈ jS j2 a2 p2 o2) ∧ Below w.heap.size w wr) (fun i _ => ls.length - (intOf i).toNat)
  case atStart => exact ⟨0, p6, o6, Nat.zero_le _, rfl, HJ7.out, HK7.out, HD7.out, HB7.out⟩
  case round =>
    obtain ⟨k, p2, o2, hk, rfl, hj, hjk, hd, hbw⟩ := hrel
    have HJ := Lib.hid hj
    have HK := Lib.hid hjk
    have HD := Lib.hid hd
    have HB := Lib.hid hbw
    clear hj hjk hd hbw
    by_cases hlt : k < ls.length
    · obtain ⟨q1, e1, us1, hee, _, _, r1, l1, f1⟩ := HV1.out
      cases hee
      obtain ⟨b, off, pu, cu, rfl, hcell', hq1, hq2, hq3⟩ := bytL_cell r1 f1 hlt
      have hcell := Below.keeps HB.out _ _ hcell'
      have HBY := Lib.hid (show Byt w (.slice pu ls[k].length cu) ls[k] from ⟨pu, cu, rfl, hq1, hq2, hq3⟩)
      have HTK := Lib.hid (show ls.take k ++ [ls[k]] = ls.take (k + 1) from (List.take_succ_eq_append_getElem hlt).symm)
      have hokr : okRow ls[k] = true := (okRows_iff ls).1 HOKL.out _ (List.getElem_mem hlt)
      have hL1 := HLQ.out (k + 1)
      rw [← HTK.out] at hL1
      have HOR := Lib.hid hokr
      have HLR := Lib.hid hL1
      clear r1 l1 f1 hcell' hq1 hq2 hq3 hokr hL1
      generalize ls[k] = l at *
      go_wp2_with fail
      have hbl := below_alloc1 wr (.cells #[.slice pu l.length cu] 22)
      have HST := Lib.hid (stay_rows (S := jS j2 a2 p2 o2) (us := [.slice pu l.length cu]) (ls := [l]) (heap_alloc_new wr (.cells #[.slice pu l.length cu] 22)) (HK.out.jsn (Nat.le_refl _)) rfl (by simp) (fun i l' hil => by
        match i, hil with
        | 0, hil =>
          cases hil
          exact ⟨_, rfl, fun w' k' => HBY.out.keep (Below.keeps ((HB.out.trans (hbl.mono HB.out.size)).trans (k'.below HK.out.base (Nat.le_trans HK.out.hB hbl.size))))⟩
        | i + 1, hil => simp at hil))
      have HKX := Lib.hid (HK.out.same hbl)
      have HJX := Lib.hid (HJ.out.below hbl)
      have HBX := Lib.hid (HB.out.trans (hbl.mono HB.out.size))
      clear hbl
      generalize hwx : wr.alloc (.cells #[.slice pu l.length cu] 22) = wx at *
      clear hwx
      have HPU := Lib.hid (put_any w.heap.size wx E j2 a2 p2 o2 [] (JSt.rest (ls.take k) 10000) _ [l] HKX.out HST.out (by show (ls.take k).length ≤ _; rw [List.length_take]; have := HLEN.out; omega) (by simp))
      obtain ⟨hq1, hq2⟩ := put_rest (ls.take k) [l] 10000 (by unfold okRows; simpa using HOR.out) (by have := HLR.out; omega)
      rw [hq1, hq2, errV_zero, HTK.out] at HPU
      clear hq1 hq2
      refine HPU.out.mono ?_
      rintro e wy ⟨rfl, ⟨p3, o3, hp3, ho3, hj3⟩, k3⟩
      obtain ⟨hb1, hb2⟩ := HJX.out.beside HKX.out.jn HD.out k3 hp3 ho3
      have HJ3 := Lib.hid hb1
      have HD3 := Lib.hid hb2
      have HK3 := Lib.hid hj3
      have HB3 := Lib.hid (HBX.out.trans (HKX.out.below k3))
      clear hb1 hb2 hj3 k3 hp3 ho3 HPU
      go_wp2_with fail
      go_roundw
      case rel => exact ⟨k + 1, p3, o3, by omega, by go_num, HJ3.out, HK3.out, HD3.out, HB3.out⟩
      case measure => simp [intOf]; omega
    · obtain rfl : k = ls.length := by omega
      have hK := HK.out
      rw [List.take_of_length_le (Nat.le_refl _)] at hK
      have HK := Lib.hid hK
      clear hK
      have HRO := Lib.hid (rowsOf_any wr j a p7 o7 _ _ HJ.out (by show ls.length ≤ _; have := HLEN.out; omega))
      go_wp2_with fail
      refine HRO.out.mono ?_
      rintro e w8 ⟨v8, rfl, ho8, hb8⟩
      have HSH := Lib.hid (show Shown w8 wr.heap.size v8 ls.length from ho8.shown (fun l hl => ((okRow_iff l).1 ((okRows_iff ls).1 HOKL.out l hl)).1))
      obtain ⟨us8, hus8, hown8, _⟩ := ho8
      obtain ⟨p8, c8, rfl, _, _, _⟩ := owns_rd hown8
      have HB8 := Lib.hid hb8
      clear hus8 hown8 hb8 HRO
      rw [show (JSt.rest ls 10000).rows.length = ls.length from rfl]
      rw [show (JSt.rest ls 10000).rows.length = ls.length from rfl] at HSH
      go_wp2_with fail
      obtain ⟨wo, rfl⟩ : ∃ wo, wo = wr := ⟨_, rfl⟩
      go_loopw [77] (fun i wr => ∃ k : Nat, k ≤ ls.length ∧ i = .int .i64 k ∧ Shown wr wo.heap.size (.slice p8 ls.length c8) ls.length ∧ Below wo.heap.size wo wr) (fun i _ => ls.length - (intOf i).toNat)
      case atStart => exact ⟨0, by omega, rfl, HSH.out, HB8.out⟩
      case round =>
        obtain ⟨k, hk, rfl, hsh, hbw⟩ := hrel
        have HS := Lib.hid hsh
        have HBW := Lib.hid hbw
        clear hsh hbw
        by_cases hlt : k < ls.length
        · obtain ⟨us, hown, hel⟩ := HS.out.row
          obtain ⟨g, l, c, cs, x, hu, hg, hblk, hx⟩ := hel k hlt
          obtain ⟨pp, cc, hpp, _, _, hrd⟩ := owns_rd hown
          cases hpp
          obtain ⟨bb, off, hp8, hcs⟩ := hrd.has (by intro e; subst e; simp at hu)
          subst hp8
          have hcell := hcs k _ hu
          have hx0 := (hblk.cell 0).trans hx
          have hf0 := hblk.frozen 0
          have HBK := Lib.hid hblk
          clear hown hel hcs hrd hblk hx hu
          go_wp2_with fail
          go_roundw
          case rel => exact ⟨k + 1, by omega, by go_num, HS.out.set_ HBK.out hg _, HBW.out.trans ((Below.refl _ wr).setCell (p := ⟨g, 0, none⟩) hg _)⟩
          case measure => simp [intOf]; omega
        · obtain rfl : k = ls.length := by omega
          have HJ9 := Lib.hid (HJ.out.below HBW.out)
          have HK9 := Lib.hid (HK.out.same HBW.out)
          have HB9 := Lib.hid (HB.out.trans (HBW.out.mono HB.out.size))
          clear HS HBW
          go_wp2_with fail
          obtain ⟨F, hFf⟩ : ∃ F, framesJ ls = F := ⟨_, rfl⟩
          have hFe : (JSt.rest ls 10000).t.l = F := hFf
          have hbb : (F == F) = true := beq_self_eq_true F
          refine wp_phi (fun w' => Jn w' j a p7 o7 o2.toList (JSt.rest ls 10000) ∧ Jn w' j2 a2 p2 o2 [] (JSt.rest ls 10000) ∧ Below w.heap.size w w') [(1, PByt F), (2, PVal (.string (bs F))), (4, PByt F), (5, PVal (.string (bs F))), (9, PBytL ls), (11, PVal (.bool true)), (15, PBytL ls), (17, PVal (.bool true)), (21, PVal (.int .i64 (F.length : Int))), (23, PByt F)] [(2, [1]), (5, [4]), (11, [9]), (17, [15])] (by kernel_rfl) (by kernel_rfl) ?_ ?_ ⟨HJ9.out.below (Below.refl _ _).drew, HK9.out.jn.below (Below.refl _ _).drew, HB9.out.drew⟩ ?_
          · rintro w1' w2' ⟨h1, h2, h3⟩ hb
            exact ⟨h1.below hb, h2.below hb, h3.trans (hb.mono h3.size)⟩
          · simp only [List.mem_cons, List.not_mem_nil, or_false, forall_eq_or_imp, forall_eq]
            exact ⟨fun _ _ _ _ h => PByt_stays _ _ _ _ h, fun _ _ _ _ h => PVal_stays _ _ _ _ h, fun _ _ _ _ h => PByt_stays _ _ _ _ h, fun _ _ _ _ h => PVal_stays _ _ _ _ h, fun _ _ _ _ h => PBytL_stays _ _ _ _ h, fun _ _ _ _ h => PVal_stays _ _ _ _ h, fun _ _ _ _ h => PBytL_stays _ _ _ _ h, fun _ _ _ _ h => PVal_stays _ _ _ _ h, fun _ _ _ _ h => PVal_stays _ _ _ _ h, fun _ _ _ _ h => PByt_stays _ _ _ _ h⟩
          repeat (first | (refine phi_skipK rfl (fun K hK => ?_); simp only [Act.put, List.setIfInBounds_toArray, List.set_cons_succ, List.set_cons_zero]; (try simp only [List.cons_append]); (try simp only [List.nil_append]); apply hK; clear hK K) | (refine phi_pureK rfl rfl (fun K hK => ?_); apply Exists.intro; constructor; (focus (rintro w' ⟨h1, h2, h3⟩; clear h1 h2 h3; first | (go_simp; done) | (go_simp; (try go_bits); (try go_simp); rfl) | go_simp)); simp only [Act.put, List.setIfInBounds_toArray, List.set_cons_succ, List.set_cons_zero]; (try simp only [List.cons_append]); (try simp only [List.nil_append]); apply hK; clear hK K))
          refine phi_partK (PByt F) rfl rfl ⟨_, none, 0, rfl⟩ ?_ (fun K hK v hv => ?_)
          · rintro w' ⟨h1, h2, h3⟩ hf
            unfold gives
            clear hf
            go_simp
            refine (bytes_of_tape w' a o7 _ h1.tape).mono ?_
            rintro e w'' ⟨v, rfl, ho, hb⟩
            obtain ⟨q, c, rfl, _⟩ := owns_rd (show w''.ownsRow w'.heap.size 5 1 v F.length (bvs F) from hFe ▸ ho)
            exact ⟨_, rfl, ⟨q, c, rfl⟩, owns_byt (hFe ▸ ho), hb⟩
          obtain ⟨p_1, c_1, rfl⟩ := hv
          simp only [Act.put, List.setIfInBounds_toArray, List.set_cons_succ, List.set_cons_zero]; (try simp only [List.cons_append]); (try simp only [List.nil_append])
          apply hK
          clear hK K
          repeat (first | (refine phi_skipK rfl (fun K hK => ?_); simp only [Act.put, List.setIfInBounds_toArray, List.set_cons_succ, List.set_cons_zero]; (try simp only [List.cons_append]); (try simp only [List.nil_append]); apply hK; clear hK K) | (refine phi_pureK rfl rfl (fun K hK => ?_); apply Exists.intro; constructor; (focus (rintro w' ⟨h1, h2, h3⟩; clear h1 h2 h3; first | (go_simp; done) | (go_simp; (try go_bits); (try go_simp); rfl) | go_simp)); simp only [Act.put, List.setIfInBounds_toArray, List.set_cons_succ, List.set_cons_zero]; (try simp only [List.cons_append]); (try simp only [List.nil_append]); apply hK; clear hK K))
          refine phi_partK (PVal (.string (bs F))) rfl rfl ⟨_, rfl⟩ ?_ (fun K hK v hv => ?_)
          · rintro w' ⟨h1, h2, h3⟩ hf
            have hbS : Byt w' _ F := hf (1, fun w => (PByt F).fact w (.slice p_1 F.length c_1)) (by simp) (List.contains_iff_mem.1 rfl)
            have sS := str_of hbS
            clear hf hbS h1 h2 h3
            unfold gives
            go_simp
            exact ⟨rfl, trivial, Below.refl _ _⟩
          obtain rfl : v = _ := hv
          simp only [Act.put, List.setIfInBounds_toArray, List.set_cons_succ, List.set_cons_zero]; (try simp only [List.cons_append]); (try simp only [List.nil_append])
          apply hK
          clear hK K
          repeat (first | (refine phi_skipK rfl (fun K hK => ?_); simp only [Act.put, List.setIfInBounds_toArray, List.set_cons_succ, List.set_cons_zero]; (try simp only [List.cons_append]); (try simp only [List.nil_append]); apply hK; clear hK K) | (refine phi_pureK rfl rfl (fun K hK => ?_); apply Exists.intro; constructor; (focus (rintro w' ⟨h1, h2, h3⟩; clear h1 h2 h3; first | (go_simp; done) | (go_simp; (try go_bits); (try go_simp); rfl) | go_simp)); simp only [Act.put, List.setIfInBounds_toArray, List.set_cons_succ, List.set_cons_zero]; (try simp only [List.cons_append]); (try simp only [List.nil_append]); apply hK; clear hK K))
          refine phi_partK (PByt F) rfl rfl ⟨_, none, 0, rfl⟩ ?_ (fun K hK v hv => ?_)
          · rintro w' ⟨h1, h2, h3⟩ hf
            unfold gives
            clear hf
            go_simp
            refine (bytes_of_tape w' a2 o2 _ h2.tape).mono ?_
            rintro e w'' ⟨v, rfl, ho, hb⟩
            obtain ⟨q, c, rfl, _⟩ := owns_rd (show w''.ownsRow w'.heap.size 5 1 v F.length (bvs F) from hFe ▸ ho)
            exact ⟨_, rfl, ⟨q, c, rfl⟩, owns_byt (hFe ▸ ho), hb⟩
          obtain ⟨p_4, c_4, rfl⟩ := hv
          simp only [Act.put, List.setIfInBounds_toArray, List.set_cons_succ, List.set_cons_zero]; (try simp only [List.cons_append]); (try simp only [List.nil_append])
          apply hK
          clear hK K
          repeat (first | (refine phi_skipK rfl (fun K hK => ?_); simp only [Act.put, List.setIfInBounds_toArray, List.set_cons_succ, List.set_cons_zero]; (try simp only [List.cons_append]); (try simp only [List.nil_append]); apply hK; clear hK K) | (refine phi_pureK rfl rfl (fun K hK => ?_); apply Exists.intro; constructor; (focus (rintro w' ⟨h1, h2, h3⟩; clear h1 h2 h3; first | (go_simp; done) | (go_simp; (try go_bits); (try go_simp); rfl) | go_simp)); simp only [Act.put, List.setIfInBounds_toArray, List.set_cons_succ, List.set_cons_zero]; (try simp only [List.cons_append]); (try simp only [List.nil_append]); apply hK; clear hK K))
          refine phi_partK (PVal (.string (bs F))) rfl rfl ⟨_, rfl⟩ ?_ (fun K hK v hv => ?_)
          · rintro w' ⟨h1, h2, h3⟩ hf
            have hbS : Byt w' _ F := hf (4, fun w => (PByt F).fact w (.slice p_4 F.length c_4)) (by simp) (List.contains_iff_mem.1 rfl)
            have sS := str_of hbS
            clear hf hbS h1 h2 h3
            unfold gives
            go_simp
            exact ⟨rfl, trivial, Below.refl _ _⟩
          obtain rfl : v = _ := hv
          simp only [Act.put, List.setIfInBounds_toArray, List.set_cons_succ, List.set_cons_zero]; (try simp only [List.cons_append]); (try simp only [List.nil_append])
          apply hK
          clear hK K
          repeat (first | (refine phi_skipK rfl (fun K hK => ?_); simp only [Act.put, List.setIfInBounds_toArray, List.set_cons_succ, List.set_cons_zero]; (try simp only [List.cons_append]); (try simp only [List.nil_append]); apply hK; clear hK K) | (refine phi_pureK rfl rfl (fun K hK => ?_); apply Exists.intro; constructor; (focus (rintro w' ⟨h1, h2, h3⟩; clear h1 h2 h3; first | (go_simp; done) | (go_simp; (try go_bits); (try go_simp); rfl) | go_simp)); simp only [Act.put, List.setIfInBounds_toArray, List.set_cons_succ, List.set_cons_zero]; (try simp only [List.cons_append]); (try simp only [List.nil_append]); apply hK; clear hK K))
          refine phi_partK (PBytL ls) rfl rfl ⟨_, none, 0, rfl⟩ ?_ (fun K hK v hv => ?_)
          · rintro w' ⟨h1, h2, h3⟩ hf
            unfold gives
            clear hf
            go_simp
            refine (rowsOf_any w' j a p7 o7 _ _ h1 (by show ls.length ≤ _; have := HLEN.out; omega)).mono ?_
            rintro e w'' ⟨v, rfl, ho, hb⟩
            have hy : BytL w'' v ls := ho.bytl
            obtain ⟨q, c, _, rfl, _⟩ := id hy
            exact ⟨_, rfl, ⟨q, c, rfl⟩, hy, hb⟩
          obtain ⟨p_9, c_9, rfl⟩ := hv
          simp only [Act.put, List.setIfInBounds_toArray, List.set_cons_succ, List.set_cons_zero]; (try simp only [List.cons_append]); (try simp only [List.nil_append])
          apply hK
          clear hK K
          repeat (first | (refine phi_skipK rfl (fun K hK => ?_); simp only [Act.put, List.setIfInBounds_toArray, List.set_cons_succ, List.set_cons_zero]; (try simp only [List.cons_append]); (try simp only [List.nil_append]); apply hK; clear hK K) | (refine phi_pureK rfl rfl (fun K hK => ?_); apply Exists.intro; constructor; (focus (rintro w' ⟨h1, h2, h3⟩; clear h1 h2 h3; first | (go_simp; done) | (go_simp; (try go_bits); (try go_simp); rfl) | go_simp)); simp only [Act.put, List.setIfInBounds_toArray, List.set_cons_succ, List.set_cons_zero]; (try simp only [List.cons_append]); (try simp only [List.nil_append]); apply hK; clear hK K))
          refine phi_partK (PVal (.bool true)) rfl rfl ⟨_, rfl⟩ ?_ (fun K hK v hv => ?_)
          · rintro w' ⟨h1, h2, h3⟩ hf
            have hbS : BytL w' _ ls := hf (9, fun w => (PBytL ls).fact w (.slice p_9 ls.length c_9)) (by simp) (List.contains_iff_mem.1 rfl)
            have hbT := HV1.out.keep (Below.keeps h3)
            unfold gives
            clear hf
            go_simp
            refine (samel_any w' _ _ ls ls hbS hbT).mono ?_
            rintro e w'' ⟨rfl, hb⟩
            exact ⟨_, rfl, by rw [decide_eq_true (rfl : ls = ls)]; rfl, trivial, hb⟩
          obtain rfl : v = _ := hv
          simp only [Act.put, List.setIfInBounds_toArray, List.set_cons_succ, List.set_cons_zero]; (try simp only [List.cons_append]); (try simp only [List.nil_append])
          apply hK
          clear hK K
          repeat (first | (refine phi_skipK rfl (fun K hK => ?_); simp only [Act.put, List.setIfInBounds_toArray, List.set_cons_succ, List.set_cons_zero]; (try simp only [List.cons_append]); (try simp only [List.nil_append]); apply hK; clear hK K) | (refine phi_pureK rfl rfl (fun K hK => ?_); apply Exists.intro; constructor; (focus (rintro w' ⟨h1, h2, h3⟩; clear h1 h2 h3; first | (go_simp; done) | (go_simp; (try go_bits); (try go_simp); rfl) | go_simp)); simp only [Act.put, List.setIfInBounds_toArray, List.set_cons_succ, List.set_cons_zero]; (try simp only [List.cons_append]); (try simp only [List.nil_append]); apply hK; clear hK K))
          refine phi_partK (PBytL ls) rfl rfl ⟨_, none, 0, rfl⟩ ?_ (fun K hK v hv => ?_)
          · rintro w' ⟨h1, h2, h3⟩ hf
            unfold gives
            clear hf
            go_simp
            refine (rowsOf_any w' j2 a2 p2 o2 _ _ h2 (by show ls.length ≤ _; have := HLEN.out; omega)).mono ?_
            rintro e w'' ⟨v, rfl, ho, hb⟩
            have hy : BytL w'' v ls := ho.bytl
            obtain ⟨q, c, _, rfl, _⟩ := id hy
            exact ⟨_, rfl, ⟨q, c, rfl⟩, hy, hb⟩
          obtain ⟨p_15, c_15, rfl⟩ := hv
          simp only [Act.put, List.setIfInBounds_toArray, List.set_cons_succ, List.set_cons_zero]; (try simp only [List.cons_append]); (try simp only [List.nil_append])
          apply hK
          clear hK K
          repeat (first | (refine phi_skipK rfl (fun K hK => ?_); simp only [Act.put, List.setIfInBounds_toArray, List.set_cons_succ, List.set_cons_zero]; (try simp only [List.cons_append]); (try simp only [List.nil_append]); apply hK; clear hK K) | (refine phi_pureK rfl rfl (fun K hK => ?_); apply Exists.intro; constructor; (focus (rintro w' ⟨h1, h2, h3⟩; clear h1 h2 h3; first | (go_simp; done) | (go_simp; (try go_bits); (try go_simp); rfl) | go_simp)); simp only [Act.put, List.setIfInBounds_toArray, List.set_cons_succ, List.set_cons_zero]; (try simp only [List.cons_append]); (try simp only [List.nil_append]); apply hK; clear hK K))
          refine phi_partK (PVal (.bool true)) rfl rfl ⟨_, rfl⟩ ?_ (fun K hK v hv => ?_)
          · rintro w' ⟨h1, h2, h3⟩ hf
            have hbS : BytL w' _ ls := hf (15, fun w => (PBytL ls).fact w (.slice p_15 ls.length c_15)) (by simp) (List.contains_iff_mem.1 rfl)
            have hbT := HV1.out.keep (Below.keeps h3)
            unfold gives
            clear hf
            go_simp
            refine (samel_any w' _ _ ls ls hbS hbT).mono ?_
            rintro e w'' ⟨rfl, hb⟩
            exact ⟨_, rfl, by rw [decide_eq_true (rfl : ls = ls)]; rfl, trivial, hb⟩
          obtain rfl : v = _ := hv
          simp only [Act.put, List.setIfInBounds_toArray, List.set_cons_succ, List.set_cons_zero]; (try simp only [List.cons_append]); (try simp only [List.nil_append])
          apply hK
          clear hK K
          repeat (first | (refine phi_skipK rfl (fun K hK => ?_); simp only [Act.put, List.setIfInBounds_toArray, List.set_cons_succ, List.set_cons_zero]; (try simp only [List.cons_append]); (try simp only [List.nil_append]); apply hK; clear hK K) | (refine phi_pureK rfl rfl (fun K hK => ?_); apply Exists.intro; constructor; (focus (rintro w' ⟨h1, h2, h3⟩; clear h1 h2 h3; first | (go_simp; done) | (go_simp; (try go_bits); (try go_simp); rfl) | go_simp)); simp only [Act.put, List.setIfInBounds_toArray, List.set_cons_succ, List.set_cons_zero]; (try simp only [List.cons_append]); (try simp only [List.nil_append]); apply hK; clear hK K))
          refine phi_partK (PVal (.int .i64 (F.length : Int))) rfl rfl ⟨_, rfl⟩ ?_ (fun K hK v hv => ?_)
          · rintro w' ⟨h1, h2, h3⟩ hf
            unfold gives
            clear hf
            go_simp
            refine (sizeOf_any w' j a p7 o7 _ _ h1).mono ?_
            rintro e w'' ⟨rfl, rfl⟩
            exact ⟨_, rfl, by rw [← hFf]; rfl, trivial, Below.refl _ _⟩
          obtain rfl : v = _ := hv
          simp only [Act.put, List.setIfInBounds_toArray, List.set_cons_succ, List.set_cons_zero]; (try simp only [List.cons_append]); (try simp only [List.nil_append])
          apply hK
          clear hK K
          repeat (first | (refine phi_skipK rfl (fun K hK => ?_); simp only [Act.put, List.setIfInBounds_toArray, List.set_cons_succ, List.set_cons_zero]; (try simp only [List.cons_append]); (try simp only [List.nil_append]); apply hK; clear hK K) | (refine phi_pureK rfl rfl (fun K hK => ?_); apply Exists.intro; constructor; (focus (rintro w' ⟨h1, h2, h3⟩; clear h1 h2 h3; first | (go_simp; done) | (go_simp; (try go_bits); (try go_simp); rfl) | go_simp)); simp only [Act.put, List.setIfInBounds_toArray, List.set_cons_succ, List.set_cons_zero]; (try simp only [List.cons_append]); (try simp only [List.nil_append]); apply hK; clear hK K))
          refine phi_partK (PByt F) rfl rfl ⟨_, none, 0, rfl⟩ ?_ (fun K hK v hv => ?_)
          · rintro w' ⟨h1, h2, h3⟩ hf
            unfold gives
            clear hf
            go_simp
            refine (bytes_of_tape w' a o7 _ h1.tape).mono ?_
            rintro e w'' ⟨v, rfl, ho, hb⟩
            obtain ⟨q, c, rfl, _⟩ := owns_rd (show w''.ownsRow w'.heap.size 5 1 v F.length (bvs F) from hFe ▸ ho)
            exact ⟨_, rfl, ⟨q, c, rfl⟩, owns_byt (hFe ▸ ho), hb⟩
          obtain ⟨p_23, c_23, rfl⟩ := hv
          simp only [Act.put, List.setIfInBounds_toArray, List.set_cons_succ, List.set_cons_zero]; (try simp only [List.cons_append]); (try simp only [List.nil_append])
          apply hK
          clear hK K
          repeat (first | (refine phi_skipK rfl (fun K hK => ?_); simp only [Act.put, List.setIfInBounds_toArray, List.set_cons_succ, List.set_cons_zero]; (try simp only [List.cons_append]); (try simp only [List.nil_append]); apply hK; clear hK K) | (refine phi_pureK rfl rfl (fun K hK => ?_); apply Exists.intro; constructor; (focus (rintro w' ⟨h1, h2, h3⟩; clear h1 h2 h3; first | (go_simp; done) | (go_simp; (try go_bits); (try go_simp); rfl) | go_simp)); simp only [Act.put, List.setIfInBounds_toArray, List.set_cons_succ, List.set_cons_zero]; (try simp only [List.cons_append]); (try simp only [List.nil_append]); apply hK; clear hK K))
          refine phi_done ?_
          rintro w9 ⟨_, _, hb9⟩ _
          refine wpList_nil ?_
          go_wp2_with fail
          go_ret
          exact ⟨rfl, hb9⟩
end Go.Proofs.YtoiknidlincdkaaDoor
