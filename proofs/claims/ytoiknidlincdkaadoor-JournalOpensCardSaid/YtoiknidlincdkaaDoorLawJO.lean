/-
  LawJO: JournalOpens answers true.
-/
import Derived.Test.YtoiknidlincdkaaDoorRefRd
import Derived.Test.YtoiknidlincdkaaDoorJourV
import Derived.Test.YtoiknidlincdkaaDoorSameL
namespace Go.Proofs.YtoiknidlincdkaaDoor
open Go.RowKit
attribute [local go_sem] bs_toList

set_option maxRecDepth 20000 in
set_option maxHeartbeats 8000000 in
theorem opens_any (w : World) (E : Nat → Addr) (he : Errs w E) (ht : HalfTab w) (vb vr : Value) (b row : List UInt8) (hb : Byt w vb b) (hr : Byt w vr row) :
    Calls Tryd.prog 3 #[vb, vr] w (ok1 w) := by
  have HE := Lib.hid he
  have HGL := Lib.hid (Glob.of he ht)
  have HAL := Lib.hid (alive_any w E he ht)
  have HVB := Lib.hid hb
  have HVR := Lib.hid hr
  obtain ⟨pb, cb, rfl, b1, b2, _⟩ := hb
  obtain ⟨pq, cq, rfl, r1, r2, _⟩ := hr
  obtain ⟨i8, hi8, hz80, hz81, hz82⟩ := info_parts byt8Info
  unfold maxLen at b2 r2
  clear he ht
  go_enter Tryd.func3, Tryd.ntmps3
  go_wp2_with fail
  refine HAL.out.mono ?_
  rintro e w1 ⟨rfl, hb1⟩
  have HB1 := Lib.hid hb1
  clear hb1 HAL
  by_cases hc1 : 2000 < b.length
  · have d1 : decide (2000 < (b.length : Int)) = true := by rw [decide_eq_true_eq]; omega
    have d1' : decide (2000 < b.length) = true := by rw [decide_eq_true_eq]; omega
    go_wp2_with fail
    go_ret
    exact ⟨rfl, HB1.out⟩
  have d1 : decide (2000 < (b.length : Int)) = false := by rw [decide_eq_false_iff_not]; omega
  by_cases hc2 : 400 < row.length
  · have d2 : decide (400 < (row.length : Int)) = true := by rw [decide_eq_true_eq]; omega
    go_wp2_with fail
    go_ret
    exact ⟨rfl, HB1.out⟩
  have d2 : decide (400 < (row.length : Int)) = false := by rw [decide_eq_false_iff_not]; omega
  have HFR := Lib.hid (frame_any w1 E _ row ((HGL.out.below HB1.out).half _ (Below.refl _ _)) ((HE.out.below HB1.out).on [3] rfl) (HVR.out.below HB1.out))
  unfold FramedJ frameE at HFR
  cases hok : okRow row with
  | true =>
    rw [hok, if_pos rfl, errV_zero] at HFR
    have HOK := Lib.hid hok
    clear hok
    go_wp2_with fail
    refine HFR.out.mono ?_
    rintro e w2 ⟨v2, rfl, ho2, hb2⟩
    obtain ⟨p2, c2, rfl, _, _, _⟩ := owns_rd ho2
    have HB2 := Lib.hid (HB1.out.trans (hb2.mono HB1.out.size))
    have HY2 := Lib.hid (owns_byt ho2)
    have HRF := Lib.hid (refframe_any w2 _ row (HVR.out.below HB2.out))
    unfold FramedR at HRF
    rw [HOK.out] at HRF
    clear ho2 hb2 HFR
    go_wp2_with fail
    refine HRF.out.mono ?_
    rintro e w3 ⟨v3, rfl, ho3, hb3⟩
    obtain ⟨p3, c3, rfl, _, _, _⟩ := owns_rd ho3
    have HB3 := Lib.hid (HB2.out.trans (hb3.mono HB2.out.size))
    have s3 := str_of (owns_byt ho3)
    have s2 := str_of (HY2.out.below hb3)
    have hbb : (frameR row == frameR row) = true := beq_self_eq_true _
    clear ho3 hb3 HRF
    go_wp2_with fail
    clear s2 s3 hbb
    clear d1 d2
    refine (newP_any w3 E 2000 ((HE.out.below HB3.out).on [0] rfl) (by decide) (by decide)).mono ?_
    rintro e w5 ⟨rfl, ht5, hb5⟩
    have HT5 := Lib.hid ht5
    have HB5 := Lib.hid (HB3.out.trans (hb5.mono HB3.out.size))
    have haw : w.heap.size ≤ w3.heap.size := HB3.out.size
    clear ht5 hb5
    generalize w3.heap.size = a at *
    obtain ⟨hq1, hq2⟩ := p_append [] 0 2000 b (by simp; omega)
    have HAP := Lib.hid (append_any w5 E a none (TSt.P [] 0 2000) _ b ((HE.out.below HB5.out).on [5, 6] rfl) HT5.out (HVB.out.below HB5.out) (fun w' k => HVB.out.below (HB5.out.trans (k.below haw))) (by omega))
    rw [hq1, hq2, errV_zero, List.nil_append] at HAP
    clear hq1 hq2
    go_wp2_with fail
    refine HAP.out.mono ?_
    rintro e w6 ⟨rfl, ⟨o6', _, ht6⟩, k6⟩
    have HT6 := Lib.hid ht6
    have hoB : ∀ g ∈ a :: o6'.toList, w.heap.size ≤ g := fun g hg => by
      rcases List.mem_cons.1 hg with rfl | hg
      · exact haw
      · rcases (show Nx w5 none o6' from by assumption) with rfl | h
        · cases hg
        · have := h g (Option.mem_toList.1 hg)
          have := HB5.out.size
          omega
    have HOB := Lib.hid hoB
    have HB6 := Lib.hid (HB5.out.trans (k6.below (B := w.heap.size) (by simp; omega) HB5.out.size))
    clear ht6 k6 hoB HAP HT5
    have HSY := Lib.hid (sync_any w6 E a o6' (TSt.P b 0 2000) ((HE.out.below HB6.out).on [6] rfl) HT6.out)
    rw [p_stepE, p_sync, errV_zero] at HSY
    go_wp2_with fail
    refine HSY.out.mono ?_
    rintro e w7 ⟨rfl, ⟨o7, hn7, ht7⟩, k7⟩
    have HT7 := Lib.hid ht7
    have HB7 := Lib.hid (HB6.out.trans (k7.below HOB.out HB6.out.size))
    have HOB7 := Lib.hid (show ∀ g ∈ a :: o7.toList, w.heap.size ≤ g from fun g hg => by
      rcases List.mem_cons.1 hg with rfl | hg
      · exact haw
      · rcases hn7 with rfl | h
        · exact HOB.out g (List.mem_cons_of_mem _ hg)
        · have := h g (Option.mem_toList.1 hg)
          have := HB6.out.size
          omega)
    clear ht7 k7 hn7 HSY
    go_wp2_with fail
    obtain ⟨hl1, hl2, hl3⟩ := open_bytes b b.length 2000
    refine (open_any7 w.heap.size w7 E a o7 [] _ HT7.out hl3 (HGL.out.below HB7.out) HB7.out.size HOB7.out (by simp)).mono ?_
    rintro e w8 ⟨rfl, ⟨p6, o6, _, _, hj8⟩, k8⟩
    have HJ8 := Lib.hid hj8.jn
    have HB8 := Lib.hid (HB7.out.trans (k8.below HOB7.out HB7.out.size))
    clear hj8 k8 hl3
    generalize w7.heap.size = j at *
    go_wp2_with fail
    refine (refread_any w8 _ b (by omega) (HVB.out.below HB8.out)).mono ?_
    rintro e w9 ⟨v9, rfl, ho9, hb9⟩
    have hn2 := (readJ_ok b).2.2.2
    have hRle : (readJ b).1.length ≤ 2000 := by
      have h1 := framesJ_many (readJ b).1
      have h2 := (readJ_ok b).2.2.1
      have h3 := (readJ_ok b).2.2.2
      omega
    have HSZ := Lib.hid ((readJ_ok b).2.2.1.symm)
    rw [← HSZ.out] at hn2
    have HTL := Lib.hid hl1
    have HRR := Lib.hid hl2
    have HB9 := Lib.hid (HB8.out.trans (hb9.mono HB8.out.size))
    have HJ9 := Lib.hid (HJ8.out.below hb9)
    have HR9 := Lib.hid ho9.bytl
    have HSJ := Lib.hid (show (framesJ (openJ (TSt.P b b.length 2000)).rows).length = (readJ b).2 from by rw [hl2, HSZ.out])
    obtain ⟨_, _, hown9, _⟩ := ho9
    obtain ⟨pr, cr, rfl, _, _, _⟩ := owns_rd hown9
    clear hown9 hb9 hl1 hl2
    generalize openJ (TSt.P b b.length 2000) = J at *
    have hn2' : (readJ b).2 ≤ b.length := (readJ_ok b).2.2.2
    generalize (readJ b).2 = n2 at *
    generalize (readJ b).1 = R at *
    clear hn2
    have hn2 := hn2'
    clear hn2'
    have HTKL := Lib.hid (show (b.take n2).length = n2 from by rw [List.length_take, Nat.min_eq_left hn2])
    have hsl := fun w => run_slice_to (P := Tryd.prog) Tryd.underlying22 hi8 pb b.length cb n2 (by omega) w
    go_wp2_with fail
    refine wp_phi (fun w' => Jn w' j a p6 o6 [] J ∧ BytL w' (.slice pr R.length cr) R ∧ Below w.heap.size w w') [(4, PBytL R), (6, PVal (.bool true)), (10, PVal (.int .i64 (n2 : Int))), (16, PByt (b.take n2)), (17, PVal (.string (bs (b.take n2))))] [(6, [4]), (17, [16])] (by kernel_rfl) (by kernel_rfl) ?_ ?_ ⟨HJ9.out.below (Below.refl _ _).drew, HR9.out.keep (Below.keeps (Below.refl _ _).drew), HB9.out.drew⟩ ?_
    · rintro w1' w2' ⟨h1, h2, h3⟩ hb
      exact ⟨h1.below hb, h2.keep (Below.keeps hb), h3.trans (hb.mono h3.size)⟩
    · simp only [List.mem_cons, List.not_mem_nil, or_false, forall_eq_or_imp, forall_eq]
      exact ⟨fun _ _ _ _ h => PBytL_stays _ _ _ _ h, fun _ _ _ _ h => PVal_stays _ _ _ _ h, fun _ _ _ _ h => PVal_stays _ _ _ _ h, fun _ _ _ _ h => PByt_stays _ _ _ _ h, fun _ _ _ _ h => PVal_stays _ _ _ _ h⟩
    repeat (first | (refine phi_skipK rfl (fun K hK => ?_); simp only [Act.put, List.setIfInBounds_toArray, List.set_cons_succ, List.set_cons_zero]; (try simp only [List.cons_append]); (try simp only [List.nil_append]); apply hK; clear hK K) | (refine phi_pureK rfl rfl (fun K hK => ?_); apply Exists.intro; constructor; (focus (rintro w' ⟨h1, h2, h3⟩; have s9 := str_of (byt_take (HVB.out.keep (Below.keeps h3)) n2 hn2); clear h1 h2 h3; first | (go_simp; done) | (go_simp; (try go_bits); (try go_simp); rfl) | go_simp)); simp only [Act.put, List.setIfInBounds_toArray, List.set_cons_succ, List.set_cons_zero]; (try simp only [List.cons_append]); (try simp only [List.nil_append]); apply hK; clear hK K))
    refine phi_partK (PBytL R) rfl rfl ⟨_, none, 0, rfl⟩ ?_ (fun K hK v hv => ?_)
    · rintro w' ⟨h1, h2, h3⟩ hf
      unfold gives
      clear hf
      go_simp
      refine (rowsOf_any w' j a p6 o6 _ _ h1 (by rw [HRR.out]; omega)).mono ?_
      rintro e w'' ⟨v, rfl, ho, hb⟩
      rw [HRR.out] at ho
      have hy : BytL w'' v R := ho.bytl
      obtain ⟨q, c, _, rfl, _⟩ := id hy
      exact ⟨_, rfl, ⟨q, c, rfl⟩, hy, hb⟩
    obtain ⟨p_4, c_4, rfl⟩ := hv
    simp only [Act.put, List.setIfInBounds_toArray, List.set_cons_succ, List.set_cons_zero]; (try simp only [List.cons_append]); (try simp only [List.nil_append])
    apply hK
    clear hK K
    repeat (first | (refine phi_skipK rfl (fun K hK => ?_); simp only [Act.put, List.setIfInBounds_toArray, List.set_cons_succ, List.set_cons_zero]; (try simp only [List.cons_append]); (try simp only [List.nil_append]); apply hK; clear hK K) | (refine phi_pureK rfl rfl (fun K hK => ?_); apply Exists.intro; constructor; (focus (rintro w' ⟨h1, h2, h3⟩; have s9 := str_of (byt_take (HVB.out.keep (Below.keeps h3)) n2 hn2); clear h1 h2 h3; first | (go_simp; done) | (go_simp; (try go_bits); (try go_simp); rfl) | go_simp)); simp only [Act.put, List.setIfInBounds_toArray, List.set_cons_succ, List.set_cons_zero]; (try simp only [List.cons_append]); (try simp only [List.nil_append]); apply hK; clear hK K))
    refine phi_partK (PVal (.bool true)) rfl rfl ⟨_, rfl⟩ ?_ (fun K hK v hv => ?_)
    · rintro w' ⟨h1, h2, h3⟩ hf
      have hbS : BytL w' _ R := hf (4, fun w => (PBytL R).fact w (.slice p_4 R.length c_4)) (by simp) (List.contains_iff_mem.1 rfl)
      unfold gives
      clear hf
      go_simp
      refine (samel_any w' _ _ R R hbS h2).mono ?_
      rintro e w'' ⟨rfl, hb⟩
      exact ⟨_, rfl, by rw [decide_eq_true (rfl : R = R)]; rfl, trivial, hb⟩
    obtain rfl : v = _ := hv
    simp only [Act.put, List.setIfInBounds_toArray, List.set_cons_succ, List.set_cons_zero]; (try simp only [List.cons_append]); (try simp only [List.nil_append])
    apply hK
    clear hK K
    repeat (first | (refine phi_skipK rfl (fun K hK => ?_); simp only [Act.put, List.setIfInBounds_toArray, List.set_cons_succ, List.set_cons_zero]; (try simp only [List.cons_append]); (try simp only [List.nil_append]); apply hK; clear hK K) | (refine phi_pureK rfl rfl (fun K hK => ?_); apply Exists.intro; constructor; (focus (rintro w' ⟨h1, h2, h3⟩; have s9 := str_of (byt_take (HVB.out.keep (Below.keeps h3)) n2 hn2); clear h1 h2 h3; first | (go_simp; done) | (go_simp; (try go_bits); (try go_simp); rfl) | go_simp)); simp only [Act.put, List.setIfInBounds_toArray, List.set_cons_succ, List.set_cons_zero]; (try simp only [List.cons_append]); (try simp only [List.nil_append]); apply hK; clear hK K))
    refine phi_partK (PVal (.int .i64 (n2 : Int))) rfl rfl ⟨_, rfl⟩ ?_ (fun K hK v hv => ?_)
    · rintro w' ⟨h1, h2, h3⟩ hf
      unfold gives
      clear hf
      go_simp
      refine (sizeOf_any w' j a p6 o6 _ _ h1).mono ?_
      rintro e w'' ⟨rfl, rfl⟩
      exact ⟨_, rfl, by show Value.int .i64 _ = Value.int .i64 _; rw [HSJ.out], trivial, Below.refl _ _⟩
    obtain rfl : v = _ := hv
    simp only [Act.put, List.setIfInBounds_toArray, List.set_cons_succ, List.set_cons_zero]; (try simp only [List.cons_append]); (try simp only [List.nil_append])
    apply hK
    clear hK K
    repeat (first | (refine phi_skipK rfl (fun K hK => ?_); simp only [Act.put, List.setIfInBounds_toArray, List.set_cons_succ, List.set_cons_zero]; (try simp only [List.cons_append]); (try simp only [List.nil_append]); apply hK; clear hK K) | (refine phi_pureK rfl rfl (fun K hK => ?_); apply Exists.intro; constructor; (focus (rintro w' ⟨h1, h2, h3⟩; have s9 := str_of (byt_take (HVB.out.keep (Below.keeps h3)) n2 hn2); clear h1 h2 h3; first | (go_simp; done) | (go_simp; (try go_bits); (try go_simp); rfl) | go_simp)); simp only [Act.put, List.setIfInBounds_toArray, List.set_cons_succ, List.set_cons_zero]; (try simp only [List.cons_append]); (try simp only [List.nil_append]); apply hK; clear hK K))
    refine phi_partK (PByt (b.take n2)) rfl rfl ⟨_, none, 0, rfl⟩ ?_ (fun K hK v hv => ?_)
    · rintro w' ⟨h1, h2, h3⟩ hf
      unfold gives
      clear hf
      go_simp
      refine (bytes_of_tape w' a o6 _ h1.tape).mono ?_
      rintro e w'' ⟨v, rfl, ho, hb⟩
      rw [HTL.out] at ho
      obtain ⟨q, c, rfl, _⟩ := owns_rd ho
      exact ⟨_, rfl, ⟨q, c, rfl⟩, owns_byt ho, hb⟩
    obtain ⟨p_16, c_16, rfl⟩ := hv
    simp only [Act.put, List.setIfInBounds_toArray, List.set_cons_succ, List.set_cons_zero]; (try simp only [List.cons_append]); (try simp only [List.nil_append])
    apply hK
    clear hK K
    repeat (first | (refine phi_skipK rfl (fun K hK => ?_); simp only [Act.put, List.setIfInBounds_toArray, List.set_cons_succ, List.set_cons_zero]; (try simp only [List.cons_append]); (try simp only [List.nil_append]); apply hK; clear hK K) | (refine phi_pureK rfl rfl (fun K hK => ?_); apply Exists.intro; constructor; (focus (rintro w' ⟨h1, h2, h3⟩; have s9 := str_of (byt_take (HVB.out.keep (Below.keeps h3)) n2 hn2); clear h1 h2 h3; first | (go_simp; done) | (go_simp; (try go_bits); (try go_simp); rfl) | go_simp)); simp only [Act.put, List.setIfInBounds_toArray, List.set_cons_succ, List.set_cons_zero]; (try simp only [List.cons_append]); (try simp only [List.nil_append]); apply hK; clear hK K))
    refine phi_partK (PVal (.string (bs (b.take n2)))) rfl rfl ⟨_, rfl⟩ ?_ (fun K hK v hv => ?_)
    · rintro w' ⟨h1, h2, h3⟩ hf
      have hbS : Byt w' _ (b.take n2) := hf (16, fun w => (PByt (b.take n2)).fact w (.slice p_16 (b.take n2).length c_16)) (by simp) (List.contains_iff_mem.1 rfl)
      have sS := str_of hbS
      rw [HTKL.out] at sS
      clear hf hbS h1 h2 h3
      unfold gives
      go_simp
      exact ⟨rfl, trivial, Below.refl _ _⟩
    obtain rfl : v = _ := hv
    simp only [Act.put, List.setIfInBounds_toArray, List.set_cons_succ, List.set_cons_zero]; (try simp only [List.cons_append]); (try simp only [List.nil_append])
    apply hK
    clear hK K
    repeat (first | (refine phi_skipK rfl (fun K hK => ?_); simp only [Act.put, List.setIfInBounds_toArray, List.set_cons_succ, List.set_cons_zero]; (try simp only [List.cons_append]); (try simp only [List.nil_append]); apply hK; clear hK K) | (refine phi_pureK rfl rfl (fun K hK => ?_); apply Exists.intro; constructor; (focus (rintro w' ⟨h1, h2, h3⟩; have s9 := str_of (byt_take (HVB.out.keep (Below.keeps h3)) n2 hn2); clear h1 h2 h3; first | (go_simp; done) | (go_simp; (try go_bits); (try go_simp); rfl) | go_simp)); simp only [Act.put, List.setIfInBounds_toArray, List.set_cons_succ, List.set_cons_zero]; (try simp only [List.cons_append]); (try simp only [List.nil_append]); apply hK; clear hK K))
    refine phi_done ?_
    rintro w9' ⟨_, _, hb9⟩ _
    refine wpList_nil ?_
    go_wp2_with fail
    go_ret
    exact ⟨rfl, hb9⟩
  | false =>
    rw [hok, if_neg (by decide), errV_suc] at HFR
    have HOK := Lib.hid hok
    clear hok
    go_wp2_with fail
    refine HFR.out.mono ?_
    rintro e w2 ⟨v2, rfl, ho2, hb2⟩
    obtain ⟨p2, c2, rfl, _, _, _⟩ := owns_rd ho2
    have HB2 := Lib.hid (HB1.out.trans (hb2.mono HB1.out.size))
    have HY2 := Lib.hid (owns_byt ho2)
    have HRF := Lib.hid (refframe_any w2 _ row (HVR.out.below HB2.out))
    unfold FramedR at HRF
    rw [HOK.out] at HRF
    clear ho2 hb2 HFR
    go_wp2_with fail
    refine HRF.out.mono ?_
    rintro e w3 ⟨v3, rfl, ho3, hb3⟩
    obtain ⟨p3, c3, rfl, _, _, _⟩ := owns_rd ho3
    have HB3 := Lib.hid (HB2.out.trans (hb3.mono HB2.out.size))
    have s3 := str_of (owns_byt ho3)
    have s2 := str_of (HY2.out.below hb3)
    have hbb : (frameR row == frameR row) = true := beq_self_eq_true _
    have HNU := Lib.hid (num_any w3 E 4 (by decide) (HE.out.below HB3.out))
    rw [errV_suc] at HNU
    clear ho3 hb3 HRF
    go_wp2_with fail
    clear s2 s3 hbb
    refine HNU.out.mono ?_
    rintro e w4 ⟨rfl, hb4⟩
    have HB4 := Lib.hid (HB3.out.trans (hb4.mono HB3.out.size))
    clear hb4 HNU
    go_wp2_with fail
    clear d1 d2
    refine (newP_any w4 E 2000 ((HE.out.below HB4.out).on [0] rfl) (by decide) (by decide)).mono ?_
    rintro e w5 ⟨rfl, ht5, hb5⟩
    have HT5 := Lib.hid ht5
    have HB5 := Lib.hid (HB4.out.trans (hb5.mono HB4.out.size))
    have haw : w.heap.size ≤ w4.heap.size := HB4.out.size
    clear ht5 hb5
    generalize w4.heap.size = a at *
    obtain ⟨hq1, hq2⟩ := p_append [] 0 2000 b (by simp; omega)
    have HAP := Lib.hid (append_any w5 E a none (TSt.P [] 0 2000) _ b ((HE.out.below HB5.out).on [5, 6] rfl) HT5.out (HVB.out.below HB5.out) (fun w' k => HVB.out.below (HB5.out.trans (k.below haw))) (by omega))
    rw [hq1, hq2, errV_zero, List.nil_append] at HAP
    clear hq1 hq2
    go_wp2_with fail
    refine HAP.out.mono ?_
    rintro e w6 ⟨rfl, ⟨o6', _, ht6⟩, k6⟩
    have HT6 := Lib.hid ht6
    have hoB : ∀ g ∈ a :: o6'.toList, w.heap.size ≤ g := fun g hg => by
      rcases List.mem_cons.1 hg with rfl | hg
      · exact haw
      · rcases (show Nx w5 none o6' from by assumption) with rfl | h
        · cases hg
        · have := h g (Option.mem_toList.1 hg)
          have := HB5.out.size
          omega
    have HOB := Lib.hid hoB
    have HB6 := Lib.hid (HB5.out.trans (k6.below (B := w.heap.size) (by simp; omega) HB5.out.size))
    clear ht6 k6 hoB HAP HT5
    have HSY := Lib.hid (sync_any w6 E a o6' (TSt.P b 0 2000) ((HE.out.below HB6.out).on [6] rfl) HT6.out)
    rw [p_stepE, p_sync, errV_zero] at HSY
    go_wp2_with fail
    refine HSY.out.mono ?_
    rintro e w7 ⟨rfl, ⟨o7, hn7, ht7⟩, k7⟩
    have HT7 := Lib.hid ht7
    have HB7 := Lib.hid (HB6.out.trans (k7.below HOB.out HB6.out.size))
    have HOB7 := Lib.hid (show ∀ g ∈ a :: o7.toList, w.heap.size ≤ g from fun g hg => by
      rcases List.mem_cons.1 hg with rfl | hg
      · exact haw
      · rcases hn7 with rfl | h
        · exact HOB.out g (List.mem_cons_of_mem _ hg)
        · have := h g (Option.mem_toList.1 hg)
          have := HB6.out.size
          omega)
    clear ht7 k7 hn7 HSY
    go_wp2_with fail
    obtain ⟨hl1, hl2, hl3⟩ := open_bytes b b.length 2000
    refine (open_any7 w.heap.size w7 E a o7 [] _ HT7.out hl3 (HGL.out.below HB7.out) HB7.out.size HOB7.out (by simp)).mono ?_
    rintro e w8 ⟨rfl, ⟨p6, o6, _, _, hj8⟩, k8⟩
    have HJ8 := Lib.hid hj8.jn
    have HB8 := Lib.hid (HB7.out.trans (k8.below HOB7.out HB7.out.size))
    clear hj8 k8 hl3
    generalize w7.heap.size = j at *
    go_wp2_with fail
    refine (refread_any w8 _ b (by omega) (HVB.out.below HB8.out)).mono ?_
    rintro e w9 ⟨v9, rfl, ho9, hb9⟩
    have hn2 := (readJ_ok b).2.2.2
    have hRle : (readJ b).1.length ≤ 2000 := by
      have h1 := framesJ_many (readJ b).1
      have h2 := (readJ_ok b).2.2.1
      have h3 := (readJ_ok b).2.2.2
      omega
    have HSZ := Lib.hid ((readJ_ok b).2.2.1.symm)
    rw [← HSZ.out] at hn2
    have HTL := Lib.hid hl1
    have HRR := Lib.hid hl2
    have HB9 := Lib.hid (HB8.out.trans (hb9.mono HB8.out.size))
    have HJ9 := Lib.hid (HJ8.out.below hb9)
    have HR9 := Lib.hid ho9.bytl
    have HSJ := Lib.hid (show (framesJ (openJ (TSt.P b b.length 2000)).rows).length = (readJ b).2 from by rw [hl2, HSZ.out])
    obtain ⟨_, _, hown9, _⟩ := ho9
    obtain ⟨pr, cr, rfl, _, _, _⟩ := owns_rd hown9
    clear hown9 hb9 hl1 hl2
    generalize openJ (TSt.P b b.length 2000) = J at *
    have hn2' : (readJ b).2 ≤ b.length := (readJ_ok b).2.2.2
    generalize (readJ b).2 = n2 at *
    generalize (readJ b).1 = R at *
    clear hn2
    have hn2 := hn2'
    clear hn2'
    have HTKL := Lib.hid (show (b.take n2).length = n2 from by rw [List.length_take, Nat.min_eq_left hn2])
    have hsl := fun w => run_slice_to (P := Tryd.prog) Tryd.underlying22 hi8 pb b.length cb n2 (by omega) w
    go_wp2_with fail
    refine wp_phi (fun w' => Jn w' j a p6 o6 [] J ∧ BytL w' (.slice pr R.length cr) R ∧ Below w.heap.size w w') [(4, PBytL R), (6, PVal (.bool true)), (10, PVal (.int .i64 (n2 : Int))), (16, PByt (b.take n2)), (17, PVal (.string (bs (b.take n2))))] [(6, [4]), (17, [16])] (by kernel_rfl) (by kernel_rfl) ?_ ?_ ⟨HJ9.out.below (Below.refl _ _).drew, HR9.out.keep (Below.keeps (Below.refl _ _).drew), HB9.out.drew⟩ ?_
    · rintro w1' w2' ⟨h1, h2, h3⟩ hb
      exact ⟨h1.below hb, h2.keep (Below.keeps hb), h3.trans (hb.mono h3.size)⟩
    · simp only [List.mem_cons, List.not_mem_nil, or_false, forall_eq_or_imp, forall_eq]
      exact ⟨fun _ _ _ _ h => PBytL_stays _ _ _ _ h, fun _ _ _ _ h => PVal_stays _ _ _ _ h, fun _ _ _ _ h => PVal_stays _ _ _ _ h, fun _ _ _ _ h => PByt_stays _ _ _ _ h, fun _ _ _ _ h => PVal_stays _ _ _ _ h⟩
    repeat (first | (refine phi_skipK rfl (fun K hK => ?_); simp only [Act.put, List.setIfInBounds_toArray, List.set_cons_succ, List.set_cons_zero]; (try simp only [List.cons_append]); (try simp only [List.nil_append]); apply hK; clear hK K) | (refine phi_pureK rfl rfl (fun K hK => ?_); apply Exists.intro; constructor; (focus (rintro w' ⟨h1, h2, h3⟩; have s9 := str_of (byt_take (HVB.out.keep (Below.keeps h3)) n2 hn2); clear h1 h2 h3; first | (go_simp; done) | (go_simp; (try go_bits); (try go_simp); rfl) | go_simp)); simp only [Act.put, List.setIfInBounds_toArray, List.set_cons_succ, List.set_cons_zero]; (try simp only [List.cons_append]); (try simp only [List.nil_append]); apply hK; clear hK K))
    refine phi_partK (PBytL R) rfl rfl ⟨_, none, 0, rfl⟩ ?_ (fun K hK v hv => ?_)
    · rintro w' ⟨h1, h2, h3⟩ hf
      unfold gives
      clear hf
      go_simp
      refine (rowsOf_any w' j a p6 o6 _ _ h1 (by rw [HRR.out]; omega)).mono ?_
      rintro e w'' ⟨v, rfl, ho, hb⟩
      rw [HRR.out] at ho
      have hy : BytL w'' v R := ho.bytl
      obtain ⟨q, c, _, rfl, _⟩ := id hy
      exact ⟨_, rfl, ⟨q, c, rfl⟩, hy, hb⟩
    obtain ⟨p_4, c_4, rfl⟩ := hv
    simp only [Act.put, List.setIfInBounds_toArray, List.set_cons_succ, List.set_cons_zero]; (try simp only [List.cons_append]); (try simp only [List.nil_append])
    apply hK
    clear hK K
    repeat (first | (refine phi_skipK rfl (fun K hK => ?_); simp only [Act.put, List.setIfInBounds_toArray, List.set_cons_succ, List.set_cons_zero]; (try simp only [List.cons_append]); (try simp only [List.nil_append]); apply hK; clear hK K) | (refine phi_pureK rfl rfl (fun K hK => ?_); apply Exists.intro; constructor; (focus (rintro w' ⟨h1, h2, h3⟩; have s9 := str_of (byt_take (HVB.out.keep (Below.keeps h3)) n2 hn2); clear h1 h2 h3; first | (go_simp; done) | (go_simp; (try go_bits); (try go_simp); rfl) | go_simp)); simp only [Act.put, List.setIfInBounds_toArray, List.set_cons_succ, List.set_cons_zero]; (try simp only [List.cons_append]); (try simp only [List.nil_append]); apply hK; clear hK K))
    refine phi_partK (PVal (.bool true)) rfl rfl ⟨_, rfl⟩ ?_ (fun K hK v hv => ?_)
    · rintro w' ⟨h1, h2, h3⟩ hf
      have hbS : BytL w' _ R := hf (4, fun w => (PBytL R).fact w (.slice p_4 R.length c_4)) (by simp) (List.contains_iff_mem.1 rfl)
      unfold gives
      clear hf
      go_simp
      refine (samel_any w' _ _ R R hbS h2).mono ?_
      rintro e w'' ⟨rfl, hb⟩
      exact ⟨_, rfl, by rw [decide_eq_true (rfl : R = R)]; rfl, trivial, hb⟩
    obtain rfl : v = _ := hv
    simp only [Act.put, List.setIfInBounds_toArray, List.set_cons_succ, List.set_cons_zero]; (try simp only [List.cons_append]); (try simp only [List.nil_append])
    apply hK
    clear hK K
    repeat (first | (refine phi_skipK rfl (fun K hK => ?_); simp only [Act.put, List.setIfInBounds_toArray, List.set_cons_succ, List.set_cons_zero]; (try simp only [List.cons_append]); (try simp only [List.nil_append]); apply hK; clear hK K) | (refine phi_pureK rfl rfl (fun K hK => ?_); apply Exists.intro; constructor; (focus (rintro w' ⟨h1, h2, h3⟩; have s9 := str_of (byt_take (HVB.out.keep (Below.keeps h3)) n2 hn2); clear h1 h2 h3; first | (go_simp; done) | (go_simp; (try go_bits); (try go_simp); rfl) | go_simp)); simp only [Act.put, List.setIfInBounds_toArray, List.set_cons_succ, List.set_cons_zero]; (try simp only [List.cons_append]); (try simp only [List.nil_append]); apply hK; clear hK K))
    refine phi_partK (PVal (.int .i64 (n2 : Int))) rfl rfl ⟨_, rfl⟩ ?_ (fun K hK v hv => ?_)
    · rintro w' ⟨h1, h2, h3⟩ hf
      unfold gives
      clear hf
      go_simp
      refine (sizeOf_any w' j a p6 o6 _ _ h1).mono ?_
      rintro e w'' ⟨rfl, rfl⟩
      exact ⟨_, rfl, by show Value.int .i64 _ = Value.int .i64 _; rw [HSJ.out], trivial, Below.refl _ _⟩
    obtain rfl : v = _ := hv
    simp only [Act.put, List.setIfInBounds_toArray, List.set_cons_succ, List.set_cons_zero]; (try simp only [List.cons_append]); (try simp only [List.nil_append])
    apply hK
    clear hK K
    repeat (first | (refine phi_skipK rfl (fun K hK => ?_); simp only [Act.put, List.setIfInBounds_toArray, List.set_cons_succ, List.set_cons_zero]; (try simp only [List.cons_append]); (try simp only [List.nil_append]); apply hK; clear hK K) | (refine phi_pureK rfl rfl (fun K hK => ?_); apply Exists.intro; constructor; (focus (rintro w' ⟨h1, h2, h3⟩; have s9 := str_of (byt_take (HVB.out.keep (Below.keeps h3)) n2 hn2); clear h1 h2 h3; first | (go_simp; done) | (go_simp; (try go_bits); (try go_simp); rfl) | go_simp)); simp only [Act.put, List.setIfInBounds_toArray, List.set_cons_succ, List.set_cons_zero]; (try simp only [List.cons_append]); (try simp only [List.nil_append]); apply hK; clear hK K))
    refine phi_partK (PByt (b.take n2)) rfl rfl ⟨_, none, 0, rfl⟩ ?_ (fun K hK v hv => ?_)
    · rintro w' ⟨h1, h2, h3⟩ hf
      unfold gives
      clear hf
      go_simp
      refine (bytes_of_tape w' a o6 _ h1.tape).mono ?_
      rintro e w'' ⟨v, rfl, ho, hb⟩
      rw [HTL.out] at ho
      obtain ⟨q, c, rfl, _⟩ := owns_rd ho
      exact ⟨_, rfl, ⟨q, c, rfl⟩, owns_byt ho, hb⟩
    obtain ⟨p_16, c_16, rfl⟩ := hv
    simp only [Act.put, List.setIfInBounds_toArray, List.set_cons_succ, List.set_cons_zero]; (try simp only [List.cons_append]); (try simp only [List.nil_append])
    apply hK
    clear hK K
    repeat (first | (refine phi_skipK rfl (fun K hK => ?_); simp only [Act.put, List.setIfInBounds_toArray, List.set_cons_succ, List.set_cons_zero]; (try simp only [List.cons_append]); (try simp only [List.nil_append]); apply hK; clear hK K) | (refine phi_pureK rfl rfl (fun K hK => ?_); apply Exists.intro; constructor; (focus (rintro w' ⟨h1, h2, h3⟩; have s9 := str_of (byt_take (HVB.out.keep (Below.keeps h3)) n2 hn2); clear h1 h2 h3; first | (go_simp; done) | (go_simp; (try go_bits); (try go_simp); rfl) | go_simp)); simp only [Act.put, List.setIfInBounds_toArray, List.set_cons_succ, List.set_cons_zero]; (try simp only [List.cons_append]); (try simp only [List.nil_append]); apply hK; clear hK K))
    refine phi_partK (PVal (.string (bs (b.take n2)))) rfl rfl ⟨_, rfl⟩ ?_ (fun K hK v hv => ?_)
    · rintro w' ⟨h1, h2, h3⟩ hf
      have hbS : Byt w' _ (b.take n2) := hf (16, fun w => (PByt (b.take n2)).fact w (.slice p_16 (b.take n2).length c_16)) (by simp) (List.contains_iff_mem.1 rfl)
      have sS := str_of hbS
      rw [HTKL.out] at sS
      clear hf hbS h1 h2 h3
      unfold gives
      go_simp
      exact ⟨rfl, trivial, Below.refl _ _⟩
    obtain rfl : v = _ := hv
    simp only [Act.put, List.setIfInBounds_toArray, List.set_cons_succ, List.set_cons_zero]; (try simp only [List.cons_append]); (try simp only [List.nil_append])
    apply hK
    clear hK K
    repeat (first | (refine phi_skipK rfl (fun K hK => ?_); simp only [Act.put, List.setIfInBounds_toArray, List.set_cons_succ, List.set_cons_zero]; (try simp only [List.cons_append]); (try simp only [List.nil_append]); apply hK; clear hK K) | (refine phi_pureK rfl rfl (fun K hK => ?_); apply Exists.intro; constructor; (focus (rintro w' ⟨h1, h2, h3⟩; have s9 := str_of (byt_take (HVB.out.keep (Below.keeps h3)) n2 hn2); clear h1 h2 h3; first | (go_simp; done) | (go_simp; (try go_bits); (try go_simp); rfl) | go_simp)); simp only [Act.put, List.setIfInBounds_toArray, List.set_cons_succ, List.set_cons_zero]; (try simp only [List.cons_append]); (try simp only [List.nil_append]); apply hK; clear hK K))
    refine phi_done ?_
    rintro w9' ⟨_, _, hb9⟩ _
    refine wpList_nil ?_
    go_wp2_with fail
    go_ret
    exact ⟨rfl, hb9⟩
end Go.Proofs.YtoiknidlincdkaaDoor
