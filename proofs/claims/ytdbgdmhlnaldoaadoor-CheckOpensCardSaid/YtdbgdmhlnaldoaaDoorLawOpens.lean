/-
  LawOpens: the walk of CheckOpens.
-/
import Derived.Test.YtdbgdmhlnaldoaaDoorSpoil
import Derived.Test.YtdbgdmhlnaldoaaDoorLawSums
namespace Go.Proofs.YtdbgdmhlnaldoaaDoor
open Go.RowKit

def openN (r : List UInt8) : List UInt8 := r.take (r.length - 4)
attribute [local go_sem] bs_toList
set_option maxHeartbeats 2000000 in
theorem opens_any (v1 v2 : Value) (l r : List UInt8) (w : World) (E : Nat → Addr) (ht : HalfTab w) (he : Errs w E) (h1 : Byt w v1 l) (h2 : Byt w v2 r) :
    Calls Tryd.prog 5 #[v1, v2] w fun e w' => e = .returned (.bool true) ∧ Below w.heap.size w w' := by
  have HV1 := Lib.hid h1
  have HV2 := Lib.hid h2
  have HE := Lib.hid he
  obtain ⟨p1, cap1, rfl, h11, h12, h13⟩ := h1
  obtain ⟨p2, cap2, rfl, h21, h22, h23⟩ := h2
  unfold maxLen at h12 h22
  clear h13 h23 he
  have hsl := Tryd.underlying24
  obtain ⟨i0, hi, hz0, hz1, hz2⟩ := info_parts byt8Info
  go_enter Tryd.func5, Tryd.ntmps5
  go_wp2_with fail
  refine (alive_any _ ht).mono ?_
  rintro e w1 ⟨rfl, hb1⟩
  by_cases hl : l.length ≤ 500
  · by_cases hr : r.length ≤ 500
    · have hd1 : decide (500 < (l.length : Int)) = false := by simp; omega
      have hd2 : decide (500 < (r.length : Int)) = false := by simp; omega
      have ht1 := ht.keep (Below.keeps hb1)
      go_wp2_with fail
      refine (bytes_any _ l w1 (by omega) (HV1.out.below hb1)).mono ?_
      rintro e w2 ⟨v3, rfl, hm3, hb2⟩
      have HM3 := Lib.hid hm3
      obtain ⟨p3, cap3, rfl, h31, h32, h33⟩ := hm3
      unfold maxLen at h32
      clear h33
      have hb12 := hb1.trans (hb2.mono hb1.size)
      go_wp2_with fail
      refine (seal_any _ l w2 (ht.keep (Below.keeps hb12)) (by omega) (Marked.byt HM3.out)).mono ?_
      rintro e w3 ⟨v4, rfl, ho4, hb3⟩
      have HS4 := Lib.hid (owns_byt ho4)
      obtain ⟨p4, cap4, rfl, h41, h42, h43⟩ := owns_byt ho4
      unfold maxLen at h42
      clear h43 ho4
      have hb13 := hb12.trans (hb3.mono hb12.size)
      have hsl4 := sealed_len l
      go_wp2_with fail
      refine (open_any _ (sealed l) w3 E (ht.keep (Below.keeps hb13)) (HE.out.below hb13) (by omega) (by have := HS4.out; rwa [hsl4] at this)).mono ?_
      rintro e w4 ⟨v5, rfl, hby5, hb4⟩
      rw [(open_sealed l).2] at hby5
      rw [(open_sealed l).1]
      have HB5 := Lib.hid hby5
      obtain ⟨p5, cap5, rfl, h51, h52, h53⟩ := hby5
      unfold maxLen at h52
      clear h53
      unfold errV
      have hb14 := hb13.trans (hb4.mono hb13.size)
      have hs34 : Byt w4 (.slice p4 (l.length + 4) cap4) (sealed l) := by have := HS4.out.below hb4; rwa [hsl4] at this
      have HS := Lib.hid hs34
      clear hs34
      have hm4 := HM3.out.keep (Below.keeps (hb3.trans (hb4.mono hb3.size)))
      have HM4 := Lib.hid hm4
      clear hm4
      go_wp2_with fail
      have hstr : ∀ {w : World} {v : Value} {l : List UInt8}, Byt w v l → _ := fun {w v l} h => run_str (P := Tryd.prog) Tryd.underlying24 Tryd.underlying5 Tryd.underlying9 (w := w) (v := v) (l := l) h
      have hse : (sealed l == l ++ four (rsum l)) = true := by simp [sealed]
      have hadd := fun w => run_str_add (P := Tryd.prog) w l (four (rsum l)) (by rw [four_len]; omega)
      refine wp_phi (fun w' => Byt w' (.slice p4 (l.length + 4) cap4) (sealed l) ∧ Byt w' (.slice p1 l.length cap1) l ∧ Byt w' (.slice p5 l.length cap5) l ∧ Marked w' (.slice p3 l.length cap3) l ∧ Below w4.heap.size w4 w')
        [(5, PVal (.int .u32 (n32 (rsum l)))), (6, PByt (four (rsum l))), (7, PVal (.string (bs (four (rsum l))))), (24, PVal (.bool true))] [(7, [6])] (by kernel_rfl) (by kernel_rfl) ?_ ?_ ⟨HS.out.below (Below.refl _ _).drew, HV1.out.below hb14.drew, HB5.out.below (Below.refl _ _).drew, HM4.out.keep (Below.keeps (Below.refl _ _).drew), (Below.refl _ _).drew⟩ ?_
      · rintro w1 w2 ⟨a1, a2, a3, a4, a5⟩ hb
        exact ⟨a1.below hb, a2.below hb, a3.below hb, a4.keep (Below.keeps hb), a5.trans (hb.mono a5.size)⟩
      · simp only [List.mem_cons, List.not_mem_nil, or_false, forall_eq_or_imp, forall_eq]
        exact ⟨fun _ _ _ _ h => PVal_stays _ _ _ _ h, fun _ _ _ _ h => PByt_stays _ _ _ _ h, fun _ _ _ _ h => PVal_stays _ _ _ _ h, fun _ _ _ _ h => PVal_stays _ _ _ _ h⟩
      repeat (refine phi_pureK rfl rfl (fun K hK => ?_); apply Exists.intro; constructor; (rintro w' ⟨hI1, hI2, hI3, hI4, hI5⟩; have s1 := hstr hI1; have s2 := hstr hI2; have s3 := hstr hI3; clear hI1 hI2 hI3 hI4 hI5; first | (go_simp; (try go_bits); (try go_simp); rfl) | go_simp); simp only [Act.put, List.setIfInBounds_toArray, List.set_cons_succ, List.set_cons_zero, List.nil_append, List.cons_append]; apply hK; clear hK K)
      refine phi_partK (PVal (.int .u32 (n32 (rsum l)))) rfl rfl ⟨_, rfl⟩ ?_ (fun K hK v hv => ?_)
      · rintro w' ⟨hI1, hI2, hI3, hI4, hI5⟩ hf
        have HI2 := Lib.hid hI2
        clear hI1 hI2 hI3 hI4 hI5 hf
        unfold gives
        go_simp
        refine (refsum_any _ l w' HI2.out).mono ?_
        rintro e w'' ⟨rfl, rfl⟩
        exact ⟨_, rfl, rfl, trivial, Below.refl _ _⟩
      obtain rfl : v = _ := hv
      simp only [Act.put, List.setIfInBounds_toArray, List.set_cons_succ, List.set_cons_zero, List.nil_append, List.cons_append]
      apply hK
      clear hK K
      refine phi_partK (PByt (four (rsum l))) rfl rfl ⟨_, none, 0, rfl⟩ ?_ (fun K hK v hv => ?_)
      · rintro w' ⟨hI1, hI2, hI3, hI4, hI5⟩ hf
        clear hI1 hI2 hI3 hI4 hI5 hf
        unfold gives
        go_simp
        refine (reffour_any (rsum l) w').mono ?_
        rintro e w'' ⟨v, rfl, hby, hb⟩
        have hby' := hby
        obtain ⟨q, c, rfl, _⟩ := hby'
        exact ⟨_, rfl, ⟨q, c, rfl⟩, hby, hb⟩
      obtain ⟨p', c', rfl⟩ := hv
      simp only [Act.put, List.setIfInBounds_toArray, List.set_cons_succ, List.set_cons_zero, List.nil_append, List.cons_append]
      apply hK
      clear hK K
      refine phi_partK (PVal (.string (bs (four (rsum l))))) rfl rfl ⟨_, rfl⟩ ?_ (fun K hK v hv => ?_)
      · rintro w' ⟨hI1, hI2, hI3, hI4, hI5⟩ hf
        have hb : Byt w' _ (four (rsum l)) := hf (6, fun w => (PByt (four (rsum l))).fact w (.slice p' (four (rsum l)).length c')) (by simp) (List.contains_iff_mem.1 rfl)
        have s4 := hstr hb
        clear hI1 hI2 hI3 hI4 hI5 hf hb
        unfold gives
        go_simp
        exact ⟨rfl, trivial, Below.refl _ _⟩
      obtain rfl : v = _ := hv
      simp only [Act.put, List.setIfInBounds_toArray, List.set_cons_succ, List.set_cons_zero, List.nil_append, List.cons_append]
      apply hK
      clear hK K
      repeat (refine phi_pureK rfl rfl (fun K hK => ?_); apply Exists.intro; constructor; (rintro w' ⟨hI1, hI2, hI3, hI4, hI5⟩; have s1 := hstr hI1; have s2 := hstr hI2; have s3 := hstr hI3; clear hI1 hI2 hI3 hI4 hI5; first | (go_simp; (try go_bits); (try go_simp); rfl) | go_simp); simp only [Act.put, List.setIfInBounds_toArray, List.set_cons_succ, List.set_cons_zero, List.nil_append, List.cons_append]; apply hK; clear hK K)
      refine phi_partK (PVal (.bool true)) rfl rfl ⟨_, rfl⟩ ?_ (fun K hK v hv => ?_)
      · rintro w' ⟨hI1, hI2, hI3, hI4, hI5⟩ hf
        have HI2 := Lib.hid hI2
        have HI4 := Lib.hid hI4
        clear hI1 hI2 hI3 hI4 hI5 hf
        unfold gives
        go_simp
        refine (kept_any _ _ l w' HI4.out HI2.out).mono ?_
        rintro e w'' ⟨rfl, hb⟩
        exact ⟨_, rfl, rfl, trivial, hb⟩
      obtain rfl : v = _ := hv
      simp only [Act.put, List.setIfInBounds_toArray, List.set_cons_succ, List.set_cons_zero, List.nil_append, List.cons_append]
      apply hK
      clear hK K
      repeat (refine phi_pureK rfl rfl (fun K hK => ?_); apply Exists.intro; constructor; (rintro w' ⟨hI1, hI2, hI3, hI4, hI5⟩; clear hI1 hI2 hI3 hI4 hI5; first | (go_simp; (try go_bits); (try go_simp); rfl) | go_simp); simp only [Act.put, List.setIfInBounds_toArray, List.set_cons_succ, List.set_cons_zero, List.nil_append, List.cons_append]; apply hK; clear hK K)
      refine phi_done ?_
      rintro w5 ⟨_, _, _, _, hbx⟩ _
      refine wpList_nil ?_
      clear hse hadd HS HM4 HB5 HS4 HM3
      have hb15 := hb14.trans (hbx.mono hb14.size)
      clear hb1 hb2 hb3 hb4 hb12 hb13 hb14 hbx ht1
      have ht5 := ht.keep (Below.keeps hb15)
      have hR5 := HV2.out.below hb15
      have HE5 := Lib.hid (HE.out.below hb15)
      go_wp2_with fail
      refine (open_any _ r w5 E ht5 HE5.out (by omega) hR5).mono ?_
      rintro e w6 ⟨v6, rfl, hby6, hb6⟩
      have hb16 := hb15.trans (hb6.mono hb15.size)
      have HB6 := Lib.hid hby6
      obtain ⟨p6, cap6, rfl, h61, h62, h63⟩ := hby6
      unfold maxLen at h62
      clear h63 hb6 hR5 ht5
      have HE6 := Lib.hid (HE.out.below hb16)
      by_cases hlt : r.length < 4
      · have hn : decide ((r.length : Int) - 4 < 0) = true := by simp; omega
        have hoe : openErr r = 2 := by unfold openErr; rw [if_pos hlt]
        have hor : openRes r = [] := openRes_err (by rw [hoe]; decide)
        rw [hor, hoe]
        go_wp2_with fail
        refine (num_any w6 E 2 (by omega) HE6.out).mono ?_
        rintro e w7 ⟨rfl, hb7⟩
        go_wp2_with fail
        go_ret
        exact ⟨rfl, hb16.trans (hb7.mono hb16.size)⟩
      · have hn : decide ((r.length : Int) - 4 < 0) = false := by simp; omega
        obtain ⟨n, hn'⟩ : ∃ n, r.length = n + 4 := ⟨r.length - 4, by omega⟩
        have hn4 : r.length - 4 = n := by omega
        have hsub : (r.length : Int) - 4 = (n : Int) := by omega
        have hnl : n ≤ r.length := by omega
        clear hn
        have hn0 : decide ((n : Int) < 0) = false := by simp
        have hto := fun w => run_slice_to (P := Tryd.prog) Tryd.underlying24 hi p2 r.length cap2 n (by omega) w
        have hfrom := fun w => run_slice_from (P := Tryd.prog) Tryd.underlying24 hi p2 r.length cap2 n hnl w
        have HBT := Lib.hid (fun w' (h : Byt w' (.slice p2 r.length cap2) r) => byt_take h n hnl)
        have HBD := Lib.hid (fun w' (h : Byt w' (.slice p2 r.length cap2) r) => byt_drop h n hnl)
        rw [hz1] at hfrom
        have HOP := Lib.hid (show openErr r = if r.drop n = four (rsum (r.take n)) then 0 else 5 by unfold openErr; rw [if_neg hlt, hn4])
        have HOR := Lib.hid (show openErr r = 0 → openRes r = r.take n by intro h; unfold openRes; rw [if_pos h, hn4])
        obtain ⟨eqb, heqb⟩ : ∃ b : Bool, (r.drop n == four (rsum (r.take n))) = b := ⟨_, rfl⟩
        have HEQ := Lib.hid heqb
        clear hn' hn4 hnl hlt
        go_wp2_with fail
        refine wp_phi (fun w' => Byt w' (.slice p2 r.length cap2) r ∧ Below w6.heap.size w6 w')
          [(7, PVal (.int .u32 (n32 (rsum (r.take n))))), (8, PByt (four (rsum (r.take n)))), (9, PVal (.string (bs (four (rsum (r.take n))))))] [(9, [8])] (by kernel_rfl) (by kernel_rfl) ?_ ?_ ⟨HV2.out.below hb16.drew, (Below.refl _ _).drew⟩ ?_
        · rintro w1 w2 ⟨a1, a2⟩ hb
          exact ⟨a1.below hb, a2.trans (hb.mono a2.size)⟩
        · simp only [List.mem_cons, List.not_mem_nil, or_false, forall_eq_or_imp, forall_eq]
          exact ⟨fun _ _ _ _ h => PVal_stays _ _ _ _ h, fun _ _ _ _ h => PByt_stays _ _ _ _ h, fun _ _ _ _ h => PVal_stays _ _ _ _ h⟩
        repeat (refine phi_pureK rfl rfl (fun K hK => ?_); apply Exists.intro; constructor; (rintro w' ⟨hI1, hI2⟩; have s1 := hstr (HBD.out _ hI1); clear hI1 hI2; first | (go_simp; (try go_bits); (try go_simp); rfl) | go_simp); simp only [Act.put, List.setIfInBounds_toArray, List.set_cons_succ, List.set_cons_zero, List.nil_append, List.cons_append]; apply hK; clear hK K)
        refine phi_partK (PVal (.int .u32 (n32 (rsum (r.take n))))) rfl rfl ⟨_, rfl⟩ ?_ (fun K hK v hv => ?_)
        · rintro w' ⟨hI1, hI2⟩ hf
          have HI2 := Lib.hid (HBT.out _ hI1)
          clear hI1 hI2 hf
          unfold gives
          go_simp
          refine (refsum_any _ (r.take n) w' HI2.out).mono ?_
          rintro e w'' ⟨rfl, rfl⟩
          exact ⟨_, rfl, rfl, trivial, Below.refl _ _⟩
        obtain rfl : v = _ := hv
        simp only [Act.put, List.setIfInBounds_toArray, List.set_cons_succ, List.set_cons_zero, List.nil_append, List.cons_append]
        apply hK
        clear hK K
        refine phi_partK (PByt (four (rsum (r.take n)))) rfl rfl ⟨_, none, 0, rfl⟩ ?_ (fun K hK v hv => ?_)
        · rintro w' ⟨hI1, hI2⟩ hf
          clear hI1 hI2 hf
          unfold gives
          go_simp
          refine (reffour_any (rsum (r.take n)) w').mono ?_
          rintro e w'' ⟨v, rfl, hby, hb⟩
          have hby' := hby
          obtain ⟨q, c, rfl, _⟩ := hby'
          exact ⟨_, rfl, ⟨q, c, rfl⟩, hby, hb⟩
        obtain ⟨p', c', rfl⟩ := hv
        simp only [Act.put, List.setIfInBounds_toArray, List.set_cons_succ, List.set_cons_zero, List.nil_append, List.cons_append]
        apply hK
        clear hK K
        refine phi_partK (PVal (.string (bs (four (rsum (r.take n)))))) rfl rfl ⟨_, rfl⟩ ?_ (fun K hK v hv => ?_)
        · rintro w' ⟨hI1, hI2⟩ hf
          have hb : Byt w' _ (four (rsum (r.take n))) := hf (8, fun w => (PByt (four (rsum (r.take n)))).fact w (.slice p' (four (rsum (r.take n))).length c')) (by simp) (List.contains_iff_mem.1 rfl)
          have s4 := hstr hb
          clear hI1 hI2 hf hb
          unfold gives
          go_simp
          exact ⟨rfl, trivial, Below.refl _ _⟩
        obtain rfl : v = _ := hv
        simp only [Act.put, List.setIfInBounds_toArray, List.set_cons_succ, List.set_cons_zero, List.nil_append, List.cons_append]
        apply hK
        clear hK K
        repeat (refine phi_pureK rfl rfl (fun K hK => ?_); apply Exists.intro; constructor; (rintro w' ⟨hI1, hI2⟩; clear hI1 hI2; first | (go_simp; (try go_bits); (try go_simp); rfl) | go_simp); simp only [Act.put, List.setIfInBounds_toArray, List.set_cons_succ, List.set_cons_zero, List.nil_append, List.cons_append]; apply hK; clear hK K)
        refine phi_done ?_
        rintro w7 ⟨_, hbx⟩ _
        refine wpList_nil ?_
        have hb17 := hb16.trans (hbx.mono hb16.size)
        have HE7 := Lib.hid (HE.out.below hb17)
        have hB67 := HB6.out.below hbx
        cases eqb
        · have hoe : openErr r = 5 := by rw [HOP.out, if_neg (by simpa using HEQ.out)]
          have hor : openRes r = [] := openRes_err (by rw [hoe]; decide)
          rw [hor, hoe]
          go_wp2_with fail
          refine (num_any w7 E 5 (by omega) HE7.out).mono ?_
          rintro e w8 ⟨rfl, hb8⟩
          go_wp2_with fail
          go_ret
          exact ⟨rfl, hb17.trans (hb8.mono hb17.size)⟩
        · have hoe : openErr r = 0 := by rw [HOP.out, if_pos (by simpa using HEQ.out)]
          rw [HOR.out hoe] at hB67
          rw [HOR.out hoe, hoe]
          unfold errV
          have hr7 := HV2.out.below hb17
          have hb17' := hb17
          generalize r.take n = m at *
          go_wp2_with fail
          refine wp_phi (fun w' => Byt w' (.slice p6 m.length cap6) m ∧ Byt w' (.slice p2 n cap2) m ∧ Below w7.heap.size w7 w')
            [] [] (by kernel_rfl) (by kernel_rfl) ?_ ?_ ⟨hB67.below (Below.refl _ _).drew, HBT.out _ (hr7.below (Below.refl _ _).drew), (Below.refl _ _).drew⟩ ?_
          · rintro w1 w2 ⟨a1, a2, a3⟩ hb
            exact ⟨a1.below hb, a2.below hb, a3.trans (hb.mono a3.size)⟩
          · intro p hp; cases hp
          repeat (refine phi_pureK rfl rfl (fun K hK => ?_); apply Exists.intro; constructor; (rintro w' ⟨hI1, hI2, hI3⟩; have s1 := hstr hI1; have s2 := hstr hI2; clear hI1 hI2 hI3; first | (go_simp; (try go_bits); (try go_simp); rfl) | go_simp); simp only [Act.put, List.setIfInBounds_toArray, List.set_cons_succ, List.set_cons_zero, List.nil_append, List.cons_append]; apply hK; clear hK K)
          refine phi_done ?_
          rintro w8 ⟨_, _, hby⟩ _
          refine wpList_nil ?_
          go_wp2_with fail
          go_ret
          exact ⟨rfl, hb17.trans (hby.mono hb17.size)⟩
    · have hd1 : decide (500 < (l.length : Int)) = false := by simp; omega
      have hd2 : decide (500 < (r.length : Int)) = true := by simp; omega
      go_wp2_with fail
      go_ret
      exact ⟨rfl, hb1⟩
  · have hd1 : decide (500 < (l.length : Int)) = true := by simp; omega
    go_wp2_with fail
    go_ret
    exact ⟨rfl, hb1⟩
end Go.Proofs.YtdbgdmhlnaldoaaDoor
