/-
  LawCut: the walk of FieldsCut.
-/
import Derived.Test.YtchclmimdpnkaaaDoorCutPre
namespace Go.Proofs.YtchclmimdpnkaaaDoor
open Go.RowKit
attribute [local go_sem] bs_toList
attribute [local irreducible] wpPhi

set_option maxRecDepth 20000 in
set_option maxHeartbeats 40000000 in
theorem cut_any (va vb : Value) (a b : List (Int × List UInt8)) (x : Int) (w : World) (E : Nat → Addr) (he : Errs w E) (hva : FldL w va a) (hvb : FldL w vb b) :
    Calls Tryd.prog 7 #[va, vb, .int .i64 x] w (ok1 w) := by
  have HE := Lib.hid he
  have HA := alive_any w E (he.on [0, 3] rfl)
  have HVA := Lib.hid hva
  have HVB := Lib.hid hvb
  have hu := u64_conv x
  clear he
  obtain ⟨i1, hi', hz0', hz1', hz2'⟩ := info_parts byt8Info
  obtain ⟨i0, hi, hz0, hz1, hz2⟩ := info_parts fldInfo
  obtain ⟨pa, ca, usa, rfl, ka1, ka2, hua, ka4, ka5⟩ := hva
  obtain ⟨pb, cb, usb, rfl, kb1, kb2, hub, kb4, kb5⟩ := hvb
  have KA4 := Lib.hid ka4; have KA5 := Lib.hid ka5; have KB4 := Lib.hid kb4; have KB5 := Lib.hid kb5
  unfold maxLen at ka2 kb2
  clear ka4 ka5 kb4 kb5
  go_enter Tryd.func7, Tryd.ntmps7
  go_wp2_with fail
  refine HA.mono ?_
  rintro e w1 ⟨rfl, hb1⟩
  go_wp2_with fail
  refine (big_any _ a w1 (HVA.out.keep (Below.keeps hb1))).mono ?_
  rintro e w2 ⟨rfl, hb2'⟩
  have hb2 := hb1.trans (hb2'.mono hb1.size)
  clear hb2'
  cases hbA : bigR a with
  | true =>
    go_wp2_with fail
    go_ret
    exact ⟨rfl, hb2⟩
  | false =>
  go_wp2_with fail
  refine (big_any _ b w2 (HVB.out.keep (Below.keeps hb2))).mono ?_
  rintro e w3 ⟨rfl, hb3'⟩
  have hb3 := hb2.trans (hb3'.mono hb2.size)
  clear hb3'
  cases hbB : bigR b with
  | true =>
    go_wp2_with fail
    go_ret
    exact ⟨rfl, hb3⟩
  | false =>
  have h40 : a.length ≤ 40 ∧ b.length ≤ 40 := by
    unfold bigR at hbA hbB
    simp only [Bool.or_eq_false_iff, decide_eq_false_iff_not] at hbA hbB
    omega
  clear hbA hbB
  go_wp2_with fail
  refine (join_any _ a w3 E ((HE.out.below hb3).on [3] rfl) (HVA.out.keep (Below.keeps hb3))).mono ?_
  rintro e w4 hg
  obtain ⟨px, cx, rfl, hyx, hb4'⟩ := gb_byt hg
  have hb4 := hb3.trans (hb4'.mono hb3.size)
  clear hg hb4'
  go_wp2_with fail
  refine (join_any _ b w4 E ((HE.out.below hb4).on [3] rfl) (HVB.out.keep (Below.keeps hb4))).mono ?_
  rintro e w5 hg
  obtain ⟨py, cy, rfl, hyy, hb5'⟩ := gb_byt hg
  have hb5 := hb4.trans (hb5'.mono hb4.size)
  have HYX := Lib.hid (hyx.keep (Below.keeps hb5'))
  have HYY := Lib.hid hyy
  clear hg hb5' hyx hyy
  rcases joinE_cases a with ⟨hra, hea, hxa⟩ | hea
  case inr =>
    rw [hea]
    have : errV E 4 = .iface 100 (.pointer (some (E 3))) := rfl
    rw [this]
    go_wp2_with fail
    go_ret
    exact ⟨rfl, hb5⟩
  rcases joinE_cases b with ⟨hrb, heb, hxb⟩ | heb
  case inr =>
    rw [hea, heb]
    have : errV E 4 = .iface 100 (.pointer (some (E 3))) := rfl
    rw [this, errV_zero]
    go_wp2_with fail
    go_ret
    exact ⟨rfl, hb5⟩
  rw [hea, heb, errV_zero]
  rw [hxa] at HYX ⊢
  rw [hxb] at HYY ⊢
  have HBOTH := Lib.hid (split_both a b hra hrb)
  have HSHORT := Lib.hid (split_short a hra)
  have hlx : (joinL a).length ≤ 203 * a.length := joinL_len a 0 (right_parts hra).2
  have hly : (joinL b).length ≤ 203 * b.length := joinL_len b 0 (right_parts hrb).2
  have hla := (right_parts hra).1
  have hlb := (right_parts hrb).1
  have hlx2 : (joinL a).length ≤ 4000 := by omega
  have hly2 : (joinL b).length ≤ 4000 := by omega
  clear hra hrb hea heb hxa hxb hlx hly
  generalize hX : joinL a = X at *
  generalize hY : joinL b = Y at *
  clear hX hY
  obtain ⟨_, _, hq, kx1, kx2, kx3⟩ := id HYX.out
  cases hq
  obtain ⟨_, _, hq, ky1, ky2, ky3⟩ := id HYY.out
  cases hq
  have hown0 := World.ownsRow_lit (base := w5.heap.size) (e := 5) (size := 1) w5 #[] 0 (Nat.le_refl _) (by unfold maxLen; omega) rfl
  have hB6 := below_alloc (Below.refl w5.heap.size w5) (.cells #[] 5)
  have hs6 := hB6.size
  have HRX := Lib.hid (kx3.keep (Below.keeps hB6))
  have HRY := Lib.hid ky3
  clear kx3 ky3
  go_wp2_with (at_builtin; refine wpList_app (.tmp 40) (.tmp 41) 23 rfl rfl w5.heap.size 5 i1 (.int .u8 0) 1 1 Tryd.underlying23 hi' hz0' hz1' hz2' rfl (by decide) _ _ _ rfl hown0 _ _ _ (bvs X) rfl ?e0 HRX.out bvs_one ?e1 ?e2 hs6 ?_)
  case e0 => rw [bvs_len, Nat.mul_one]
  case e1 => unfold maxLen; omega
  case e2 => omega
  intro v7 w7 ho7 hg7
  have hB7 := hB6.grown hg7 hs6 (fun j hj => (hown0.lt j hj).1)
  have hs7 := hB7.size
  have HRY7 := Lib.hid (HRY.out.keep (Below.keeps hB7))
  clear hg7 hown0 HRX HRY hB6 hs6
  go_wp2_with (at_builtin; refine wpList_app (.tmp 42) (.tmp 43) 23 rfl rfl w5.heap.size 5 i1 (.int .u8 0) 1 1 Tryd.underlying23 hi' hz0' hz1' hz2' rfl (by decide) _ _ _ rfl ho7 _ _ _ (bvs Y) rfl ?f0 HRY7.out bvs_one ?f1 ?f2 hs7 ?_)
  case f0 => rw [bvs_len, Nat.mul_one]
  case f1 => unfold maxLen; omega
  case f2 => omega
  intro v8 w8 ho8 hg8
  have hB8 := hB7.grown hg8 hs7 (fun j hj => (ho7.lt j hj).1)
  obtain ⟨Z, hZ⟩ : ∃ Z, Z = X ++ Y := ⟨_, rfl⟩
  have hZl : Z.length ≤ 8000 := by rw [hZ, List.length_append]; omega
  rw [← hZ] at HBOTH
  have hy8 : Byt w8 v8 Z := by
    rw [hZ]
    refine owns_byt (base := w5.heap.size) (e := 5) ?_
    rw [List.length_append, bvs_app]
    simpa using ho8
  obtain ⟨p8, c8, rfl, _, _, _⟩ := id hy8
  have HY8 := Lib.hid hy8
  have hb8 := hb5.trans (hB8.mono hb5.size)
  have HYX8 := Lib.hid (HYX.out.keep (Below.keeps hB8))
  clear ho7 ho8 hg8 hB7 hs7 HRY7 hy8 hB8 HYX HYY hZ
  go_wp2_with fail
  refine (split_any w8 E _ Z (HE.out.below hb8) HY8.out).mono ?_
  rintro e w9 ⟨v9, rfl, hf9, hb9'⟩
  have hb9 := hb8.trans (hb9'.mono hb8.size)
  have HYX9 := Lib.hid (HYX8.out.keep (Below.keeps hb9'))
  have HF9 := Lib.hid hf9
  clear hb9' HYX8 HY8
  obtain ⟨p9, c9, us9, rfl, _⟩ := hf9
  have HQLE := Lib.hid (splitE_le Z)
  obtain ⟨nx, hnx⟩ : ∃ nx, nx = X.length := ⟨_, rfl⟩
  have HNX := Lib.hid hnx
  rw [← hnx] at HYX9 HSHORT kx1 hlx2 ⊢
  clear hnx
  generalize splitE Z = q at *
  generalize splitL Z = R at *
  by_cases ha0 : a.length = 0
  · have d1 : ((a.length : Int) == 0) = true := by simp [ha0]
    have HGO := Lib.hid (show goesOn a b = true by
      obtain rfl := List.length_eq_zero_iff.1 ha0
      cases b <;> rfl)
    clear ha0
    go_wp2_with fail
    refine wp_phi (fun w' => (Byt w' (.slice px nx cx) X) ∧ (FldL w' (.slice p9 R.length c9) R) ∧ Below w.heap.size w w') [] [] (by kernel_rfl) (by kernel_rfl) ?_ ?_ ⟨HYX9.out, HF9.out, (hb9).drew⟩ ?_
    · rintro w1' w2' ⟨gx, gf, hIB⟩ hb
      exact ⟨(by first | exact gx.below hb | exact gx.keep (Below.keeps hb) | exact Below.keeps hb _ _ gx), (by first | exact gf.below hb | exact gf.keep (Below.keeps hb) | exact Below.keeps hb _ _ gf), hIB.trans (hb.mono hIB.size)⟩
    · intro p hp; cases hp
    repeat (first | (refine phi_skipK rfl (fun K hK => ?_); simp only [Act.put, List.setIfInBounds_toArray, List.set_cons_succ, List.set_cons_zero]; (try simp only [List.cons_append]); (try simp only [List.nil_append]); apply hK; clear hK K) | (refine phi_pureK rfl rfl (fun K hK => ?_); apply Exists.intro; constructor; (rintro w' ⟨gx, gf, hIB⟩; clear gx gf hIB; first | (go_simp; (try go_bits); (try go_simp); rfl) | go_simp); simp only [Act.put, List.setIfInBounds_toArray, List.set_cons_succ, List.set_cons_zero]; (try simp only [List.cons_append]); (try simp only [List.nil_append]); apply hK; clear hK K))
    refine phi_done ?_
    rintro wA ⟨gx, gf, hbA⟩ _
    refine wpList_nil ?_
    by_cases hq0 : q = 0
    · subst hq0
      have HR := Lib.hid (HBOTH.out.2 rfl)
      have h16 := (HBOTH.out.1.1 rfl).2
      rw [errV_zero]
      have d5 : decide ((a.length : Int) + (b.length : Int) ≤ 16) = true := by rw [decide_eq_true_eq]; omega
      have hownA := World.ownsRow_lit (base := wA.heap.size) (e := 60) (size := 2) wA #[] 0 (Nat.le_refl _) (by unfold maxLen; omega) rfl
      have hBA := below_alloc (Below.refl wA.heap.size wA) (.cells #[] 60)
      have hsA := hBA.size
      have hR1 := Lib.hid (KA4.out.keep (Below.keeps ((hbA).trans (hBA.mono (hbA).size))))
      have hR2 := Lib.hid KB4.out
      have hN1 := Lib.hid (fcells_one a usa w hua KA5.out)
      have hN2 := Lib.hid (fcells_one b usb w hub KB5.out)
      go_wp2_with (at_builtin; refine wpList_app (.tmp 87) (.tmp 88) 49 rfl rfl wA.heap.size 60 i0 (.agg #[.int .i64 0, .slice none 0 0]) 2 32 Tryd.underlying49 hi hz0 hz1 hz2 rfl (by decide) _ _ _ rfl hownA _ _ _ (fcells a usa) rfl ?g0 hR1.out hN1.out ?g1 ?g2 hsA ?_)
      case g0 => rw [fcells_len a usa hua]
      case g1 => unfold maxLen; omega
      case g2 => omega
      intro vC wC hoC hgC
      have hBC := hBA.grown hgC hsA (fun j hj => (hownA.lt j hj).1)
      have hsC := hBC.size
      have hR2C := Lib.hid (hR2.out.keep (Below.keeps ((hbA).trans (hBC.mono (hbA).size))))
      clear hgC hownA hR1 hR2 hBA hsA
      go_wp2_with (at_builtin; refine wpList_app (.tmp 89) (.tmp 90) 49 rfl rfl wA.heap.size 60 i0 (.agg #[.int .i64 0, .slice none 0 0]) 2 32 Tryd.underlying49 hi hz0 hz1 hz2 rfl (by decide) _ _ _ rfl hoC _ _ _ (fcells b usb) rfl ?h0 hR2C.out hN2.out ?h1 ?h2 hsC ?_)
      case h0 => rw [fcells_len b usb hub]
      case h1 => unfold maxLen; omega
      case h2 => omega
      intro vD wD hoD hgD
      have hBD := hBC.grown hgD hsC (fun j hj => (hoC.lt j hj).1)
      have hbD := (hbA).trans (hBD.mono (hbA).size)
      have hFD : FldL wD vD (a ++ b) := by
        refine FldL.both hua hub (B := wA.heap.size) ?_ (fun i f hf => ?_) (fun i f hf => ?_)
        · simpa using hoD
        · obtain ⟨u, hu, h⟩ := KA5.out i f hf
          exact ⟨u, hu, h.keep (Below.keeps hbD)⟩
        · obtain ⟨u, hu, h⟩ := KB5.out i f hf
          exact ⟨u, hu, h.keep (Below.keeps hbD)⟩
      have HFD := Lib.hid hFD
      have HF9D := Lib.hid (gf.keep (Below.keeps hBD))
      have HXD := Lib.hid (gx.keep (Below.keeps hBD))
      obtain ⟨pD, cD, usD, rfl, _⟩ := hFD
      rw [List.length_append] at HFD ⊢
      clear hgD hoC hoD hR2C hBC hsC hBD hN1 hN2
      go_wp2_with fail
      refine (refsame_any _ _ R (a ++ b) wD HF9D.out HFD.out).mono ?_
      rintro e wS ⟨rfl, hbS'⟩
      have hbS := hbD.trans (hbS'.mono hbD.size)
      have HXS := Lib.hid (HXD.out.keep (Below.keeps hbS'))
      have dS : decide (R = a ++ b) = true := by rw [decide_eq_true_eq]; exact HR.out
      clear hbS' HXD HF9D HFD
      by_cases hx0 : nx = 0
      · have dx : ((nx : Int) == 0) = true := by simp [hx0]
        clear hx0
        go_wp2_with fail
        go_ret
        exact ⟨rfl, hbS⟩
      · have dx : ((nx : Int) == 0) = false := by rw [beq_eq_false_iff_ne]; omega
        have hnx0 : 0 < nx := Nat.pos_of_ne_zero hx0
        have hnz : ¬ (nx : Int) = 0 := by omega
        obtain ⟨k, hkl, hkw⟩ := last_k x nx hnx0 hlx2
        have hsl := fun w => run_slice_to (P := Tryd.prog) Tryd.underlying23 hi' px nx cx k (Nat.le_trans (Nat.le_of_lt hkl) kx1) w
        have HSH := Lib.hid (HSHORT.out k hkl)
        have HT := Lib.hid (byt_take' HXS.out k (Nat.le_of_lt hkl))
        go_wp2_with fail
        refine (split_any wS E _ (X.take k) (HE.out.below hbS) HT.out).mono ?_
        rintro e wZ ⟨vZ, rfl, hfZ, hbZ'⟩
        have hbZ := (hbS).trans (hbZ'.mono (hbS).size)
        clear hbZ'
        obtain ⟨pZ, cZ, usZ, rfl, _⟩ := hfZ
        generalize splitE (X.take k) = qZ at *
        generalize splitL (X.take k) = RZ at *
        by_cases hz : qZ = 0
        · subst hz
          have dz : decide ((RZ.length : Int) < (a.length : Int)) = true := by
            rcases HSH.out with h | h
            · exact absurd rfl h
            · rw [decide_eq_true_eq]; omega
          have dz' : decide (RZ.length < a.length) = true := by
            rw [decide_eq_true_eq] at dz ⊢; omega
          rw [errV_zero]
          go_wp2_with fail
          go_ret
          exact ⟨rfl, hbZ⟩
        · obtain ⟨m, rfl⟩ : ∃ m, qZ = m + 1 := ⟨qZ - 1, by omega⟩
          rw [errV_one]
          clear hz
          go_wp2_with fail
          go_ret
          exact ⟨rfl, hbZ⟩
    · have d5 : decide ((a.length : Int) + (b.length : Int) ≤ 16) = false := by
        have h := HBOTH.out.1
        rw [HGO.out] at h
        have : ¬ (a.length + b.length ≤ 16) := fun h2 => hq0 (h.2 ⟨rfl, h2⟩)
        rw [decide_eq_false_iff_not]; omega
      obtain ⟨n, rfl⟩ : ∃ n, q = n + 1 := ⟨q - 1, by omega⟩
      have HXS := Lib.hid gx
      rw [errV_one]
      clear hq0
      by_cases hx0 : nx = 0
      · have dx : ((nx : Int) == 0) = true := by simp [hx0]
        clear hx0
        go_wp2_with fail
        go_ret
        exact ⟨rfl, hbA⟩
      · have dx : ((nx : Int) == 0) = false := by rw [beq_eq_false_iff_ne]; omega
        have hnx0 : 0 < nx := Nat.pos_of_ne_zero hx0
        have hnz : ¬ (nx : Int) = 0 := by omega
        obtain ⟨k, hkl, hkw⟩ := last_k x nx hnx0 hlx2
        have hsl := fun w => run_slice_to (P := Tryd.prog) Tryd.underlying23 hi' px nx cx k (Nat.le_trans (Nat.le_of_lt hkl) kx1) w
        have HSH := Lib.hid (HSHORT.out k hkl)
        have HT := Lib.hid (byt_take' HXS.out k (Nat.le_of_lt hkl))
        go_wp2_with fail
        refine (split_any wA E _ (X.take k) (HE.out.below hbA) HT.out).mono ?_
        rintro e wZ ⟨vZ, rfl, hfZ, hbZ'⟩
        have hbZ := (hbA).trans (hbZ'.mono (hbA).size)
        clear hbZ'
        obtain ⟨pZ, cZ, usZ, rfl, _⟩ := hfZ
        generalize splitE (X.take k) = qZ at *
        generalize splitL (X.take k) = RZ at *
        by_cases hz : qZ = 0
        · subst hz
          have dz : decide ((RZ.length : Int) < (a.length : Int)) = true := by
            rcases HSH.out with h | h
            · exact absurd rfl h
            · rw [decide_eq_true_eq]; omega
          have dz' : decide (RZ.length < a.length) = true := by
            rw [decide_eq_true_eq] at dz ⊢; omega
          rw [errV_zero]
          go_wp2_with fail
          go_ret
          exact ⟨rfl, hbZ⟩
        · obtain ⟨m, rfl⟩ : ∃ m, qZ = m + 1 := ⟨qZ - 1, by omega⟩
          rw [errV_one]
          clear hz
          go_wp2_with fail
          go_ret
          exact ⟨rfl, hbZ⟩
  · by_cases hb0 : b.length = 0
    · have d1 : ((a.length : Int) == 0) = false := by rw [beq_eq_false_iff_ne]; omega
      have d2 : ((b.length : Int) == 0) = true := by simp [hb0]
      have HGO := Lib.hid (show goesOn a b = true by
        obtain rfl := List.length_eq_zero_iff.1 hb0
        rfl)
      clear ha0 hb0
      go_wp2_with fail
      refine wp_phi (fun w' => (Byt w' (.slice px nx cx) X) ∧ (FldL w' (.slice p9 R.length c9) R) ∧ Below w.heap.size w w') [] [] (by kernel_rfl) (by kernel_rfl) ?_ ?_ ⟨HYX9.out, HF9.out, (hb9).drew⟩ ?_
      · rintro w1' w2' ⟨gx, gf, hIB⟩ hb
        exact ⟨(by first | exact gx.below hb | exact gx.keep (Below.keeps hb) | exact Below.keeps hb _ _ gx), (by first | exact gf.below hb | exact gf.keep (Below.keeps hb) | exact Below.keeps hb _ _ gf), hIB.trans (hb.mono hIB.size)⟩
      · intro p hp; cases hp
      repeat (first | (refine phi_skipK rfl (fun K hK => ?_); simp only [Act.put, List.setIfInBounds_toArray, List.set_cons_succ, List.set_cons_zero]; (try simp only [List.cons_append]); (try simp only [List.nil_append]); apply hK; clear hK K) | (refine phi_pureK rfl rfl (fun K hK => ?_); apply Exists.intro; constructor; (rintro w' ⟨gx, gf, hIB⟩; clear gx gf hIB; first | (go_simp; (try go_bits); (try go_simp); rfl) | go_simp); simp only [Act.put, List.setIfInBounds_toArray, List.set_cons_succ, List.set_cons_zero]; (try simp only [List.cons_append]); (try simp only [List.nil_append]); apply hK; clear hK K))
      refine phi_done ?_
      rintro wA ⟨gx, gf, hbA⟩ _
      refine wpList_nil ?_
      by_cases hq0 : q = 0
      · subst hq0
        have HR := Lib.hid (HBOTH.out.2 rfl)
        have h16 := (HBOTH.out.1.1 rfl).2
        rw [errV_zero]
        have d5 : decide ((a.length : Int) + (b.length : Int) ≤ 16) = true := by rw [decide_eq_true_eq]; omega
        have hownA := World.ownsRow_lit (base := wA.heap.size) (e := 60) (size := 2) wA #[] 0 (Nat.le_refl _) (by unfold maxLen; omega) rfl
        have hBA := below_alloc (Below.refl wA.heap.size wA) (.cells #[] 60)
        have hsA := hBA.size
        have hR1 := Lib.hid (KA4.out.keep (Below.keeps ((hbA).trans (hBA.mono (hbA).size))))
        have hR2 := Lib.hid KB4.out
        have hN1 := Lib.hid (fcells_one a usa w hua KA5.out)
        have hN2 := Lib.hid (fcells_one b usb w hub KB5.out)
        go_wp2_with (at_builtin; refine wpList_app (.tmp 87) (.tmp 88) 49 rfl rfl wA.heap.size 60 i0 (.agg #[.int .i64 0, .slice none 0 0]) 2 32 Tryd.underlying49 hi hz0 hz1 hz2 rfl (by decide) _ _ _ rfl hownA _ _ _ (fcells a usa) rfl ?g0 hR1.out hN1.out ?g1 ?g2 hsA ?_)
        case g0 => rw [fcells_len a usa hua]
        case g1 => unfold maxLen; omega
        case g2 => omega
        intro vC wC hoC hgC
        have hBC := hBA.grown hgC hsA (fun j hj => (hownA.lt j hj).1)
        have hsC := hBC.size
        have hR2C := Lib.hid (hR2.out.keep (Below.keeps ((hbA).trans (hBC.mono (hbA).size))))
        clear hgC hownA hR1 hR2 hBA hsA
        go_wp2_with (at_builtin; refine wpList_app (.tmp 89) (.tmp 90) 49 rfl rfl wA.heap.size 60 i0 (.agg #[.int .i64 0, .slice none 0 0]) 2 32 Tryd.underlying49 hi hz0 hz1 hz2 rfl (by decide) _ _ _ rfl hoC _ _ _ (fcells b usb) rfl ?h0 hR2C.out hN2.out ?h1 ?h2 hsC ?_)
        case h0 => rw [fcells_len b usb hub]
        case h1 => unfold maxLen; omega
        case h2 => omega
        intro vD wD hoD hgD
        have hBD := hBC.grown hgD hsC (fun j hj => (hoC.lt j hj).1)
        have hbD := (hbA).trans (hBD.mono (hbA).size)
        have hFD : FldL wD vD (a ++ b) := by
          refine FldL.both hua hub (B := wA.heap.size) ?_ (fun i f hf => ?_) (fun i f hf => ?_)
          · simpa using hoD
          · obtain ⟨u, hu, h⟩ := KA5.out i f hf
            exact ⟨u, hu, h.keep (Below.keeps hbD)⟩
          · obtain ⟨u, hu, h⟩ := KB5.out i f hf
            exact ⟨u, hu, h.keep (Below.keeps hbD)⟩
        have HFD := Lib.hid hFD
        have HF9D := Lib.hid (gf.keep (Below.keeps hBD))
        have HXD := Lib.hid (gx.keep (Below.keeps hBD))
        obtain ⟨pD, cD, usD, rfl, _⟩ := hFD
        rw [List.length_append] at HFD ⊢
        clear hgD hoC hoD hR2C hBC hsC hBD hN1 hN2
        go_wp2_with fail
        refine (refsame_any _ _ R (a ++ b) wD HF9D.out HFD.out).mono ?_
        rintro e wS ⟨rfl, hbS'⟩
        have hbS := hbD.trans (hbS'.mono hbD.size)
        have HXS := Lib.hid (HXD.out.keep (Below.keeps hbS'))
        have dS : decide (R = a ++ b) = true := by rw [decide_eq_true_eq]; exact HR.out
        clear hbS' HXD HF9D HFD
        by_cases hx0 : nx = 0
        · have dx : ((nx : Int) == 0) = true := by simp [hx0]
          clear hx0
          go_wp2_with fail
          go_ret
          exact ⟨rfl, hbS⟩
        · have dx : ((nx : Int) == 0) = false := by rw [beq_eq_false_iff_ne]; omega
          have hnx0 : 0 < nx := Nat.pos_of_ne_zero hx0
          have hnz : ¬ (nx : Int) = 0 := by omega
          obtain ⟨k, hkl, hkw⟩ := last_k x nx hnx0 hlx2
          have hsl := fun w => run_slice_to (P := Tryd.prog) Tryd.underlying23 hi' px nx cx k (Nat.le_trans (Nat.le_of_lt hkl) kx1) w
          have HSH := Lib.hid (HSHORT.out k hkl)
          have HT := Lib.hid (byt_take' HXS.out k (Nat.le_of_lt hkl))
          go_wp2_with fail
          refine (split_any wS E _ (X.take k) (HE.out.below hbS) HT.out).mono ?_
          rintro e wZ ⟨vZ, rfl, hfZ, hbZ'⟩
          have hbZ := (hbS).trans (hbZ'.mono (hbS).size)
          clear hbZ'
          obtain ⟨pZ, cZ, usZ, rfl, _⟩ := hfZ
          generalize splitE (X.take k) = qZ at *
          generalize splitL (X.take k) = RZ at *
          by_cases hz : qZ = 0
          · subst hz
            have dz : decide ((RZ.length : Int) < (a.length : Int)) = true := by
              rcases HSH.out with h | h
              · exact absurd rfl h
              · rw [decide_eq_true_eq]; omega
            have dz' : decide (RZ.length < a.length) = true := by
              rw [decide_eq_true_eq] at dz ⊢; omega
            rw [errV_zero]
            go_wp2_with fail
            go_ret
            exact ⟨rfl, hbZ⟩
          · obtain ⟨m, rfl⟩ : ∃ m, qZ = m + 1 := ⟨qZ - 1, by omega⟩
            rw [errV_one]
            clear hz
            go_wp2_with fail
            go_ret
            exact ⟨rfl, hbZ⟩
      · have d5 : decide ((a.length : Int) + (b.length : Int) ≤ 16) = false := by
          have h := HBOTH.out.1
          rw [HGO.out] at h
          have : ¬ (a.length + b.length ≤ 16) := fun h2 => hq0 (h.2 ⟨rfl, h2⟩)
          rw [decide_eq_false_iff_not]; omega
        obtain ⟨n, rfl⟩ : ∃ n, q = n + 1 := ⟨q - 1, by omega⟩
        have HXS := Lib.hid gx
        rw [errV_one]
        clear hq0
        by_cases hx0 : nx = 0
        · have dx : ((nx : Int) == 0) = true := by simp [hx0]
          clear hx0
          go_wp2_with fail
          go_ret
          exact ⟨rfl, hbA⟩
        · have dx : ((nx : Int) == 0) = false := by rw [beq_eq_false_iff_ne]; omega
          have hnx0 : 0 < nx := Nat.pos_of_ne_zero hx0
          have hnz : ¬ (nx : Int) = 0 := by omega
          obtain ⟨k, hkl, hkw⟩ := last_k x nx hnx0 hlx2
          have hsl := fun w => run_slice_to (P := Tryd.prog) Tryd.underlying23 hi' px nx cx k (Nat.le_trans (Nat.le_of_lt hkl) kx1) w
          have HSH := Lib.hid (HSHORT.out k hkl)
          have HT := Lib.hid (byt_take' HXS.out k (Nat.le_of_lt hkl))
          go_wp2_with fail
          refine (split_any wA E _ (X.take k) (HE.out.below hbA) HT.out).mono ?_
          rintro e wZ ⟨vZ, rfl, hfZ, hbZ'⟩
          have hbZ := (hbA).trans (hbZ'.mono (hbA).size)
          clear hbZ'
          obtain ⟨pZ, cZ, usZ, rfl, _⟩ := hfZ
          generalize splitE (X.take k) = qZ at *
          generalize splitL (X.take k) = RZ at *
          by_cases hz : qZ = 0
          · subst hz
            have dz : decide ((RZ.length : Int) < (a.length : Int)) = true := by
              rcases HSH.out with h | h
              · exact absurd rfl h
              · rw [decide_eq_true_eq]; omega
            have dz' : decide (RZ.length < a.length) = true := by
              rw [decide_eq_true_eq] at dz ⊢; omega
            rw [errV_zero]
            go_wp2_with fail
            go_ret
            exact ⟨rfl, hbZ⟩
          · obtain ⟨m, rfl⟩ : ∃ m, qZ = m + 1 := ⟨qZ - 1, by omega⟩
            rw [errV_one]
            clear hz
            go_wp2_with fail
            go_ret
            exact ⟨rfl, hbZ⟩
    · have d1 : ((a.length : Int) == 0) = false := by rw [beq_eq_false_iff_ne]; omega
      have d2 : ((b.length : Int) == 0) = false := by rw [beq_eq_false_iff_ne]; omega
      obtain ⟨ga, oa, qa, ca', hpa, hc1, hx1, hx2⟩ := fldL_cell KA4.out KA5.out (show a.length - 1 < a.length by omega)
      obtain ⟨gb, ob, qb, cb', hpb, hc2, hx3, hx4⟩ := fldL_cell KB4.out KB5.out (show 0 < b.length by omega)
      rw [← lastOf_last a (by omega)] at hc1
      clear hx1 hx2 hx3 hx4
      obtain ⟨G, hG⟩ : ∃ G, G = goesOn a b := ⟨_, rfl⟩
      have hg2 : decide (lastOf 0 a < b[0].1) = G := by
        rw [hG]
        cases b with
        | nil => simp at hb0
        | cons f fs =>
          cases a with
          | nil => simp at ha0
          | cons _ _ => simp [goesOn]
      have HGO := Lib.hid hG.symm
      have hla0 : 0 < a.length := by omega
      have hm1 : (0 : Int) ≤ (a.length : Int) - 1 := by omega
      have hm2 : (a.length : Int) - 1 < (a.length : Int) := by omega
      have hm3 : ((a.length : Int) - 1).toNat = a.length - 1 := by omega
      have hm4 : (0 : Int) < (b.length : Int) := by omega
      generalize lastOf 0 a = la at *
      generalize b[0].1 = tb at *
      rw [Nat.zero_mul, Nat.add_zero] at hc2
      have hc1' := Below.keeps hb9 _ _ hc1
      have hc2' := Below.keeps hb9 _ _ hc2
      subst hpa hpb
      clear ha0 hb0 hG hc1 hc2
      go_wp2_with fail
      refine wp_phi (fun w' => (Byt w' (.slice px nx cx) X) ∧ (FldL w' (.slice p9 R.length c9) R) ∧ (w'.cell? ⟨ga, oa + (a.length - 1) * 2, none⟩ = some (.int .i64 la)) ∧ (w'.cell? ⟨gb, ob, none⟩ = some (.int .i64 tb)) ∧ Below w.heap.size w w') [] [] (by kernel_rfl) (by kernel_rfl) ?_ ?_ ⟨HYX9.out, HF9.out, hc1', hc2', (hb9).drew⟩ ?_
      · rintro w1' w2' ⟨gx, gf, g1, g2, hIB⟩ hb
        exact ⟨(by first | exact gx.below hb | exact gx.keep (Below.keeps hb) | exact Below.keeps hb _ _ gx), (by first | exact gf.below hb | exact gf.keep (Below.keeps hb) | exact Below.keeps hb _ _ gf), (by first | exact g1.below hb | exact g1.keep (Below.keeps hb) | exact Below.keeps hb _ _ g1), (by first | exact g2.below hb | exact g2.keep (Below.keeps hb) | exact Below.keeps hb _ _ g2), hIB.trans (hb.mono hIB.size)⟩
      · intro p hp; cases hp
      repeat (first | (refine phi_skipK rfl (fun K hK => ?_); simp only [Act.put, List.setIfInBounds_toArray, List.set_cons_succ, List.set_cons_zero]; (try simp only [List.cons_append]); (try simp only [List.nil_append]); apply hK; clear hK K) | (refine phi_pureK rfl rfl (fun K hK => ?_); apply Exists.intro; constructor; (rintro w' ⟨gx, gf, g1, g2, hIB⟩; have q5 : (1 : Int) ≤ (a.length : Int) := (by omega); have q4 : 1 ≤ a.length := (by omega); have q8 : 0 < b.length := (by omega); have q9 : ¬ b = [] := (by intro h; rw [h] at q8; exact absurd q8 (by simp)); have q6 : (a.length : Int) - 1 < (a.length : Int) := (by omega); have q7 : ((a.length : Int) - 1).toNat = a.length - 1 := (by omega); clear gx gf hIB; first | (go_simp; (try go_bits); (try go_simp); rfl) | go_simp); simp only [Act.put, List.setIfInBounds_toArray, List.set_cons_succ, List.set_cons_zero]; (try simp only [List.cons_append]); (try simp only [List.nil_append]); apply hK; clear hK K))
      refine phi_done ?_
      rintro wA ⟨gx, gf, g1, g2, hbA⟩ _
      refine wpList_nil ?_
      cases G with
      | true =>
        by_cases hq0 : q = 0
        · subst hq0
          have HR := Lib.hid (HBOTH.out.2 rfl)
          have h16 := (HBOTH.out.1.1 rfl).2
          rw [errV_zero]
          have d5 : decide ((a.length : Int) + (b.length : Int) ≤ 16) = true := by rw [decide_eq_true_eq]; omega
          have hownA := World.ownsRow_lit (base := wA.heap.size) (e := 60) (size := 2) wA #[] 0 (Nat.le_refl _) (by unfold maxLen; omega) rfl
          have hBA := below_alloc (Below.refl wA.heap.size wA) (.cells #[] 60)
          have hsA := hBA.size
          have hR1 := Lib.hid (KA4.out.keep (Below.keeps ((hbA).trans (hBA.mono (hbA).size))))
          have hR2 := Lib.hid KB4.out
          have hN1 := Lib.hid (fcells_one a usa w hua KA5.out)
          have hN2 := Lib.hid (fcells_one b usb w hub KB5.out)
          go_wp2_with (at_builtin; refine wpList_app (.tmp 87) (.tmp 88) 49 rfl rfl wA.heap.size 60 i0 (.agg #[.int .i64 0, .slice none 0 0]) 2 32 Tryd.underlying49 hi hz0 hz1 hz2 rfl (by decide) _ _ _ rfl hownA _ _ _ (fcells a usa) rfl ?g0 hR1.out hN1.out ?g1 ?g2 hsA ?_)
          case g0 => rw [fcells_len a usa hua]
          case g1 => unfold maxLen; omega
          case g2 => omega
          intro vC wC hoC hgC
          have hBC := hBA.grown hgC hsA (fun j hj => (hownA.lt j hj).1)
          have hsC := hBC.size
          have hR2C := Lib.hid (hR2.out.keep (Below.keeps ((hbA).trans (hBC.mono (hbA).size))))
          clear hgC hownA hR1 hR2 hBA hsA
          go_wp2_with (at_builtin; refine wpList_app (.tmp 89) (.tmp 90) 49 rfl rfl wA.heap.size 60 i0 (.agg #[.int .i64 0, .slice none 0 0]) 2 32 Tryd.underlying49 hi hz0 hz1 hz2 rfl (by decide) _ _ _ rfl hoC _ _ _ (fcells b usb) rfl ?h0 hR2C.out hN2.out ?h1 ?h2 hsC ?_)
          case h0 => rw [fcells_len b usb hub]
          case h1 => unfold maxLen; omega
          case h2 => omega
          intro vD wD hoD hgD
          have hBD := hBC.grown hgD hsC (fun j hj => (hoC.lt j hj).1)
          have hbD := (hbA).trans (hBD.mono (hbA).size)
          have hFD : FldL wD vD (a ++ b) := by
            refine FldL.both hua hub (B := wA.heap.size) ?_ (fun i f hf => ?_) (fun i f hf => ?_)
            · simpa using hoD
            · obtain ⟨u, hu, h⟩ := KA5.out i f hf
              exact ⟨u, hu, h.keep (Below.keeps hbD)⟩
            · obtain ⟨u, hu, h⟩ := KB5.out i f hf
              exact ⟨u, hu, h.keep (Below.keeps hbD)⟩
          have HFD := Lib.hid hFD
          have HF9D := Lib.hid (gf.keep (Below.keeps hBD))
          have HXD := Lib.hid (gx.keep (Below.keeps hBD))
          obtain ⟨pD, cD, usD, rfl, _⟩ := hFD
          rw [List.length_append] at HFD ⊢
          clear hgD hoC hoD hR2C hBC hsC hBD hN1 hN2
          go_wp2_with fail
          refine (refsame_any _ _ R (a ++ b) wD HF9D.out HFD.out).mono ?_
          rintro e wS ⟨rfl, hbS'⟩
          have hbS := hbD.trans (hbS'.mono hbD.size)
          have HXS := Lib.hid (HXD.out.keep (Below.keeps hbS'))
          have dS : decide (R = a ++ b) = true := by rw [decide_eq_true_eq]; exact HR.out
          clear hbS' HXD HF9D HFD
          by_cases hx0 : nx = 0
          · have dx : ((nx : Int) == 0) = true := by simp [hx0]
            clear hx0
            go_wp2_with fail
            go_ret
            exact ⟨rfl, hbS⟩
          · have dx : ((nx : Int) == 0) = false := by rw [beq_eq_false_iff_ne]; omega
            have hnx0 : 0 < nx := Nat.pos_of_ne_zero hx0
            have hnz : ¬ (nx : Int) = 0 := by omega
            obtain ⟨k, hkl, hkw⟩ := last_k x nx hnx0 hlx2
            have hsl := fun w => run_slice_to (P := Tryd.prog) Tryd.underlying23 hi' px nx cx k (Nat.le_trans (Nat.le_of_lt hkl) kx1) w
            have HSH := Lib.hid (HSHORT.out k hkl)
            have HT := Lib.hid (byt_take' HXS.out k (Nat.le_of_lt hkl))
            go_wp2_with fail
            refine (split_any wS E _ (X.take k) (HE.out.below hbS) HT.out).mono ?_
            rintro e wZ ⟨vZ, rfl, hfZ, hbZ'⟩
            have hbZ := (hbS).trans (hbZ'.mono (hbS).size)
            clear hbZ'
            obtain ⟨pZ, cZ, usZ, rfl, _⟩ := hfZ
            generalize splitE (X.take k) = qZ at *
            generalize splitL (X.take k) = RZ at *
            by_cases hz : qZ = 0
            · subst hz
              have dz : decide ((RZ.length : Int) < (a.length : Int)) = true := by
                rcases HSH.out with h | h
                · exact absurd rfl h
                · rw [decide_eq_true_eq]; omega
              have dz' : decide (RZ.length < a.length) = true := by
                rw [decide_eq_true_eq] at dz ⊢; omega
              rw [errV_zero]
              go_wp2_with fail
              go_ret
              exact ⟨rfl, hbZ⟩
            · obtain ⟨m, rfl⟩ : ∃ m, qZ = m + 1 := ⟨qZ - 1, by omega⟩
              rw [errV_one]
              clear hz
              go_wp2_with fail
              go_ret
              exact ⟨rfl, hbZ⟩
        · have d5 : decide ((a.length : Int) + (b.length : Int) ≤ 16) = false := by
            have h := HBOTH.out.1
            rw [HGO.out] at h
            have : ¬ (a.length + b.length ≤ 16) := fun h2 => hq0 (h.2 ⟨rfl, h2⟩)
            rw [decide_eq_false_iff_not]; omega
          obtain ⟨n, rfl⟩ : ∃ n, q = n + 1 := ⟨q - 1, by omega⟩
          have HXS := Lib.hid gx
          rw [errV_one]
          clear hq0
          by_cases hx0 : nx = 0
          · have dx : ((nx : Int) == 0) = true := by simp [hx0]
            clear hx0
            go_wp2_with fail
            go_ret
            exact ⟨rfl, hbA⟩
          · have dx : ((nx : Int) == 0) = false := by rw [beq_eq_false_iff_ne]; omega
            have hnx0 : 0 < nx := Nat.pos_of_ne_zero hx0
            have hnz : ¬ (nx : Int) = 0 := by omega
            obtain ⟨k, hkl, hkw⟩ := last_k x nx hnx0 hlx2
            have hsl := fun w => run_slice_to (P := Tryd.prog) Tryd.underlying23 hi' px nx cx k (Nat.le_trans (Nat.le_of_lt hkl) kx1) w
            have HSH := Lib.hid (HSHORT.out k hkl)
            have HT := Lib.hid (byt_take' HXS.out k (Nat.le_of_lt hkl))
            go_wp2_with fail
            refine (split_any wA E _ (X.take k) (HE.out.below hbA) HT.out).mono ?_
            rintro e wZ ⟨vZ, rfl, hfZ, hbZ'⟩
            have hbZ := (hbA).trans (hbZ'.mono (hbA).size)
            clear hbZ'
            obtain ⟨pZ, cZ, usZ, rfl, _⟩ := hfZ
            generalize splitE (X.take k) = qZ at *
            generalize splitL (X.take k) = RZ at *
            by_cases hz : qZ = 0
            · subst hz
              have dz : decide ((RZ.length : Int) < (a.length : Int)) = true := by
                rcases HSH.out with h | h
                · exact absurd rfl h
                · rw [decide_eq_true_eq]; omega
              have dz' : decide (RZ.length < a.length) = true := by
                rw [decide_eq_true_eq] at dz ⊢; omega
              rw [errV_zero]
              go_wp2_with fail
              go_ret
              exact ⟨rfl, hbZ⟩
            · obtain ⟨m, rfl⟩ : ∃ m, qZ = m + 1 := ⟨qZ - 1, by omega⟩
              rw [errV_one]
              clear hz
              go_wp2_with fail
              go_ret
              exact ⟨rfl, hbZ⟩
      | false =>
        have hq0 : q ≠ 0 := by
          intro h0
          have h := HBOTH.out.1.1 h0
          rw [HGO.out] at h
          simp at h
        obtain ⟨n, rfl⟩ : ∃ n, q = n + 1 := ⟨q - 1, by omega⟩
        have HXS := Lib.hid gx
        rw [errV_one]
        clear hq0
        by_cases hx0 : nx = 0
        · have dx : ((nx : Int) == 0) = true := by simp [hx0]
          clear hx0
          go_wp2_with fail
          go_ret
          exact ⟨rfl, hbA⟩
        · have dx : ((nx : Int) == 0) = false := by rw [beq_eq_false_iff_ne]; omega
          have hnx0 : 0 < nx := Nat.pos_of_ne_zero hx0
          have hnz : ¬ (nx : Int) = 0 := by omega
          obtain ⟨k, hkl, hkw⟩ := last_k x nx hnx0 hlx2
          have hsl := fun w => run_slice_to (P := Tryd.prog) Tryd.underlying23 hi' px nx cx k (Nat.le_trans (Nat.le_of_lt hkl) kx1) w
          have HSH := Lib.hid (HSHORT.out k hkl)
          have HT := Lib.hid (byt_take' HXS.out k (Nat.le_of_lt hkl))
          go_wp2_with fail
          refine (split_any wA E _ (X.take k) (HE.out.below hbA) HT.out).mono ?_
          rintro e wZ ⟨vZ, rfl, hfZ, hbZ'⟩
          have hbZ := (hbA).trans (hbZ'.mono (hbA).size)
          clear hbZ'
          obtain ⟨pZ, cZ, usZ, rfl, _⟩ := hfZ
          generalize splitE (X.take k) = qZ at *
          generalize splitL (X.take k) = RZ at *
          by_cases hz : qZ = 0
          · subst hz
            have dz : decide ((RZ.length : Int) < (a.length : Int)) = true := by
              rcases HSH.out with h | h
              · exact absurd rfl h
              · rw [decide_eq_true_eq]; omega
            have dz' : decide (RZ.length < a.length) = true := by
              rw [decide_eq_true_eq] at dz ⊢; omega
            rw [errV_zero]
            go_wp2_with fail
            go_ret
            exact ⟨rfl, hbZ⟩
          · obtain ⟨m, rfl⟩ : ∃ m, qZ = m + 1 := ⟨qZ - 1, by omega⟩
            rw [errV_one]
            clear hz
            go_wp2_with fail
            go_ret
            exact ⟨rfl, hbZ⟩
end Go.Proofs.YtchclmimdpnkaaaDoor
