/-
  FactR1: the document's Right.
-/
import Derived.Test.YtjklcbdlfmmllaaGreatDoorFactR
import Derived.Deep.DeepCutAuto
import Derived.Deep.CutBlock
namespace Go.Proofs.YtjklcbdlfmmllaaGreatDoor
open Go.RowKit Go.Extern.Stop Go.Stop Go.Extern Ieee
attribute [local go_sem] flt_def fgt_def feq_def fne_def

theorem inR12 (q : Int) : inR q 1 2 = ((q == 1) || (q == 2)) := by
  unfold inR
  rw [Bool.eq_iff_iff]
  simp only [Bool.or_eq_true, Bool.and_eq_true, beq_iff_eq, decide_eq_true_eq]
  omega
set_option maxRecDepth 20000 in
set_option maxHeartbeats 8000000 in
theorem refright14_g1 (f : Fct) (hx : f.x < 18446744073709551616) (hg : f.k = 2 ∨ f.k = 5) (w : World) :
    Calls Tryz.prog 8 #[fctV f] w fun e w' => e = .returned (.bool (rightF f)) ∧ Below w.heap.size w w' := by
  have HRI := Lib.hid (rr_iff f)
  have HNU := Lib.hid (fun w' => numbers_any f w')
  have hlen := Lib.hid (show f.l.length = 13 from rfl)
  obtain ⟨k, n, s, r, nd, p, q, o, d, pa, st, hw, dc, x⟩ := f
  simp only at hx HRI hg
  have HGR := Lib.hid hg
  clear hg
  have HA := Lib.hid (fun w' => refright_any n s w')
  have HC := Lib.hid (fun w' => rright_any n s o d x hx w')
  have HST := Lib.hid (fun w' => refstate_any st hw w')
  have HRAW := Lib.hid (fun w' => raw_any x w')
  have HKI := Lib.hid (show hidOk ⟨k, n, s, r, nd, p, q, o, d, pa, st, hw, dc, x⟩ ↔ ∀ j : Nat, j < 13 → 0 < j → (Fct.l ⟨k, n, s, r, nd, p, q, o, d, pa, st, hw, dc, x⟩).getD j 0 = 0 ∨ (namesF k).contains (j : Int) = true from Iff.rfl)
  unfold actV at HA
  unfold fctV fctA at HNU
  simp only at HNU
  generalize hl : Fct.l ⟨k, n, s, r, nd, p, q, o, d, pa, st, hw, dc, x⟩ = l at *
  change RowKit.Hid (∀ w' : World, Calls Tryz.prog 26 #[.agg #[.int .i64 n, .int .i64 s]] w' fun e w'' => e = .returned (.bool (actB n s)) ∧ Below w'.heap.size w' w'') at HA
  clear hx hl
  unfold fctV fctA
  simp only
  have B := Lib.hid (below_alloc1 w (.cells #[.int .i64 k, .int .i64 n, .int .i64 s, .int .i64 r, .int .i64 nd, .int .i64 p, .int .i64 q, .int .i64 o, .int .i64 d, .int .i64 pa, .int .i64 st, .int .i64 hw, .int .i64 dc, .float .f64 x] 28))
  have N := Lib.hid (Blk.new w 28 #[.int .i64 k, .int .i64 n, .int .i64 s, .int .i64 r, .int .i64 nd, .int .i64 p, .int .i64 q, .int .i64 o, .int .i64 d, .int .i64 pa, .int .i64 st, .int .i64 hw, .int .i64 dc, .float .f64 x])
  have n0 := (N.out.cell 0).trans rfl
  have n1 := (N.out.cell 1).trans rfl
  have n2 := (N.out.cell 2).trans rfl
  have n3 := (N.out.cell 3).trans rfl
  have n4 := (N.out.cell 4).trans rfl
  have n5 := (N.out.cell 5).trans rfl
  have n6 := (N.out.cell 6).trans rfl
  have n7 := (N.out.cell 7).trans rfl
  have n8 := (N.out.cell 8).trans rfl
  have n9 := (N.out.cell 9).trans rfl
  have n10 := (N.out.cell 10).trans rfl
  have n11 := (N.out.cell 11).trans rfl
  have n12 := (N.out.cell 12).trans rfl
  have n13 := (N.out.cell 13).trans rfl
  go_enter Tryz.func8, Tryz.ntmps8
  go_wp2_with fail
  go_upto_region 2 with (go_at_call 26; refine (HA.out _).mono ?_; rintro e w' ⟨rfl, hb⟩; have B' := Lib.hid (B.out.trans (hb.mono B.out.size)); have N' := Lib.hid (N.out.below hb N.out.lt); clear hb B N n0 n1 n2 n3 n4 n5 n6 n7 n8 n9 n10 n11 n12 n13; have n0 := (N'.out.cell 0).trans rfl; have n1 := (N'.out.cell 1).trans rfl; have n2 := (N'.out.cell 2).trans rfl; have n3 := (N'.out.cell 3).trans rfl; have n4 := (N'.out.cell 4).trans rfl; have n5 := (N'.out.cell 5).trans rfl; have n6 := (N'.out.cell 6).trans rfl; have n7 := (N'.out.cell 7).trans rfl; have n8 := (N'.out.cell 8).trans rfl; have n9 := (N'.out.cell 9).trans rfl; have n10 := (N'.out.cell 10).trans rfl; have n11 := (N'.out.cell 11).trans rfl; have n12 := (N'.out.cell 12).trans rfl; have n13 := (N'.out.cell 13).trans rfl; have B := Lib.hid B'.out; have N := Lib.hid N'.out; clear B' N')
  go_cut [4] (fun c wx => c = .bool (inR r 0 5) ∧ w' = wx)
  case first =>
    have HR := Lib.hid (show inR r 0 5 = (decide (0 ≤ r) && decide (r ≤ 5)) from rfl)
    cases h1 : decide (0 ≤ r)
    all_goals
      rw [h1] at HR
      go_wp2_with fail
      go_meet
      exact ⟨by rw [HR.out] <;> rfl, rfl⟩
  obtain ⟨rfl, rfl⟩ := hcut
  go_upto_region 3 with fail
  go_cut [5] (fun c wx => c = .bool (inR p 0 7) ∧ w' = wx)
  case first =>
    have HR := Lib.hid (show inR p 0 7 = (decide (0 ≤ p) && decide (p ≤ 7)) from rfl)
    cases h1 : decide (0 ≤ p)
    all_goals
      rw [h1] at HR
      go_wp2_with fail
      go_meet
      exact ⟨by rw [HR.out] <;> rfl, rfl⟩
  obtain ⟨rfl, rfl⟩ := hcut
  go_upto_region 4 with fail
  go_cut [6] (fun c wx => c = .bool (inR q 1 2) ∧ w' = wx)
  case first =>
    have HR := Lib.hid (show inR q 1 2 = ((q == 1) || (q == 2)) from inR12 q)
    cases h1 : (q == 1)
    all_goals
      rw [h1] at HR
      go_wp2_with fail
      go_meet
      exact ⟨by rw [HR.out] <;> rfl, rfl⟩
  obtain ⟨rfl, rfl⟩ := hcut
  go_upto_region 5 with fail
  have N5 := Lib.hid (N.out.alloc (.cells #[] 3))
  have B5 := Lib.hid (below_alloc B.out (.cells #[] 3))
  clear n0 n1 n2 n3 n4 n5 n6 n7 n8 n9 n10 n11 n12 n13
  have z0 := (N5.out.cell 0).trans rfl
  go_upto_block 0 with fail
  go_cut [3, 4, 5, 6, 7, 8] from 41 to 146 (fun (_ _ _ _ nm ok : Value) (wx : World) => ok = .bool (plainO ⟨k, n, s, r, nd, p, q, o, d, pa, st, hw, dc, x⟩) ∧ (∃ g : Nat, nm = .slice (some ⟨g, 0, none⟩) (namesF k).length (namesF k).length ∧ Blk wx g 3 (ivL (namesF k))) ∧ Below w.heap.size w wx ∧ Blk wx w.heap.size 28 #[.int .i64 k, .int .i64 n, .int .i64 s, .int .i64 r, .int .i64 nd, .int .i64 p, .int .i64 q, .int .i64 o, .int .i64 d, .int .i64 pa, .int .i64 st, .int .i64 hw, .int .i64 dc, .float .f64 x])
  case first =>
    by_cases hk2 : k = 2
    · subst hk2
      have HOK := Lib.hid (show plainO ⟨2, n, s, r, nd, p, q, o, d, pa, st, hw, dc, x⟩ = (actB n s && inR r 0 5 && inR nd 0 3 && inR p 0 7 && inR q 1 2) from rfl)
      have HPA := Lib.hid (show inR nd 0 3 = (decide (0 ≤ nd) && decide (nd ≤ 3)) from rfl)
      rw [HPA.out] at HOK
      have BK := Lib.hid (below_alloc B5.out (.cells #[.int .i64 1, .int .i64 2, .int .i64 3, .int .i64 4, .int .i64 5, .int .i64 6] 3))
      have NK := Lib.hid (N5.out.alloc (.cells #[.int .i64 1, .int .i64 2, .int .i64 3, .int .i64 4, .int .i64 5, .int .i64 6] 3))
      have MK := Lib.hid (show Blk ((w'.alloc (.cells #[] 3)).alloc (.cells #[.int .i64 1, .int .i64 2, .int .i64 3, .int .i64 4, .int .i64 5, .int .i64 6] 3)) (w'.heap.size + 1) 3 (ivL [1, 2, 3, 4, 5, 6]) from by
        have := Blk.new (w'.alloc (.cells #[] 3)) 3 (ivL [1, 2, 3, 4, 5, 6])
        rwa [World.size_alloc] at this)
      have m0 := (NK.out.cell 0).trans rfl
      have m1 := (NK.out.cell 1).trans rfl
      have m2 := (NK.out.cell 2).trans rfl
      have m3 := (NK.out.cell 3).trans rfl
      have m4 := (NK.out.cell 4).trans rfl
      have m5 := (NK.out.cell 5).trans rfl
      have m6 := (NK.out.cell 6).trans rfl
      have m7 := (NK.out.cell 7).trans rfl
      have m8 := (NK.out.cell 8).trans rfl
      have m9 := (NK.out.cell 9).trans rfl
      have m10 := (NK.out.cell 10).trans rfl
      have m11 := (NK.out.cell 11).trans rfl
      have m12 := (NK.out.cell 12).trans rfl
      have m13 := (NK.out.cell 13).trans rfl
      cases h6 : actB n s
      · rw [h6] at HOK
        go_wp2_with fail
        go_meet
        exact ⟨by rw [HOK.out] <;> rfl, ⟨_, rfl, MK.out⟩, BK.out, NK.out⟩
      · rw [h6] at HOK
        cases h5 : inR r 0 5
        · rw [h5] at HOK
          go_wp2_with fail
          go_meet
          exact ⟨by rw [HOK.out] <;> rfl, ⟨_, rfl, MK.out⟩, BK.out, NK.out⟩
        · rw [h5] at HOK
          cases h4 : decide (0 ≤ nd)
          · rw [h4] at HOK
            go_wp2_with fail
            go_meet
            exact ⟨by rw [HOK.out] <;> rfl, ⟨_, rfl, MK.out⟩, BK.out, NK.out⟩
          · rw [h4] at HOK
            cases h3 : decide (nd ≤ 3)
            · rw [h3] at HOK
              go_wp2_with fail
              go_meet
              exact ⟨by rw [HOK.out] <;> rfl, ⟨_, rfl, MK.out⟩, BK.out, NK.out⟩
            · rw [h3] at HOK
              cases h2 : inR p 0 7
              · rw [h2] at HOK
                go_wp2_with fail
                go_meet
                exact ⟨by rw [HOK.out] <;> rfl, ⟨_, rfl, MK.out⟩, BK.out, NK.out⟩
              · rw [h2] at HOK
                go_wp2_with fail
                go_meet
                exact ⟨by rw [HOK.out] <;> rfl, ⟨_, rfl, MK.out⟩, BK.out, NK.out⟩
    by_cases hk5 : k = 5
    · subst hk5
      have HOK := Lib.hid (show plainO ⟨5, n, s, r, nd, p, q, o, d, pa, st, hw, dc, x⟩ = (actB n s) from rfl)
      have BK := Lib.hid (below_alloc B5.out (.cells #[.int .i64 1, .int .i64 2] 3))
      have NK := Lib.hid (N5.out.alloc (.cells #[.int .i64 1, .int .i64 2] 3))
      have MK := Lib.hid (show Blk ((w'.alloc (.cells #[] 3)).alloc (.cells #[.int .i64 1, .int .i64 2] 3)) (w'.heap.size + 1) 3 (ivL [1, 2]) from by
        have := Blk.new (w'.alloc (.cells #[] 3)) 3 (ivL [1, 2])
        rwa [World.size_alloc] at this)
      have m0 := (NK.out.cell 0).trans rfl
      have m1 := (NK.out.cell 1).trans rfl
      have m2 := (NK.out.cell 2).trans rfl
      have m3 := (NK.out.cell 3).trans rfl
      have m4 := (NK.out.cell 4).trans rfl
      have m5 := (NK.out.cell 5).trans rfl
      have m6 := (NK.out.cell 6).trans rfl
      have m7 := (NK.out.cell 7).trans rfl
      have m8 := (NK.out.cell 8).trans rfl
      have m9 := (NK.out.cell 9).trans rfl
      have m10 := (NK.out.cell 10).trans rfl
      have m11 := (NK.out.cell 11).trans rfl
      have m12 := (NK.out.cell 12).trans rfl
      have m13 := (NK.out.cell 13).trans rfl
      go_wp2_with fail
      go_meet
      exact ⟨by rw [HOK.out] <;> rfl, ⟨_, rfl, MK.out⟩, BK.out, NK.out⟩
    exfalso
    rcases HGR.out with h | h
    · exact absurd h hk2
    · exact absurd h hk5
  obtain ⟨rfl, ⟨g, rfl, hM⟩, hB, hN⟩ := hcut
  have HM := Lib.hid hM
  have B2 := Lib.hid hB
  have N2 := Lib.hid hN
  clear hM hB hN B N B5 N5 z0 HA HC HST
  have n0 := (N2.out.cell 0).trans rfl
  have n1 := (N2.out.cell 1).trans rfl
  have n2 := (N2.out.cell 2).trans rfl
  have n3 := (N2.out.cell 3).trans rfl
  have n4 := (N2.out.cell 4).trans rfl
  have n5 := (N2.out.cell 5).trans rfl
  have n6 := (N2.out.cell 6).trans rfl
  have n7 := (N2.out.cell 7).trans rfl
  have n8 := (N2.out.cell 8).trans rfl
  have n9 := (N2.out.cell 9).trans rfl
  have n10 := (N2.out.cell 10).trans rfl
  have n11 := (N2.out.cell 11).trans rfl
  have n12 := (N2.out.cell 12).trans rfl
  have n13 := (N2.out.cell 13).trans rfl
  go_wp2_with fail
  refine (HNU.out _).mono ?_
  rintro e w3 ⟨g2, rfl, hL, hb⟩
  have HL := Lib.hid hL
  have B3 := Lib.hid (B2.out.trans (hb.mono B2.out.size))
  have N3 := Lib.hid (N2.out.below hb N2.out.lt)
  have HM3 := Lib.hid (HM.out.below hb HM.out.lt)
  clear hL hb N2 B2 HM HNU n0 n1 n2 n3 n4 n5 n6 n7 n8 n9 n10 n11 n12 n13
  generalize hok : plainO ⟨k, n, s, r, nd, p, q, o, d, pa, st, hw, dc, x⟩ = ok at *
  clear hok
  have hnl : (namesF k).length ≤ 1000 := by
    unfold namesF
    repeat' split
    all_goals (simp only [List.length_cons, List.length_nil]; omega)
  have HNL := Lib.hid hnl
  clear hnl
  generalize namesF k = nm at *
  go_wp2_with fail
  go_loopw [150] (fun i wr => ∃ j : Nat, j ≤ 13 ∧ i = .int .i64 j ∧ (∀ i : Nat, i < j → 0 < i → l.getD i 0 = 0 ∨ nm.contains (i : Int) = true) ∧ Below w3.heap.size w3 wr) (fun i _ => 13 - (intOf i).toNat)
  case atStart => exact ⟨0, by omega, rfl, fun i h => by omega, Below.refl _ _⟩
  case round =>
    obtain ⟨j, hj, rfl, hall, hbw⟩ := hrel
    have HALL := Lib.hid hall
    clear hall
    by_cases hlt : j < 13
    · have hjl : j < l.length := by rw [hlen.out]; exact hlt
      have hc : wr.cell? ⟨g2, j, none⟩ = some (.int .i64 l[j]) := by
        rw [(HL.out.below hbw HL.out.lt).cell j]; exact ivL_get l j hjl
      have HGD := Lib.hid (show l.getD j 0 = l[j] by rw [List.getD_eq_getElem?_getD, List.getElem?_eq_getElem hjl]; rfl)
      have HIN := Lib.hid (fun w' hb => in_any nm (j : Int) g w' HNL.out hb)
      by_cases h0 : j = 0
      · subst h0
        generalize l[0] = y at *
        have hd : decide ((0 : Int) < 0) = false := rfl
        go_wp2_with fail
        go_roundw
        case rel => exact ⟨1, by omega, by go_num, fun i h hp => by omega, hbw⟩
        case measure => simp [intOf]
      · have hd : decide ((0 : Int) < (j : Int)) = true := by simp; omega
        generalize l[j] = y at *
        by_cases hy : y = 0
        · have hd2 : (y == 0) = true := by simpa using hy
          have hd3 : (y != 0) = false := by simpa using hy
          go_wp2_with fail
          go_roundw
          case rel => exact ⟨j + 1, by omega, by go_num, fun i h hp => by
            by_cases hi : i = j
            · subst hi; exact .inl (HGD.out.trans hy)
            · exact HALL.out i (by omega) hp, hbw⟩
          case measure => simp [intOf]; omega
        · have hd2 : (y == 0) = false := by simpa using hy
          have hd3 : (y != 0) = true := by simpa using hy
          cases hcn : nm.contains (j : Int)
          · rw [hcn] at HIN
            have HRF := Lib.hid (show rightF ⟨k, n, s, r, nd, p, q, o, d, pa, st, hw, dc, x⟩ = false by
              rw [Bool.eq_false_iff]
              intro h9
              rcases (HKI.out.1 (HRI.out.1 h9).1) j hlt (by omega) with h8 | h8
              · exact hy (HGD.out.symm.trans h8)
              · rw [hcn] at h8; cases h8)
            clear hcn hy
            go_wp2_with fail
            refine (HIN.out _ (HM3.out.below hbw HM3.out.lt)).mono ?_
            rintro e w4 ⟨rfl, hb⟩
            have B4 := Lib.hid (B3.out.trans ((hbw.trans (hb.mono hbw.size)).mono B3.out.size))
            clear hb
            go_wp2_with fail
            go_ret
            exact ⟨by rw [HRF.out] <;> rfl, B4.out⟩
          · rw [hcn] at HIN
            have HCN := Lib.hid hcn
            clear hcn hy
            go_wp2_with fail
            refine (HIN.out _ (HM3.out.below hbw HM3.out.lt)).mono ?_
            rintro e w4 ⟨rfl, hb⟩
            have B4 := Lib.hid (hbw.trans (hb.mono hbw.size))
            clear hb
            go_wp2_with fail
            go_roundw
            case rel => exact ⟨j + 1, by omega, by go_num, fun i h hp => by
              by_cases hi : i = j
              · subst hi; exact .inr HCN.out
              · exact HALL.out i (by omega) hp, B4.out⟩
            case measure => simp [intOf]; omega
    · obtain rfl : j = 13 := by omega
      have HH := Lib.hid (HKI.out.2 HALL.out)
      have HB := Lib.hid (B3.out.trans (hbw.mono B3.out.size))
      have NR := Lib.hid (N3.out.below hbw N3.out.lt)
      have n0 := (NR.out.cell 0).trans rfl
      have n13 := (NR.out.cell 13).trans rfl
      clear HALL hlt
      cases ok
      · have HRF := Lib.hid (show rightF ⟨k, n, s, r, nd, p, q, o, d, pa, st, hw, dc, x⟩ = false by
          rw [Bool.eq_false_iff]
          intro h9
          exact absurd (HRI.out.1 h9).2.1 (by decide))
        go_wp2_with fail
        go_ret
        exact ⟨by rw [HRF.out] <;> rfl, HB.out⟩
      · by_cases hk1 : k = 1
        · have HRF := Lib.hid (show rightF ⟨k, n, s, r, nd, p, q, o, d, pa, st, hw, dc, x⟩ = true from HRI.out.2 ⟨HH.out, rfl, .inl hk1⟩)
          have d1 : (k == 1) = true := by simpa using hk1
          clear hk1
          go_wp2_with fail
          go_ret
          exact ⟨by rw [HRF.out] <;> rfl, HB.out⟩
        · have HRF := Lib.hid (show rightF ⟨k, n, s, r, nd, p, q, o, d, pa, st, hw, dc, x⟩ = (x == 0) by
            rw [Bool.eq_iff_iff, HRI.out, beq_iff_eq]
            exact ⟨fun h => h.2.2.resolve_left hk1, fun h => ⟨HH.out, rfl, .inr h⟩⟩)
          have d1 : (k == 1) = false := by simpa using hk1
          have he' : ((x : Int) == 0) = (x == 0) := by
            rw [Bool.eq_iff_iff, beq_iff_eq, beq_iff_eq]; omega
          clear hk1
          go_wp2_with fail
          refine (HRAW.out _).mono ?_
          rintro e w4 ⟨rfl, hb⟩
          have B4 := Lib.hid (HB.out.trans (hb.mono HB.out.size))
          clear hb
          go_wp2_with fail
          go_ret
          exact ⟨by rw [HRF.out] <;> rfl, B4.out⟩
set_option maxRecDepth 20000 in
set_option maxHeartbeats 8000000 in
theorem refright14_g2 (f : Fct) (hx : f.x < 18446744073709551616) (hg : f.k = 1 ∨ f.k = 3 ∨ f.k = 4) (w : World) :
    Calls Tryz.prog 8 #[fctV f] w fun e w' => e = .returned (.bool (rightF f)) ∧ Below w.heap.size w w' := by
  have HRI := Lib.hid (rr_iff f)
  have HNU := Lib.hid (fun w' => numbers_any f w')
  have hlen := Lib.hid (show f.l.length = 13 from rfl)
  obtain ⟨k, n, s, r, nd, p, q, o, d, pa, st, hw, dc, x⟩ := f
  simp only at hx HRI hg
  have HGR := Lib.hid hg
  clear hg
  have HA := Lib.hid (fun w' => refright_any n s w')
  have HC := Lib.hid (fun w' => rright_any n s o d x hx w')
  have HST := Lib.hid (fun w' => refstate_any st hw w')
  have HRAW := Lib.hid (fun w' => raw_any x w')
  have HKI := Lib.hid (show hidOk ⟨k, n, s, r, nd, p, q, o, d, pa, st, hw, dc, x⟩ ↔ ∀ j : Nat, j < 13 → 0 < j → (Fct.l ⟨k, n, s, r, nd, p, q, o, d, pa, st, hw, dc, x⟩).getD j 0 = 0 ∨ (namesF k).contains (j : Int) = true from Iff.rfl)
  unfold actV at HA
  unfold fctV fctA at HNU
  simp only at HNU
  generalize hl : Fct.l ⟨k, n, s, r, nd, p, q, o, d, pa, st, hw, dc, x⟩ = l at *
  change RowKit.Hid (∀ w' : World, Calls Tryz.prog 26 #[.agg #[.int .i64 n, .int .i64 s]] w' fun e w'' => e = .returned (.bool (actB n s)) ∧ Below w'.heap.size w' w'') at HA
  clear hx hl
  unfold fctV fctA
  simp only
  have B := Lib.hid (below_alloc1 w (.cells #[.int .i64 k, .int .i64 n, .int .i64 s, .int .i64 r, .int .i64 nd, .int .i64 p, .int .i64 q, .int .i64 o, .int .i64 d, .int .i64 pa, .int .i64 st, .int .i64 hw, .int .i64 dc, .float .f64 x] 28))
  have N := Lib.hid (Blk.new w 28 #[.int .i64 k, .int .i64 n, .int .i64 s, .int .i64 r, .int .i64 nd, .int .i64 p, .int .i64 q, .int .i64 o, .int .i64 d, .int .i64 pa, .int .i64 st, .int .i64 hw, .int .i64 dc, .float .f64 x])
  have n0 := (N.out.cell 0).trans rfl
  have n1 := (N.out.cell 1).trans rfl
  have n2 := (N.out.cell 2).trans rfl
  have n3 := (N.out.cell 3).trans rfl
  have n4 := (N.out.cell 4).trans rfl
  have n5 := (N.out.cell 5).trans rfl
  have n6 := (N.out.cell 6).trans rfl
  have n7 := (N.out.cell 7).trans rfl
  have n8 := (N.out.cell 8).trans rfl
  have n9 := (N.out.cell 9).trans rfl
  have n10 := (N.out.cell 10).trans rfl
  have n11 := (N.out.cell 11).trans rfl
  have n12 := (N.out.cell 12).trans rfl
  have n13 := (N.out.cell 13).trans rfl
  go_enter Tryz.func8, Tryz.ntmps8
  go_wp2_with fail
  go_upto_region 2 with (go_at_call 26; refine (HA.out _).mono ?_; rintro e w' ⟨rfl, hb⟩; have B' := Lib.hid (B.out.trans (hb.mono B.out.size)); have N' := Lib.hid (N.out.below hb N.out.lt); clear hb B N n0 n1 n2 n3 n4 n5 n6 n7 n8 n9 n10 n11 n12 n13; have n0 := (N'.out.cell 0).trans rfl; have n1 := (N'.out.cell 1).trans rfl; have n2 := (N'.out.cell 2).trans rfl; have n3 := (N'.out.cell 3).trans rfl; have n4 := (N'.out.cell 4).trans rfl; have n5 := (N'.out.cell 5).trans rfl; have n6 := (N'.out.cell 6).trans rfl; have n7 := (N'.out.cell 7).trans rfl; have n8 := (N'.out.cell 8).trans rfl; have n9 := (N'.out.cell 9).trans rfl; have n10 := (N'.out.cell 10).trans rfl; have n11 := (N'.out.cell 11).trans rfl; have n12 := (N'.out.cell 12).trans rfl; have n13 := (N'.out.cell 13).trans rfl; have B := Lib.hid B'.out; have N := Lib.hid N'.out; clear B' N')
  go_cut [4] (fun c wx => c = .bool (inR r 0 5) ∧ w' = wx)
  case first =>
    have HR := Lib.hid (show inR r 0 5 = (decide (0 ≤ r) && decide (r ≤ 5)) from rfl)
    cases h1 : decide (0 ≤ r)
    all_goals
      rw [h1] at HR
      go_wp2_with fail
      go_meet
      exact ⟨by rw [HR.out] <;> rfl, rfl⟩
  obtain ⟨rfl, rfl⟩ := hcut
  go_upto_region 3 with fail
  go_cut [5] (fun c wx => c = .bool (inR p 0 7) ∧ w' = wx)
  case first =>
    have HR := Lib.hid (show inR p 0 7 = (decide (0 ≤ p) && decide (p ≤ 7)) from rfl)
    cases h1 : decide (0 ≤ p)
    all_goals
      rw [h1] at HR
      go_wp2_with fail
      go_meet
      exact ⟨by rw [HR.out] <;> rfl, rfl⟩
  obtain ⟨rfl, rfl⟩ := hcut
  go_upto_region 4 with fail
  go_cut [6] (fun c wx => c = .bool (inR q 1 2) ∧ w' = wx)
  case first =>
    have HR := Lib.hid (show inR q 1 2 = ((q == 1) || (q == 2)) from inR12 q)
    cases h1 : (q == 1)
    all_goals
      rw [h1] at HR
      go_wp2_with fail
      go_meet
      exact ⟨by rw [HR.out] <;> rfl, rfl⟩
  obtain ⟨rfl, rfl⟩ := hcut
  go_upto_region 5 with fail
  have N5 := Lib.hid (N.out.alloc (.cells #[] 3))
  have B5 := Lib.hid (below_alloc B.out (.cells #[] 3))
  clear n0 n1 n2 n3 n4 n5 n6 n7 n8 n9 n10 n11 n12 n13
  have z0 := (N5.out.cell 0).trans rfl
  go_upto_block 0 with fail
  go_cut [3, 4, 5, 6, 7, 8] from 41 to 146 (fun (_ _ _ _ nm ok : Value) (wx : World) => ok = .bool (plainO ⟨k, n, s, r, nd, p, q, o, d, pa, st, hw, dc, x⟩) ∧ (∃ g : Nat, nm = .slice (some ⟨g, 0, none⟩) (namesF k).length (namesF k).length ∧ Blk wx g 3 (ivL (namesF k))) ∧ Below w.heap.size w wx ∧ Blk wx w.heap.size 28 #[.int .i64 k, .int .i64 n, .int .i64 s, .int .i64 r, .int .i64 nd, .int .i64 p, .int .i64 q, .int .i64 o, .int .i64 d, .int .i64 pa, .int .i64 st, .int .i64 hw, .int .i64 dc, .float .f64 x])
  case first =>
    by_cases hk1 : k = 1
    · subst hk1
      have HOK := Lib.hid (show plainO ⟨1, n, s, r, nd, p, q, o, d, pa, st, hw, dc, x⟩ = (rightC ⟨n, s, o, d, x⟩ && inR pa 0 8) from rfl)
      have HPA := Lib.hid (show inR pa 0 8 = (decide (0 ≤ pa) && decide (pa ≤ 8)) from rfl)
      rw [HPA.out] at HOK
      have BK := Lib.hid (below_alloc B5.out (.cells #[.int .i64 1, .int .i64 2, .int .i64 7, .int .i64 8, .int .i64 9] 3))
      have NK := Lib.hid (N5.out.alloc (.cells #[.int .i64 1, .int .i64 2, .int .i64 7, .int .i64 8, .int .i64 9] 3))
      have MK := Lib.hid (show Blk ((w'.alloc (.cells #[] 3)).alloc (.cells #[.int .i64 1, .int .i64 2, .int .i64 7, .int .i64 8, .int .i64 9] 3)) (w'.heap.size + 1) 3 (ivL [1, 2, 7, 8, 9]) from by
        have := Blk.new (w'.alloc (.cells #[] 3)) 3 (ivL [1, 2, 7, 8, 9])
        rwa [World.size_alloc] at this)
      have m0 := (NK.out.cell 0).trans rfl
      have m1 := (NK.out.cell 1).trans rfl
      have m2 := (NK.out.cell 2).trans rfl
      have m3 := (NK.out.cell 3).trans rfl
      have m4 := (NK.out.cell 4).trans rfl
      have m5 := (NK.out.cell 5).trans rfl
      have m6 := (NK.out.cell 6).trans rfl
      have m7 := (NK.out.cell 7).trans rfl
      have m8 := (NK.out.cell 8).trans rfl
      have m9 := (NK.out.cell 9).trans rfl
      have m10 := (NK.out.cell 10).trans rfl
      have m11 := (NK.out.cell 11).trans rfl
      have m12 := (NK.out.cell 12).trans rfl
      have m13 := (NK.out.cell 13).trans rfl
      cases h3 : rightC ⟨n, s, o, d, x⟩
      · rw [h3] at HOK
        have HV := Lib.hid h3
        clear h3
        go_wp2_with fail
        refine (HC.out _).mono ?_
        rintro e w2 ⟨rfl, hb⟩
        have BL := Lib.hid (BK.out.trans (hb.mono BK.out.size))
        have NL := Lib.hid (NK.out.below hb NK.out.lt)
        have ML := Lib.hid (MK.out.below hb MK.out.lt)
        clear hb m0 m1 m2 m3 m4 m5 m6 m7 m8 m9 m10 m11 m12 m13
        have m0 := (NL.out.cell 0).trans rfl
        have m1 := (NL.out.cell 1).trans rfl
        have m2 := (NL.out.cell 2).trans rfl
        have m3 := (NL.out.cell 3).trans rfl
        have m4 := (NL.out.cell 4).trans rfl
        have m5 := (NL.out.cell 5).trans rfl
        have m6 := (NL.out.cell 6).trans rfl
        have m7 := (NL.out.cell 7).trans rfl
        have m8 := (NL.out.cell 8).trans rfl
        have m9 := (NL.out.cell 9).trans rfl
        have m10 := (NL.out.cell 10).trans rfl
        have m11 := (NL.out.cell 11).trans rfl
        have m12 := (NL.out.cell 12).trans rfl
        have m13 := (NL.out.cell 13).trans rfl
        rw [HV.out]
        go_wp2_with fail
        go_meet
        exact ⟨by rw [HOK.out] <;> rfl, ⟨_, rfl, ML.out⟩, BL.out, NL.out⟩
      · rw [h3] at HOK
        have HV := Lib.hid h3
        clear h3
        cases h2 : decide (0 ≤ pa)
        · rw [h2] at HOK
          go_wp2_with fail
          refine (HC.out _).mono ?_
          rintro e w2 ⟨rfl, hb⟩
          have BL := Lib.hid (BK.out.trans (hb.mono BK.out.size))
          have NL := Lib.hid (NK.out.below hb NK.out.lt)
          have ML := Lib.hid (MK.out.below hb MK.out.lt)
          clear hb m0 m1 m2 m3 m4 m5 m6 m7 m8 m9 m10 m11 m12 m13
          have m0 := (NL.out.cell 0).trans rfl
          have m1 := (NL.out.cell 1).trans rfl
          have m2 := (NL.out.cell 2).trans rfl
          have m3 := (NL.out.cell 3).trans rfl
          have m4 := (NL.out.cell 4).trans rfl
          have m5 := (NL.out.cell 5).trans rfl
          have m6 := (NL.out.cell 6).trans rfl
          have m7 := (NL.out.cell 7).trans rfl
          have m8 := (NL.out.cell 8).trans rfl
          have m9 := (NL.out.cell 9).trans rfl
          have m10 := (NL.out.cell 10).trans rfl
          have m11 := (NL.out.cell 11).trans rfl
          have m12 := (NL.out.cell 12).trans rfl
          have m13 := (NL.out.cell 13).trans rfl
          rw [HV.out]
          go_wp2_with fail
          go_meet
          exact ⟨by rw [HOK.out] <;> rfl, ⟨_, rfl, ML.out⟩, BL.out, NL.out⟩
        · rw [h2] at HOK
          go_wp2_with fail
          refine (HC.out _).mono ?_
          rintro e w2 ⟨rfl, hb⟩
          have BL := Lib.hid (BK.out.trans (hb.mono BK.out.size))
          have NL := Lib.hid (NK.out.below hb NK.out.lt)
          have ML := Lib.hid (MK.out.below hb MK.out.lt)
          clear hb m0 m1 m2 m3 m4 m5 m6 m7 m8 m9 m10 m11 m12 m13
          have m0 := (NL.out.cell 0).trans rfl
          have m1 := (NL.out.cell 1).trans rfl
          have m2 := (NL.out.cell 2).trans rfl
          have m3 := (NL.out.cell 3).trans rfl
          have m4 := (NL.out.cell 4).trans rfl
          have m5 := (NL.out.cell 5).trans rfl
          have m6 := (NL.out.cell 6).trans rfl
          have m7 := (NL.out.cell 7).trans rfl
          have m8 := (NL.out.cell 8).trans rfl
          have m9 := (NL.out.cell 9).trans rfl
          have m10 := (NL.out.cell 10).trans rfl
          have m11 := (NL.out.cell 11).trans rfl
          have m12 := (NL.out.cell 12).trans rfl
          have m13 := (NL.out.cell 13).trans rfl
          rw [HV.out]
          go_wp2_with fail
          go_meet
          exact ⟨by rw [HOK.out] <;> rfl, ⟨_, rfl, ML.out⟩, BL.out, NL.out⟩
    by_cases hk3 : k = 3
    · subst hk3
      have HOK := Lib.hid (show plainO ⟨3, n, s, r, nd, p, q, o, d, pa, st, hw, dc, x⟩ = (actB n s && inR r 0 5 && stB st hw) from rfl)
      have BK := Lib.hid (below_alloc B5.out (.cells #[.int .i64 1, .int .i64 2, .int .i64 3, .int .i64 10, .int .i64 11] 3))
      have NK := Lib.hid (N5.out.alloc (.cells #[.int .i64 1, .int .i64 2, .int .i64 3, .int .i64 10, .int .i64 11] 3))
      have MK := Lib.hid (show Blk ((w'.alloc (.cells #[] 3)).alloc (.cells #[.int .i64 1, .int .i64 2, .int .i64 3, .int .i64 10, .int .i64 11] 3)) (w'.heap.size + 1) 3 (ivL [1, 2, 3, 10, 11]) from by
        have := Blk.new (w'.alloc (.cells #[] 3)) 3 (ivL [1, 2, 3, 10, 11])
        rwa [World.size_alloc] at this)
      have m0 := (NK.out.cell 0).trans rfl
      have m1 := (NK.out.cell 1).trans rfl
      have m2 := (NK.out.cell 2).trans rfl
      have m3 := (NK.out.cell 3).trans rfl
      have m4 := (NK.out.cell 4).trans rfl
      have m5 := (NK.out.cell 5).trans rfl
      have m6 := (NK.out.cell 6).trans rfl
      have m7 := (NK.out.cell 7).trans rfl
      have m8 := (NK.out.cell 8).trans rfl
      have m9 := (NK.out.cell 9).trans rfl
      have m10 := (NK.out.cell 10).trans rfl
      have m11 := (NK.out.cell 11).trans rfl
      have m12 := (NK.out.cell 12).trans rfl
      have m13 := (NK.out.cell 13).trans rfl
      cases h3 : actB n s
      · rw [h3] at HOK
        go_wp2_with fail
        go_meet
        exact ⟨by rw [HOK.out] <;> rfl, ⟨_, rfl, MK.out⟩, BK.out, NK.out⟩
      · rw [h3] at HOK
        cases h2 : inR r 0 5
        · rw [h2] at HOK
          go_wp2_with fail
          go_meet
          exact ⟨by rw [HOK.out] <;> rfl, ⟨_, rfl, MK.out⟩, BK.out, NK.out⟩
        · rw [h2] at HOK
          go_wp2_with fail
          refine (HST.out _).mono ?_
          rintro e w2 ⟨rfl, hb⟩
          have BL := Lib.hid (BK.out.trans (hb.mono BK.out.size))
          have NL := Lib.hid (NK.out.below hb NK.out.lt)
          have ML := Lib.hid (MK.out.below hb MK.out.lt)
          clear hb m0 m1 m2 m3 m4 m5 m6 m7 m8 m9 m10 m11 m12 m13
          have m0 := (NL.out.cell 0).trans rfl
          have m1 := (NL.out.cell 1).trans rfl
          have m2 := (NL.out.cell 2).trans rfl
          have m3 := (NL.out.cell 3).trans rfl
          have m4 := (NL.out.cell 4).trans rfl
          have m5 := (NL.out.cell 5).trans rfl
          have m6 := (NL.out.cell 6).trans rfl
          have m7 := (NL.out.cell 7).trans rfl
          have m8 := (NL.out.cell 8).trans rfl
          have m9 := (NL.out.cell 9).trans rfl
          have m10 := (NL.out.cell 10).trans rfl
          have m11 := (NL.out.cell 11).trans rfl
          have m12 := (NL.out.cell 12).trans rfl
          have m13 := (NL.out.cell 13).trans rfl
          go_wp2_with fail
          go_meet
          exact ⟨by rw [HOK.out] <;> rfl, ⟨_, rfl, ML.out⟩, BL.out, NL.out⟩
    by_cases hk4 : k = 4
    · subst hk4
      have HOK := Lib.hid (show plainO ⟨4, n, s, r, nd, p, q, o, d, pa, st, hw, dc, x⟩ = (actB n s && inR dc 1 2) from rfl)
      rw [inR12] at HOK
      have BK := Lib.hid (below_alloc B5.out (.cells #[.int .i64 1, .int .i64 2, .int .i64 12] 3))
      have NK := Lib.hid (N5.out.alloc (.cells #[.int .i64 1, .int .i64 2, .int .i64 12] 3))
      have MK := Lib.hid (show Blk ((w'.alloc (.cells #[] 3)).alloc (.cells #[.int .i64 1, .int .i64 2, .int .i64 12] 3)) (w'.heap.size + 1) 3 (ivL [1, 2, 12]) from by
        have := Blk.new (w'.alloc (.cells #[] 3)) 3 (ivL [1, 2, 12])
        rwa [World.size_alloc] at this)
      have m0 := (NK.out.cell 0).trans rfl
      have m1 := (NK.out.cell 1).trans rfl
      have m2 := (NK.out.cell 2).trans rfl
      have m3 := (NK.out.cell 3).trans rfl
      have m4 := (NK.out.cell 4).trans rfl
      have m5 := (NK.out.cell 5).trans rfl
      have m6 := (NK.out.cell 6).trans rfl
      have m7 := (NK.out.cell 7).trans rfl
      have m8 := (NK.out.cell 8).trans rfl
      have m9 := (NK.out.cell 9).trans rfl
      have m10 := (NK.out.cell 10).trans rfl
      have m11 := (NK.out.cell 11).trans rfl
      have m12 := (NK.out.cell 12).trans rfl
      have m13 := (NK.out.cell 13).trans rfl
      cases h3 : actB n s
      · rw [h3] at HOK
        go_wp2_with fail
        go_meet
        exact ⟨by rw [HOK.out] <;> rfl, ⟨_, rfl, MK.out⟩, BK.out, NK.out⟩
      · rw [h3] at HOK
        cases h2 : (dc == 1)
        · rw [h2] at HOK
          go_wp2_with fail
          go_meet
          exact ⟨by rw [HOK.out] <;> rfl, ⟨_, rfl, MK.out⟩, BK.out, NK.out⟩
        · rw [h2] at HOK
          go_wp2_with fail
          go_meet
          exact ⟨by rw [HOK.out] <;> rfl, ⟨_, rfl, MK.out⟩, BK.out, NK.out⟩
    exfalso
    rcases HGR.out with h | h | h
    · exact absurd h hk1
    · exact absurd h hk3
    · exact absurd h hk4
  obtain ⟨rfl, ⟨g, rfl, hM⟩, hB, hN⟩ := hcut
  have HM := Lib.hid hM
  have B2 := Lib.hid hB
  have N2 := Lib.hid hN
  clear hM hB hN B N B5 N5 z0 HA HC HST
  have n0 := (N2.out.cell 0).trans rfl
  have n1 := (N2.out.cell 1).trans rfl
  have n2 := (N2.out.cell 2).trans rfl
  have n3 := (N2.out.cell 3).trans rfl
  have n4 := (N2.out.cell 4).trans rfl
  have n5 := (N2.out.cell 5).trans rfl
  have n6 := (N2.out.cell 6).trans rfl
  have n7 := (N2.out.cell 7).trans rfl
  have n8 := (N2.out.cell 8).trans rfl
  have n9 := (N2.out.cell 9).trans rfl
  have n10 := (N2.out.cell 10).trans rfl
  have n11 := (N2.out.cell 11).trans rfl
  have n12 := (N2.out.cell 12).trans rfl
  have n13 := (N2.out.cell 13).trans rfl
  go_wp2_with fail
  refine (HNU.out _).mono ?_
  rintro e w3 ⟨g2, rfl, hL, hb⟩
  have HL := Lib.hid hL
  have B3 := Lib.hid (B2.out.trans (hb.mono B2.out.size))
  have N3 := Lib.hid (N2.out.below hb N2.out.lt)
  have HM3 := Lib.hid (HM.out.below hb HM.out.lt)
  clear hL hb N2 B2 HM HNU n0 n1 n2 n3 n4 n5 n6 n7 n8 n9 n10 n11 n12 n13
  generalize hok : plainO ⟨k, n, s, r, nd, p, q, o, d, pa, st, hw, dc, x⟩ = ok at *
  clear hok
  have hnl : (namesF k).length ≤ 1000 := by
    unfold namesF
    repeat' split
    all_goals (simp only [List.length_cons, List.length_nil]; omega)
  have HNL := Lib.hid hnl
  clear hnl
  generalize namesF k = nm at *
  go_wp2_with fail
  go_loopw [150] (fun i wr => ∃ j : Nat, j ≤ 13 ∧ i = .int .i64 j ∧ (∀ i : Nat, i < j → 0 < i → l.getD i 0 = 0 ∨ nm.contains (i : Int) = true) ∧ Below w3.heap.size w3 wr) (fun i _ => 13 - (intOf i).toNat)
  case atStart => exact ⟨0, by omega, rfl, fun i h => by omega, Below.refl _ _⟩
  case round =>
    obtain ⟨j, hj, rfl, hall, hbw⟩ := hrel
    have HALL := Lib.hid hall
    clear hall
    by_cases hlt : j < 13
    · have hjl : j < l.length := by rw [hlen.out]; exact hlt
      have hc : wr.cell? ⟨g2, j, none⟩ = some (.int .i64 l[j]) := by
        rw [(HL.out.below hbw HL.out.lt).cell j]; exact ivL_get l j hjl
      have HGD := Lib.hid (show l.getD j 0 = l[j] by rw [List.getD_eq_getElem?_getD, List.getElem?_eq_getElem hjl]; rfl)
      have HIN := Lib.hid (fun w' hb => in_any nm (j : Int) g w' HNL.out hb)
      by_cases h0 : j = 0
      · subst h0
        generalize l[0] = y at *
        have hd : decide ((0 : Int) < 0) = false := rfl
        go_wp2_with fail
        go_roundw
        case rel => exact ⟨1, by omega, by go_num, fun i h hp => by omega, hbw⟩
        case measure => simp [intOf]
      · have hd : decide ((0 : Int) < (j : Int)) = true := by simp; omega
        generalize l[j] = y at *
        by_cases hy : y = 0
        · have hd2 : (y == 0) = true := by simpa using hy
          have hd3 : (y != 0) = false := by simpa using hy
          go_wp2_with fail
          go_roundw
          case rel => exact ⟨j + 1, by omega, by go_num, fun i h hp => by
            by_cases hi : i = j
            · subst hi; exact .inl (HGD.out.trans hy)
            · exact HALL.out i (by omega) hp, hbw⟩
          case measure => simp [intOf]; omega
        · have hd2 : (y == 0) = false := by simpa using hy
          have hd3 : (y != 0) = true := by simpa using hy
          cases hcn : nm.contains (j : Int)
          · rw [hcn] at HIN
            have HRF := Lib.hid (show rightF ⟨k, n, s, r, nd, p, q, o, d, pa, st, hw, dc, x⟩ = false by
              rw [Bool.eq_false_iff]
              intro h9
              rcases (HKI.out.1 (HRI.out.1 h9).1) j hlt (by omega) with h8 | h8
              · exact hy (HGD.out.symm.trans h8)
              · rw [hcn] at h8; cases h8)
            clear hcn hy
            go_wp2_with fail
            refine (HIN.out _ (HM3.out.below hbw HM3.out.lt)).mono ?_
            rintro e w4 ⟨rfl, hb⟩
            have B4 := Lib.hid (B3.out.trans ((hbw.trans (hb.mono hbw.size)).mono B3.out.size))
            clear hb
            go_wp2_with fail
            go_ret
            exact ⟨by rw [HRF.out] <;> rfl, B4.out⟩
          · rw [hcn] at HIN
            have HCN := Lib.hid hcn
            clear hcn hy
            go_wp2_with fail
            refine (HIN.out _ (HM3.out.below hbw HM3.out.lt)).mono ?_
            rintro e w4 ⟨rfl, hb⟩
            have B4 := Lib.hid (hbw.trans (hb.mono hbw.size))
            clear hb
            go_wp2_with fail
            go_roundw
            case rel => exact ⟨j + 1, by omega, by go_num, fun i h hp => by
              by_cases hi : i = j
              · subst hi; exact .inr HCN.out
              · exact HALL.out i (by omega) hp, B4.out⟩
            case measure => simp [intOf]; omega
    · obtain rfl : j = 13 := by omega
      have HH := Lib.hid (HKI.out.2 HALL.out)
      have HB := Lib.hid (B3.out.trans (hbw.mono B3.out.size))
      have NR := Lib.hid (N3.out.below hbw N3.out.lt)
      have n0 := (NR.out.cell 0).trans rfl
      have n13 := (NR.out.cell 13).trans rfl
      clear HALL hlt
      cases ok
      · have HRF := Lib.hid (show rightF ⟨k, n, s, r, nd, p, q, o, d, pa, st, hw, dc, x⟩ = false by
          rw [Bool.eq_false_iff]
          intro h9
          exact absurd (HRI.out.1 h9).2.1 (by decide))
        go_wp2_with fail
        go_ret
        exact ⟨by rw [HRF.out] <;> rfl, HB.out⟩
      · by_cases hk1 : k = 1
        · have HRF := Lib.hid (show rightF ⟨k, n, s, r, nd, p, q, o, d, pa, st, hw, dc, x⟩ = true from HRI.out.2 ⟨HH.out, rfl, .inl hk1⟩)
          have d1 : (k == 1) = true := by simpa using hk1
          clear hk1
          go_wp2_with fail
          go_ret
          exact ⟨by rw [HRF.out] <;> rfl, HB.out⟩
        · have HRF := Lib.hid (show rightF ⟨k, n, s, r, nd, p, q, o, d, pa, st, hw, dc, x⟩ = (x == 0) by
            rw [Bool.eq_iff_iff, HRI.out, beq_iff_eq]
            exact ⟨fun h => h.2.2.resolve_left hk1, fun h => ⟨HH.out, rfl, .inr h⟩⟩)
          have d1 : (k == 1) = false := by simpa using hk1
          have he' : ((x : Int) == 0) = (x == 0) := by
            rw [Bool.eq_iff_iff, beq_iff_eq, beq_iff_eq]; omega
          clear hk1
          go_wp2_with fail
          refine (HRAW.out _).mono ?_
          rintro e w4 ⟨rfl, hb⟩
          have B4 := Lib.hid (HB.out.trans (hb.mono HB.out.size))
          clear hb
          go_wp2_with fail
          go_ret
          exact ⟨by rw [HRF.out] <;> rfl, B4.out⟩
set_option maxRecDepth 20000 in
set_option maxHeartbeats 8000000 in
theorem refright14_g3 (f : Fct) (hx : f.x < 18446744073709551616) (hg : ¬ f.k = 1 ∧ ¬ f.k = 2 ∧ ¬ f.k = 3 ∧ ¬ f.k = 4 ∧ ¬ f.k = 5) (w : World) :
    Calls Tryz.prog 8 #[fctV f] w fun e w' => e = .returned (.bool (rightF f)) ∧ Below w.heap.size w w' := by
  have HRI := Lib.hid (rr_iff f)
  have HNU := Lib.hid (fun w' => numbers_any f w')
  have hlen := Lib.hid (show f.l.length = 13 from rfl)
  obtain ⟨k, n, s, r, nd, p, q, o, d, pa, st, hw, dc, x⟩ := f
  simp only at hx HRI hg
  have HGR := Lib.hid hg
  clear hg
  have HA := Lib.hid (fun w' => refright_any n s w')
  have HC := Lib.hid (fun w' => rright_any n s o d x hx w')
  have HST := Lib.hid (fun w' => refstate_any st hw w')
  have HRAW := Lib.hid (fun w' => raw_any x w')
  have HKI := Lib.hid (show hidOk ⟨k, n, s, r, nd, p, q, o, d, pa, st, hw, dc, x⟩ ↔ ∀ j : Nat, j < 13 → 0 < j → (Fct.l ⟨k, n, s, r, nd, p, q, o, d, pa, st, hw, dc, x⟩).getD j 0 = 0 ∨ (namesF k).contains (j : Int) = true from Iff.rfl)
  unfold actV at HA
  unfold fctV fctA at HNU
  simp only at HNU
  generalize hl : Fct.l ⟨k, n, s, r, nd, p, q, o, d, pa, st, hw, dc, x⟩ = l at *
  change RowKit.Hid (∀ w' : World, Calls Tryz.prog 26 #[.agg #[.int .i64 n, .int .i64 s]] w' fun e w'' => e = .returned (.bool (actB n s)) ∧ Below w'.heap.size w' w'') at HA
  clear hx hl
  unfold fctV fctA
  simp only
  have B := Lib.hid (below_alloc1 w (.cells #[.int .i64 k, .int .i64 n, .int .i64 s, .int .i64 r, .int .i64 nd, .int .i64 p, .int .i64 q, .int .i64 o, .int .i64 d, .int .i64 pa, .int .i64 st, .int .i64 hw, .int .i64 dc, .float .f64 x] 28))
  have N := Lib.hid (Blk.new w 28 #[.int .i64 k, .int .i64 n, .int .i64 s, .int .i64 r, .int .i64 nd, .int .i64 p, .int .i64 q, .int .i64 o, .int .i64 d, .int .i64 pa, .int .i64 st, .int .i64 hw, .int .i64 dc, .float .f64 x])
  have n0 := (N.out.cell 0).trans rfl
  have n1 := (N.out.cell 1).trans rfl
  have n2 := (N.out.cell 2).trans rfl
  have n3 := (N.out.cell 3).trans rfl
  have n4 := (N.out.cell 4).trans rfl
  have n5 := (N.out.cell 5).trans rfl
  have n6 := (N.out.cell 6).trans rfl
  have n7 := (N.out.cell 7).trans rfl
  have n8 := (N.out.cell 8).trans rfl
  have n9 := (N.out.cell 9).trans rfl
  have n10 := (N.out.cell 10).trans rfl
  have n11 := (N.out.cell 11).trans rfl
  have n12 := (N.out.cell 12).trans rfl
  have n13 := (N.out.cell 13).trans rfl
  go_enter Tryz.func8, Tryz.ntmps8
  go_wp2_with fail
  go_upto_region 2 with (go_at_call 26; refine (HA.out _).mono ?_; rintro e w' ⟨rfl, hb⟩; have B' := Lib.hid (B.out.trans (hb.mono B.out.size)); have N' := Lib.hid (N.out.below hb N.out.lt); clear hb B N n0 n1 n2 n3 n4 n5 n6 n7 n8 n9 n10 n11 n12 n13; have n0 := (N'.out.cell 0).trans rfl; have n1 := (N'.out.cell 1).trans rfl; have n2 := (N'.out.cell 2).trans rfl; have n3 := (N'.out.cell 3).trans rfl; have n4 := (N'.out.cell 4).trans rfl; have n5 := (N'.out.cell 5).trans rfl; have n6 := (N'.out.cell 6).trans rfl; have n7 := (N'.out.cell 7).trans rfl; have n8 := (N'.out.cell 8).trans rfl; have n9 := (N'.out.cell 9).trans rfl; have n10 := (N'.out.cell 10).trans rfl; have n11 := (N'.out.cell 11).trans rfl; have n12 := (N'.out.cell 12).trans rfl; have n13 := (N'.out.cell 13).trans rfl; have B := Lib.hid B'.out; have N := Lib.hid N'.out; clear B' N')
  go_cut [4] (fun c wx => c = .bool (inR r 0 5) ∧ w' = wx)
  case first =>
    have HR := Lib.hid (show inR r 0 5 = (decide (0 ≤ r) && decide (r ≤ 5)) from rfl)
    cases h1 : decide (0 ≤ r)
    all_goals
      rw [h1] at HR
      go_wp2_with fail
      go_meet
      exact ⟨by rw [HR.out] <;> rfl, rfl⟩
  obtain ⟨rfl, rfl⟩ := hcut
  go_upto_region 3 with fail
  go_cut [5] (fun c wx => c = .bool (inR p 0 7) ∧ w' = wx)
  case first =>
    have HR := Lib.hid (show inR p 0 7 = (decide (0 ≤ p) && decide (p ≤ 7)) from rfl)
    cases h1 : decide (0 ≤ p)
    all_goals
      rw [h1] at HR
      go_wp2_with fail
      go_meet
      exact ⟨by rw [HR.out] <;> rfl, rfl⟩
  obtain ⟨rfl, rfl⟩ := hcut
  go_upto_region 4 with fail
  go_cut [6] (fun c wx => c = .bool (inR q 1 2) ∧ w' = wx)
  case first =>
    have HR := Lib.hid (show inR q 1 2 = ((q == 1) || (q == 2)) from inR12 q)
    cases h1 : (q == 1)
    all_goals
      rw [h1] at HR
      go_wp2_with fail
      go_meet
      exact ⟨by rw [HR.out] <;> rfl, rfl⟩
  obtain ⟨rfl, rfl⟩ := hcut
  go_upto_region 5 with fail
  have N5 := Lib.hid (N.out.alloc (.cells #[] 3))
  have B5 := Lib.hid (below_alloc B.out (.cells #[] 3))
  clear n0 n1 n2 n3 n4 n5 n6 n7 n8 n9 n10 n11 n12 n13
  have z0 := (N5.out.cell 0).trans rfl
  go_upto_block 0 with fail
  go_cut [3, 4, 5, 6, 7, 8] from 41 to 146 (fun (_ _ _ _ nm ok : Value) (wx : World) => ok = .bool (plainO ⟨k, n, s, r, nd, p, q, o, d, pa, st, hw, dc, x⟩) ∧ (∃ g : Nat, nm = .slice (some ⟨g, 0, none⟩) (namesF k).length (namesF k).length ∧ Blk wx g 3 (ivL (namesF k))) ∧ Below w.heap.size w wx ∧ Blk wx w.heap.size 28 #[.int .i64 k, .int .i64 n, .int .i64 s, .int .i64 r, .int .i64 nd, .int .i64 p, .int .i64 q, .int .i64 o, .int .i64 d, .int .i64 pa, .int .i64 st, .int .i64 hw, .int .i64 dc, .float .f64 x])
  case first =>
    by_cases hk6 : k = 6
    · subst hk6
      have HOK := Lib.hid (show plainO ⟨6, n, s, r, nd, p, q, o, d, pa, st, hw, dc, x⟩ = (actB n s && inR p 0 7 && inR q 1 2) from rfl)
      have BK := Lib.hid (below_alloc B5.out (.cells #[.int .i64 1, .int .i64 2, .int .i64 5, .int .i64 6] 3))
      have NK := Lib.hid (N5.out.alloc (.cells #[.int .i64 1, .int .i64 2, .int .i64 5, .int .i64 6] 3))
      have MK := Lib.hid (show Blk ((w'.alloc (.cells #[] 3)).alloc (.cells #[.int .i64 1, .int .i64 2, .int .i64 5, .int .i64 6] 3)) (w'.heap.size + 1) 3 (ivL [1, 2, 5, 6]) from by
        have := Blk.new (w'.alloc (.cells #[] 3)) 3 (ivL [1, 2, 5, 6])
        rwa [World.size_alloc] at this)
      have m0 := (NK.out.cell 0).trans rfl
      have m1 := (NK.out.cell 1).trans rfl
      have m2 := (NK.out.cell 2).trans rfl
      have m3 := (NK.out.cell 3).trans rfl
      have m4 := (NK.out.cell 4).trans rfl
      have m5 := (NK.out.cell 5).trans rfl
      have m6 := (NK.out.cell 6).trans rfl
      have m7 := (NK.out.cell 7).trans rfl
      have m8 := (NK.out.cell 8).trans rfl
      have m9 := (NK.out.cell 9).trans rfl
      have m10 := (NK.out.cell 10).trans rfl
      have m11 := (NK.out.cell 11).trans rfl
      have m12 := (NK.out.cell 12).trans rfl
      have m13 := (NK.out.cell 13).trans rfl
      cases h3 : actB n s
      · rw [h3] at HOK
        go_wp2_with fail
        go_meet
        exact ⟨by rw [HOK.out] <;> rfl, ⟨_, rfl, MK.out⟩, BK.out, NK.out⟩
      · rw [h3] at HOK
        cases h2 : inR p 0 7
        · rw [h2] at HOK
          go_wp2_with fail
          go_meet
          exact ⟨by rw [HOK.out] <;> rfl, ⟨_, rfl, MK.out⟩, BK.out, NK.out⟩
        · rw [h2] at HOK
          go_wp2_with fail
          go_meet
          exact ⟨by rw [HOK.out] <;> rfl, ⟨_, rfl, MK.out⟩, BK.out, NK.out⟩
    by_cases hk7 : k = 7
    · subst hk7
      have HOK := Lib.hid (show plainO ⟨7, n, s, r, nd, p, q, o, d, pa, st, hw, dc, x⟩ = (inR p 0 7 && inR r 0 5) from rfl)
      have BK := Lib.hid (below_alloc B5.out (.cells #[.int .i64 3, .int .i64 5] 3))
      have NK := Lib.hid (N5.out.alloc (.cells #[.int .i64 3, .int .i64 5] 3))
      have MK := Lib.hid (show Blk ((w'.alloc (.cells #[] 3)).alloc (.cells #[.int .i64 3, .int .i64 5] 3)) (w'.heap.size + 1) 3 (ivL [3, 5]) from by
        have := Blk.new (w'.alloc (.cells #[] 3)) 3 (ivL [3, 5])
        rwa [World.size_alloc] at this)
      have m0 := (NK.out.cell 0).trans rfl
      have m1 := (NK.out.cell 1).trans rfl
      have m2 := (NK.out.cell 2).trans rfl
      have m3 := (NK.out.cell 3).trans rfl
      have m4 := (NK.out.cell 4).trans rfl
      have m5 := (NK.out.cell 5).trans rfl
      have m6 := (NK.out.cell 6).trans rfl
      have m7 := (NK.out.cell 7).trans rfl
      have m8 := (NK.out.cell 8).trans rfl
      have m9 := (NK.out.cell 9).trans rfl
      have m10 := (NK.out.cell 10).trans rfl
      have m11 := (NK.out.cell 11).trans rfl
      have m12 := (NK.out.cell 12).trans rfl
      have m13 := (NK.out.cell 13).trans rfl
      cases h2 : inR p 0 7
      · rw [h2] at HOK
        go_wp2_with fail
        go_meet
        exact ⟨by rw [HOK.out] <;> rfl, ⟨_, rfl, MK.out⟩, BK.out, NK.out⟩
      · rw [h2] at HOK
        go_wp2_with fail
        go_meet
        exact ⟨by rw [HOK.out] <;> rfl, ⟨_, rfl, MK.out⟩, BK.out, NK.out⟩
    by_cases hk8 : k = 8
    · subst hk8
      have HOK := Lib.hid (show plainO ⟨8, n, s, r, nd, p, q, o, d, pa, st, hw, dc, x⟩ = (inR p 0 7 && stB st hw) from rfl)
      have BK := Lib.hid (below_alloc B5.out (.cells #[.int .i64 5, .int .i64 10, .int .i64 11] 3))
      have NK := Lib.hid (N5.out.alloc (.cells #[.int .i64 5, .int .i64 10, .int .i64 11] 3))
      have MK := Lib.hid (show Blk ((w'.alloc (.cells #[] 3)).alloc (.cells #[.int .i64 5, .int .i64 10, .int .i64 11] 3)) (w'.heap.size + 1) 3 (ivL [5, 10, 11]) from by
        have := Blk.new (w'.alloc (.cells #[] 3)) 3 (ivL [5, 10, 11])
        rwa [World.size_alloc] at this)
      have m0 := (NK.out.cell 0).trans rfl
      have m1 := (NK.out.cell 1).trans rfl
      have m2 := (NK.out.cell 2).trans rfl
      have m3 := (NK.out.cell 3).trans rfl
      have m4 := (NK.out.cell 4).trans rfl
      have m5 := (NK.out.cell 5).trans rfl
      have m6 := (NK.out.cell 6).trans rfl
      have m7 := (NK.out.cell 7).trans rfl
      have m8 := (NK.out.cell 8).trans rfl
      have m9 := (NK.out.cell 9).trans rfl
      have m10 := (NK.out.cell 10).trans rfl
      have m11 := (NK.out.cell 11).trans rfl
      have m12 := (NK.out.cell 12).trans rfl
      have m13 := (NK.out.cell 13).trans rfl
      cases h2 : inR p 0 7
      · rw [h2] at HOK
        go_wp2_with fail
        go_meet
        exact ⟨by rw [HOK.out] <;> rfl, ⟨_, rfl, MK.out⟩, BK.out, NK.out⟩
      · rw [h2] at HOK
        go_wp2_with fail
        refine (HST.out _).mono ?_
        rintro e w2 ⟨rfl, hb⟩
        have BL := Lib.hid (BK.out.trans (hb.mono BK.out.size))
        have NL := Lib.hid (NK.out.below hb NK.out.lt)
        have ML := Lib.hid (MK.out.below hb MK.out.lt)
        clear hb m0 m1 m2 m3 m4 m5 m6 m7 m8 m9 m10 m11 m12 m13
        have m0 := (NL.out.cell 0).trans rfl
        have m1 := (NL.out.cell 1).trans rfl
        have m2 := (NL.out.cell 2).trans rfl
        have m3 := (NL.out.cell 3).trans rfl
        have m4 := (NL.out.cell 4).trans rfl
        have m5 := (NL.out.cell 5).trans rfl
        have m6 := (NL.out.cell 6).trans rfl
        have m7 := (NL.out.cell 7).trans rfl
        have m8 := (NL.out.cell 8).trans rfl
        have m9 := (NL.out.cell 9).trans rfl
        have m10 := (NL.out.cell 10).trans rfl
        have m11 := (NL.out.cell 11).trans rfl
        have m12 := (NL.out.cell 12).trans rfl
        have m13 := (NL.out.cell 13).trans rfl
        go_wp2_with fail
        go_meet
        exact ⟨by rw [HOK.out] <;> rfl, ⟨_, rfl, ML.out⟩, BL.out, NL.out⟩
    obtain ⟨hk1, hk2, hk3, hk4, hk5⟩ := HGR.out
    have HOK := Lib.hid (show plainO ⟨k, n, s, r, nd, p, q, o, d, pa, st, hw, dc, x⟩ = false by unfold plainO; simp only [hk1, hk2, hk3, hk4, hk5, hk6, hk7, hk8, if_false])
    have HNM : namesF k = [] := by unfold namesF; simp only [hk1, hk2, hk3, hk4, hk5, hk6, hk7, hk8, if_false]
    have HNN := Lib.hid HNM
    have M5 := Lib.hid (show Blk (w'.alloc (.cells #[] 3)) w'.heap.size 3 (ivL []) from Blk.new w' 3 (ivL []))
    have d1 : (k == 1) = false := by simpa using hk1
    have d2 : (k == 2) = false := by simpa using hk2
    have d3 : (k == 3) = false := by simpa using hk3
    have d4 : (k == 4) = false := by simpa using hk4
    have d5 : (k == 5) = false := by simpa using hk5
    have d6 : (k == 6) = false := by simpa using hk6
    have d7 : (k == 7) = false := by simpa using hk7
    have d8 : (k == 8) = false := by simpa using hk8
    clear hk1 hk2 hk3 hk4 hk5 hk6 hk7 hk8 HNM
    go_wp2_with fail
    go_meet
    rw [HNN.out]
    exact ⟨by rw [HOK.out], ⟨_, rfl, M5.out⟩, B5.out, N5.out⟩
  obtain ⟨rfl, ⟨g, rfl, hM⟩, hB, hN⟩ := hcut
  have HM := Lib.hid hM
  have B2 := Lib.hid hB
  have N2 := Lib.hid hN
  clear hM hB hN B N B5 N5 z0 HA HC HST
  have n0 := (N2.out.cell 0).trans rfl
  have n1 := (N2.out.cell 1).trans rfl
  have n2 := (N2.out.cell 2).trans rfl
  have n3 := (N2.out.cell 3).trans rfl
  have n4 := (N2.out.cell 4).trans rfl
  have n5 := (N2.out.cell 5).trans rfl
  have n6 := (N2.out.cell 6).trans rfl
  have n7 := (N2.out.cell 7).trans rfl
  have n8 := (N2.out.cell 8).trans rfl
  have n9 := (N2.out.cell 9).trans rfl
  have n10 := (N2.out.cell 10).trans rfl
  have n11 := (N2.out.cell 11).trans rfl
  have n12 := (N2.out.cell 12).trans rfl
  have n13 := (N2.out.cell 13).trans rfl
  go_wp2_with fail
  refine (HNU.out _).mono ?_
  rintro e w3 ⟨g2, rfl, hL, hb⟩
  have HL := Lib.hid hL
  have B3 := Lib.hid (B2.out.trans (hb.mono B2.out.size))
  have N3 := Lib.hid (N2.out.below hb N2.out.lt)
  have HM3 := Lib.hid (HM.out.below hb HM.out.lt)
  clear hL hb N2 B2 HM HNU n0 n1 n2 n3 n4 n5 n6 n7 n8 n9 n10 n11 n12 n13
  generalize hok : plainO ⟨k, n, s, r, nd, p, q, o, d, pa, st, hw, dc, x⟩ = ok at *
  clear hok
  have hnl : (namesF k).length ≤ 1000 := by
    unfold namesF
    repeat' split
    all_goals (simp only [List.length_cons, List.length_nil]; omega)
  have HNL := Lib.hid hnl
  clear hnl
  generalize namesF k = nm at *
  go_wp2_with fail
  go_loopw [150] (fun i wr => ∃ j : Nat, j ≤ 13 ∧ i = .int .i64 j ∧ (∀ i : Nat, i < j → 0 < i → l.getD i 0 = 0 ∨ nm.contains (i : Int) = true) ∧ Below w3.heap.size w3 wr) (fun i _ => 13 - (intOf i).toNat)
  case atStart => exact ⟨0, by omega, rfl, fun i h => by omega, Below.refl _ _⟩
  case round =>
    obtain ⟨j, hj, rfl, hall, hbw⟩ := hrel
    have HALL := Lib.hid hall
    clear hall
    by_cases hlt : j < 13
    · have hjl : j < l.length := by rw [hlen.out]; exact hlt
      have hc : wr.cell? ⟨g2, j, none⟩ = some (.int .i64 l[j]) := by
        rw [(HL.out.below hbw HL.out.lt).cell j]; exact ivL_get l j hjl
      have HGD := Lib.hid (show l.getD j 0 = l[j] by rw [List.getD_eq_getElem?_getD, List.getElem?_eq_getElem hjl]; rfl)
      have HIN := Lib.hid (fun w' hb => in_any nm (j : Int) g w' HNL.out hb)
      by_cases h0 : j = 0
      · subst h0
        generalize l[0] = y at *
        have hd : decide ((0 : Int) < 0) = false := rfl
        go_wp2_with fail
        go_roundw
        case rel => exact ⟨1, by omega, by go_num, fun i h hp => by omega, hbw⟩
        case measure => simp [intOf]
      · have hd : decide ((0 : Int) < (j : Int)) = true := by simp; omega
        generalize l[j] = y at *
        by_cases hy : y = 0
        · have hd2 : (y == 0) = true := by simpa using hy
          have hd3 : (y != 0) = false := by simpa using hy
          go_wp2_with fail
          go_roundw
          case rel => exact ⟨j + 1, by omega, by go_num, fun i h hp => by
            by_cases hi : i = j
            · subst hi; exact .inl (HGD.out.trans hy)
            · exact HALL.out i (by omega) hp, hbw⟩
          case measure => simp [intOf]; omega
        · have hd2 : (y == 0) = false := by simpa using hy
          have hd3 : (y != 0) = true := by simpa using hy
          cases hcn : nm.contains (j : Int)
          · rw [hcn] at HIN
            have HRF := Lib.hid (show rightF ⟨k, n, s, r, nd, p, q, o, d, pa, st, hw, dc, x⟩ = false by
              rw [Bool.eq_false_iff]
              intro h9
              rcases (HKI.out.1 (HRI.out.1 h9).1) j hlt (by omega) with h8 | h8
              · exact hy (HGD.out.symm.trans h8)
              · rw [hcn] at h8; cases h8)
            clear hcn hy
            go_wp2_with fail
            refine (HIN.out _ (HM3.out.below hbw HM3.out.lt)).mono ?_
            rintro e w4 ⟨rfl, hb⟩
            have B4 := Lib.hid (B3.out.trans ((hbw.trans (hb.mono hbw.size)).mono B3.out.size))
            clear hb
            go_wp2_with fail
            go_ret
            exact ⟨by rw [HRF.out] <;> rfl, B4.out⟩
          · rw [hcn] at HIN
            have HCN := Lib.hid hcn
            clear hcn hy
            go_wp2_with fail
            refine (HIN.out _ (HM3.out.below hbw HM3.out.lt)).mono ?_
            rintro e w4 ⟨rfl, hb⟩
            have B4 := Lib.hid (hbw.trans (hb.mono hbw.size))
            clear hb
            go_wp2_with fail
            go_roundw
            case rel => exact ⟨j + 1, by omega, by go_num, fun i h hp => by
              by_cases hi : i = j
              · subst hi; exact .inr HCN.out
              · exact HALL.out i (by omega) hp, B4.out⟩
            case measure => simp [intOf]; omega
    · obtain rfl : j = 13 := by omega
      have HH := Lib.hid (HKI.out.2 HALL.out)
      have HB := Lib.hid (B3.out.trans (hbw.mono B3.out.size))
      have NR := Lib.hid (N3.out.below hbw N3.out.lt)
      have n0 := (NR.out.cell 0).trans rfl
      have n13 := (NR.out.cell 13).trans rfl
      clear HALL hlt
      cases ok
      · have HRF := Lib.hid (show rightF ⟨k, n, s, r, nd, p, q, o, d, pa, st, hw, dc, x⟩ = false by
          rw [Bool.eq_false_iff]
          intro h9
          exact absurd (HRI.out.1 h9).2.1 (by decide))
        go_wp2_with fail
        go_ret
        exact ⟨by rw [HRF.out] <;> rfl, HB.out⟩
      · by_cases hk1 : k = 1
        · have HRF := Lib.hid (show rightF ⟨k, n, s, r, nd, p, q, o, d, pa, st, hw, dc, x⟩ = true from HRI.out.2 ⟨HH.out, rfl, .inl hk1⟩)
          have d1 : (k == 1) = true := by simpa using hk1
          clear hk1
          go_wp2_with fail
          go_ret
          exact ⟨by rw [HRF.out] <;> rfl, HB.out⟩
        · have HRF := Lib.hid (show rightF ⟨k, n, s, r, nd, p, q, o, d, pa, st, hw, dc, x⟩ = (x == 0) by
            rw [Bool.eq_iff_iff, HRI.out, beq_iff_eq]
            exact ⟨fun h => h.2.2.resolve_left hk1, fun h => ⟨HH.out, rfl, .inr h⟩⟩)
          have d1 : (k == 1) = false := by simpa using hk1
          have he' : ((x : Int) == 0) = (x == 0) := by
            rw [Bool.eq_iff_iff, beq_iff_eq, beq_iff_eq]; omega
          clear hk1
          go_wp2_with fail
          refine (HRAW.out _).mono ?_
          rintro e w4 ⟨rfl, hb⟩
          have B4 := Lib.hid (HB.out.trans (hb.mono HB.out.size))
          clear hb
          go_wp2_with fail
          go_ret
          exact ⟨by rw [HRF.out] <;> rfl, B4.out⟩
theorem refright14_any (f : Fct) (hx : f.x < 18446744073709551616) (w : World) :
    Calls Tryz.prog 8 #[fctV f] w fun e w' => e = .returned (.bool (rightF f)) ∧ Below w.heap.size w w' := by
  by_cases h1 : f.k = 2 ∨ f.k = 5
  · exact refright14_g1 f hx h1 w
  by_cases h2 : f.k = 1 ∨ f.k = 3 ∨ f.k = 4
  · exact refright14_g2 f hx h2 w
  exact refright14_g3 f hx (by omega) w
end Go.Proofs.YtjklcbdlfmmllaaGreatDoor
