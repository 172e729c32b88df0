/-
  TapeW3: the walks of package tape: Append, Sync, Swap, Cut, Crash, Arm, New.
-/
import Derived.Test.YtehoenojjdgphaaDoorTapeW2
namespace Go.Proofs.YtehoenojjdgphaaDoor
open Go.RowKit

theorem stepE_on {s : TSt} (h : s.step.off = true) : s.stepE = 7 := by unfold TSt.stepE; rw [h]; rfl
theorem stepE_off {s : TSt} (h : s.step.off = false) : s.stepE = 0 := by unfold TSt.stepE; rw [h]; rfl
theorem st_with_l (s : TSt) (v : Value) (d : List UInt8) (v' : Value) : ((s.step).cells v).setIfInBounds 3 v' = ({ s.step with l := d } : TSt).cells v' := rfl
theorem st_with_sure (s : TSt) (v : Value) (n : Nat) : ((s.step).cells v).setIfInBounds 4 (.int .i64 (n : Int)) = ({ s.step with sure := n } : TSt).cells v := rfl
set_option maxRecDepth 20000 in
set_option maxHeartbeats 1000000 in
theorem append_any (w : World) (E : Nat → Addr) (B a : Nat) (s : TSt) (vb : Value) (d : List UInt8) (he : ErrsOn [5, 6] w E) (ht : Tp w B a s) (hw : B ≤ w.heap.size) (hv : Byt w vb d) (hvo : ∀ w', Only a w w' → Byt w' vb d) (hd : d.length ≤ 1099511627776) :
    Calls Tryd.prog 9 #[.pointer (some ⟨a, 0, none⟩), vb] w (TapeR w B a (s.append d) (errV E (s.appendE d))) := by
  have HT := Lib.hid ht
  obtain ⟨v, hB, hb, ho, hs⟩ := ht
  have HB := Lib.hid hb
  have HS := Lib.hid hs
  have HO := Lib.hid ho
  have HV := Lib.hid hv
  have HVO := Lib.hid hvo
  have e5 := he.cell 5 rfl
  have he6 := errs_sub he (T := [6]) rfl
  simp only [errVar, List.getD_cons_zero, List.getD_cons_succ, errAt] at e5
  obtain ⟨c0, c1, c2, c3, c4, c5⟩ := hb.cells
  obtain ⟨p, cap, rfl, h1, h2, h3⟩ := hv
  obtain ⟨i0, hi, hz0, hz1, hz2⟩ := info_parts byt8Info
  obtain ⟨q, c, rfl, g1, g2, g3⟩ := owns_rd ho
  unfold maxLen at h2 g2
  have hroom := hs.room
  have hlen := hs.len
  clear hb ho he hvo h3 g3 hs
  by_cases hf : s.room - (s.l.length : Int) < (d.length : Int)
  · have hr := Lib.hid (show s.append d = s ∧ s.appendE d = 6 by
      unfold TSt.append TSt.appendE TSt.full; rw [if_pos (by simpa using hf), if_pos (by simpa using hf)]; exact ⟨rfl, rfl⟩)
    have d1 := decide_eq_true hf
    clear hf
    go_enter Tryd.func9, Tryd.ntmps9
    go_wp2_with fail
    go_quiet (fail)
    go_wp2_with fail
    go_ret
    obtain ⟨v0, a1, a2, a3, a4⟩ := HT.out
    exact ⟨by rw [hr.out.2]; rfl, by rw [hr.out.1]; exact ⟨v0, a1, a2, a3, a4⟩, (Keeps.refl _ _ _).drewN _⟩
  · have hfull : s.full d = false := by unfold TSt.full; simpa using hf
    have d1 := decide_eq_false hf
    clear hf
    go_enter Tryd.func9, Tryd.ntmps9
    go_wp2_with fail
    go_quiet (fail)
    go_wp2_with fail
    refine (step_any (w.drewN nq) E a _ s HS.out (he6.below (below_drewN _ _)) HB.out).mono ?_
    rintro e w1 ⟨rfl, hb1, ho1⟩
    have k1 : Only a w w1 := (Only.refl a w).drewN nq |>.trans ho1
    have HB1 := Lib.hid hb1
    have K1 := Lib.hid (keeps_only hB HB.out k1)
    have HO1 := Lib.hid (k1.owns HB.out HO.out tb_ne)
    have HV1 := HVO.out w1 k1
    obtain ⟨p', cap', hp', _, _, hR⟩ := HV1
    cases hp'
    have HR := Lib.hid hR
    have hs1 : B ≤ w1.heap.size := Nat.le_trans hw (by rw [k1.size]; exact Nat.le_refl _)
    clear c0 c1 c2 c3 c4 c5 ho1 k1 hR e5 he6
    cases hoff : s.step.off
    · have hr := Lib.hid (show s.append d = { s.step with l := s.l ++ d } ∧ s.appendE d = 0 by
        unfold TSt.append TSt.appendE; rw [hfull, hoff, stepE_off hoff]; exact ⟨rfl, rfl⟩)
      rw [stepE_off hoff, errV_nil]
      obtain ⟨c0, c1, c2, c3, c4, c5⟩ := hb1.cells
      clear hb1 hoff hfull c0 c1 c2 c4 c5
      go_wp2_with (at_builtin; refine wpList_app (.tmp 31) (.tmp 32) 22 rfl rfl B 5 i0 (.int .u8 0) 1 1 Tryd.underlying22 hi hz0 hz1 hz2 rfl (by decide) _ _ _ rfl HO1.out _ _ _ (bvs d) rfl ?b0 HR.out bvs_one ?b2 ?b3 hs1 ?_)
      case b0 => rw [bvs_len]; omega
      case b2 => unfold maxLen; omega
      case b3 => omega
      intro v2 w2 ho2 hg2
      have hb2 := grown_blk hg2 HO1.out HB1.out tb_ne
      have K2 := Lib.hid (K1.out.grown hs1 HO1.out (Nat.le_refl _) rfl hg2)
      have HB2 := Lib.hid hb2
      have c3' := (hb2.cell 3).trans rfl
      have f3 := hb2.frozen 3
      obtain ⟨p2, cc2, rfl, _, _, _⟩ := owns_rd ho2
      have HO2 := Lib.hid ho2
      clear hb2 hg2 ho2 c3
      go_wp2_with fail
      go_ret
      have k3 : Only a w2 (w2.setCell ⟨a, 3, none⟩ (.slice p2 (s.l.length + d.length) cc2)) := (Only.refl _ _).set_ 3 _
      refine ⟨by rw [hr.out.2]; rfl, ⟨.slice p2 (s.l.length + d.length) cc2, hB, ?_, ?_, HS.out.append d⟩, K2.out.only hB HB2.out rfl k3⟩
      · rw [hr.out.1]; exact HB2.out.set_ 3 _
      · rw [hr.out.1]
        show World.ownsRow _ B _ 1 _ (s.l ++ d).length (bvs (s.l ++ d))
        rw [bvs_app, List.length_append]
        exact k3.owns HB2.out HO2.out tb_ne
    · have hr := Lib.hid (show s.append d = s.step ∧ s.appendE d = 7 by
        unfold TSt.append TSt.appendE; rw [hfull, hoff, stepE_on hoff]; exact ⟨rfl, rfl⟩)
      rw [stepE_on hoff, errV_suc]
      clear hb1 hoff hfull
      go_wp2_with fail
      go_ret
      exact ⟨by rw [hr.out.2]; rfl, ⟨_, hB, by rw [hr.out.1]; exact HB1.out, by rw [hr.out.1, TSt.step_l]; exact HO1.out, HS.out.append d⟩, K1.out⟩

/-! ### Sync -/
set_option maxRecDepth 20000 in
set_option maxHeartbeats 1000000 in
theorem sync_any (w : World) (E : Nat → Addr) (B a : Nat) (s : TSt) (he : ErrsOn [6] w E) (ht : Tp w B a s) :
    Calls Tryd.prog 10 #[.pointer (some ⟨a, 0, none⟩)] w (TapeR w B a s.sync (errV E s.stepE)) := by
  obtain ⟨v, hB, hb, ho, hs⟩ := ht
  have HB := Lib.hid hb
  have HS := Lib.hid hs
  have HO := Lib.hid ho
  obtain ⟨q, c, rfl, _, _, _⟩ := owns_rd ho
  clear ho hs
  go_enter Tryd.func10, Tryd.ntmps10
  have hne := hb.cell 0
  clear hb hne
  go_wp2_with fail
  refine (step_any w E a _ s HS.out he HB.out).mono ?_
  rintro e w1 ⟨rfl, hb1, ho1⟩
  have HB1 := Lib.hid hb1
  have K1 := Lib.hid (keeps_only hB HB.out ho1)
  have HO1 := Lib.hid (ho1.owns HB.out HO.out tb_ne)
  clear ho1 he
  cases hoff : s.step.off
  · have hr := Lib.hid (show s.sync = { s.step with sure := s.l.length } by unfold TSt.sync; rw [hoff]; rfl)
    have HE := Lib.hid (stepE_off hoff)
    rw [stepE_off hoff, errV_nil]
    obtain ⟨c0, c1, c2, c3, c4, c5⟩ := hb1.cells
    have f4 := hb1.frozen 4
    clear hb1 hoff c0 c1 c2 c5
    go_wp2_with fail
    go_ret
    have k3 : Only a w1 (w1.setCell ⟨a, 4, none⟩ (.int .i64 (s.l.length : Int))) := (Only.refl _ _).set_ 4 _
    refine ⟨by rw [HE.out]; rfl, ⟨.slice q s.l.length c, hB, ?_, ?_, HS.out.sync⟩, K1.out.only hB HB1.out rfl k3⟩
    · rw [hr.out]; exact HB1.out.set_ 4 _
    · rw [hr.out]
      show World.ownsRow _ B _ 1 _ s.step.l.length (bvs s.step.l)
      rw [s.step_l]
      exact k3.owns HB1.out HO1.out tb_ne
  · have hr := Lib.hid (show s.sync = s.step by unfold TSt.sync; rw [hoff]; rfl)
    have HE := Lib.hid (stepE_on hoff)
    rw [stepE_on hoff, errV_suc]
    clear hb1 hoff
    go_wp2_with fail
    go_ret
    exact ⟨by rw [HE.out]; rfl, ⟨_, hB, by rw [hr.out]; exact HB1.out, by rw [hr.out, TSt.step_l]; exact HO1.out, HS.out.sync⟩, K1.out⟩

/-! ### set, Swap, Cut -/
set_option maxRecDepth 20000 in
set_option maxHeartbeats 1000000 in
theorem set_any (w : World) (E : Nat → Addr) (B a : Nat) (s : TSt) (vb : Value) (d : List UInt8) (he : ErrsOn [6] w E) (ht : Tp w B a s) (hw : B ≤ w.heap.size) (hv : Byt w vb d) (hvo : ∀ w', Only a w w' → Byt w' vb d) (hd : d.length ≤ 65536) :
    Calls Tryd.prog 26 #[.pointer (some ⟨a, 0, none⟩), vb] w (TapeR w B a (s.set d) (errV E s.stepE)) := by
  obtain ⟨v, hB, hb, ho, hs⟩ := ht
  have HB := Lib.hid hb
  have HS := Lib.hid hs
  have HO := Lib.hid ho
  obtain ⟨q, c, rfl, _, _, _⟩ := owns_rd ho
  obtain ⟨p, cap, rfl, _, _, _⟩ := hv
  have HVO := Lib.hid hvo
  clear ho hs hvo hb
  go_enter Tryd.func26, Tryd.ntmps26
  go_wp2_with fail
  refine (step_any w E a _ s HS.out he HB.out).mono ?_
  rintro e w1 ⟨rfl, hb1, ho1⟩
  have HB1 := Lib.hid hb1
  have K1 := Lib.hid (keeps_only hB HB.out ho1)
  have HO1 := Lib.hid (ho1.owns HB.out HO.out tb_ne)
  have HV1 := HVO.out w1 ho1
  have hs1 : B ≤ w1.heap.size := Nat.le_trans hw (by rw [ho1.size]; exact Nat.le_refl _)
  clear ho1 he
  cases hoff : s.step.off
  · have hr := Lib.hid (show s.set d = { s.step with l := d, sure := d.length } by unfold TSt.set; rw [hoff]; rfl)
    have HE := Lib.hid (stepE_off hoff)
    rw [stepE_off hoff, errV_nil]
    clear hb1 hoff
    go_wp2_with fail
    refine (clone_any _ d w1 (by omega) HV1).mono ?_
    rintro e w2 ⟨v2, rfl, ho2, hb2⟩
    have HO2 := Lib.hid (owns_lower ho2 hs1)
    have HB2 := Lib.hid (HB1.out.below hb2 HB1.out.lt)
    have K2 := Lib.hid (K1.out.call hs1 hb2)
    obtain ⟨p2, cc2, rfl, _, _, _⟩ := owns_rd ho2
    have c3 := (HB2.out.cell 3).trans rfl
    have c4 := (HB2.out.cell 4).trans rfl
    have f3 := HB2.out.frozen 3
    have f4 := HB2.out.frozen 4
    clear ho2 hb2 HV1
    go_wp2_with fail
    go_ret
    have k3 : Only a w2 ((w2.setCell ⟨a, 3, none⟩ (.slice p2 d.length cc2)).setCell ⟨a, 4, none⟩ (.int .i64 (d.length : Int))) := ((Only.refl _ _).set_ 3 _).set_ 4 _
    refine ⟨by rw [HE.out]; rfl, ⟨.slice p2 d.length cc2, hB, ?_, ?_, HS.out.set hd⟩, K2.out.only hB HB2.out rfl k3⟩
    · rw [hr.out]; exact (HB2.out.set_ 3 _).set_ 4 _
    · rw [hr.out]
      exact k3.owns HB2.out HO2.out tb_ne
  · have hr := Lib.hid (show s.set d = s.step by unfold TSt.set; rw [hoff]; rfl)
    have HE := Lib.hid (stepE_on hoff)
    rw [stepE_on hoff, errV_suc]
    clear hb1 hoff
    go_wp2_with fail
    go_ret
    exact ⟨by rw [HE.out]; rfl, ⟨_, hB, by rw [hr.out]; exact HB1.out, by rw [hr.out, TSt.step_l]; exact HO1.out, HS.out.set hd⟩, K1.out⟩
set_option maxRecDepth 20000 in
set_option maxHeartbeats 1000000 in
theorem swap_any (w : World) (E : Nat → Addr) (B a : Nat) (s : TSt) (vb : Value) (d : List UInt8) (he : ErrsOn [5, 6] w E) (ht : Tp w B a s) (hw : B ≤ w.heap.size) (hv : Byt w vb d) (hvo : ∀ w', Only a w w' → Byt w' vb d) :
    Calls Tryd.prog 14 #[.pointer (some ⟨a, 0, none⟩), vb] w (TapeR w B a (s.swap d) (errV E (s.swapE d))) := by
  have HT := Lib.hid ht
  obtain ⟨v, hB, hb, ho, hs⟩ := ht
  have e5 := he.cell 5 rfl
  have he6 := Lib.hid (errs_sub he (T := [6]) rfl)
  simp only [errVar, List.getD_cons_zero, List.getD_cons_succ, errAt] at e5
  obtain ⟨c0, c1, c2, c3, c4, c5⟩ := hb.cells
  have HV := Lib.hid hv
  have HVO := Lib.hid hvo
  obtain ⟨p, cap, rfl, _, h2, _⟩ := hv
  have hroom := hs.room
  unfold maxLen at h2
  clear hb ho hs hvo he c0 c1 c2 c3 c4
  by_cases hf : s.room < (d.length : Int)
  · have hr := Lib.hid (show s.swap d = s ∧ s.swapE d = 6 by unfold TSt.swap TSt.swapE; rw [if_pos hf, if_pos hf]; exact ⟨rfl, rfl⟩)
    have d1 := decide_eq_true hf
    clear hf
    go_enter Tryd.func14, Tryd.ntmps14
    go_wp2_with fail
    go_ret
    obtain ⟨v0, a1, a2, a3, a4⟩ := HT.out
    exact ⟨by rw [hr.out.2]; rfl, by rw [hr.out.1]; exact ⟨v0, a1, a2, a3, a4⟩, Keeps.refl _ _ _⟩
  · have hr := Lib.hid (show s.swap d = s.set d ∧ s.swapE d = s.stepE by unfold TSt.swap TSt.swapE; rw [if_neg hf, if_neg hf]; exact ⟨rfl, rfl⟩)
    have d1 := decide_eq_false hf
    go_enter Tryd.func14, Tryd.ntmps14
    go_wp2_with fail
    refine (set_any w E B a s _ d he6.out HT.out hw HV.out HVO.out (by omega)).mono ?_
    rintro e w1 ⟨rfl, ht1, k1⟩
    go_wp2_with fail
    go_ret
    exact ⟨by rw [hr.out.2]; rfl, by rw [hr.out.1]; exact ht1, k1⟩
end Go.Proofs.YtehoenojjdgphaaDoor
