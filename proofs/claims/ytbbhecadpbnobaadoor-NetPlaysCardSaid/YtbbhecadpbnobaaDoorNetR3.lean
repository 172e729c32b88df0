/-
  NetR3: the walks of the document's net: Put, Copy, Cut.
-/
import Derived.Test.YtbbhecadpbnobaaDoorNetR2
namespace Go.Proofs.YtbbhecadpbnobaaDoor
open Go.RowKit
attribute [local go_sem] bs_toList bs_size
attribute [local irreducible] wpPhi wpPhiU

set_option maxRecDepth 20000 in
set_option maxHeartbeats 4000000 in
theorem rput_any (w : World) (m : Nat) (q : Option Nat) (R : List Nat) (st : NSt) (h : Mn w m q R st) (f t : Int) (d : List UInt8) (hle : st.ls.length ≤ 1000) (hlost : 0 ≤ st.lost ∧ st.lost ≤ 1000000) :
    Calls Tryd.prog 31 #[.pointer (some ⟨m, 0, none⟩), .agg #[.int .i64 f, .int .i64 t, .string (bs d)]] w (MOut m q R (st.put (f, t, d)) (.tuple #[.bool (st.putB (f, t, d)), .int .i64 (st.putE (f, t, d) : Int)]) w) := by
  have HM := Lib.hid h
  have hkx := below_alloc1 w (.cells #[.int .i64 f, .int .i64 t, .string (bs d)] 62)
  have hbx := Blk.new w 62 #[.int .i64 f, .int .i64 t, .string (bs d)]
  have x0 := (hbx.cell 0).trans rfl
  have x1 := (hbx.cell 1).trans rfl
  have x2 := (hbx.cell 2).trans rfl
  have HX := Lib.hid hbx
  have HKX := Lib.hid hkx
  have HMX := Lib.hid (h.below hkx)
  have HH := Lib.hid (fun i => rhas_any _ m q R st HMX.out i)
  clear h hbx hkx
  cases d1 : st.has f with
  | false =>
    have HQ := Lib.hid (show st.put (f, t, d) = st ∧ st.putE (f, t, d) = 1 ∧ st.putB (f, t, d) = false by unfold NSt.put NSt.putE NSt.putB; simp only [d1]; exact ⟨rfl, rfl, rfl⟩)
    have H1 := Lib.hid (HH.out f)
    rw [d1] at H1
    clear d1 HH
    go_enter Tryd.func31, Tryd.ntmps31
    go_wp2_with fail
    refine H1.out.mono ?_
    rintro e w1 ⟨rfl, hw1⟩
    rw [hw1]
    clear hw1 w1
    go_wp2_with fail
    go_ret2
    rw [HQ.out.1, HQ.out.2.1, HQ.out.2.2]
    exact MOut.same HM.out HKX.out
  | true =>
  have H1 := Lib.hid (HH.out f)
  rw [d1] at H1
  cases d2 : st.has t with
  | false =>
    have HQ := Lib.hid (show st.put (f, t, d) = st ∧ st.putE (f, t, d) = 1 ∧ st.putB (f, t, d) = false by unfold NSt.put NSt.putE NSt.putB; simp only [d1, d2]; exact ⟨rfl, rfl, rfl⟩)
    have H2 := Lib.hid (HH.out t)
    rw [d2] at H2
    clear d1 d2 HH
    go_enter Tryd.func31, Tryd.ntmps31
    go_wp2_with fail
    refine H1.out.mono ?_
    rintro e w1 ⟨rfl, hw1⟩
    rw [hw1]
    clear hw1 w1
    go_wp2_with fail
    refine H2.out.mono ?_
    rintro e w1 ⟨rfl, hw1⟩
    rw [hw1]
    clear hw1 w1
    go_wp2_with fail
    go_ret2
    rw [HQ.out.1, HQ.out.2.1, HQ.out.2.2]
    exact MOut.same HM.out HKX.out
  | true =>
  have H2 := Lib.hid (HH.out t)
  rw [d2] at H2
  by_cases hlong : 1000 < d.length
  · have HQ := Lib.hid (show st.put (f, t, d) = st ∧ st.putE (f, t, d) = 3 ∧ st.putB (f, t, d) = false by unfold NSt.put NSt.putE NSt.putB; simp only [d1, d2, hlong, decide_true]; exact ⟨rfl, rfl, rfl⟩)
    have d3 : decide (1000 < (d.length : Int)) = true := by rw [decide_eq_true_eq]; omega
    have d3' : decide (1000 < d.length) = true := by rw [decide_eq_true_eq]; exact hlong
    clear d1 d2 HH
    go_enter Tryd.func31, Tryd.ntmps31
    go_wp2_with fail
    refine H1.out.mono ?_
    rintro e w1 ⟨rfl, hw1⟩
    rw [hw1]
    clear hw1 w1
    go_wp2_with fail
    refine H2.out.mono ?_
    rintro e w1 ⟨rfl, hw1⟩
    rw [hw1]
    clear hw1 w1
    go_wp2_with fail
    go_ret2
    rw [HQ.out.1, HQ.out.2.1, HQ.out.2.2]
    exact MOut.same HM.out HKX.out
  have d3 : decide (1000 < (d.length : Int)) = false := by rw [decide_eq_false_iff_not]; omega
  have d3' : decide (1000 < d.length) = false := by rw [decide_eq_false_iff_not]; exact hlong
  have HQ0 := Lib.hid (And.intro d1 (And.intro d2 hlong))
  obtain ⟨i, hi, rfl⟩ := HM.out.has_nat d1
  obtain ⟨j, hj, rfl⟩ := HM.out.has_nat d2
  obtain ⟨vL, vC, hvp, hbm, hoL, hoC⟩ := HMX.out.ex
  obtain ⟨pL, cL, rfl, _, _, hrL⟩ := owns_rd hoL
  obtain ⟨pC, cC, rfl, _, _, hrC⟩ := owns_rd hoC
  obtain ⟨gC, offC, rfl, hcC⟩ := hrC.has (by intro e; have := congrArg List.length e; rw [rowVs_len] at this; simp at this; rw [this] at hi; simp at hi)
  have z0 := hcC i (.slice (some ⟨R[i], 0, none⟩) R.length R.length) (by simp [rowVs, hi])
  have z1 := ((HMX.out.row i hi).cell j).trans (cutRow_get hj)
  have HZ0 := Lib.hid z0
  have HZ1 := Lib.hid z1
  have HBM := Lib.hid hbm
  have HO := Lib.hid hoL
  have HRL := Lib.hid hrL
  have HVP := Lib.hid hvp
  clear d1 d2 HH hlong hvp hoL hoC hrL hrC hcC z0 z1
  go_enter Tryd.func31, Tryd.ntmps31
  go_wp2_with fail
  refine H1.out.mono ?_
  rintro e w1 ⟨rfl, hw1⟩
  rw [hw1]
  clear hw1 w1
  go_wp2_with fail
  refine H2.out.mono ?_
  rintro e w1 ⟨rfl, hw1⟩
  rw [hw1]
  clear hw1 w1
  go_wp2_with fail
  clear x0 x1 x2 d3 d3'
  generalize w.alloc (.cells #[.int .i64 (i : Int), .int .i64 (j : Int), .string (bs d)] 62) = wx at *
  have hbb : Below wx.heap.size wx wx := Below.refl _ _
  refine wp_phi (fun w' => (Blk w' m 60 #[.int .i64 st.nodes, .slice pL st.ls.length cL, .slice (some ⟨gC, offC, none⟩) R.length cC, .int .i64 st.lost]) ∧ (Blk w' w.heap.size 62 #[.int .i64 (i : Int), .int .i64 (j : Int), .string (bs d)]) ∧ (w'.cell? ⟨gC, offC + i, none⟩ = some (.slice (some ⟨R[i], 0, none⟩) R.length R.length)) ∧ (w'.cell? ⟨R[i], j, none⟩ = some (.bool (st.cuts i j))) ∧ Below wx.heap.size wx w') [] [] (by kernel_rfl) (by kernel_rfl) ?_ ?_ ⟨HBM.out, HX.out, HZ0.out, HZ1.out, (hbb).drew⟩ ?_
  · rintro w1' w2' ⟨gm, gx, gc, gd, hIB⟩ hb
    exact ⟨(by first | exact gm.below hb | exact gm.keep (Below.keeps hb) | exact Below.keeps hb _ _ gm | exact Blk.below gm hb (Blk.lt gm)), (by first | exact gx.below hb | exact gx.keep (Below.keeps hb) | exact Below.keeps hb _ _ gx | exact Blk.below gx hb (Blk.lt gx)), (by first | exact gc.below hb | exact gc.keep (Below.keeps hb) | exact Below.keeps hb _ _ gc | exact Blk.below gc hb (Blk.lt gc)), (by first | exact gd.below hb | exact gd.keep (Below.keeps hb) | exact Below.keeps hb _ _ gd | exact Blk.below gd hb (Blk.lt gd)), hIB.trans (hb.mono hIB.size)⟩
  · intro p hp; cases hp
  repeat (first | (refine phi_skipK rfl (fun K hK => ?_); simp only [Act.put, List.setIfInBounds_toArray, List.set_cons_succ, List.set_cons_zero]; (try simp only [List.cons_append]); (try simp only [List.nil_append]); apply hK; clear hK K) | (refine phi_pureK rfl rfl (fun K hK => ?_); apply Exists.intro; constructor; (focus (rintro w' ⟨gm, gx, gc, gd, hIB⟩; have q2 := (gm.cell 2).trans rfl; have x0 := (gx.cell 0).trans rfl; have x1 := (gx.cell 1).trans rfl; clear gm gx hIB; first | (go_simp; done) | (go_simp; (try go_bits); (try go_simp); rfl) | go_simp)); simp only [Act.put, List.setIfInBounds_toArray, List.set_cons_succ, List.set_cons_zero]; (try simp only [List.cons_append]); (try simp only [List.nil_append]); apply hK; clear hK K))
  refine phi_done ?_
  rintro w2 ⟨gm, gx, gc, gd, hb2⟩ _
  refine wpList_nil ?_
  have HM2 := Lib.hid (HMX.out.below hb2)
  have HB2 := Lib.hid (HKX.out.trans (hb2.mono HKX.out.size))
  have HX2 := Lib.hid gx
  have HG2 := Lib.hid gm
  cases hcut : st.cuts i j with
  | true =>
    have HQ := Lib.hid (show st.put ((i : Int), (j : Int), d) = ⟨st.nodes, st.ls, st.cuts, st.lost + 1⟩ ∧ st.putE ((i : Int), (j : Int), d) = 0 ∧ st.putB ((i : Int), (j : Int), d) = false by
      obtain ⟨h1, h2, h3⟩ := HQ0.out
      unfold NSt.put NSt.putE NSt.putB
      simp only [h1, h2, h3, hcut, decide_false]
      exact ⟨rfl, rfl, rfl⟩)
    have c3 := (gm.cell 3).trans rfl
    have f3 := gm.frozen 3
    have hw : wrap64 (st.lost + 1) = st.lost + 1 := by have := hlost.1; have := hlost.2; unfold wrap64; omega
    rw [hcut] at gd
    clear gm gx gc gd hcut hb2 hbb
    go_wp2_with fail
    go_ret2
    rw [HQ.out.1, HQ.out.2.1, HQ.out.2.2]
    have hs := HM2.out.setlost (st.lost + 1)
    exact ⟨rfl, ⟨q, .inl rfl, hs.1⟩, (But.of_below HB2.out).trans hs.2⟩
  | false =>
    have c1 := (gm.cell 1).trans rfl
    rw [hcut] at gd
    by_cases hfull : st.ls.length < 64
    · have e1 : decide (63 < (st.ls.length : Int)) = false := by rw [decide_eq_false_iff_not]; omega
      have e1' : decide (63 < st.ls.length) = false := by rw [decide_eq_false_iff_not]; omega
      have HQ := Lib.hid (show st.put ((i : Int), (j : Int), d) = ⟨st.nodes, st.ls ++ [((i : Int), (j : Int), d)], st.cuts, st.lost⟩ ∧ st.putE ((i : Int), (j : Int), d) = 0 ∧ st.putB ((i : Int), (j : Int), d) = true by
        obtain ⟨h1, h2, h3⟩ := HQ0.out
        unfold NSt.put NSt.putE NSt.putB NSt.add NSt.addE
        simp only [h1, h2, h3, hcut, hfull, decide_false, decide_true]
        exact ⟨rfl, rfl, rfl⟩)
      have HF := Lib.hid hfull
      have HRL2 := Lib.hid (HRL.out.below hb2)
      have HO2 := Lib.hid (owns_below HO.out hb2)
      clear gm gx gc gd hcut hb2 hbb hfull
      go_wp2_with fail
      obtain ⟨i0, hi0, hz0, hz1, hz2⟩ := info_parts let12
      have HNE := Lib.hid (show ∀ q', (Value.slice pL st.ls.length cL).ownBlock = some q' → q' ≠ m ∧ q' ≠ w.heap.size from fun q' hq' => by
        have hq2 : q = some q' := HVP.out.symm.trans hq'
        have := HM.out.lt q' (mem_mS.2 (.inr (.inr hq2)))
        exact ⟨fun e => HM.out.not_m.2.1 (e ▸ hq2), by omega⟩)
      have HO := Lib.hid HO2.out
      refine wp_phiU_tail (List.take 10 _) (List.drop 10 _) (List.take_append_drop 10 _).symm (rAddM 7 pL st.ls.length cL (cel (toS st.ls)))
        (fun w' => Blk w' m 60 #[.int .i64 st.nodes, .slice pL st.ls.length cL, .slice (some ⟨gC, offC, none⟩) R.length cC, .int .i64 st.lost] ∧ Blk w' w.heap.size 62 #[.int .i64 (i : Int), .int .i64 (j : Int), .string (bs d)] ∧ But q.toList w w' ∧ w.heap.size ≤ w'.heap.size ∧ Rd w' pL (cel (toS st.ls)))
        [(6, PL12 w.heap.size (i : Int) (j : Int) d), (7, PLs12 w q (st.ls.length + 1) (st.ls ++ [((i : Int), (j : Int), d)]))] [(7, [6])] [(7, fun w' => w'.ownsRow 0 62 3 (.slice pL st.ls.length cL) st.ls.length (cel (toS st.ls)))] [(6, 7)] (by kernel_rfl) (by kernel_rfl) ?_ ?_ ?_ ?_
        ⟨HG2.out.below (Below.refl _ _).drew HG2.out.lt, HX2.out.below (Below.refl _ _).drew HX2.out.lt, But.of_below HB2.out.drew, HB2.out.size, HRL2.out.below (Below.refl _ _).drew⟩ ?_
      -- 0 pure prefix, 6 place of the row, 7 place of append, $4 the invariant's last part
      · rintro p1 hp1 w1 w2 ⟨g1, g2, g3, g4, g5⟩ hR
        exact ⟨rAddM_blkne hR g1 fun q hq => (HNE.out q hq).1, rAddM_blkne hR g2 fun q hq => (HNE.out q hq).2, rAddM_but hR g3 fun g hg => .inl (by rw [← HVP.out]; exact Option.mem_toList.2 hg), Nat.le_trans g4 (rAddM_size hR), rAddM_rd hR g5⟩
      · intro p1 hp p' hp' hne hks hns w1 w2 v hI hR hf
        simp only [List.mem_cons, List.not_mem_nil, or_false] at hp hp'
        rcases hp with rfl | rfl
        · rcases hp' with rfl | rfl
          · exact absurd rfl hne
          · exact absurd rfl hks
        · rcases hp' with rfl | rfl
          · exact absurd (show 6 ∈ needs [(7, [6])] 7 by decide) hns
          · exact absurd rfl hne
      · intro p1 hp u hu hne w1 w2 hI hR hf
        simp only [List.mem_cons, List.not_mem_nil, or_false] at hp hu
        subst hu
        rcases hp with rfl | rfl
        · have hR := rAddM_o (show (6 : Nat) ≠ 7 by decide) ▸ hR
          exact owns_below hf hR
        · exact absurd rfl hne
      · intro u hu
        simp only [List.mem_cons, List.not_mem_nil, or_false] at hu
        subst hu
        exact owns_below HO.out (Below.refl _ _).drew
      simp only [List.take_succ_cons, List.take_zero, List.drop_succ_cons, List.drop_zero]
      repeat (first | (refine phiU_skipK rfl (fun K hK => ?_); simp only [Act.put, List.setIfInBounds_toArray, List.set_cons_succ, List.set_cons_zero]; (try simp only [List.cons_append]); (try simp only [List.nil_append]); apply hK; clear hK K) | (refine phiU_pureK rfl rfl (fun K hK => ?_); apply Exists.intro; constructor; (focus (rintro w' ⟨g1, g2, g3, g4, g5⟩; have q1 := (g1.cell 1).trans rfl; have q2 := (g2.cell 0).trans rfl; have q3 := (g2.cell 1).trans rfl; have q4 := (g2.cell 2).trans rfl; clear g1 g2 g3 g4 g5; first | (go_simp; done) | (go_simp; (try go_bits); (try go_simp); rfl) | go_simp)); simp only [Act.put, List.setIfInBounds_toArray, List.set_cons_succ, List.set_cons_zero]; (try simp only [List.cons_append]); (try simp only [List.nil_append]); apply hK; clear hK K))
      refine phiU_partK (PL12 w.heap.size ((i : Int)) ((j : Int)) (d)) rfl rfl ⟨_, 0, rfl⟩ ?_ (fun K hK v hv => ?_)
      · rintro w' ⟨g1, g2, g3, g4, g5⟩ hf hu
        unfold gives
        clear hf hu
        go_simp
        refine ⟨⟨_, rfl⟩, fun g hg => ?_, by rw [rAddM_o (by decide)]; exact below_alloc1 _ _⟩
        obtain rfl : w'.heap.size = g := by simpa using hg
        exact ⟨g4, Blk.new _ _ _⟩
      obtain ⟨g7, rfl⟩ := hv
      simp only [Act.put, List.setIfInBounds_toArray, List.set_cons_succ, List.set_cons_zero]; (try simp only [List.cons_append]); (try simp only [List.nil_append])
      apply hK
      clear hK K
      repeat (first | (refine phiU_skipK rfl (fun K hK => ?_); simp only [Act.put, List.setIfInBounds_toArray, List.set_cons_succ, List.set_cons_zero]; (try simp only [List.cons_append]); (try simp only [List.nil_append]); apply hK; clear hK K) | (refine phiU_pureK rfl rfl (fun K hK => ?_); apply Exists.intro; constructor; (focus (rintro w' ⟨g1, g2, g3, g4, g5⟩; have q1 := (g1.cell 1).trans rfl; have q2 := (g2.cell 0).trans rfl; have q3 := (g2.cell 1).trans rfl; have q4 := (g2.cell 2).trans rfl; skip; clear g1 g2 g3 g4 g5; first | (go_simp; done) | (go_simp; (try go_bits); (try go_simp); rfl) | go_simp)); simp only [Act.put, List.setIfInBounds_toArray, List.set_cons_succ, List.set_cons_zero]; (try simp only [List.cons_append]); (try simp only [List.nil_append]); apply hK; clear hK K))
      refine phiU_partK (PLs12 w q (st.ls.length + 1) (st.ls ++ [(((i : Int)), ((j : Int)), (d))])) rfl rfl ⟨_, none, 0, rfl⟩ ?_ (fun K hK v hv => ?_)
      · rintro w' ⟨g1, g2, g3, g4, g5⟩ hf hu
        have h7 := hf (6, fun w1 => (PL12 w.heap.size ((i : Int)) ((j : Int)) (d)).fact w1 (.slice (some ⟨g7, 0, none⟩) 1 1)) (by simp) (List.contains_iff_mem.1 rfl) rfl
        obtain ⟨h7b, hb7⟩ := h7 g7 rfl
        have hu8 : w'.ownsRow 0 62 3 (.slice pL st.ls.length cL) st.ls.length (cel (toS st.ls)) := hu (7, fun w' => w'.ownsRow 0 62 3 (.slice pL st.ls.length cL) st.ls.length (cel (toS st.ls))) (by simp) rfl
        clear hf hu
        refine gives_appK (.tmp 51) (.tmp 53) 57 rfl 0 62 i0 (.agg #[.int .i64 0, .int .i64 0, .string ⟨#[]⟩]) 3 32 Tryd.underlying57 hi0 hz0 hz1 hz2 rfl (by decide) _ _ _ _ rfl hu8 _ _ _ [.int .i64 ((i : Int)), .int .i64 ((j : Int)), .string (bs (d))] rfl rfl (.inr ⟨g7, 0, rfl, fun i u hiu => ?_⟩) (by simp [Value.oneCell']) (by unfold maxLen; have := HF.out; omega) (by have := HF.out; omega) (Nat.zero_le _) ?_
        · rw [Nat.zero_add, hb7.cell]
          simpa using hiu
        intro v2 w2 ho2 hg2 hat2 hrd2
        obtain ⟨p2, c2, rfl, _, _, _⟩ := owns_rd ho2
        refine ⟨⟨p2, c2, rfl⟩, ⟨?_, ?_⟩, ?_⟩
        · rw [toS_app, cel_app]
          exact ho2
        · rcases hat2 with h | h
          · exact .inl (by rw [h, HVP.out])
          · exact .inr fun g hg => by
              rw [h] at hg
              cases hg
              exact g4
        · rw [rAddM_at]
          exact ⟨⟨_, hu8⟩, hg2, hrd2⟩
      obtain ⟨p8, c8, rfl⟩ := hv
      simp only [Act.put, List.setIfInBounds_toArray, List.set_cons_succ, List.set_cons_zero]; (try simp only [List.cons_append]); (try simp only [List.nil_append])
      apply hK
      clear hK K
      repeat (first | (refine phiU_skipK rfl (fun K hK => ?_); simp only [Act.put, List.setIfInBounds_toArray, List.set_cons_succ, List.set_cons_zero]; (try simp only [List.cons_append]); (try simp only [List.nil_append]); apply hK; clear hK K) | (refine phiU_pureK rfl rfl (fun K hK => ?_); apply Exists.intro; constructor; (focus (rintro w' ⟨g1, g2, g3, g4, g5⟩; have q1 := (g1.cell 1).trans rfl; have q2 := (g2.cell 0).trans rfl; have q3 := (g2.cell 1).trans rfl; have q4 := (g2.cell 2).trans rfl; skip; clear g1 g2 g3 g4 g5; first | (go_simp; done) | (go_simp; (try go_bits); (try go_simp); rfl) | go_simp)); simp only [Act.put, List.setIfInBounds_toArray, List.set_cons_succ, List.set_cons_zero]; (try simp only [List.cons_append]); (try simp only [List.nil_append]); apply hK; clear hK K))
      refine phiU_done ?_
      rintro w9 ⟨g1, g2, g3, g4, g5⟩ hf
      obtain ⟨hu9, hn9⟩ : w9.ownsRow 0 62 3 (.slice p8 (st.ls.length + 1) c8) (st.ls.length + 1) (cel (toS (st.ls ++ [(((i : Int)), ((j : Int)), (d))]))) ∧ Nx w q (Value.slice p8 (st.ls.length + 1) c8).ownBlock := hf (7, fun w1 => (PLs12 w q (st.ls.length + 1) (st.ls ++ [(((i : Int)), ((j : Int)), (d))])).fact w1 (.slice p8 (st.ls.length + 1) c8)) (by simp) rfl
      clear hf
      have c1 := (g1.cell 1).trans rfl
      have f1 := g1.frozen 1
      have HST := Lib.hid (HM.out.stored (ls := st.ls ++ [(((i : Int)), ((j : Int)), (d))]) g3 (by rw [List.length_append]; exact hu9))
      have HN9 := Lib.hid hn9
      clear g1 g2 g3 g4 g5 hu9 hn9
      go_wp2_with fail
      go_ret2
      rw [HQ.out.1, HQ.out.2.1, HQ.out.2.2]
      exact ⟨rfl, ⟨_, HN9.out, HST.out.1⟩, HST.out.2⟩
    · have e1 : decide (63 < (st.ls.length : Int)) = true := by rw [decide_eq_true_eq]; omega
      have e1' : decide (63 < st.ls.length) = true := by rw [decide_eq_true_eq]; omega
      have HQ := Lib.hid (show st.put ((i : Int), (j : Int), d) = st ∧ st.putE ((i : Int), (j : Int), d) = 6 ∧ st.putB ((i : Int), (j : Int), d) = false by
        obtain ⟨h1, h2, h3⟩ := HQ0.out
        unfold NSt.put NSt.putE NSt.putB NSt.add NSt.addE
        simp only [h1, h2, h3, hcut, hfull, decide_false]
        exact ⟨rfl, rfl, rfl⟩)
      clear gm gx gc gd hcut hb2 hbb hfull
      go_wp2_with fail
      go_ret2
      rw [HQ.out.1, HQ.out.2.1, HQ.out.2.2]
      exact MOut.same HM.out HB2.out
set_option maxRecDepth 20000 in
set_option maxHeartbeats 4000000 in
theorem rcopy_at (w : World) (m : Nat) (q : Option Nat) (R : List Nat) (st : NSt) (h : Mn w m q R st) (i : Nat) (x : Lt) (hx : st.ls[i]? = some x) (hle : st.ls.length ≤ 1000) :
    Calls Tryd.prog 33 #[.pointer (some ⟨m, 0, none⟩), .int .i64 i] w (MOut m q R (st.add x) (.int .i64 (st.addE : Int)) w) := by
  have hi := (List.getElem?_eq_some_iff.1 hx).1
  have HM := Lib.hid h
  have H1 := Lib.hid (rthere_any w m q R st h i)
  have d1 : (decide ((0 : Int) ≤ (i : Int)) && decide ((i : Int) < (st.ls.length : Int))) = true := by simp [hi]
  rw [d1] at H1
  obtain ⟨vL, vC, hvp, hbm, hoL, hoC⟩ := h.ex
  obtain ⟨pL, cL, rfl, _, _, hrL⟩ := owns_rd hoL
  obtain ⟨pC, cC, rfl, _, _, hrC⟩ := owns_rd hoC
  obtain ⟨gL, offL, rfl, _⟩ := hrL.has (by intro e; have := congrArg List.length e; rw [cel_len, toS_len, List.length_nil] at this; omega)
  have c1 := (hbm.cell 1).trans rfl
  have HX := Lib.hid hx
  have HBM := Lib.hid hbm
  have HO := Lib.hid hoL
  have HRL := Lib.hid hrL
  have HVP := Lib.hid hvp
  have HII := Lib.hid hi
  obtain ⟨i0, hi0, hz0, hz1, hz2⟩ := info_parts let12
  by_cases hfull : st.ls.length < 64
  · have e1 : decide (63 < (st.ls.length : Int)) = false := by rw [decide_eq_false_iff_not]; omega
    have e1' : decide (63 < st.ls.length) = false := by rw [decide_eq_false_iff_not]; omega
    have HQ := Lib.hid (show st.add x = ⟨st.nodes, st.ls ++ [x], st.cuts, st.lost⟩ ∧ st.addE = 0 by unfold NSt.add NSt.addE; rw [if_pos hfull, if_pos hfull]; exact ⟨rfl, rfl⟩)
    have HF := Lib.hid hfull
    have HNE := Lib.hid (show ∀ q', (Value.slice (some ⟨gL, offL, none⟩) st.ls.length cL).ownBlock = some q' → q' ≠ m ∧ q' ≠ m from fun q' hq' => by
      have hq2 : q = some q' := hvp.symm.trans hq'
      exact ⟨fun e => HM.out.not_m.2.1 (e ▸ hq2), fun e => HM.out.not_m.2.1 (e ▸ hq2)⟩)
    clear h hvp hbm hoL hoC hrL hrC d1 hfull hx
    go_enter Tryd.func33, Tryd.ntmps33
    go_wp2_with fail
    refine H1.out.mono ?_
    rintro e w1 ⟨rfl, hw1⟩
    rw [hw1]
    clear hw1 w1
    go_wp2_with fail
    refine wp_phiU_tail (List.take 16 _) (List.drop 16 _) (List.take_append_drop 16 _).symm (rAddM 13 (some ⟨gL, offL, none⟩) st.ls.length cL (cel (toS st.ls)))
      (fun w' => Blk w' m 60 #[.int .i64 st.nodes, .slice (some ⟨gL, offL, none⟩) st.ls.length cL, .slice pC R.length cC, .int .i64 st.lost] ∧ Blk w' m 60 #[.int .i64 st.nodes, .slice (some ⟨gL, offL, none⟩) st.ls.length cL, .slice pC R.length cC, .int .i64 st.lost] ∧ But q.toList w w' ∧ w.heap.size ≤ w'.heap.size ∧ Rd w' (some ⟨gL, offL, none⟩) (cel (toS st.ls)))
      [(12, PL12 w.heap.size (x.1) (x.2.1) (x.2.2)), (13, PLs12 w q (st.ls.length + 1) (st.ls ++ [(x.1, x.2.1, x.2.2)]))] [(13, [12])] [(13, fun w' => w'.ownsRow 0 62 3 (.slice (some ⟨gL, offL, none⟩) st.ls.length cL) st.ls.length (cel (toS st.ls)))] [(12, 13)] (by kernel_rfl) (by kernel_rfl) ?_ ?_ ?_ ?_
      ⟨HBM.out.below (Below.refl _ _).drew HBM.out.lt, HBM.out.below (Below.refl _ _).drew HBM.out.lt, But.of_below (Below.refl _ _).drew, Nat.le_refl _, HRL.out.below (Below.refl _ _).drew⟩ ?_
    -- 0 pure prefix, 12 place of the row, 13 place of append, $4 the invariant's last part
    · rintro p1 hp1 w1 w2 ⟨g1, g2, g3, g4, g5⟩ hR
      exact ⟨rAddM_blkne hR g1 fun q hq => (HNE.out q hq).1, rAddM_blkne hR g2 fun q hq => (HNE.out q hq).2, rAddM_but hR g3 fun g hg => .inl (by rw [← HVP.out]; exact Option.mem_toList.2 hg), Nat.le_trans g4 (rAddM_size hR), rAddM_rd hR g5⟩
    · intro p1 hp p' hp' hne hks hns w1 w2 v hI hR hf
      simp only [List.mem_cons, List.not_mem_nil, or_false] at hp hp'
      rcases hp with rfl | rfl
      · rcases hp' with rfl | rfl
        · exact absurd rfl hne
        · exact absurd rfl hks
      · rcases hp' with rfl | rfl
        · exact absurd (show 12 ∈ needs [(13, [12])] 13 by decide) hns
        · exact absurd rfl hne
    · intro p1 hp u hu hne w1 w2 hI hR hf
      simp only [List.mem_cons, List.not_mem_nil, or_false] at hp hu
      subst hu
      rcases hp with rfl | rfl
      · have hR := rAddM_o (show (12 : Nat) ≠ 13 by decide) ▸ hR
        exact owns_below hf hR
      · exact absurd rfl hne
    · intro u hu
      simp only [List.mem_cons, List.not_mem_nil, or_false] at hu
      subst hu
      exact owns_below HO.out (Below.refl _ _).drew
    simp only [List.take_succ_cons, List.take_zero, List.drop_succ_cons, List.drop_zero]
    repeat (first | (refine phiU_skipK rfl (fun K hK => ?_); simp only [Act.put, List.setIfInBounds_toArray, List.set_cons_succ, List.set_cons_zero]; (try simp only [List.cons_append]); (try simp only [List.nil_append]); apply hK; clear hK K) | (refine phiU_pureK rfl rfl (fun K hK => ?_); apply Exists.intro; constructor; (focus (rintro w' ⟨g1, g2, g3, g4, g5⟩; have q1 := (g1.cell 1).trans rfl; have q2 := (g2.cell 0).trans rfl; have q3 := (g2.cell 1).trans rfl; have q4 := (g2.cell 2).trans rfl; obtain ⟨a0, a1, a2⟩ := cells12 g5 HX.out; clear g1 g2 g3 g4 g5; first | (go_simp; done) | (go_simp; (try go_bits); (try go_simp); rfl) | go_simp)); simp only [Act.put, List.setIfInBounds_toArray, List.set_cons_succ, List.set_cons_zero]; (try simp only [List.cons_append]); (try simp only [List.nil_append]); apply hK; clear hK K))
    refine phiU_partK (PL12 w.heap.size (x.1) (x.2.1) (x.2.2)) rfl rfl ⟨_, 0, rfl⟩ ?_ (fun K hK v hv => ?_)
    · rintro w' ⟨g1, g2, g3, g4, g5⟩ hf hu
      unfold gives
      clear hf hu
      go_simp
      refine ⟨⟨_, rfl⟩, fun g hg => ?_, by rw [rAddM_o (by decide)]; exact below_alloc1 _ _⟩
      obtain rfl : w'.heap.size = g := by simpa using hg
      exact ⟨g4, Blk.new _ _ _⟩
    obtain ⟨g7, rfl⟩ := hv
    simp only [Act.put, List.setIfInBounds_toArray, List.set_cons_succ, List.set_cons_zero]; (try simp only [List.cons_append]); (try simp only [List.nil_append])
    apply hK
    clear hK K
    repeat (first | (refine phiU_skipK rfl (fun K hK => ?_); simp only [Act.put, List.setIfInBounds_toArray, List.set_cons_succ, List.set_cons_zero]; (try simp only [List.cons_append]); (try simp only [List.nil_append]); apply hK; clear hK K) | (refine phiU_pureK rfl rfl (fun K hK => ?_); apply Exists.intro; constructor; (focus (rintro w' ⟨g1, g2, g3, g4, g5⟩; have q1 := (g1.cell 1).trans rfl; have q2 := (g2.cell 0).trans rfl; have q3 := (g2.cell 1).trans rfl; have q4 := (g2.cell 2).trans rfl; obtain ⟨a0, a1, a2⟩ := cells12 g5 HX.out; clear g1 g2 g3 g4 g5; first | (go_simp; done) | (go_simp; (try go_bits); (try go_simp); rfl) | go_simp)); simp only [Act.put, List.setIfInBounds_toArray, List.set_cons_succ, List.set_cons_zero]; (try simp only [List.cons_append]); (try simp only [List.nil_append]); apply hK; clear hK K))
    refine phiU_partK (PLs12 w q (st.ls.length + 1) (st.ls ++ [((x.1), (x.2.1), (x.2.2))])) rfl rfl ⟨_, none, 0, rfl⟩ ?_ (fun K hK v hv => ?_)
    · rintro w' ⟨g1, g2, g3, g4, g5⟩ hf hu
      have h7 := hf (12, fun w1 => (PL12 w.heap.size (x.1) (x.2.1) (x.2.2)).fact w1 (.slice (some ⟨g7, 0, none⟩) 1 1)) (by simp) (List.contains_iff_mem.1 rfl) rfl
      obtain ⟨h7b, hb7⟩ := h7 g7 rfl
      have hu8 : w'.ownsRow 0 62 3 (.slice (some ⟨gL, offL, none⟩) st.ls.length cL) st.ls.length (cel (toS st.ls)) := hu (13, fun w' => w'.ownsRow 0 62 3 (.slice (some ⟨gL, offL, none⟩) st.ls.length cL) st.ls.length (cel (toS st.ls))) (by simp) rfl
      clear hf hu
      refine gives_appK (.tmp 19) (.tmp 27) 57 rfl 0 62 i0 (.agg #[.int .i64 0, .int .i64 0, .string ⟨#[]⟩]) 3 32 Tryd.underlying57 hi0 hz0 hz1 hz2 rfl (by decide) _ _ _ _ rfl hu8 _ _ _ [.int .i64 (x.1), .int .i64 (x.2.1), .string (bs (x.2.2))] rfl rfl (.inr ⟨g7, 0, rfl, fun i u hiu => ?_⟩) (by simp [Value.oneCell']) (by unfold maxLen; have := HF.out; omega) (by have := HF.out; omega) (Nat.zero_le _) ?_
      · rw [Nat.zero_add, hb7.cell]
        simpa using hiu
      intro v2 w2 ho2 hg2 hat2 hrd2
      obtain ⟨p2, c2, rfl, _, _, _⟩ := owns_rd ho2
      refine ⟨⟨p2, c2, rfl⟩, ⟨?_, ?_⟩, ?_⟩
      · rw [toS_app, cel_app]
        exact ho2
      · rcases hat2 with h | h
        · exact .inl (by rw [h, HVP.out])
        · exact .inr fun g hg => by
            rw [h] at hg
            cases hg
            exact g4
      · rw [rAddM_at]
        exact ⟨⟨_, hu8⟩, hg2, hrd2⟩
    obtain ⟨p8, c8, rfl⟩ := hv
    simp only [Act.put, List.setIfInBounds_toArray, List.set_cons_succ, List.set_cons_zero]; (try simp only [List.cons_append]); (try simp only [List.nil_append])
    apply hK
    clear hK K
    repeat (first | (refine phiU_skipK rfl (fun K hK => ?_); simp only [Act.put, List.setIfInBounds_toArray, List.set_cons_succ, List.set_cons_zero]; (try simp only [List.cons_append]); (try simp only [List.nil_append]); apply hK; clear hK K) | (refine phiU_pureK rfl rfl (fun K hK => ?_); apply Exists.intro; constructor; (focus (rintro w' ⟨g1, g2, g3, g4, g5⟩; have q1 := (g1.cell 1).trans rfl; have q2 := (g2.cell 0).trans rfl; have q3 := (g2.cell 1).trans rfl; have q4 := (g2.cell 2).trans rfl; obtain ⟨a0, a1, a2⟩ := cells12 g5 HX.out; clear g1 g2 g3 g4 g5; first | (go_simp; done) | (go_simp; (try go_bits); (try go_simp); rfl) | go_simp)); simp only [Act.put, List.setIfInBounds_toArray, List.set_cons_succ, List.set_cons_zero]; (try simp only [List.cons_append]); (try simp only [List.nil_append]); apply hK; clear hK K))
    refine phiU_done ?_
    rintro w9 ⟨g1, g2, g3, g4, g5⟩ hf
    obtain ⟨hu9, hn9⟩ : w9.ownsRow 0 62 3 (.slice p8 (st.ls.length + 1) c8) (st.ls.length + 1) (cel (toS (st.ls ++ [((x.1), (x.2.1), (x.2.2))]))) ∧ Nx w q (Value.slice p8 (st.ls.length + 1) c8).ownBlock := hf (13, fun w1 => (PLs12 w q (st.ls.length + 1) (st.ls ++ [((x.1), (x.2.1), (x.2.2))])).fact w1 (.slice p8 (st.ls.length + 1) c8)) (by simp) rfl
    clear hf
    have c1 := (g1.cell 1).trans rfl
    have f1 := g1.frozen 1
    have HST := Lib.hid (HM.out.stored (ls := st.ls ++ [((x.1), (x.2.1), (x.2.2))]) g3 (by rw [List.length_append]; exact hu9))
    have HN9 := Lib.hid hn9
    clear g1 g2 g3 g4 g5 hu9 hn9
    go_wp2_with fail
    go_ret
    rw [HQ.out.1, HQ.out.2]
    exact ⟨rfl, ⟨_, HN9.out, HST.out.1⟩, HST.out.2⟩
  · have e1 : decide (63 < (st.ls.length : Int)) = true := by rw [decide_eq_true_eq]; omega
    have e1' : decide (63 < st.ls.length) = true := by rw [decide_eq_true_eq]; omega
    have HQ := Lib.hid (show st.add x = st ∧ st.addE = 6 by unfold NSt.add NSt.addE; rw [if_neg hfull, if_neg hfull]; exact ⟨rfl, rfl⟩)
    clear h hvp hbm hoL hoC hrL hrC d1 hfull hx
    go_enter Tryd.func33, Tryd.ntmps33
    go_wp2_with fail
    refine H1.out.mono ?_
    rintro e w1 ⟨rfl, hw1⟩
    rw [hw1]
    clear hw1 w1
    go_wp2_with fail
    go_ret
    rw [HQ.out.1, HQ.out.2]
    exact MOut.same HM.out (Below.refl _ _)
theorem rcopy_no (w : World) (m : Nat) (q : Option Nat) (R : List Nat) (st : NSt) (h : Mn w m q R st) (i : Int) (hi : (decide (0 ≤ i) && decide (i < (st.ls.length : Int))) = false) :
    Calls Tryd.prog 33 #[.pointer (some ⟨m, 0, none⟩), .int .i64 i] w (MOut m q R st (.int .i64 1) w) := by
  have HM := Lib.hid h
  have H1 := Lib.hid (rthere_any w m q R st h i)
  rw [hi] at H1
  clear h hi
  go_enter Tryd.func33, Tryd.ntmps33
  go_wp2_with fail
  refine H1.out.mono ?_
  rintro e w1 ⟨rfl, hw1⟩
  rw [hw1]
  clear hw1 w1
  go_wp2_with fail
  go_ret
  exact MOut.same HM.out (Below.refl _ _)
set_option maxRecDepth 20000 in
set_option maxHeartbeats 1000000 in
theorem rcut_any (w : World) (m : Nat) (q : Option Nat) (R : List Nat) (st : NSt) (h : Mn w m q R st) (f t : Int) (x : Bool) :
    Calls Tryd.prog 35 #[.pointer (some ⟨m, 0, none⟩), .int .i64 f, .int .i64 t, .bool x] w (MOut m q R (st.cut f t x) (.int .i64 (st.cutE f t : Int)) w) := by
  have HM := Lib.hid h
  have HH := Lib.hid (fun i => rhas_any _ m q R st h i)
  cases d1 : st.has f with
  | false =>
    have HQ := Lib.hid (show st.cut f t x = st ∧ st.cutE f t = 1 by unfold NSt.cut NSt.cutE; rw [d1]; exact ⟨rfl, rfl⟩)
    have H1 := Lib.hid (HH.out f)
    rw [d1] at H1
    clear d1 HH h
    go_enter Tryd.func35, Tryd.ntmps35
    go_wp2_with fail
    refine H1.out.mono ?_
    rintro e w1 ⟨rfl, hw1⟩
    rw [hw1]
    clear hw1 w1
    go_wp2_with fail
    go_ret
    rw [HQ.out.1, HQ.out.2]
    exact MOut.same HM.out (Below.refl _ _)
  | true =>
  have H1 := Lib.hid (HH.out f)
  rw [d1] at H1
  cases d2 : st.has t with
  | false =>
    have HQ := Lib.hid (show st.cut f t x = st ∧ st.cutE f t = 1 by unfold NSt.cut NSt.cutE; rw [d1, d2]; exact ⟨rfl, rfl⟩)
    have H2 := Lib.hid (HH.out t)
    rw [d2] at H2
    clear d1 d2 HH h
    go_enter Tryd.func35, Tryd.ntmps35
    go_wp2_with fail
    refine H1.out.mono ?_
    rintro e w1 ⟨rfl, hw1⟩
    rw [hw1]
    clear hw1 w1
    go_wp2_with fail
    refine H2.out.mono ?_
    rintro e w1 ⟨rfl, hw1⟩
    rw [hw1]
    clear hw1 w1
    go_wp2_with fail
    go_ret
    rw [HQ.out.1, HQ.out.2]
    exact MOut.same HM.out (Below.refl _ _)
  | true =>
  have H2 := Lib.hid (HH.out t)
  rw [d2] at H2
  have HQ := Lib.hid (show st.cut f t x = ⟨st.nodes, st.ls, setW st.cuts f t x, st.lost⟩ ∧ st.cutE f t = 0 by unfold NSt.cut NSt.cutE; rw [d1, d2]; exact ⟨rfl, rfl⟩)
  obtain ⟨i, hi, rfl⟩ := HM.out.has_nat d1
  obtain ⟨j, hj, rfl⟩ := HM.out.has_nat d2
  obtain ⟨vL, vC, hvp, hbm, hoL, hoC⟩ := h.ex
  obtain ⟨pC, cC, rfl, _, _, hrC⟩ := owns_rd hoC
  obtain ⟨gC, offC, rfl, hcC⟩ := hrC.has (by intro e; have := congrArg List.length e; rw [rowVs_len] at this; simp at this; rw [this] at hi; simp at hi)
  have z0 := hcC i (.slice (some ⟨R[i], 0, none⟩) R.length R.length) (by simp [rowVs, hi])
  have z1 := ((h.row i hi).cell j).trans (cutRow_get hj)
  have f1 := (h.row i hi).frozen j
  have c2 := (hbm.cell 2).trans rfl
  have HS := Lib.hid (HM.out.setcut i j hi x)
  clear d1 d2 HH h hvp hoL hoC hrC hcC hbm
  go_enter Tryd.func35, Tryd.ntmps35
  go_wp2_with fail
  refine H1.out.mono ?_
  rintro e w1 ⟨rfl, hw1⟩
  rw [hw1]
  clear hw1 w1
  go_wp2_with fail
  refine H2.out.mono ?_
  rintro e w1 ⟨rfl, hw1⟩
  rw [hw1]
  clear hw1 w1
  go_wp2_with fail
  go_ret
  rw [HQ.out.1, HQ.out.2]
  exact ⟨rfl, ⟨q, .inl rfl, HS.out.1⟩, HS.out.2⟩
end Go.Proofs.YtbbhecadpbnobaaDoor
