/-
  NetAdd: the walk of a net's add.
-/
import Derived.Test.YtbbhecadpbnobaaDoorNetW
namespace Go.Proofs.YtbbhecadpbnobaaDoor
open Go.RowKit
attribute [local irreducible] wpPhiU

def NSt.add (st : NSt) (x : Lt) : NSt := if st.ls.length < 64 then ⟨st.nodes, st.ls ++ [x], st.cuts, st.lost⟩ else st
def NSt.addE (st : NSt) : Nat := if st.ls.length < 64 then 0 else 6
set_option maxRecDepth 20000 in
set_option maxHeartbeats 4000000 in
theorem nadd2_any (w : World) (E : Nat → Addr) (he : ErrsOn [0, 2, 5] w E) (n b : Nat) (p : Option Nat) (c : Nat) (st : NSt) (h : Nn w n b p c st) (f t : Int) (vd : Value) (l : List UInt8) (hl : l.length ≤ 1000) (hvd : ∀ w', But (nS n b p) w w' → Byt w' vd l) :
    Calls Tryd.prog 24 #[.pointer (some ⟨n, 0, none⟩), .agg #[.int .i64 f, .int .i64 t, vd]] w (fun e w' => NOut n b p c (st.add (f, t, l)) (errV E st.addE) w e w' ∧ AvK w n w') := by
  have HN := Lib.hid h
  have HVD := Lib.hid hvd
  obtain ⟨qd, kd, rfl, _⟩ := hvd w (but_refl _ _)
  obtain ⟨v, xs, hvp, hxs, hb, ho, hel⟩ := h.ex
  have hlx : xs.length = st.ls.length := by rw [← hxs, List.length_map]
  obtain ⟨pv, cv, rfl, _, _, _⟩ := owns_rd ho
  have e5 := he.cell 5 rfl
  simp only [errVar, List.getD_cons_zero, List.getD_cons_succ, errAt] at e5
  have hbx := Blk.new w 37 #[.int .i64 f, .int .i64 t, .slice qd l.length kd]
  have hkx := below_alloc1 w (.cells #[.int .i64 f, .int .i64 t, .slice qd l.length kd] 37)
  have hbn := hb.below hkx hb.lt
  have k1 := (hbn.cell 1).trans rfl
  have HKX := Lib.hid hkx
  have HX := Lib.hid hbx
  have HBN := Lib.hid hbn
  have HB0 := Lib.hid hb
  have HO0 := Lib.hid ho
  have HU := Lib.hid (LetU.below ⟨ho, hel⟩ hkx)
  have HVP := Lib.hid hvp
  have HXS := Lib.hid hxs
  by_cases hfull : st.ls.length < 64
  · have d : decide (64 ≤ (xs.length : Int)) = false := by rw [decide_eq_false_iff_not]; omega
    have d' : decide (64 ≤ xs.length) = false := by rw [decide_eq_false_iff_not]; omega
    have HQ := Lib.hid (show st.add (f, t, l) = ⟨st.nodes, st.ls ++ [(f, t, l)], st.cuts, st.lost⟩ ∧ st.addE = 0 by unfold NSt.add NSt.addE; rw [if_pos hfull, if_pos hfull]; exact ⟨rfl, rfl⟩)
    have HF := Lib.hid (show xs.length < 64 by omega)
    have HLX := Lib.hid hlx
    obtain ⟨i0, hi0, hz0, hz1, hz2⟩ := info_parts letInfo
    have HNE := Lib.hid (show ∀ q, (Value.slice pv xs.length cv).ownBlock = some q → q ≠ n ∧ q ≠ w.heap.size ∧ q < w.heap.size from fun q hq => by
      have hlt := (ho.lt q hq).2
      obtain ⟨⟨cn, tn⟩, tp, _⟩ := HN.out.types
      obtain ⟨cs, hcs⟩ := tp q (by rw [← HVP.out]; exact hq)
      exact ⟨fun e => Blk.ne_ hcs tn (by decide) e, by omega, hlt⟩)
    clear h hvd hb ho hel hbx hkx hbn hvp hxs he e5 hfull hlx
    go_enter Tryd.func24, Tryd.ntmps24
    go_wp2_with fail
    generalize w.alloc (.cells #[.int .i64 f, .int .i64 t, .slice qd l.length kd] 37) = wx at *
    refine wp_phiU_tail (List.take 11 _) (List.drop 11 _) (List.take_append_drop 11 _).symm (rAddL (.slice pv xs.length cv) xs.length)
      (fun w' => Blk w' n 70 #[.int .i64 st.nodes, .slice pv xs.length cv, .map (some b), .int .i64 st.lost] ∧ Blk w' w.heap.size 37 #[.int .i64 f, .int .i64 t, .slice qd l.length kd] ∧ But p.toList w w' ∧ w.heap.size ≤ w'.heap.size)
      [(6, PLetC w.heap.size f t l), (7, PLet1 w.heap.size f t l), (8, PLets w (.slice pv xs.length cv) (xs.length + 1) xs (f, t, l))] [(7, [6]), (8, [6, 7])] [(8, fun w' => LetU w' (.slice pv xs.length cv) xs)] [(7, 8)] (by kernel_rfl) (by kernel_rfl) ?_ ?_ ?_ ?_
      ⟨HBN.out.below (Below.refl _ _).drew HBN.out.lt, HX.out.below (Below.refl _ _).drew HX.out.lt, (But.of_below HKX.out).trans (But.of_below (Below.refl _ _).drew), HKX.out.size⟩ ?_
    · rintro p1 hp1 w1 w2 ⟨g1, g2, g3, g4⟩ hR
      exact ⟨rAddL_blkne hR g1 fun q hq => (HNE.out q hq).1, rAddL_blkne hR g2 fun q hq => (HNE.out q hq).2.1, rAddL_but hR g3 fun g hg => .inl (by rw [← HVP.out]; exact Option.mem_toList.2 hg), Nat.le_trans g4 (rAddL_size hR)⟩
    · intro p1 hp p' hp' hne hks hns w1 w2 v hI hR hf
      simp only [List.mem_cons, List.not_mem_nil, or_false] at hp hp'
      rcases hp with rfl | rfl | rfl
      · rcases hp' with rfl | rfl | rfl
        · exact absurd rfl hne
        · have hR := rAddL_o (show (7 : Nat) ≠ 8 by decide) ▸ hR
          exact fun u hu => owns_below (hf u hu) hR
        · obtain ⟨⟨ys, hy⟩, hg⟩ := rAddL_8 ▸ hR
          exact fun u hu => grown_owns hg hy (hf u hu) (by decide)
      · rcases hp' with rfl | rfl | rfl
        · exact absurd (show 6 ∈ needs [(7, [6]), (8, [6, 7])] 7 by decide) hns
        · exact absurd rfl hne
        · exact absurd rfl hks
      · rcases hp' with rfl | rfl | rfl
        · exact absurd (show 6 ∈ needs [(7, [6]), (8, [6, 7])] 8 by decide) hns
        · exact absurd (show 7 ∈ needs [(7, [6]), (8, [6, 7])] 8 by decide) hns
        · exact absurd rfl hne
    · intro p1 hp u hu hne w1 w2 hI hR hf
      simp only [List.mem_cons, List.not_mem_nil, or_false] at hp hu
      subst hu
      rcases hp with rfl | rfl | rfl
      · have hR := rAddL_o (show (6 : Nat) ≠ 8 by decide) ▸ hR; exact hf.below hR
      · have hR := rAddL_o (show (7 : Nat) ≠ 8 by decide) ▸ hR; exact hf.below hR
      · exact absurd rfl hne
    · intro u hu
      simp only [List.mem_cons, List.not_mem_nil, or_false] at hu
      subst hu
      exact HU.out.below (Below.refl _ _).drew
    simp only [List.take_succ_cons, List.take_zero, List.drop_succ_cons, List.drop_zero]
    repeat (first | (refine phiU_skipK rfl (fun K hK => ?_); simp only [Act.put, List.setIfInBounds_toArray, List.set_cons_succ, List.set_cons_zero]; (try simp only [List.cons_append]); (try simp only [List.nil_append]); apply hK; clear hK K) | (refine phiU_pureK rfl rfl (fun K hK => ?_); apply Exists.intro; constructor; (focus (rintro w' ⟨g1, g2, g3, g4⟩; have q1 := (g1.cell 1).trans rfl; have q2 := (g2.cell 0).trans rfl; have q3 := (g2.cell 1).trans rfl; have q4 := (g2.cell 2).trans rfl; clear g1 g2 g3 g4; first | (go_simp; done) | (go_simp; (try go_bits); (try go_simp); rfl) | go_simp)); simp only [Act.put, List.setIfInBounds_toArray, List.set_cons_succ, List.set_cons_zero]; (try simp only [List.cons_append]); (try simp only [List.nil_append]); apply hK; clear hK K))
    refine phiU_partK (PLetC w.heap.size f t l) rfl rfl ⟨_, none, 0, rfl⟩ ?_ (fun K hK v hv => ?_)
    · rintro w' ⟨g1, g2, g3, g4⟩ hf hu
      have hby := HVD.out w' (⟨g3.os, g3.tape, g3.output, g3.size, fun g hg hn => g3.block g hg (by
        rw [Bool.eq_false_iff] at hn ⊢
        exact fun hc => hn (List.contains_iff_mem.2 (mem_nS.2 (.inr (.inr (by simpa using hc))))))⟩)
      unfold gives
      clear hf hu
      go_simp
      refine (copied_any w' f t _ l (by omega) hby).mono ?_
      rintro e w'' ⟨u, rfl, ho, hb⟩
      obtain ⟨q, c, rfl, _⟩ := owns_rd ho
      exact ⟨_, rfl, ⟨q, c, rfl⟩, fun u' hu' => by
        have e : Value.slice q l.length c = u' := by simpa using hu'
        exact e ▸ owns_lower ho g4, by rw [rAddL_o (by decide)]; exact hb⟩
    obtain ⟨p_6, c_6, rfl⟩ := hv
    simp only [Act.put, List.setIfInBounds_toArray, List.set_cons_succ, List.set_cons_zero]; (try simp only [List.cons_append]); (try simp only [List.nil_append])
    apply hK
    clear hK K
    repeat (first | (refine phiU_skipK rfl (fun K hK => ?_); simp only [Act.put, List.setIfInBounds_toArray, List.set_cons_succ, List.set_cons_zero]; (try simp only [List.cons_append]); (try simp only [List.nil_append]); apply hK; clear hK K) | (refine phiU_pureK rfl rfl (fun K hK => ?_); apply Exists.intro; constructor; (focus (rintro w' ⟨g1, g2, g3, g4⟩; have q1 := (g1.cell 1).trans rfl; have q2 := (g2.cell 0).trans rfl; have q3 := (g2.cell 1).trans rfl; have q4 := (g2.cell 2).trans rfl; clear g1 g2 g3 g4; first | (go_simp; done) | (go_simp; (try go_bits); (try go_simp); rfl) | go_simp)); simp only [Act.put, List.setIfInBounds_toArray, List.set_cons_succ, List.set_cons_zero]; (try simp only [List.cons_append]); (try simp only [List.nil_append]); apply hK; clear hK K))
    refine phiU_partK (PLet1 w.heap.size f t l) rfl rfl ⟨_, 0, rfl⟩ ?_ (fun K hK v hv => ?_)
    · rintro w' ⟨g1, g2, g3, g4⟩ hf hu
      have ho := hf (6, fun w1 => (PLetC w.heap.size f t l).fact w1 (.agg #[.int .i64 f, .int .i64 t, .slice p_6 l.length c_6])) (by simp) (List.contains_iff_mem.1 rfl) rfl
      have ho : w'.ownsRow w.heap.size 5 1 (.slice p_6 l.length c_6) l.length (bvs l) := ho _ rfl
      have HO := Lib.hid ho
      unfold gives
      clear hf hu ho
      go_simp
      refine ⟨⟨_, rfl⟩, fun g hg => ?_, by rw [rAddL_o (by decide)]; exact below_alloc1 _ _⟩
      obtain rfl : w'.heap.size = g := by simpa using hg
      exact ⟨g4, _, Blk.new _ _ _, owns_below HO.out (below_alloc1 _ _)⟩
    obtain ⟨g7, rfl⟩ := hv
    simp only [Act.put, List.setIfInBounds_toArray, List.set_cons_succ, List.set_cons_zero]; (try simp only [List.cons_append]); (try simp only [List.nil_append])
    apply hK
    clear hK K
    repeat (first | (refine phiU_skipK rfl (fun K hK => ?_); simp only [Act.put, List.setIfInBounds_toArray, List.set_cons_succ, List.set_cons_zero]; (try simp only [List.cons_append]); (try simp only [List.nil_append]); apply hK; clear hK K) | (refine phiU_pureK rfl rfl (fun K hK => ?_); apply Exists.intro; constructor; (focus (rintro w' ⟨g1, g2, g3, g4⟩; have q1 := (g1.cell 1).trans rfl; have q2 := (g2.cell 0).trans rfl; have q3 := (g2.cell 1).trans rfl; have q4 := (g2.cell 2).trans rfl; clear g1 g2 g3 g4; first | (go_simp; done) | (go_simp; (try go_bits); (try go_simp); rfl) | go_simp)); simp only [Act.put, List.setIfInBounds_toArray, List.set_cons_succ, List.set_cons_zero]; (try simp only [List.cons_append]); (try simp only [List.nil_append]); apply hK; clear hK K))
    refine phiU_partK (PLets w (.slice pv xs.length cv) (xs.length + 1) xs (f, t, l)) rfl rfl ⟨_, none, 0, rfl⟩ ?_ (fun K hK v hv => ?_)
    · rintro w' ⟨g1, g2, g3, g4⟩ hf hu
      have h7 := hf (7, fun w1 => (PLet1 w.heap.size f t l).fact w1 (.slice (some ⟨g7, 0, none⟩) 1 1)) (by simp) (List.contains_iff_mem.1 rfl) rfl
      obtain ⟨h7b, u7, hb7, ho7⟩ := h7 g7 rfl
      have hu8 : LetU w' (.slice pv xs.length cv) xs := hu (8, fun w' => LetU w' (.slice pv xs.length cv) xs) (by simp) rfl
      obtain ⟨p7, c7, rfl, _⟩ := owns_rd ho7
      clear hf hu
      refine gives_appAt (.tmp 16) (.tmp 19) 44 rfl 0 37 i0 (.agg #[.int .i64 0, .int .i64 0, .slice none 0 0]) 3 40 Tryd.underlying44 hi0 hz0 hz1 hz2 rfl (by decide) _ _ _ rfl hu8.1 _ _ _ [.int .i64 f, .int .i64 t, .slice p7 l.length c7] rfl rfl (.inr ⟨g7, 0, rfl, fun i u hiu => ?_⟩) (by simp [Value.oneCell']) (by unfold maxLen; have := HF.out; omega) (by have := HF.out; omega) (Nat.zero_le _) ?_
      · rw [Nat.zero_add, hb7.cell]
        simpa using hiu
      intro v2 w2 ho2 hg2 hat2
      obtain ⟨p2, c2, rfl, _, _, _⟩ := owns_rd ho2
      refine ⟨⟨p2, c2, rfl⟩, ⟨.slice p7 l.length c7, fun g hg => (ho7.lt g hg).1, ⟨?_, fun x hx => ?_⟩, ?_⟩, ?_⟩
      · rw [cel_app, List.length_append]; exact ho2
      · rcases List.mem_append.1 hx with hx | hx
        · exact grown_owns hg2 hu8.1 (hu8.2 x hx) (by decide)
        · obtain rfl : x = ((f, t, l), .slice p7 l.length c7) := by simpa using hx
          exact grown_owns hg2 hu8.1 (owns_lower ho7 (Nat.zero_le _)) (by decide)
      · rcases hat2 with h | h
        · exact .inl h
        · exact .inr fun g hg => by
            rw [h] at hg
            cases hg
            exact g4
      · rw [rAddL_8]
        exact ⟨⟨_, hu8.1⟩, hg2⟩
    obtain ⟨p8, c8, rfl⟩ := hv
    simp only [Act.put, List.setIfInBounds_toArray, List.set_cons_succ, List.set_cons_zero]; (try simp only [List.cons_append]); (try simp only [List.nil_append])
    apply hK
    clear hK K
    repeat (first | (refine phiU_skipK rfl (fun K hK => ?_); simp only [Act.put, List.setIfInBounds_toArray, List.set_cons_succ, List.set_cons_zero]; (try simp only [List.cons_append]); (try simp only [List.nil_append]); apply hK; clear hK K) | (refine phiU_pureK rfl rfl (fun K hK => ?_); apply Exists.intro; constructor; (focus (rintro w' ⟨g1, g2, g3, g4⟩; have q1 := (g1.cell 1).trans rfl; have q2 := (g2.cell 0).trans rfl; have q3 := (g2.cell 1).trans rfl; have q4 := (g2.cell 2).trans rfl; clear g1 g2 g3 g4; first | (go_simp; done) | (go_simp; (try go_bits); (try go_simp); rfl) | go_simp)); simp only [Act.put, List.setIfInBounds_toArray, List.set_cons_succ, List.set_cons_zero]; (try simp only [List.cons_append]); (try simp only [List.nil_append]); apply hK; clear hK K))
    refine phiU_done ?_
    rintro w9 ⟨g1, g2, g3, g4⟩ hf
    obtain ⟨u9, hfr9, hu9, hn9⟩ : ∃ u9 : Value, (∀ g, u9.ownBlock = some g → w.heap.size ≤ g) ∧ LetU w9 (.slice p8 (xs.length + 1) c8) (xs ++ [((f, t, l), u9)]) ∧ Nx w (Value.slice pv xs.length cv).ownBlock (Value.slice p8 (xs.length + 1) c8).ownBlock := hf (8, fun w1 => (PLets w (.slice pv xs.length cv) (xs.length + 1) xs (f, t, l)).fact w1 (.slice p8 (xs.length + 1) c8)) (by simp) rfl
    have hx9 : (xs ++ [((f, t, l), u9)]).map (·.1) = st.ls ++ [(f, t, l)] := by rw [List.map_append, HXS.out]; rfl
    have HAV := Lib.hid (AvK.stored HB0.out HO0.out g1 hu9 hfr9)
    clear hf
    rw [HVP.out] at hn9
    have c1 := (g1.cell 1).trans rfl
    have f1 := g1.frozen 1
    have HST := Lib.hid (HN.out.stored g3 hu9 hn9 _ hx9)
    have HN9 := Lib.hid hn9
    clear g1 g2 g3 g4 hx9 hu9 hn9 hfr9
    go_wp2_with fail
    go_ret
    rw [HQ.out.1, HQ.out.2]
    exact ⟨⟨rfl, ⟨_, HN9.out, HST.out.1⟩, HST.out.2⟩, HAV.out⟩
  · have d : decide (64 ≤ (xs.length : Int)) = true := by rw [decide_eq_true_eq]; omega
    have d' : decide (64 ≤ xs.length) = true := by rw [decide_eq_true_eq]; omega
    have HQ := Lib.hid (show st.add (f, t, l) = st ∧ st.addE = 6 by unfold NSt.add NSt.addE; rw [if_neg hfull, if_neg hfull]; exact ⟨rfl, rfl⟩)
    have e5' := Below.keeps hkx _ _ e5
    clear h hvd hb ho hel hbx hkx hbn hvp hxs he e5 hfull hlx
    go_enter Tryd.func24, Tryd.ntmps24
    go_wp2_with fail
    go_ret
    rw [HQ.out.1, HQ.out.2]
    exact ⟨NOut.same HN.out HKX.out, AvK.of_below HKX.out⟩
theorem nadd_any (w : World) (E : Nat → Addr) (he : ErrsOn [0, 2, 5] w E) (n b : Nat) (p : Option Nat) (c : Nat) (st : NSt) (h : Nn w n b p c st) (f t : Int) (vd : Value) (l : List UInt8) (hl : l.length ≤ 1000) (hvd : ∀ w', But (nS n b p) w w' → Byt w' vd l) :
    Calls Tryd.prog 24 #[.pointer (some ⟨n, 0, none⟩), .agg #[.int .i64 f, .int .i64 t, vd]] w (NOut n b p c (st.add (f, t, l)) (errV E st.addE) w) :=
  (nadd2_any w E he n b p c st h f t vd l hl hvd).mono fun _ _ h => h.1
end Go.Proofs.YtbbhecadpbnobaaDoor
