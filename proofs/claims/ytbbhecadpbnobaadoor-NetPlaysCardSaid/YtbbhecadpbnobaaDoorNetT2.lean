/-
  NetT2: the walk of liaisonlaw12.step: Put and Take.
-/
import Derived.Test.YtbbhecadpbnobaaDoorNetT
namespace Go.Proofs.YtbbhecadpbnobaaDoor
open Go.RowKit
attribute [local go_sem] bs_toList bs_size
attribute [local irreducible] wpPhi wpPhiU

/-- a row that is neither net's stays -/
theorem own_mS {w w' : World} {base size k m : Nat} {e : TypeId} {u : Value} {ys : List Value} {q : Option Nat} {R : List Nat} (ho : w.ownsRow base e size u k ys) (h : But (mS m q R) w w') (hM : MTy w m q R) (h1 : e ≠ 60) (h2 : e ≠ 62) (h3 : e ≠ 4) : w'.ownsRow base e size u k ys :=
  h.owns2 (fun g hg => by
    rcases ho.2 with ⟨h0, _⟩ | ⟨g9, cap, cur, h0, _, hh, _⟩
    · rw [h0] at hg; cases hg
    · rw [h0] at hg
      cases hg
      rw [Bool.eq_false_iff]
      intro hc
      obtain ⟨T, cs, hb, hT⟩ := hM g9 (List.contains_iff_mem.1 hc)
      refine Blk.ne_ (show Blk w g9 e cur from hh) hb ?_ rfl
      rcases hT with rfl | rfl | rfl
      · exact h1
      · exact h2
      · exact h3) ho
theorem own_nS {w w' : World} {base size k n b : Nat} {e : TypeId} {u : Value} {ys : List Value} {p : Option Nat} (ho : w.ownsRow base e size u k ys) (h : But (nS n b p) w w') (hN : NTy w n b p) (h1 : e ≠ 70) (h2 : e ≠ 37) : w'.ownsRow base e size u k ys :=
  h.owns2 (fun g hg => by
    rcases ho.2 with ⟨h0, _⟩ | ⟨g9, cap, cur, h0, _, hh, _⟩
    · rw [h0] at hg; cases hg
    · rw [h0] at hg
      cases hg
      obtain ⟨⟨cn, tn⟩, tp, hne⟩ := hN
      have hb : Blk w g9 e cur := hh
      rw [Bool.eq_false_iff]
      intro hc
      rcases mem_nS.1 (List.contains_iff_mem.1 hc) with e | e | e
      · exact Blk.ne_ hb tn h1 e
      · exact hne _ _ _ hb e.symm
      · obtain ⟨cs', hcs⟩ := tp g9 e
        exact Blk.ne_ hb hcs h2 rfl) ho
theorem blk_mS {w w' : World} {g m : Nat} {T : TypeId} {cs : Array Value} {q : Option Nat} {R : List Nat} (hb : Blk w g T cs) (h : But (mS m q R) w w') (hM : MTy w m q R) (h1 : T ≠ 60) (h2 : T ≠ 62) (h3 : T ≠ 4) : Blk w' g T cs :=
  h.blk hb (by
    rw [Bool.eq_false_iff]
    intro hc
    obtain ⟨T', cs', hb', hT⟩ := hM g (List.contains_iff_mem.1 hc)
    refine Blk.ne_ hb hb' ?_ rfl
    rcases hT with rfl | rfl | rfl
    · exact h1
    · exact h2
    · exact h3)
theorem blk_nS {w w' : World} {g n b : Nat} {T : TypeId} {cs : Array Value} {p : Option Nat} (hb : Blk w g T cs) (h : But (nS n b p) w w') (hN : NTy w n b p) (h1 : T ≠ 70) (h2 : T ≠ 37) : Blk w' g T cs :=
  h.blk hb (by
    obtain ⟨⟨cn, tn⟩, tp, hne⟩ := hN
    rw [Bool.eq_false_iff]
    intro hc
    rcases mem_nS.1 (List.contains_iff_mem.1 hc) with e | e | e
    · exact Blk.ne_ hb tn h1 e
    · exact hne _ _ _ hb e.symm
    · obtain ⟨cs', hcs⟩ := tp g e
      exact Blk.ne_ hb hcs h2 rfl)
set_option maxRecDepth 20000 in
set_option maxHeartbeats 4000000 in
theorem step_take (w0 w : World) (E : Nat → Addr) (n b m : Nat) (p q : Option Nat) (R : List Nat) (c : Nat) (st : NSt) (vd : Value) (dat : List UInt8) (at_ f t : Int) (is : Bool) (h : StepIn w0 w E n b m p q R c st vd dat) :
    Calls Tryd.prog 19 #[.pointer (some ⟨n, 0, none⟩), .pointer (some ⟨m, 0, none⟩), .agg #[.int .i64 2, .int .i64 at_, .int .i64 f, .int .i64 t, .bool is, vd]] w (StepOut n b m p q R c st (stepN st 2 at_ f t is dat) w) := by
  have HE := Lib.hid h.errs
  have HW0 := Lib.hid h.low
  have HSN := Lib.hid h.sn
  have HSM := Lib.hid h.sm
  have HN := Lib.hid h.nn
  have HM := Lib.hid h.mn
  have HO := Lib.hid h.ok
  have HLO := Lib.hid h.lost
  have HCC := Lib.hid h.cc
  have HBY := Lib.hid h.byt
  have HDL := Lib.hid h.dl
  obtain ⟨qd, kd, rfl, _⟩ := id h.byt
  have hk1 := below_alloc1 w (.cells #[.int .i64 2, .int .i64 at_, .int .i64 f, .int .i64 t, .bool is, .slice qd dat.length kd] 55)
  have HB1 := Lib.hid (Blk.new w 55 #[.int .i64 2, .int .i64 at_, .int .i64 f, .int .i64 t, .bool is, .slice qd dat.length kd])
  have HK1 := Lib.hid hk1
  have HN1 := Lib.hid (h.nn.below hk1)
  have HM1 := Lib.hid (h.mn.below hk1)
  have HW1 := Lib.hid (h.low.trans (hk1.mono h.low.size))
  have o0 := (HB1.out.cell 0).trans rfl
  have o1 := (HB1.out.cell 1).trans rfl
  have o2 := (HB1.out.cell 2).trans rfl
  have o3 := (HB1.out.cell 3).trans rfl
  have o4 := (HB1.out.cell 4).trans rfl
  have o5 := (HB1.out.cell 5).trans rfl
  clear h hk1
  obtain ⟨st', k, x, hst, hok, hk14, hNC, hMC⟩ : ∃ (st' : NSt) (k : Nat) (x : Lt), stepN st 2 at_ f t is dat = st' ∧ OkN st st' ∧ k ≤ 14 ∧
      (∀ w', Nn w' n b p c st → Errs w' E → Calls Tryd.prog 11 #[.pointer (some ⟨n, 0, none⟩), .int .i64 at_] w' (fun e w'' => ∃ u, e = .returned (.tuple #[.agg #[.int .i64 x.1, .int .i64 x.2.1, u], errV E k]) ∧ w''.ownsRow 0 5 1 u x.2.2.length (bvs x.2.2) ∧ (∃ p', Nx w' p p' ∧ Nn w'' n b p' (c + 1) st') ∧ But (nS n b p) w' w'')) ∧
      (∀ w', Mn w' m q R st → Calls Tryd.prog 32 #[.pointer (some ⟨m, 0, none⟩), .int .i64 at_] w' (MOut m q R st' (.tuple #[.agg #[.int .i64 x.1, .int .i64 x.2.1, .string (bs x.2.2)], .int .i64 (k : Int)]) w')) := by
    cases d1 : (decide (0 ≤ at_) && decide (at_ < (st.ls.length : Int))) with
    | false =>
      refine ⟨st, 1, (0, 0, []), (stepN_2 _ _ _ _ _ _).trans (if_neg (show ¬ st.thr at_ = true from by unfold NSt.thr; rw [d1]; decide)), HO.out.same, by omega, fun w' hn he => (ntake_no w' E (he.on [0, 2, 5] rfl) n b p c st hn at_ d1).mono ?_, fun w' hm => rtake_no w' m q R st hm at_ d1⟩
      rintro e w'' ⟨rfl, ⟨p', h1, h2⟩, h3⟩
      exact ⟨_, rfl, ⟨rfl, .inl ⟨rfl, rfl⟩⟩, ⟨p', h1, h2.mono (Nat.le_succ _)⟩, h3⟩
    | true =>
      obtain ⟨i, x, rfl, hx⟩ := there_nat d1
      refine ⟨st.cutOut i, 0, x, ((stepN_2 _ _ _ _ _ _).trans (if_pos d1)).trans (by rw [Int.toNat_natCast]), HO.out.cutOut i, by omega, fun w' hn he => (ntake_any w' n b p c st hn i x hx (by have := HO.out.len; omega)).mono ?_, fun w' hm => rtake_at w' m q R st hm i x hx (by have := HO.out.len; omega)⟩
      rintro e w'' ⟨⟨u, rfl, ho⟩, ⟨p', h1, h2⟩, h3⟩
      exact ⟨u, rfl, ho, ⟨p', h1, h2.mono (Nat.le_succ _)⟩, h3⟩
  have HNC := Lib.hid hNC
  have HMC := Lib.hid hMC
  rw [hst]
  have HOK := Lib.hid hok
  have HKK := Lib.hid hk14
  clear hNC hMC hok hk14 hst
  go_enter Tryd.func19, Tryd.ntmps19
  go_wp2_with fail
  clear o0 o1 o2 o3 o4 o5
  generalize w.alloc (.cells #[.int .i64 2, .int .i64 at_, .int .i64 f, .int .i64 t, .bool is, .slice qd dat.length kd] 55) = wx at *
  refine (HNC.out wx HN1.out (HE.out.below HW1.out)).mono ?_
  rintro e w2 ⟨u, rfl, hu, ⟨p', hp', hn2⟩, k2⟩
  have hty := HN1.out.ty
  have hm2 := HM1.out.farN k2 hty
  have hw2 := HW1.out.trans (k2.below HSN.out HW1.out.size)
  have hb2 := blk_nS HB1.out k2 hty (by decide) (by decide)
  obtain ⟨pu, cu, rfl, _⟩ := owns_rd hu
  have hz := below_alloc1 w2 (.cells #[.int .i64 x.1, .int .i64 x.2.1, .slice pu x.2.2.length cu] 37)
  have HL3 := Lib.hid (Blk.new w2 37 #[.int .i64 x.1, .int .i64 x.2.1, .slice pu x.2.2.length cu])
  have HN3 := Lib.hid (hn2.below hz)
  have HM3 := Lib.hid (hm2.below hz)
  have HU3 := Lib.hid (owns_below hu hz)
  have HB3 := Lib.hid (hb2.below hz hb2.lt)
  have HW3 := Lib.hid (hw2.trans (hz.mono hw2.size))
  have HP3 := Lib.hid (hp'.lower HK1.out.size)
  have HK3 := Lib.hid (((But.of_below HK1.out).trans k2).trans (But.of_below hz))
  have o1 := (HB3.out.cell 1).trans rfl
  clear hu hp' hn2 k2 hty hm2 hw2 hb2 hz
  go_wp2_with fail
  clear o1
  generalize w2.alloc (.cells #[.int .i64 x.1, .int .i64 x.2.1, .slice pu x.2.2.length cu] 37) = w3 at *
  refine (HMC.out w3 HM3.out).mono ?_
  rintro e w4 ⟨rfl, ⟨q', hq', hm4⟩, k4⟩
  have hty := HM3.out.ty
  have hn4 := HN3.out.far k4 hty
  have hu4 := own_mS HU3.out k4 hty (by decide) (by decide) (by decide)
  have hl4 := blk_mS HL3.out k4 hty (by decide) (by decide) (by decide)
  have hw4 := HW3.out.trans (k4.below HSM.out HW3.out.size)
  have hz := below_alloc1 w4 (.cells #[.int .i64 x.1, .int .i64 x.2.1, .string (bs x.2.2)] 62)
  have HR5 := Lib.hid (Blk.new w4 62 #[.int .i64 x.1, .int .i64 x.2.1, .string (bs x.2.2)])
  have HL5 := Lib.hid (hl4.below hz hl4.lt)
  have HY5 := Lib.hid (owns_byt (owns_below hu4 hz))
  have HN5 := Lib.hid (hn4.below hz)
  have HM5 := Lib.hid (hm4.below hz)
  have HW5 := Lib.hid (hw4.trans (hz.mono hw4.size))
  have HQ5 := Lib.hid (hq'.lower HK3.out.size)
  have HK5 := Lib.hid (((but_l (T := mS m q R) HK3.out).trans (but_r k4)).trans (But.of_below hz))
  have HE5 := Lib.hid (HE.out.below HW5.out)
  clear hq' hm4 k4 hty hn4 hu4 hl4 hw4 hz
  go_wp2_with fail
  generalize w4.alloc (.cells #[.int .i64 x.1, .int .i64 x.2.1, .string (bs x.2.2)] 62) = w5 at *
  have hbb : Below w5.heap.size w5 w5 := Below.refl _ _
  refine wp_phi (fun w' => (Blk w' w2.heap.size 37 #[.int .i64 x.1, .int .i64 x.2.1, .slice pu x.2.2.length cu]) ∧ (Blk w' w4.heap.size 62 #[.int .i64 x.1, .int .i64 x.2.1, .string (bs x.2.2)]) ∧ (Byt w' (.slice pu x.2.2.length cu) x.2.2) ∧ (Errs w' E) ∧ Below w5.heap.size w5 w') [(1, PVal (.agg #[.int .i64 x.1, .int .i64 x.2.1, .string (bs x.2.2)])), (6, PVal (.int .i64 (k : Int)))] [] (by kernel_rfl) (by kernel_rfl) ?_ ?_ ⟨HL5.out, HR5.out, HY5.out, HE5.out.below (Below.refl _ _).drew, (hbb).drew⟩ ?_
  · rintro w1' w2' ⟨gl, gm, gy, ge, hIB⟩ hb
    exact ⟨(by first | exact gl.below hb | exact gl.keep (Below.keeps hb) | exact Below.keeps hb _ _ gl | exact Blk.below gl hb (Blk.lt gl)), (by first | exact gm.below hb | exact gm.keep (Below.keeps hb) | exact Below.keeps hb _ _ gm | exact Blk.below gm hb (Blk.lt gm)), (by first | exact gy.below hb | exact gy.keep (Below.keeps hb) | exact Below.keeps hb _ _ gy | exact Blk.below gy hb (Blk.lt gy)), (by first | exact ge.below hb | exact ge.keep (Below.keeps hb) | exact Below.keeps hb _ _ ge | exact Blk.below ge hb (Blk.lt ge)), hIB.trans (hb.mono hIB.size)⟩
  · simp only [List.mem_cons, List.not_mem_nil, or_false, forall_eq_or_imp, forall_eq]
    exact ⟨fun _ _ _ _ h' h => PVal_stays _ _ _ _ h' h, fun _ _ _ _ h' h => PVal_stays _ _ _ _ h' h⟩
  repeat (first | (refine phi_skipK rfl (fun K hK => ?_); simp only [Act.put, List.setIfInBounds_toArray, List.set_cons_succ, List.set_cons_zero]; (try simp only [List.cons_append]); (try simp only [List.nil_append]); apply hK; clear hK K) | (refine phi_pureK rfl rfl (fun K hK => ?_); apply Exists.intro; constructor; (focus (rintro w' ⟨gl, gm, gy, ge, hIB⟩; have q0 := (gl.cell 0).trans rfl; have q1 := (gl.cell 1).trans rfl; have q2 := (gl.cell 2).trans rfl; have r0 := (gm.cell 0).trans rfl; have r1 := (gm.cell 1).trans rfl; have r2 := (gm.cell 2).trans rfl; clear gl gm gy ge hIB; first | (go_simp; done) | (go_simp; (try go_bits); (try go_simp); rfl) | go_simp)); simp only [Act.put, List.setIfInBounds_toArray, List.set_cons_succ, List.set_cons_zero]; (try simp only [List.cons_append]); (try simp only [List.nil_append]); apply hK; clear hK K))
  refine phi_partK (PVal (.agg #[.int .i64 x.1, .int .i64 x.2.1, .string (bs x.2.2)])) rfl rfl ⟨_, rfl⟩ ?_ (fun K hK v hv => ?_)
  · rintro w' ⟨gl, gm, gy, ge, hIB⟩ hf
    unfold gives
    clear hf
    go_simp
    refine (told_any12 w' x.1 x.2.1 _ x.2.2 gy).mono ?_
    rintro e w'' ⟨rfl, hb⟩
    exact ⟨_, rfl, rfl, trivial, hb⟩
  obtain rfl : v = _ := hv
  simp only [Act.put, List.setIfInBounds_toArray, List.set_cons_succ, List.set_cons_zero]; (try simp only [List.cons_append]); (try simp only [List.nil_append])
  apply hK
  clear hK K
  repeat (first | (refine phi_skipK rfl (fun K hK => ?_); simp only [Act.put, List.setIfInBounds_toArray, List.set_cons_succ, List.set_cons_zero]; (try simp only [List.cons_append]); (try simp only [List.nil_append]); apply hK; clear hK K) | (refine phi_pureK rfl rfl (fun K hK => ?_); apply Exists.intro; constructor; (focus (rintro w' ⟨gl, gm, gy, ge, hIB⟩; have q0 := (gl.cell 0).trans rfl; have q1 := (gl.cell 1).trans rfl; have q2 := (gl.cell 2).trans rfl; have r0 := (gm.cell 0).trans rfl; have r1 := (gm.cell 1).trans rfl; have r2 := (gm.cell 2).trans rfl; clear gl gm gy ge hIB; first | (go_simp; done) | (go_simp; (try go_bits); (try go_simp); rfl) | go_simp)); simp only [Act.put, List.setIfInBounds_toArray, List.set_cons_succ, List.set_cons_zero]; (try simp only [List.cons_append]); (try simp only [List.nil_append]); apply hK; clear hK K))
  refine phi_partK (PVal (.int .i64 (k : Int))) rfl rfl ⟨_, rfl⟩ ?_ (fun K hK v hv => ?_)
  · rintro w' ⟨gl, gm, gy, ge, hIB⟩ hf
    unfold gives
    clear hf
    go_simp
    refine (num_any w' E k HKK.out ge).mono ?_
    rintro e w'' ⟨rfl, hb⟩
    exact ⟨_, rfl, rfl, trivial, hb⟩
  obtain rfl : v = _ := hv
  simp only [Act.put, List.setIfInBounds_toArray, List.set_cons_succ, List.set_cons_zero]; (try simp only [List.cons_append]); (try simp only [List.nil_append])
  apply hK
  clear hK K
  repeat (first | (refine phi_skipK rfl (fun K hK => ?_); simp only [Act.put, List.setIfInBounds_toArray, List.set_cons_succ, List.set_cons_zero]; (try simp only [List.cons_append]); (try simp only [List.nil_append]); apply hK; clear hK K) | (refine phi_pureK rfl rfl (fun K hK => ?_); apply Exists.intro; constructor; (focus (rintro w' ⟨gl, gm, gy, ge, hIB⟩; have q0 := (gl.cell 0).trans rfl; have q1 := (gl.cell 1).trans rfl; have q2 := (gl.cell 2).trans rfl; have r0 := (gm.cell 0).trans rfl; have r1 := (gm.cell 1).trans rfl; have r2 := (gm.cell 2).trans rfl; clear gl gm gy ge hIB; first | (go_simp; done) | (go_simp; (try go_bits); (try go_simp); rfl) | go_simp)); simp only [Act.put, List.setIfInBounds_toArray, List.set_cons_succ, List.set_cons_zero]; (try simp only [List.cons_append]); (try simp only [List.nil_append]); apply hK; clear hK K))
  refine phi_done ?_
  rintro w6 ⟨gl, gm, gy, ge, hb6⟩ _
  refine wpList_nil ?_
  have HOU := Lib.hid (show StepOut n b m p q R c st st' w (.returned (.bool true)) w6 from ⟨rfl, ⟨p', q', HOK.out, HP3.out, HQ5.out, HN5.out.below hb6, HM5.out.below hb6⟩, HK5.out.trans (But.of_below hb6)⟩)
  clear gl gm gy ge hb6 hbb
  go_wp2_with fail
  go_ret
  exact HOU.out
set_option maxRecDepth 20000 in
set_option maxHeartbeats 4000000 in
theorem step_put (w0 w : World) (E : Nat → Addr) (n b m : Nat) (p q : Option Nat) (R : List Nat) (c : Nat) (st : NSt) (vd : Value) (dat : List UInt8) (at_ f t : Int) (is : Bool) (hf : In64 f) (ht : In64 t) (h : StepIn w0 w E n b m p q R c st vd dat) :
    Calls Tryd.prog 19 #[.pointer (some ⟨n, 0, none⟩), .pointer (some ⟨m, 0, none⟩), .agg #[.int .i64 1, .int .i64 at_, .int .i64 f, .int .i64 t, .bool is, vd]] w (StepOut n b m p q R c st (stepN st 1 at_ f t is dat) w) := by
  rw [show stepN st 1 at_ f t is dat = st.put (f, t, dat) from rfl]
  have HE := Lib.hid h.errs
  have HW0 := Lib.hid h.low
  have HSN := Lib.hid h.sn
  have HSM := Lib.hid h.sm
  have HN := Lib.hid h.nn
  have HM := Lib.hid h.mn
  have HO := Lib.hid h.ok
  have HLO := Lib.hid h.lost
  have HCC := Lib.hid h.cc
  have HBY := Lib.hid h.byt
  have HDL := Lib.hid h.dl
  obtain ⟨qd, kd, rfl, _⟩ := id h.byt
  have hk1 := below_alloc1 w (.cells #[.int .i64 1, .int .i64 at_, .int .i64 f, .int .i64 t, .bool is, .slice qd dat.length kd] 55)
  have HB1 := Lib.hid (Blk.new w 55 #[.int .i64 1, .int .i64 at_, .int .i64 f, .int .i64 t, .bool is, .slice qd dat.length kd])
  have HK1 := Lib.hid hk1
  have HN1 := Lib.hid (h.nn.below hk1)
  have HM1 := Lib.hid (h.mn.below hk1)
  have HW1 := Lib.hid (h.low.trans (hk1.mono h.low.size))
  have o0 := (HB1.out.cell 0).trans rfl
  have o1 := (HB1.out.cell 1).trans rfl
  have o2 := (HB1.out.cell 2).trans rfl
  have o3 := (HB1.out.cell 3).trans rfl
  have o4 := (HB1.out.cell 4).trans rfl
  have o5 := (HB1.out.cell 5).trans rfl
  clear h hk1
  have HOK := Lib.hid (HO.out.put (f, t, dat))
  have HKK := Lib.hid (show st.putE (f, t, dat) ≤ 14 by unfold NSt.putE NSt.addE; split <;> (try split) <;> (try split) <;> (try split) <;> omega)
  have HF := Lib.hid hf
  have HT := Lib.hid ht
  clear hf ht
  go_enter Tryd.func19, Tryd.ntmps19
  go_wp2_with fail
  clear o0 o1 o2 o3 o4 o5
  generalize w.alloc (.cells #[.int .i64 1, .int .i64 at_, .int .i64 f, .int .i64 t, .bool is, .slice qd dat.length kd] 55) = wx at *
  refine (bytes_own _ dat wx (by have := HDL.out; omega) (HBY.out.below HW1.out)).mono ?_
  rintro e w2 ⟨g, cg, rfl, ho2, hb2⟩
  have hg2 : wx.heap.size ≤ g ∧ g < w2.heap.size := ho2.lt g rfl
  have HG := Lib.hid hg2
  have HO2 := Lib.hid ho2
  have HN2 := Lib.hid (HN1.out.below hb2)
  have HM2 := Lib.hid (HM1.out.below hb2)
  have HB2 := Lib.hid (HB1.out.below hb2 HB1.out.lt)
  have HW2 := Lib.hid (HW1.out.trans (hb2.mono HW1.out.size))
  have HK2 := Lib.hid (HK1.out.trans (hb2.mono HK1.out.size))
  have HA2 := Lib.hid ((Av.nothing HN1.out (X := [g]) (fun x hx => by obtain rfl : x = g := by simpa using hx
                                                                      exact hg2.1)).below hb2)
  have o2 := (HB2.out.cell 2).trans rfl
  have o3 := (HB2.out.cell 3).trans rfl
  have HPU := Lib.hid (nput2_any w2 E ((HE.out.below HW2.out).on [0, 2, 5] rfl) n b p c st HN2.out f t HF.out HT.out (.slice (some ⟨g, 0, none⟩) dat.length cg) dat (fun w' k => owns_byt (own_nS ho2 k HN2.out.ty (by decide) (by decide))) ⟨HO.out.pos, HLO.out⟩)
  clear ho2 hb2 hg2
  go_wp2_with fail
  refine HPU.out.mono ?_
  rintro e w3 ⟨⟨rfl, ⟨p', hp', hn3⟩, k3⟩, hav⟩
  have hty := HN2.out.ty
  have HN3 := Lib.hid hn3
  have HP3 := Lib.hid (hp'.lower HK2.out.size)
  have HO3 := Lib.hid (own_nS HO2.out k3 hty (by decide) (by decide))
  have HM3 := Lib.hid (HM2.out.farN k3 hty)
  have HB3 := Lib.hid (blk_nS HB2.out k3 hty (by decide) (by decide))
  have HW3 := Lib.hid (HW2.out.trans (k3.below HSN.out HW2.out.size))
  have HK3 := Lib.hid ((But.of_below HK2.out).trans k3)
  have HA3 := Lib.hid (hav [g] (fun x hx => by obtain rfl : x = g := by simpa using hx
                                               exact HG.out.2) HA2.out)
  clear hp' hn3 k3 hav hty HPU o2 o3
  have hdl := HDL.out
  go_wp2_with fail
  go_loopw [37] (fun i wr => ∃ k : Nat, k ≤ dat.length ∧ i = .int .i64 k ∧ Mut wr (.slice (some ⟨g, 0, none⟩) dat.length cg) dat.length ∧ But [g] w3 wr) (fun i _ => dat.length - (intOf i).toNat)
  case atStart => exact ⟨0, by omega, rfl, Mut.of_own HO3.out, but_refl _ _⟩
  case round =>
    obtain ⟨k, hk, rfl, hmu, hbr⟩ := hrel
    have HBR := Lib.hid hbr
    clear hbr
    by_cases hlt : k < dat.length
    · rcases hmu with h0 | ⟨g', c', cs, he, hcs, hby⟩
      · omega
      · cases he
        obtain ⟨y, hy⟩ := hby k hlt
        have z0 := (hcs.cell k).trans hy
        have f0 := hcs.frozen k
        have HCS := Lib.hid hcs
        have HYY := Lib.hid hby
        clear hcs hby hy
        go_wp2_with fail
        go_roundw
        case rel => exact ⟨k + 1, hlt, by go_num, Mut.set_ HCS.out HYY.out k _, HBR.out.set_ g k _ (by simp)⟩
        case measure => simp [intOf]; omega
    · obtain rfl : k = dat.length := by omega
      obtain ⟨cs9, hcs9⟩ : ∃ cs, Blk w3 g 5 cs := by
        rcases HO3.out.2 with ⟨h0, _⟩ | ⟨g9, cap, cur, h0, _, hh, _⟩
        · cases h0
        · cases h0
          exact ⟨cur, hh⟩
      have HN4 := Lib.hid (HN3.out.av HA3.out hcs9 HBR.out)
      have HM4 := Lib.hid (HM3.out.bytes hcs9 HBR.out)
      have hgw : w.heap.size < g := by have := HG.out.1; have := HB1.out.lt; omega
      have HB4 := Lib.hid (HBR.out.blk HB3.out (by simp; omega))
      have HW4 := Lib.hid (HW3.out.trans (HBR.out.below (fun s hs => by
        obtain rfl : s = g := by simpa using hs
        have := HW0.out.size
        omega) HW3.out.size))
      have HK4 := Lib.hid (HK3.out.after HBR.out (by omega))
      have o2 := (HB4.out.cell 2).trans rfl
      have o3 := (HB4.out.cell 3).trans rfl
      have o5 := (HB4.out.cell 5).trans rfl
      have sS := str_of (HBY.out.below HW4.out)
      clear hmu hcs9 hk hlt hgw
      go_wp2_with fail
      refine (rput_any wr m q R st HM4.out f t dat (by have := HO.out.len; omega) ⟨HO.out.pos, HLO.out⟩).mono ?_
      rintro e w5 ⟨rfl, ⟨q', hq', hm5⟩, k5⟩
      have HN5 := Lib.hid (HN4.out.far k5 HM4.out.ty)
      have HM5 := Lib.hid hm5
      have HQ5 := Lib.hid (hq'.lower HK4.out.size)
      have HK5 := Lib.hid ((but_l (T := mS m q R) HK4.out).trans (but_r k5))
      have HW5 := Lib.hid (HW4.out.trans (k5.below HSM.out HW4.out.size))
      clear hq' hm5 k5 o2 o3 o5 sS
      have HNU := Lib.hid (num_any w5 E (st.putE (f, t, dat)) HKK.out (HE.out.below HW5.out))
      generalize st.putE (f, t, dat) = kE at *
      generalize st.putB (f, t, dat) = kB at *
      cases kB with
      | true =>
        go_wp2_with fail
        refine HNU.out.mono ?_
        rintro e w6 ⟨rfl, hb6⟩
        go_wp2_with fail
        go_ret
        exact ⟨rfl, ⟨p', q', HOK.out, HP3.out, HQ5.out, (HN5.out.below hb6).mono (Nat.le_succ _), HM5.out.below hb6⟩, HK5.out.trans (But.of_below hb6)⟩
      | false =>
        go_wp2_with fail
        refine HNU.out.mono ?_
        rintro e w6 ⟨rfl, hb6⟩
        go_wp2_with fail
        go_ret
        exact ⟨rfl, ⟨p', q', HOK.out, HP3.out, HQ5.out, (HN5.out.below hb6).mono (Nat.le_succ _), HM5.out.below hb6⟩, HK5.out.trans (But.of_below hb6)⟩
/-- ONE STEP -/
theorem step_any (w0 w : World) (E : Nat → Addr) (n b m : Nat) (p q : Option Nat) (R : List Nat) (c : Nat) (st : NSt) (vd : Value) (dat : List UInt8) (kind at_ f t : Int) (is : Bool) (hf : In64 f) (ht : In64 t) (h : StepIn w0 w E n b m p q R c st vd dat) :
    Calls Tryd.prog 19 #[.pointer (some ⟨n, 0, none⟩), .pointer (some ⟨m, 0, none⟩), .agg #[.int .i64 kind, .int .i64 at_, .int .i64 f, .int .i64 t, .bool is, vd]] w (StepOut n b m p q R c st (stepN st kind at_ f t is dat) w) := by
  by_cases h1 : kind = 1
  · subst h1; exact step_put w0 w E n b m p q R c st vd dat at_ f t is hf ht h
  by_cases h2 : kind = 2
  · subst h2; exact step_take w0 w E n b m p q R c st vd dat at_ f t is h
  by_cases h3 : kind = 3
  · subst h3; exact step_copy w0 w E n b m p q R c st vd dat at_ f t is h
  by_cases h4 : kind = 4
  · subst h4; exact step_move w0 w E n b m p q R c st vd dat at_ f t is h
  by_cases h5 : kind = 5
  · subst h5; exact step_cut w0 w E n b m p q R c st vd dat at_ f t is hf ht h
  exact step_other w0 w E n b m p q R c st vd dat kind at_ f t is h (by simpa using h1) (by simpa using h2) (by simpa using h3) (by simpa using h4) (by simpa using h5)
theorem stepN_ok {st : NSt} (h : OkS st) (kind at_ f t : Int) (is : Bool) (dat : List UInt8) : OkN st (stepN st kind at_ f t is dat) := by
  unfold stepN
  split
  · exact h.put _
  split
  · split
    · exact h.cutOut _
    · exact h.same
  split
  · split
    · rename_i hd
      obtain ⟨i, x, rfl, hx⟩ := there_nat hd
      rw [Int.toNat_natCast, show st.ls.getD i (0, 0, []) = x from by rw [List.getD, hx]; rfl]
      exact h.add (h.dat x (List.mem_of_getElem? hx))
    · exact h.same
  split
  · split
    · rename_i hd
      rw [Bool.and_eq_true] at hd
      obtain ⟨i, x, rfl, hx⟩ := there_nat hd.1
      rw [Int.toNat_natCast, show st.ls.getD i (0, 0, []) = x from by rw [List.getD, hx]; rfl]
      exact h.moved i _ x (List.getElem?_eq_some_iff.1 hx).1 hx
    · exact h.same
  split
  · exact h.cut _ _ _
  · exact h.same
end Go.Proofs.YtbbhecadpbnobaaDoor
