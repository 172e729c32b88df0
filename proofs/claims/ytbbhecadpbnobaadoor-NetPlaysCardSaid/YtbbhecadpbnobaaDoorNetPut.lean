/-
  NetPut: the walk of a net's Put.
-/
import Derived.Test.YtbbhecadpbnobaaDoorNetC
namespace Go.Proofs.YtbbhecadpbnobaaDoor
open Go.RowKit
attribute [local irreducible] wpPhi

theorem MapW.below {w w' : World} {b n : Nat} {f : Int → Int → Bool} (h : MapW w b n f) (k : Below w.heap.size w w') : MapW w' b n f := h.but (But.of_below k : But [] w w') rfl
theorem Nn.setlost {w : World} {n b : Nat} {p : Option Nat} {c : Nat} {st : NSt} (h : Nn w n b p c st) (x : Int) : Nn (w.setCell ⟨n, 3, none⟩ (.int .i64 x)) n b p c ⟨st.nodes, st.ls, st.cuts, x⟩ := by
  obtain ⟨⟨cn, tn⟩, tp, hbn, hbp, _⟩ := h.types
  obtain ⟨⟨v, xs, rfl, h2, h3, h4, h5⟩, h6⟩ := h
  have k2 : But [n] w (w.setCell ⟨n, 3, none⟩ (.int .i64 x)) := (but_refl _ _).set_ n 3 _ (by simp)
  have hno : ∀ (base size m : Nat) (e : TypeId) (u : Value) (ys : List Value), w.ownsRow base e size u m ys → e ≠ 70 → ∀ g, u.ownBlock = some g → [n].contains g = false := fun base size m e u ys ho hne g hg => by
    rcases ho.2 with ⟨h0, _⟩ | ⟨g9, cap, cur, h0, _, hh, _⟩
    · rw [h0] at hg; cases hg
    · rw [h0] at hg
      cases hg
      have := Blk.ne_ (show Blk w _ e cur from hh) h3 hne
      simpa using this
  exact ⟨⟨v, xs, rfl, h2, h3.set_ 3 _, k2.owns2 (hno _ _ _ _ _ _ h4 (by decide)) h4, fun x hx => k2.owns2 (hno _ _ _ _ _ _ (h5 x hx) (by decide)) (h5 x hx)⟩, h6.but k2 (by simpa using hbn)⟩
def NSt.put (st : NSt) (x : Lt) : NSt :=
  if st.has x.1 && st.has x.2.1 then (if 1000 < x.2.2.length then st else if st.cuts x.1 x.2.1 then ⟨st.nodes, st.ls, st.cuts, st.lost + 1⟩ else st.add x) else st
def NSt.putE (st : NSt) (x : Lt) : Nat := if st.has x.1 && st.has x.2.1 then (if 1000 < x.2.2.length then 3 else if st.cuts x.1 x.2.1 then 0 else st.addE) else 1
def NSt.putB (st : NSt) (x : Lt) : Bool := (st.has x.1 && st.has x.2.1) && !decide (1000 < x.2.2.length) && !st.cuts x.1 x.2.1 && decide (st.ls.length < 64)
set_option maxRecDepth 20000 in
set_option maxHeartbeats 2000000 in
theorem nput2_any (w : World) (E : Nat → Addr) (he : ErrsOn [0, 2, 5] w E) (n b : Nat) (p : Option Nat) (c : Nat) (st : NSt) (h : Nn w n b p c st) (f t : Int) (hf : In64 f) (ht : In64 t) (vd : Value) (l : List UInt8) (hvd : ∀ w', But (nS n b p) w w' → Byt w' vd l) (hlost : 0 ≤ st.lost ∧ st.lost ≤ 1000000) :
    Calls Tryd.prog 10 #[.pointer (some ⟨n, 0, none⟩), .agg #[.int .i64 f, .int .i64 t, vd]] w (fun e w' => NOut n b p c (st.put (f, t, l)) (.tuple #[.bool (st.putB (f, t, l)), errV E (st.putE (f, t, l))]) w e w' ∧ AvK w n w') := by
  have HN := Lib.hid h
  have HVD := Lib.hid hvd
  have HE := Lib.hid he
  obtain ⟨qd, kd, rfl, _, hkd, _⟩ := hvd w (but_refl _ _)
  unfold maxLen at hkd
  have hbx := Blk.new w 37 #[.int .i64 f, .int .i64 t, .slice qd l.length kd]
  have hkx := below_alloc1 w (.cells #[.int .i64 f, .int .i64 t, .slice qd l.length kd] 37)
  have hex := he.below hkx
  have e0 := hex.cell 0 rfl
  have e2 := hex.cell 2 rfl
  simp only [errVar, List.getD_cons_zero, List.getD_cons_succ, errAt] at e0 e2
  have HKX := Lib.hid hkx
  have HX := Lib.hid hbx
  have x0 := (hbx.cell 0).trans rfl
  have x1 := (hbx.cell 1).trans rfl
  have x2 := (hbx.cell 2).trans rfl
  have HNX := Lib.hid (h.below hkx)
  have HH := Lib.hid (fun i => has_any _ n b p c st HNX.out i)
  clear he h hvd hbx hex
  cases d1 : st.has f with
  | false =>
    have HQ := Lib.hid (show st.put (f, t, l) = st ∧ st.putE (f, t, l) = 1 ∧ st.putB (f, t, l) = false by unfold NSt.put NSt.putE NSt.putB; simp only [d1]; exact ⟨rfl, rfl, rfl⟩)
    have H1 := Lib.hid (HH.out f)
    rw [show (decide (0 ≤ f) && decide (f < st.nodes)) = false from d1] at H1
    clear d1 HH hkx
    go_enter Tryd.func10, Tryd.ntmps10
    go_wp2_with fail
    refine H1.out.mono ?_
    rintro e w1 ⟨rfl, rfl⟩
    go_wp2_with fail
    go_quiet (fail)
    go_wp2_with fail
    go_ret2
    rw [HQ.out.1, HQ.out.2.1, HQ.out.2.2]
    exact ⟨NOut.same HN.out (HKX.out.trans ((below_drewN _ _).mono HKX.out.size)), AvK.of_below (HKX.out.trans ((below_drewN _ _).mono HKX.out.size))⟩
  | true =>
    have H1 := Lib.hid (HH.out f)
    rw [show (decide (0 ≤ f) && decide (f < st.nodes)) = true from d1] at H1
    cases d2 : st.has t with
    | false =>
      have HQ := Lib.hid (show st.put (f, t, l) = st ∧ st.putE (f, t, l) = 1 ∧ st.putB (f, t, l) = false by unfold NSt.put NSt.putE NSt.putB; simp only [d1, d2]; exact ⟨rfl, rfl, rfl⟩)
      have H2 := Lib.hid (HH.out t)
      rw [show (decide (0 ≤ t) && decide (t < st.nodes)) = false from d2] at H2
      clear d1 d2 HH hkx
      go_enter Tryd.func10, Tryd.ntmps10
      go_wp2_with fail
      refine H1.out.mono ?_
      rintro e w1 ⟨rfl, rfl⟩
      go_wp2_with fail
      refine H2.out.mono ?_
      rintro e w1 ⟨rfl, rfl⟩
      go_wp2_with fail
      go_quiet (fail)
      go_wp2_with fail
      go_ret2
      rw [HQ.out.1, HQ.out.2.1, HQ.out.2.2]
      exact ⟨NOut.same HN.out (HKX.out.trans ((below_drewN _ _).mono HKX.out.size)), AvK.of_below (HKX.out.trans ((below_drewN _ _).mono HKX.out.size))⟩
    | true =>
      have H2 := Lib.hid (HH.out t)
      rw [show (decide (0 ≤ t) && decide (t < st.nodes)) = true from d2] at H2
      by_cases hlong : 1000 < l.length
      · have d3 : decide (1000 < (l.length : Int)) = true := by rw [decide_eq_true_eq]; omega
        have d3' : decide (1000 < l.length) = true := by rw [decide_eq_true_eq]; exact hlong
        have HQ := Lib.hid (show st.put (f, t, l) = st ∧ st.putE (f, t, l) = 3 ∧ st.putB (f, t, l) = false by unfold NSt.put NSt.putE NSt.putB; simp only [d1, d2, hlong, decide_true]; exact ⟨rfl, rfl, rfl⟩)
        clear d1 d2 HH hkx hlong
        go_enter Tryd.func10, Tryd.ntmps10
        go_wp2_with fail
        refine H1.out.mono ?_
        rintro e w1 ⟨rfl, rfl⟩
        go_wp2_with fail
        refine H2.out.mono ?_
        rintro e w1 ⟨rfl, rfl⟩
        go_wp2_with fail
        go_quiet (fail)
        go_wp2_with fail
        go_ret2
        rw [HQ.out.1, HQ.out.2.1, HQ.out.2.2]
        exact ⟨NOut.same HN.out (HKX.out.trans ((below_drewN _ _).mono HKX.out.size)), AvK.of_below (HKX.out.trans ((below_drewN _ _).mono HKX.out.size))⟩
      · have d3 : decide (1000 < (l.length : Int)) = false := by rw [decide_eq_false_iff_not]; omega
        have d3' : decide (1000 < l.length) = false := by rw [decide_eq_false_iff_not]; exact hlong
        have HLN := Lib.hid (show l.length ≤ 1000 by omega)
        have HQ0 := Lib.hid (And.intro d1 d2)
        have HD3 := Lib.hid d3'
        clear d1 d2 HH hkx hlong
        go_enter Tryd.func10, Tryd.ntmps10
        go_wp2_with fail
        refine H1.out.mono ?_
        rintro e w1 ⟨rfl, rfl⟩
        go_wp2_with fail
        refine H2.out.mono ?_
        rintro e w1 ⟨rfl, rfl⟩
        go_wp2_with fail
        clear x0 x1 x2 e0 e2 d3 d3'
        generalize w.alloc (.cells #[.int .i64 f, .int .i64 t, .slice qd l.length kd] 37) = wx at *
        have hbb : Below wx.heap.size wx wx := Below.refl _ _
        obtain ⟨v, xs, hvp, hxs, hbn, _⟩ := HNX.out.ex
        have HBN := Lib.hid hbn
        clear hvp hxs hbn
        refine wp_phi (fun w' => (Blk w' n 70 #[.int .i64 st.nodes, v, .map (some b), .int .i64 st.lost]) ∧ (Blk w' w.heap.size 37 #[.int .i64 f, .int .i64 t, .slice qd l.length kd]) ∧ (MapW w' b c st.cuts) ∧ Below wx.heap.size wx w') [] [] (by kernel_rfl) (by kernel_rfl) ?_ ?_ ⟨HBN.out, HX.out, HNX.out.map, (hbb).drew⟩ ?_
        · rintro w1' w2' ⟨gn, gx, gm, hIB⟩ hb
          exact ⟨(by first | exact gn.below hb | exact gn.keep (Below.keeps hb) | exact Below.keeps hb _ _ gn | exact Blk.below gn hb (Blk.lt gn)), (by first | exact gx.below hb | exact gx.keep (Below.keeps hb) | exact Below.keeps hb _ _ gx | exact Blk.below gx hb (Blk.lt gx)), (by first | exact gm.below hb | exact gm.keep (Below.keeps hb) | exact Below.keeps hb _ _ gm | exact Blk.below gm hb (Blk.lt gm)), hIB.trans (hb.mono hIB.size)⟩
        · intro p hp; cases hp
        repeat (first | (refine phi_skipK rfl (fun K hK => ?_); simp only [Act.put, List.setIfInBounds_toArray, List.set_cons_succ, List.set_cons_zero]; (try simp only [List.cons_append]); (try simp only [List.nil_append]); apply hK; clear hK K) | (refine phi_pureK rfl rfl (fun K hK => ?_); apply Exists.intro; constructor; (focus (rintro w' ⟨gn, gx, gm, hIB⟩; have q0 := (gn.cell 2).trans rfl; have q1 := (gx.cell 0).trans rfl; have q2 := (gx.cell 1).trans rfl; have q3 := gm.look hf ht; unfold wayV at q3; clear gn gx gm hIB; first | (go_simp; done) | (go_simp; (try go_bits); (try go_simp); rfl) | go_simp)); simp only [Act.put, List.setIfInBounds_toArray, List.set_cons_succ, List.set_cons_zero]; (try simp only [List.cons_append]); (try simp only [List.nil_append]); apply hK; clear hK K))
        refine phi_done ?_
        rintro w5 ⟨gn, gx, gm, hb5⟩ _
        refine wpList_nil ?_
        have HN5 := Lib.hid (HNX.out.below hb5)
        have HB5 := Lib.hid (HKX.out.trans (hb5.mono HKX.out.size))
        have x0 := (gx.cell 0).trans rfl
        have x1 := (gx.cell 1).trans rfl
        have x2 := (gx.cell 2).trans rfl
        have c3 := (gn.cell 3).trans rfl
        have f3 := gn.frozen 3
        clear gn gx gm hb5 hbb
        cases hcut : st.cuts f t with
        | true =>
          have HQ := Lib.hid (show st.put (f, t, l) = ⟨st.nodes, st.ls, st.cuts, st.lost + 1⟩ ∧ st.putE (f, t, l) = 0 ∧ st.putB (f, t, l) = false by
            have hn : ¬ 1000 < l.length := by have := HLN.out; omega
            unfold NSt.put NSt.putE NSt.putB
            simp only [HQ0.out.1, HQ0.out.2, hcut, Bool.and_self, if_true, if_neg hn]
            exact ⟨trivial, trivial, by simp⟩)
          clear hcut
          go_wp2_with fail
          go_ret2
          rw [HQ.out.1, HQ.out.2.1, HQ.out.2.2]
          exact ⟨⟨rfl, ⟨p, .inl rfl, HN5.out.setlost _⟩, (But.of_below HB5.out).set_ n 3 _ (List.contains_iff_mem.2 (mem_nS.2 (.inl rfl)))⟩, (AvK.of_below HB5.out).trans HB5.out.size (AvK.setlost _)⟩
        | false =>
          have HQ := Lib.hid (show st.put (f, t, l) = st.add (f, t, l) ∧ st.putE (f, t, l) = st.addE ∧ st.putB (f, t, l) = decide (st.ls.length < 64) by
            have hn : ¬ 1000 < l.length := by have := HLN.out; omega
            unfold NSt.put NSt.putE NSt.putB
            simp only [HQ0.out.1, HQ0.out.2, hcut, Bool.and_self, if_true, if_neg hn]
            exact ⟨rfl, rfl, by simp [hn]⟩)
          clear hcut
          go_wp2_with fail
          refine (nadd2_any w5 E (HE.out.below HB5.out) n b p c st HN5.out f t _ l HLN.out (fun w' k => HVD.out w' ((But.of_below HB5.out).trans k))).mono ?_
          rintro e w6 ⟨⟨rfl, ⟨p6, hp6, hn6⟩, k6⟩, hav6⟩
          have HAV := Lib.hid ((AvK.of_below HB5.out).trans HB5.out.size hav6)
          have HR := Lib.hid (show NOut n b p c (st.add (f, t, l)) (.tuple #[.bool (decide (st.ls.length < 64)), errV E st.addE]) w (.returned (.tuple #[.bool (decide (st.ls.length < 64)), errV E st.addE])) w6 from
            ⟨rfl, ⟨p6, by
              rcases hp6 with h | h
              · exact .inl h
              · exact .inr fun g hg => Nat.le_trans HB5.out.size (h g hg), hn6⟩, (But.of_below HB5.out).trans k6⟩)
          clear hp6 hn6 k6 hav6
          by_cases hfull : st.ls.length < 64
          · have e : st.addE = 0 := by unfold NSt.addE; rw [if_pos hfull]
            have e' : decide (st.ls.length < 64) = true := by rw [decide_eq_true_eq]; exact hfull
            rw [e, e'] at HR
            rw [e] at HQ ⊢
            rw [e'] at HQ
            rw [errV_zero] at *
            clear e e' hfull
            go_wp2_with fail
            go_ret2
            rw [HQ.out.1, HQ.out.2.1, HQ.out.2.2]
            exact ⟨HR.out, HAV.out⟩
          · have e : st.addE = 6 := by unfold NSt.addE; rw [if_neg hfull]
            have e' : decide (st.ls.length < 64) = false := by rw [decide_eq_false_iff_not]; exact hfull
            rw [e, e'] at HR
            rw [e] at HQ ⊢
            rw [e'] at HQ
            rw [show errV E 6 = .iface 110 (.pointer (some (E 5))) from rfl] at *
            clear e e' hfull
            go_wp2_with fail
            go_ret2
            rw [HQ.out.1, HQ.out.2.1, HQ.out.2.2]
            exact ⟨HR.out, HAV.out⟩
theorem nput_any (w : World) (E : Nat → Addr) (he : ErrsOn [0, 2, 5] w E) (n b : Nat) (p : Option Nat) (c : Nat) (st : NSt) (h : Nn w n b p c st) (f t : Int) (hf : In64 f) (ht : In64 t) (vd : Value) (l : List UInt8) (hvd : ∀ w', But (nS n b p) w w' → Byt w' vd l) (hlost : 0 ≤ st.lost ∧ st.lost ≤ 1000000) :
    Calls Tryd.prog 10 #[.pointer (some ⟨n, 0, none⟩), .agg #[.int .i64 f, .int .i64 t, vd]] w (NOut n b p c (st.put (f, t, l)) (.tuple #[.bool (st.putB (f, t, l)), errV E (st.putE (f, t, l))]) w) :=
  (nput2_any w E he n b p c st h f t hf ht vd l hvd hlost).mono fun _ _ h => h.1
end Go.Proofs.YtbbhecadpbnobaaDoor
