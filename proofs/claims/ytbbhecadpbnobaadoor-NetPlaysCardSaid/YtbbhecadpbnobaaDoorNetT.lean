/-
  NetT: the walk of liaisonlaw12.step.
-/
import Derived.Test.YtbbhecadpbnobaaDoorNetS
namespace Go.Proofs.YtbbhecadpbnobaaDoor
open Go.RowKit
attribute [local go_sem] bs_toList bs_size
attribute [local irreducible] wpPhi wpPhiU

/-- what scripts keep of a net -/
structure OkS (st : NSt) : Prop where
  len : st.ls.length ≤ 64
  dat : ∀ x ∈ st.ls, x.2.2.length ≤ 1000
  pos : 0 ≤ st.lost
def OkN (st st' : NSt) : Prop := OkS st' ∧ st'.lost ≤ st.lost + 1 ∧ st'.nodes = st.nodes
theorem OkS.same {st : NSt} (h : OkS st) : OkN st st := ⟨h, by omega, rfl⟩
theorem OkS.add {st : NSt} (h : OkS st) {x : Lt} (hx : x.2.2.length ≤ 1000) : OkN st (st.add x) := by
  unfold NSt.add
  split
  · rename_i hl
    refine ⟨⟨by rw [List.length_append]; simp; omega, fun y hy => ?_, h.pos⟩, by show st.lost ≤ st.lost + 1; omega, rfl⟩
    rcases List.mem_append.1 hy with hy | hy
    · exact h.dat y hy
    · obtain rfl : y = x := by simpa using hy
      exact hx
  · exact h.same
theorem OkS.put {st : NSt} (h : OkS st) (x : Lt) : OkN st (st.put x) := by
  unfold NSt.put
  split
  · split
    · exact h.same
    · rename_i hl
      split
      · exact ⟨⟨h.len, h.dat, by show 0 ≤ st.lost + 1; have := h.pos; omega⟩, by show st.lost + 1 ≤ st.lost + 1; omega, rfl⟩
      · exact h.add (by omega)
  · exact h.same
theorem OkS.cutOut {st : NSt} (h : OkS st) (i : Nat) : OkN st (st.cutOut i) :=
  ⟨⟨Nat.le_trans (List.length_eraseIdx_le _ _) h.len, fun x hx => h.dat x (List.mem_of_mem_eraseIdx hx), h.pos⟩, by show st.lost ≤ st.lost + 1; omega, rfl⟩
theorem OkS.moved {st : NSt} (h : OkS st) (i t : Nat) (x : Lt) (hi : i < st.ls.length) (hx : st.ls[i]? = some x) : OkN st (st.moved i t x) := by
  refine ⟨⟨?_, fun y hy => ?_, h.pos⟩, by show st.lost ≤ st.lost + 1; omega, rfl⟩
  · have h1 := h.len
    show ((st.ls.eraseIdx i).take t ++ x :: (st.ls.eraseIdx i).drop t).length ≤ 64
    rw [List.length_append, List.length_cons, List.length_take, List.length_drop, List.length_eraseIdx, if_pos hi]
    omega
  · rcases List.mem_append.1 hy with hy | hy
    · exact h.dat y (List.mem_of_mem_eraseIdx (List.mem_of_mem_take hy))
    · rcases List.mem_cons.1 hy with rfl | hy
      · exact h.dat y (List.mem_of_getElem? hx)
      · exact h.dat y (List.mem_of_mem_eraseIdx (List.mem_of_mem_drop hy))
theorem OkS.cut {st : NSt} (h : OkS st) (f t : Int) (x : Bool) : OkN st (st.cut f t x) := by
  unfold NSt.cut
  split
  · exact ⟨⟨h.len, h.dat, h.pos⟩, by show st.lost ≤ st.lost + 1; omega, rfl⟩
  · exact h.same
def NSt.thr (st : NSt) (i : Int) : Bool := decide (0 ≤ i) && decide (i < (st.ls.length : Int))
/-- what an op makes of a net -/
def stepN (st : NSt) (kind at_ f t : Int) (is : Bool) (dat : List UInt8) : NSt :=
  if kind = 1 then st.put (f, t, dat)
  else if kind = 2 then (if st.thr at_ = true then st.cutOut at_.toNat else st)
  else if kind = 3 then (if st.thr at_ = true then st.add (st.ls.getD at_.toNat (0, 0, [])) else st)
  else if kind = 4 then (if (st.thr at_ && st.thr t) = true then st.moved at_.toNat t.toNat (st.ls.getD at_.toNat (0, 0, [])) else st)
  else if kind = 5 then st.cut f t is
  else st
theorem stepN_2 (st : NSt) (at_ f t : Int) (is : Bool) (dat : List UInt8) : stepN st 2 at_ f t is dat = if st.thr at_ = true then st.cutOut at_.toNat else st := rfl
theorem stepN_3 (st : NSt) (at_ f t : Int) (is : Bool) (dat : List UInt8) : stepN st 3 at_ f t is dat = if st.thr at_ = true then st.add (st.ls.getD at_.toNat (0, 0, [])) else st := rfl
theorem stepN_4 (st : NSt) (at_ f t : Int) (is : Bool) (dat : List UInt8) : stepN st 4 at_ f t is dat = if (st.thr at_ && st.thr t) = true then st.moved at_.toNat t.toNat (st.ls.getD at_.toNat (0, 0, [])) else st := rfl
/-- THE STEP'S OUTCOME -/
def StepOut (n b m : Nat) (p q : Option Nat) (R : List Nat) (c : Nat) (st sx : NSt) (w : World) (e : Ending) (w' : World) : Prop :=
  e = .returned (.bool true) ∧ (∃ p' q', OkN st sx ∧ Nx w p p' ∧ Nx w q q' ∧ Nn w' n b p' (c + 1) sx ∧ Mn w' m q' R sx) ∧ But (nS n b p ++ mS m q R) w w'
theorem but_l {S T : List Nat} {w w' : World} (h : But S w w') : But (S ++ T) w w' := h.more fun _ hg => List.mem_append.2 (.inl hg)
theorem but_r {S T : List Nat} {w w' : World} (h : But T w w') : But (S ++ T) w w' := h.more fun _ hg => List.mem_append.2 (.inr hg)
/-- the net's call (at jn) and the document's (at jm) -/
def rStep (jn jm : Nat) (n b : Nat) (p : Option Nat) (m : Nat) (q : Option Nat) (R : List Nat) (j : Nat) (w w' : World) : Prop :=
  if j = jn then But (nS n b p) w w' ∧ NTy w n b p else if j = jm then But (mS m q R) w w' ∧ MTy w m q R else Below w.heap.size w w'
section
variable {jn jm n b m j : Nat} {p q : Option Nat} {R : List Nat} {w w' : World}
theorem rStep_n : rStep jn jm n b p m q R jn w w' = (But (nS n b p) w w' ∧ NTy w n b p) := by unfold rStep; rw [if_pos rfl]
theorem rStep_m (h : jm ≠ jn) : rStep jn jm n b p m q R jm w w' = (But (mS m q R) w w' ∧ MTy w m q R) := by unfold rStep; rw [if_neg h, if_pos rfl]
theorem rStep_o (h1 : j ≠ jn) (h2 : j ≠ jm) : rStep jn jm n b p m q R j w w' = Below w.heap.size w w' := by unfold rStep; rw [if_neg h1, if_neg h2]
theorem rStep_but (h : rStep jn jm n b p m q R j w w') : But (nS n b p ++ mS m q R) w w' := by
  unfold rStep at h
  split at h
  · exact but_l h.1
  · split at h
    · exact but_r h.1
    · exact But.of_below h
theorem rStep_nn {c : Nat} {st : NSt} (h : rStep jn jm n b p m q R j w w') (hj : j ≠ jn) {p' : Option Nat} (hn : Nn w n b p' c st) : Nn w' n b p' c st := by
  unfold rStep at h
  rw [if_neg hj] at h
  split at h
  · exact hn.far h.1 h.2
  · exact hn.below h
theorem rStep_mn {st : NSt} (h : rStep jn jm n b p m q R j w w') (hj : j ≠ jm) {q' : Option Nat} (hm : Mn w m q' R st) : Mn w' m q' R st := by
  unfold rStep at h
  split at h
  · exact hm.farN h.1 h.2
  · exact hm.below h
end
def PFactM (k : Int) (F : World → Prop) : Part := ⟨fun v => v = .int .i64 k, fun w _ => F w⟩
def PFactE (v0 : Value) (F : World → Prop) : Part := ⟨fun v => v = v0, fun w _ => F w⟩
theorem Nx.lower {w w' : World} {o o' : Option Nat} (h : Nx w' o o') (hs : w.heap.size ≤ w'.heap.size) : Nx w o o' := by
  rcases h with h | h
  · exact .inl h
  · exact .inr fun g hg => Nat.le_trans hs (h g hg)
/-- what a step is told -/
structure StepIn (w0 w : World) (E : Nat → Addr) (n b m : Nat) (p q : Option Nat) (R : List Nat) (c : Nat) (st : NSt) (vd : Value) (dat : List UInt8) : Prop where
  errs : Errs w0 E
  low : Below w0.heap.size w0 w
  sn : ∀ g ∈ nS n b p, w0.heap.size ≤ g
  sm : ∀ g ∈ mS m q R, w0.heap.size ≤ g
  nn : Nn w n b p c st
  mn : Mn w m q R st
  ok : OkS st
  lost : st.lost ≤ 1000000
  cc : c < maxLen
  byt : Byt w0 vd dat
  dl : dat.length ≤ 60000
set_option maxRecDepth 20000 in
set_option maxHeartbeats 4000000 in
theorem step_cut (w0 w : World) (E : Nat → Addr) (n b m : Nat) (p q : Option Nat) (R : List Nat) (c : Nat) (st : NSt) (vd : Value) (dat : List UInt8) (at_ f t : Int) (is : Bool) (hf : In64 f) (ht : In64 t) (h : StepIn w0 w E n b m p q R c st vd dat) :
    Calls Tryd.prog 19 #[.pointer (some ⟨n, 0, none⟩), .pointer (some ⟨m, 0, none⟩), .agg #[.int .i64 5, .int .i64 at_, .int .i64 f, .int .i64 t, .bool is, vd]] w (StepOut n b m p q R c st (stepN st 5 at_ f t is dat) w) := by
  rw [show stepN st 5 at_ f t is dat = st.cut f t is from rfl]
  have HE := Lib.hid h.errs
  have HW0 := Lib.hid h.low
  have HSN := Lib.hid h.sn
  have HSM := Lib.hid h.sm
  have HN := Lib.hid h.nn
  have HM := Lib.hid h.mn
  have HO := Lib.hid h.ok
  have HLO := Lib.hid h.lost
  have HCC := Lib.hid h.cc
  have HBY := Lib.hid h.byt
  have HDL := Lib.hid h.dl
  obtain ⟨qd, kd, rfl, _⟩ := id h.byt
  have hk1 := below_alloc1 w (.cells #[.int .i64 5, .int .i64 at_, .int .i64 f, .int .i64 t, .bool is, .slice qd dat.length kd] 55)
  have HB1 := Lib.hid (Blk.new w 55 #[.int .i64 5, .int .i64 at_, .int .i64 f, .int .i64 t, .bool is, .slice qd dat.length kd])
  have HK1 := Lib.hid hk1
  have HN1 := Lib.hid (h.nn.below hk1)
  have HM1 := Lib.hid (h.mn.below hk1)
  have HW1 := Lib.hid (h.low.trans (hk1.mono h.low.size))
  have o0 := (HB1.out.cell 0).trans rfl
  have o1 := (HB1.out.cell 1).trans rfl
  have o2 := (HB1.out.cell 2).trans rfl
  have o3 := (HB1.out.cell 3).trans rfl
  have o4 := (HB1.out.cell 4).trans rfl
  have o5 := (HB1.out.cell 5).trans rfl
  clear h hk1
  have HNC := Lib.hid (fun w' (hn : Nn w' n b p c st) (he : Errs w' E) => ncut_any w' E (he.on [0, 2, 5] rfl) n b p c st hn f t is hf ht HCC.out)
  have HMC := Lib.hid (fun w' (hm : Mn w' m q R st) => rcut_any w' m q R st hm f t is)
  have HOK := Lib.hid (HO.out.cut f t is)
  have HKK := Lib.hid (show st.cutE f t ≤ 14 by unfold NSt.cutE; split <;> omega)
  generalize st.cutE f t = k at *
  generalize st.cut f t is = st' at *
  go_enter Tryd.func19, Tryd.ntmps19
  go_wp2_with fail
  clear o0 o1 o2 o3 o4 o5
  generalize w.alloc (.cells #[.int .i64 5, .int .i64 at_, .int .i64 f, .int .i64 t, .bool is, .slice qd dat.length kd] 55) = wx at *
  refine wp_phiU (rStep 7 16 n b p m q R) (fun w' => Below w0.heap.size w0 w' ∧ But (nS n b p ++ mS m q R) w w' ∧ Blk w' w.heap.size 55 #[.int .i64 5, .int .i64 at_, .int .i64 f, .int .i64 t, .bool is, .slice qd dat.length kd])
    [(7, PFactE (errV E k) (fun w' => ∃ p', Nx w p p' ∧ Nn w' n b p' (c + 1) st')), (8, PVal (.int .i64 (k : Int))), (16, PFactM (k : Int) (fun w' => ∃ q', Nx w q q' ∧ Mn w' m q' R st'))]
    [(8, [7])] [(7, fun w' => Nn w' n b p c st), (16, fun w' => Mn w' m q R st)] [] (by kernel_rfl) (by kernel_rfl) ?_ ?_ ?_ ?_ ⟨HW1.out.drew, (But.of_below HK1.out.drew), HB1.out.below (Below.refl _ _).drew HB1.out.lt⟩ ?_
  · rintro p1 hp1 w1 w2 ⟨g1, g2, g3⟩ hR
    have hR := rStep_but hR
    have hlow : ∀ s ∈ nS n b p ++ mS m q R, w0.heap.size ≤ s := fun s hs => by
      rcases List.mem_append.1 hs with h | h
      · exact HSN.out s h
      · exact HSM.out s h
    refine ⟨g1.trans (hR.below hlow g1.size), g2.trans hR, hR.blk g3 ?_⟩
    rw [Bool.eq_false_iff]
    intro hc
    rcases List.mem_append.1 (List.contains_iff_mem.1 hc) with h | h
    · have := HN.out.lt _ h
      omega
    · have := HM.out.lt _ h
      omega
  · intro p1 hp p' hp' hne hks hns w1 w2 v hI hR hf
    simp only [List.mem_cons, List.not_mem_nil, or_false] at hp hp'
    rcases hp with rfl | rfl | rfl
    · obtain ⟨p9, h1, h2⟩ := hf
      exact ⟨p9, h1, rStep_nn hR hne h2⟩
    · trivial
    · obtain ⟨q9, h1, h2⟩ := hf
      exact ⟨q9, h1, rStep_mn hR hne h2⟩
  · intro p1 hp u hu hne w1 w2 hI hR hf
    simp only [List.mem_cons, List.not_mem_nil, or_false] at hu
    rcases hu with rfl | rfl
    · exact rStep_nn hR (fun e => hne e.symm) hf
    · exact rStep_mn hR (fun e => hne e.symm) hf
  · intro u hu
    simp only [List.mem_cons, List.not_mem_nil, or_false] at hu
    rcases hu with rfl | rfl
    · exact HN1.out.below (Below.refl _ _).drew
    · exact HM1.out.below (Below.refl _ _).drew
  repeat (first | (refine phiU_skipK rfl (fun K hK => ?_); simp only [Act.put, List.setIfInBounds_toArray, List.set_cons_succ, List.set_cons_zero]; (try simp only [List.cons_append]); (try simp only [List.nil_append]); apply hK; clear hK K) | (refine phiU_pureK rfl rfl (fun K hK => ?_); apply Exists.intro; constructor; (focus (rintro w' ⟨g1, g2, g3⟩; have q1 := (g3.cell 1).trans rfl; have q2 := (g3.cell 2).trans rfl; have q3 := (g3.cell 3).trans rfl; have q4 := (g3.cell 4).trans rfl; clear g1 g2 g3; first | (go_simp; done) | (go_simp; (try go_bits); (try go_simp); rfl) | go_simp)); simp only [Act.put, List.setIfInBounds_toArray, List.set_cons_succ, List.set_cons_zero]; (try simp only [List.cons_append]); (try simp only [List.nil_append]); apply hK; clear hK K))
  refine phiU_partK (PFactE (errV E k) (fun w' => ∃ p', Nx w p p' ∧ Nn w' n b p' (c + 1) st')) rfl rfl ⟨_, rfl⟩ ?_ (fun K hK v hv => ?_)
  · rintro w' ⟨g1, g2, g3⟩ hf hu
    have hn : Nn w' n b p c st := hu (7, fun w' => Nn w' n b p c st) (by simp) rfl
    have HCA := Lib.hid (HNC.out w' hn (HE.out.below g1))
    have HTY := Lib.hid hn.ty
    have HS2 := Lib.hid g2.size
    unfold gives
    clear hf hu hn g1 g2 g3
    go_simp
    refine HCA.out.mono ?_
    rintro e w'' ⟨rfl, ⟨p9, hnx, hn2⟩, k2⟩
    exact ⟨_, rfl, rfl, ⟨p9, hnx.lower HS2.out, hn2⟩, by rw [rStep_n]; exact ⟨k2, HTY.out⟩⟩
  obtain rfl : v = _ := hv
  simp only [Act.put, List.setIfInBounds_toArray, List.set_cons_succ, List.set_cons_zero]; (try simp only [List.cons_append]); (try simp only [List.nil_append])
  apply hK
  clear hK K
  repeat (first | (refine phiU_skipK rfl (fun K hK => ?_); simp only [Act.put, List.setIfInBounds_toArray, List.set_cons_succ, List.set_cons_zero]; (try simp only [List.cons_append]); (try simp only [List.nil_append]); apply hK; clear hK K) | (refine phiU_pureK rfl rfl (fun K hK => ?_); apply Exists.intro; constructor; (focus (rintro w' ⟨g1, g2, g3⟩; have q1 := (g3.cell 1).trans rfl; have q2 := (g3.cell 2).trans rfl; have q3 := (g3.cell 3).trans rfl; have q4 := (g3.cell 4).trans rfl; clear g1 g2 g3; first | (go_simp; done) | (go_simp; (try go_bits); (try go_simp); rfl) | go_simp)); simp only [Act.put, List.setIfInBounds_toArray, List.set_cons_succ, List.set_cons_zero]; (try simp only [List.cons_append]); (try simp only [List.nil_append]); apply hK; clear hK K))
  refine phiU_partK (PVal (.int .i64 (k : Int))) rfl rfl ⟨_, rfl⟩ ?_ (fun K hK v hv => ?_)
  · rintro w' ⟨g1, g2, g3⟩ hf hu
    have HCA := Lib.hid (num_any w' E k HKK.out (HE.out.below g1))
    unfold gives
    clear hf hu g1 g2 g3
    go_simp
    refine HCA.out.mono ?_
    rintro e w'' ⟨rfl, hb⟩
    exact ⟨_, rfl, rfl, trivial, by rw [rStep_o (by decide) (by decide)]; exact hb⟩
  obtain rfl : v = _ := hv
  simp only [Act.put, List.setIfInBounds_toArray, List.set_cons_succ, List.set_cons_zero]; (try simp only [List.cons_append]); (try simp only [List.nil_append])
  apply hK
  clear hK K
  repeat (first | (refine phiU_skipK rfl (fun K hK => ?_); simp only [Act.put, List.setIfInBounds_toArray, List.set_cons_succ, List.set_cons_zero]; (try simp only [List.cons_append]); (try simp only [List.nil_append]); apply hK; clear hK K) | (refine phiU_pureK rfl rfl (fun K hK => ?_); apply Exists.intro; constructor; (focus (rintro w' ⟨g1, g2, g3⟩; have q1 := (g3.cell 1).trans rfl; have q2 := (g3.cell 2).trans rfl; have q3 := (g3.cell 3).trans rfl; have q4 := (g3.cell 4).trans rfl; clear g1 g2 g3; first | (go_simp; done) | (go_simp; (try go_bits); (try go_simp); rfl) | go_simp)); simp only [Act.put, List.setIfInBounds_toArray, List.set_cons_succ, List.set_cons_zero]; (try simp only [List.cons_append]); (try simp only [List.nil_append]); apply hK; clear hK K))
  refine phiU_partK (PFactM (k : Int) (fun w' => ∃ q', Nx w q q' ∧ Mn w' m q' R st')) rfl rfl ⟨_, rfl⟩ ?_ (fun K hK v hv => ?_)
  · rintro w' ⟨g1, g2, g3⟩ hf hu
    have hm : Mn w' m q R st := hu (16, fun w' => Mn w' m q R st) (by simp) rfl
    have HCA := Lib.hid (HMC.out w' hm)
    have HTY := Lib.hid hm.ty
    have HS2 := Lib.hid g2.size
    unfold gives
    clear hf hu hm g1 g2 g3
    go_simp
    refine HCA.out.mono ?_
    rintro e w'' ⟨rfl, ⟨q9, hnx, hm2⟩, k2⟩
    exact ⟨_, rfl, rfl, ⟨q9, hnx.lower HS2.out, hm2⟩, by rw [rStep_m (by decide)]; exact ⟨k2, HTY.out⟩⟩
  obtain rfl : v = _ := hv
  simp only [Act.put, List.setIfInBounds_toArray, List.set_cons_succ, List.set_cons_zero]; (try simp only [List.cons_append]); (try simp only [List.nil_append])
  apply hK
  clear hK K
  repeat (first | (refine phiU_skipK rfl (fun K hK => ?_); simp only [Act.put, List.setIfInBounds_toArray, List.set_cons_succ, List.set_cons_zero]; (try simp only [List.cons_append]); (try simp only [List.nil_append]); apply hK; clear hK K) | (refine phiU_pureK rfl rfl (fun K hK => ?_); apply Exists.intro; constructor; (focus (rintro w' ⟨g1, g2, g3⟩; have q1 := (g3.cell 1).trans rfl; have q2 := (g3.cell 2).trans rfl; have q3 := (g3.cell 3).trans rfl; have q4 := (g3.cell 4).trans rfl; clear g1 g2 g3; first | (go_simp; done) | (go_simp; (try go_bits); (try go_simp); rfl) | go_simp)); simp only [Act.put, List.setIfInBounds_toArray, List.set_cons_succ, List.set_cons_zero]; (try simp only [List.cons_append]); (try simp only [List.nil_append]); apply hK; clear hK K))
  refine phiU_done ?_
  rintro w9 ⟨g1, g2, g3⟩ hf
  obtain ⟨p9, hp9, hn9⟩ : ∃ p', Nx w p p' ∧ Nn w9 n b p' (c + 1) st' := hf (7, fun w1 => (PFactE (errV E k) (fun w' => ∃ p', Nx w p p' ∧ Nn w' n b p' (c + 1) st')).fact w1 (errV E k)) (by simp) rfl
  obtain ⟨q9, hq9, hm9⟩ : ∃ q', Nx w q q' ∧ Mn w9 m q' R st' := hf (16, fun w1 => (PFactM (k : Int) (fun w' => ∃ q', Nx w q q' ∧ Mn w' m q' R st')).fact w1 (.int .i64 (k : Int))) (by simp) rfl
  have HOU := Lib.hid (show StepOut n b m p q R c st st' w (.returned (.bool true)) w9 from ⟨rfl, ⟨p9, q9, HOK.out, hp9, hq9, hn9, hm9⟩, g2⟩)
  clear g1 g2 g3 hf hp9 hn9 hq9 hm9
  refine wpList_nil ?_
  go_wp2_with fail
  go_ret
  exact HOU.out
theorem there_nat {st : NSt} {i : Int} (h : (decide (0 ≤ i) && decide (i < (st.ls.length : Int))) = true) : ∃ (k : Nat) (x : Lt), i = (k : Int) ∧ st.ls[k]? = some x := by
  rw [Bool.and_eq_true, decide_eq_true_eq, decide_eq_true_eq] at h
  have hk : i.toNat < st.ls.length := by omega
  exact ⟨i.toNat, st.ls[i.toNat], by omega, List.getElem?_eq_getElem hk⟩
theorem nout_mono {n b : Nat} {p : Option Nat} {c : Nat} {st : NSt} {r : Value} {w : World} {e : Ending} {w' : World} (h : NOut n b p c st r w e w') : NOut n b p (c + 1) st r w e w' :=
  ⟨h.1, by obtain ⟨p', h1, h2⟩ := h.2.1; exact ⟨p', h1, h2.mono (Nat.le_succ _)⟩, h.2.2⟩
set_option maxRecDepth 20000 in
set_option maxHeartbeats 4000000 in
theorem step_copy (w0 w : World) (E : Nat → Addr) (n b m : Nat) (p q : Option Nat) (R : List Nat) (c : Nat) (st : NSt) (vd : Value) (dat : List UInt8) (at_ f t : Int) (is : Bool) (h : StepIn w0 w E n b m p q R c st vd dat) :
    Calls Tryd.prog 19 #[.pointer (some ⟨n, 0, none⟩), .pointer (some ⟨m, 0, none⟩), .agg #[.int .i64 3, .int .i64 at_, .int .i64 f, .int .i64 t, .bool is, vd]] w (StepOut n b m p q R c st (stepN st 3 at_ f t is dat) w) := by
  have HE := Lib.hid h.errs
  have HW0 := Lib.hid h.low
  have HSN := Lib.hid h.sn
  have HSM := Lib.hid h.sm
  have HN := Lib.hid h.nn
  have HM := Lib.hid h.mn
  have HO := Lib.hid h.ok
  have HLO := Lib.hid h.lost
  have HCC := Lib.hid h.cc
  have HBY := Lib.hid h.byt
  have HDL := Lib.hid h.dl
  obtain ⟨qd, kd, rfl, _⟩ := id h.byt
  have hk1 := below_alloc1 w (.cells #[.int .i64 3, .int .i64 at_, .int .i64 f, .int .i64 t, .bool is, .slice qd dat.length kd] 55)
  have HB1 := Lib.hid (Blk.new w 55 #[.int .i64 3, .int .i64 at_, .int .i64 f, .int .i64 t, .bool is, .slice qd dat.length kd])
  have HK1 := Lib.hid hk1
  have HN1 := Lib.hid (h.nn.below hk1)
  have HM1 := Lib.hid (h.mn.below hk1)
  have HW1 := Lib.hid (h.low.trans (hk1.mono h.low.size))
  have o0 := (HB1.out.cell 0).trans rfl
  have o1 := (HB1.out.cell 1).trans rfl
  have o2 := (HB1.out.cell 2).trans rfl
  have o3 := (HB1.out.cell 3).trans rfl
  have o4 := (HB1.out.cell 4).trans rfl
  have o5 := (HB1.out.cell 5).trans rfl
  clear h hk1
  obtain ⟨st', k, hst, hok, hk14, hNC, hMC⟩ : ∃ (st' : NSt) (k : Nat), stepN st 3 at_ f t is dat = st' ∧ OkN st st' ∧ k ≤ 14 ∧
      (∀ w', Nn w' n b p c st → Errs w' E → Calls Tryd.prog 15 #[.pointer (some ⟨n, 0, none⟩), .int .i64 at_] w' (NOut n b p (c + 1) st' (errV E k) w')) ∧
      (∀ w', Mn w' m q R st → Calls Tryd.prog 33 #[.pointer (some ⟨m, 0, none⟩), .int .i64 at_] w' (MOut m q R st' (.int .i64 (k : Int)) w')) := by
    cases d1 : (decide (0 ≤ at_) && decide (at_ < (st.ls.length : Int))) with
    | false => exact ⟨st, 1, (stepN_3 _ _ _ _ _ _).trans (if_neg (show ¬ st.thr at_ = true from by unfold NSt.thr; rw [d1]; decide)), HO.out.same, by omega, fun w' hn he => (ncopy_no w' E (he.on [0, 2, 5] rfl) n b p c st hn at_ d1).mono fun _ _ h => nout_mono h, fun w' hm => rcopy_no w' m q R st hm at_ d1⟩
    | true =>
      obtain ⟨i, x, rfl, hx⟩ := there_nat d1
      have hxl := HO.out.dat x (List.mem_of_getElem? hx)
      exact ⟨st.add x, st.addE, ((stepN_3 _ _ _ _ _ _).trans (if_pos d1)).trans (by rw [Int.toNat_natCast, List.getD, hx]; rfl), HO.out.add hxl, by unfold NSt.addE; split <;> omega, fun w' hn he => (ncopy_any w' E (he.on [0, 2, 5] rfl) n b p c st hn i x hx hxl).mono fun _ _ h => nout_mono h, fun w' hm => rcopy_at w' m q R st hm i x hx (by have := HO.out.len; omega)⟩
  have HNC := Lib.hid hNC
  have HMC := Lib.hid hMC
  rw [hst]
  have HOK := Lib.hid hok
  have HKK := Lib.hid hk14
  clear hNC hMC hok hk14 hst
  go_enter Tryd.func19, Tryd.ntmps19
  go_wp2_with fail
  clear o0 o1 o2 o3 o4 o5
  generalize w.alloc (.cells #[.int .i64 3, .int .i64 at_, .int .i64 f, .int .i64 t, .bool is, .slice qd dat.length kd] 55) = wx at *
  refine wp_phiU (rStep 3 8 n b p m q R) (fun w' => Below w0.heap.size w0 w' ∧ But (nS n b p ++ mS m q R) w w' ∧ Blk w' w.heap.size 55 #[.int .i64 3, .int .i64 at_, .int .i64 f, .int .i64 t, .bool is, .slice qd dat.length kd])
    [(3, PFactE (errV E k) (fun w' => ∃ p', Nx w p p' ∧ Nn w' n b p' (c + 1) st')), (4, PVal (.int .i64 (k : Int))), (8, PFactM (k : Int) (fun w' => ∃ q', Nx w q q' ∧ Mn w' m q' R st'))]
    [(4, [3])] [(3, fun w' => Nn w' n b p c st), (8, fun w' => Mn w' m q R st)] [] (by kernel_rfl) (by kernel_rfl) ?_ ?_ ?_ ?_ ⟨HW1.out.drew, (But.of_below HK1.out.drew), HB1.out.below (Below.refl _ _).drew HB1.out.lt⟩ ?_
  · rintro p1 hp1 w1 w2 ⟨g1, g2, g3⟩ hR
    have hR := rStep_but hR
    have hlow : ∀ s ∈ nS n b p ++ mS m q R, w0.heap.size ≤ s := fun s hs => by
      rcases List.mem_append.1 hs with h | h
      · exact HSN.out s h
      · exact HSM.out s h
    refine ⟨g1.trans (hR.below hlow g1.size), g2.trans hR, hR.blk g3 ?_⟩
    rw [Bool.eq_false_iff]
    intro hc
    rcases List.mem_append.1 (List.contains_iff_mem.1 hc) with h | h
    · have := HN.out.lt _ h
      omega
    · have := HM.out.lt _ h
      omega
  · intro p1 hp p' hp' hne hks hns w1 w2 v hI hR hf
    simp only [List.mem_cons, List.not_mem_nil, or_false] at hp hp'
    rcases hp with rfl | rfl | rfl
    · obtain ⟨p9, h1, h2⟩ := hf
      exact ⟨p9, h1, rStep_nn hR hne h2⟩
    · trivial
    · obtain ⟨q9, h1, h2⟩ := hf
      exact ⟨q9, h1, rStep_mn hR hne h2⟩
  · intro p1 hp u hu hne w1 w2 hI hR hf
    simp only [List.mem_cons, List.not_mem_nil, or_false] at hu
    rcases hu with rfl | rfl
    · exact rStep_nn hR (fun e => hne e.symm) hf
    · exact rStep_mn hR (fun e => hne e.symm) hf
  · intro u hu
    simp only [List.mem_cons, List.not_mem_nil, or_false] at hu
    rcases hu with rfl | rfl
    · exact HN1.out.below (Below.refl _ _).drew
    · exact HM1.out.below (Below.refl _ _).drew
  repeat (first | (refine phiU_skipK rfl (fun K hK => ?_); simp only [Act.put, List.setIfInBounds_toArray, List.set_cons_succ, List.set_cons_zero]; (try simp only [List.cons_append]); (try simp only [List.nil_append]); apply hK; clear hK K) | (refine phiU_pureK rfl rfl (fun K hK => ?_); apply Exists.intro; constructor; (focus (rintro w' ⟨g1, g2, g3⟩; have q1 := (g3.cell 1).trans rfl; have q2 := (g3.cell 2).trans rfl; have q3 := (g3.cell 3).trans rfl; have q4 := (g3.cell 4).trans rfl; clear g1 g2 g3; first | (go_simp; done) | (go_simp; (try go_bits); (try go_simp); rfl) | go_simp)); simp only [Act.put, List.setIfInBounds_toArray, List.set_cons_succ, List.set_cons_zero]; (try simp only [List.cons_append]); (try simp only [List.nil_append]); apply hK; clear hK K))
  refine phiU_partK (PFactE (errV E k) (fun w' => ∃ p', Nx w p p' ∧ Nn w' n b p' (c + 1) st')) rfl rfl ⟨_, rfl⟩ ?_ (fun K hK v hv => ?_)
  · rintro w' ⟨g1, g2, g3⟩ hf hu
    have hn : Nn w' n b p c st := hu (3, fun w' => Nn w' n b p c st) (by simp) rfl
    have HCA := Lib.hid (HNC.out w' hn (HE.out.below g1))
    have HTY := Lib.hid hn.ty
    have HS2 := Lib.hid g2.size
    unfold gives
    clear hf hu hn g1 g2 g3
    go_simp
    refine HCA.out.mono ?_
    rintro e w'' ⟨rfl, ⟨p9, hnx, hn2⟩, k2⟩
    exact ⟨_, rfl, rfl, ⟨p9, hnx.lower HS2.out, hn2⟩, by rw [rStep_n]; exact ⟨k2, HTY.out⟩⟩
  obtain rfl : v = _ := hv
  simp only [Act.put, List.setIfInBounds_toArray, List.set_cons_succ, List.set_cons_zero]; (try simp only [List.cons_append]); (try simp only [List.nil_append])
  apply hK
  clear hK K
  repeat (first | (refine phiU_skipK rfl (fun K hK => ?_); simp only [Act.put, List.setIfInBounds_toArray, List.set_cons_succ, List.set_cons_zero]; (try simp only [List.cons_append]); (try simp only [List.nil_append]); apply hK; clear hK K) | (refine phiU_pureK rfl rfl (fun K hK => ?_); apply Exists.intro; constructor; (focus (rintro w' ⟨g1, g2, g3⟩; have q1 := (g3.cell 1).trans rfl; have q2 := (g3.cell 2).trans rfl; have q3 := (g3.cell 3).trans rfl; have q4 := (g3.cell 4).trans rfl; clear g1 g2 g3; first | (go_simp; done) | (go_simp; (try go_bits); (try go_simp); rfl) | go_simp)); simp only [Act.put, List.setIfInBounds_toArray, List.set_cons_succ, List.set_cons_zero]; (try simp only [List.cons_append]); (try simp only [List.nil_append]); apply hK; clear hK K))
  refine phiU_partK (PVal (.int .i64 (k : Int))) rfl rfl ⟨_, rfl⟩ ?_ (fun K hK v hv => ?_)
  · rintro w' ⟨g1, g2, g3⟩ hf hu
    have HCA := Lib.hid (num_any w' E k HKK.out (HE.out.below g1))
    unfold gives
    clear hf hu g1 g2 g3
    go_simp
    refine HCA.out.mono ?_
    rintro e w'' ⟨rfl, hb⟩
    exact ⟨_, rfl, rfl, trivial, by rw [rStep_o (by decide) (by decide)]; exact hb⟩
  obtain rfl : v = _ := hv
  simp only [Act.put, List.setIfInBounds_toArray, List.set_cons_succ, List.set_cons_zero]; (try simp only [List.cons_append]); (try simp only [List.nil_append])
  apply hK
  clear hK K
  repeat (first | (refine phiU_skipK rfl (fun K hK => ?_); simp only [Act.put, List.setIfInBounds_toArray, List.set_cons_succ, List.set_cons_zero]; (try simp only [List.cons_append]); (try simp only [List.nil_append]); apply hK; clear hK K) | (refine phiU_pureK rfl rfl (fun K hK => ?_); apply Exists.intro; constructor; (focus (rintro w' ⟨g1, g2, g3⟩; have q1 := (g3.cell 1).trans rfl; have q2 := (g3.cell 2).trans rfl; have q3 := (g3.cell 3).trans rfl; have q4 := (g3.cell 4).trans rfl; clear g1 g2 g3; first | (go_simp; done) | (go_simp; (try go_bits); (try go_simp); rfl) | go_simp)); simp only [Act.put, List.setIfInBounds_toArray, List.set_cons_succ, List.set_cons_zero]; (try simp only [List.cons_append]); (try simp only [List.nil_append]); apply hK; clear hK K))
  refine phiU_partK (PFactM (k : Int) (fun w' => ∃ q', Nx w q q' ∧ Mn w' m q' R st')) rfl rfl ⟨_, rfl⟩ ?_ (fun K hK v hv => ?_)
  · rintro w' ⟨g1, g2, g3⟩ hf hu
    have hm : Mn w' m q R st := hu (8, fun w' => Mn w' m q R st) (by simp) rfl
    have HCA := Lib.hid (HMC.out w' hm)
    have HTY := Lib.hid hm.ty
    have HS2 := Lib.hid g2.size
    unfold gives
    clear hf hu hm g1 g2 g3
    go_simp
    refine HCA.out.mono ?_
    rintro e w'' ⟨rfl, ⟨q9, hnx, hm2⟩, k2⟩
    exact ⟨_, rfl, rfl, ⟨q9, hnx.lower HS2.out, hm2⟩, by rw [rStep_m (by decide)]; exact ⟨k2, HTY.out⟩⟩
  obtain rfl : v = _ := hv
  simp only [Act.put, List.setIfInBounds_toArray, List.set_cons_succ, List.set_cons_zero]; (try simp only [List.cons_append]); (try simp only [List.nil_append])
  apply hK
  clear hK K
  repeat (first | (refine phiU_skipK rfl (fun K hK => ?_); simp only [Act.put, List.setIfInBounds_toArray, List.set_cons_succ, List.set_cons_zero]; (try simp only [List.cons_append]); (try simp only [List.nil_append]); apply hK; clear hK K) | (refine phiU_pureK rfl rfl (fun K hK => ?_); apply Exists.intro; constructor; (focus (rintro w' ⟨g1, g2, g3⟩; have q1 := (g3.cell 1).trans rfl; have q2 := (g3.cell 2).trans rfl; have q3 := (g3.cell 3).trans rfl; have q4 := (g3.cell 4).trans rfl; clear g1 g2 g3; first | (go_simp; done) | (go_simp; (try go_bits); (try go_simp); rfl) | go_simp)); simp only [Act.put, List.setIfInBounds_toArray, List.set_cons_succ, List.set_cons_zero]; (try simp only [List.cons_append]); (try simp only [List.nil_append]); apply hK; clear hK K))
  refine phiU_done ?_
  rintro w9 ⟨g1, g2, g3⟩ hf
  obtain ⟨p9, hp9, hn9⟩ : ∃ p', Nx w p p' ∧ Nn w9 n b p' (c + 1) st' := hf (3, fun w1 => (PFactE (errV E k) (fun w' => ∃ p', Nx w p p' ∧ Nn w' n b p' (c + 1) st')).fact w1 (errV E k)) (by simp) rfl
  obtain ⟨q9, hq9, hm9⟩ : ∃ q', Nx w q q' ∧ Mn w9 m q' R st' := hf (8, fun w1 => (PFactM (k : Int) (fun w' => ∃ q', Nx w q q' ∧ Mn w' m q' R st')).fact w1 (.int .i64 (k : Int))) (by simp) rfl
  have HOU := Lib.hid (show StepOut n b m p q R c st st' w (.returned (.bool true)) w9 from ⟨rfl, ⟨p9, q9, HOK.out, hp9, hq9, hn9, hm9⟩, g2⟩)
  clear g1 g2 g3 hf hp9 hn9 hq9 hm9
  refine wpList_nil ?_
  go_wp2_with fail
  go_ret
  exact HOU.out
set_option maxRecDepth 20000 in
set_option maxHeartbeats 4000000 in
theorem step_move (w0 w : World) (E : Nat → Addr) (n b m : Nat) (p q : Option Nat) (R : List Nat) (c : Nat) (st : NSt) (vd : Value) (dat : List UInt8) (at_ f t : Int) (is : Bool) (h : StepIn w0 w E n b m p q R c st vd dat) :
    Calls Tryd.prog 19 #[.pointer (some ⟨n, 0, none⟩), .pointer (some ⟨m, 0, none⟩), .agg #[.int .i64 4, .int .i64 at_, .int .i64 f, .int .i64 t, .bool is, vd]] w (StepOut n b m p q R c st (stepN st 4 at_ f t is dat) w) := by
  have HE := Lib.hid h.errs
  have HW0 := Lib.hid h.low
  have HSN := Lib.hid h.sn
  have HSM := Lib.hid h.sm
  have HN := Lib.hid h.nn
  have HM := Lib.hid h.mn
  have HO := Lib.hid h.ok
  have HLO := Lib.hid h.lost
  have HCC := Lib.hid h.cc
  have HBY := Lib.hid h.byt
  have HDL := Lib.hid h.dl
  obtain ⟨qd, kd, rfl, _⟩ := id h.byt
  have hk1 := below_alloc1 w (.cells #[.int .i64 4, .int .i64 at_, .int .i64 f, .int .i64 t, .bool is, .slice qd dat.length kd] 55)
  have HB1 := Lib.hid (Blk.new w 55 #[.int .i64 4, .int .i64 at_, .int .i64 f, .int .i64 t, .bool is, .slice qd dat.length kd])
  have HK1 := Lib.hid hk1
  have HN1 := Lib.hid (h.nn.below hk1)
  have HM1 := Lib.hid (h.mn.below hk1)
  have HW1 := Lib.hid (h.low.trans (hk1.mono h.low.size))
  have o0 := (HB1.out.cell 0).trans rfl
  have o1 := (HB1.out.cell 1).trans rfl
  have o2 := (HB1.out.cell 2).trans rfl
  have o3 := (HB1.out.cell 3).trans rfl
  have o4 := (HB1.out.cell 4).trans rfl
  have o5 := (HB1.out.cell 5).trans rfl
  clear h hk1
  obtain ⟨st', k, hst, hok, hk14, hNC, hMC⟩ : ∃ (st' : NSt) (k : Nat), stepN st 4 at_ f t is dat = st' ∧ OkN st st' ∧ k ≤ 14 ∧
      (∀ w', Nn w' n b p c st → Errs w' E → Calls Tryd.prog 13 #[.pointer (some ⟨n, 0, none⟩), .int .i64 at_, .int .i64 t] w' (NOut n b p (c + 1) st' (errV E k) w')) ∧
      (∀ w', Mn w' m q R st → Calls Tryd.prog 34 #[.pointer (some ⟨m, 0, none⟩), .int .i64 at_, .int .i64 t] w' (MOut m q R st' (.int .i64 (k : Int)) w')) := by
    cases d1 : ((decide (0 ≤ at_) && decide (at_ < (st.ls.length : Int))) && (decide (0 ≤ t) && decide (t < (st.ls.length : Int)))) with
    | false => exact ⟨st, 1, (stepN_4 _ _ _ _ _ _).trans (if_neg (show ¬ (st.thr at_ && st.thr t) = true from by unfold NSt.thr; rw [d1]; decide)), HO.out.same, by omega, fun w' hn he => (nmove_no w' E (he.on [0, 2, 5] rfl) n b p c st hn at_ t d1).mono fun _ _ h => nout_mono h, fun w' hm => rmove_no w' m q R st hm at_ t d1⟩
    | true =>
      have d0 := d1
      rw [Bool.and_eq_true] at d1
      obtain ⟨i, x, rfl, hx⟩ := there_nat d1.1
      obtain ⟨j, y, rfl, hy⟩ := there_nat d1.2
      have hj := (List.getElem?_eq_some_iff.1 hy).1
      have hi := (List.getElem?_eq_some_iff.1 hx).1
      exact ⟨st.moved i j x, 0, ((stepN_4 _ _ _ _ _ _).trans (if_pos d0)).trans (by rw [Int.toNat_natCast, Int.toNat_natCast, List.getD, hx]; rfl), HO.out.moved i j x hi hx, by omega, fun w' hn he => (nmove_any w' n b p c st hn i j x hx hj (by have := HO.out.len; omega)).mono fun _ _ h => nout_mono h, fun w' hm => rmove_at w' m q R st hm i j x hx hj (by have := HO.out.len; omega)⟩
  have HNC := Lib.hid hNC
  have HMC := Lib.hid hMC
  rw [hst]
  have HOK := Lib.hid hok
  have HKK := Lib.hid hk14
  clear hNC hMC hok hk14 hst
  go_enter Tryd.func19, Tryd.ntmps19
  go_wp2_with fail
  clear o0 o1 o2 o3 o4 o5
  generalize w.alloc (.cells #[.int .i64 4, .int .i64 at_, .int .i64 f, .int .i64 t, .bool is, .slice qd dat.length kd] 55) = wx at *
  refine wp_phiU (rStep 5 12 n b p m q R) (fun w' => Below w0.heap.size w0 w' ∧ But (nS n b p ++ mS m q R) w w' ∧ Blk w' w.heap.size 55 #[.int .i64 4, .int .i64 at_, .int .i64 f, .int .i64 t, .bool is, .slice qd dat.length kd])
    [(5, PFactE (errV E k) (fun w' => ∃ p', Nx w p p' ∧ Nn w' n b p' (c + 1) st')), (6, PVal (.int .i64 (k : Int))), (12, PFactM (k : Int) (fun w' => ∃ q', Nx w q q' ∧ Mn w' m q' R st'))]
    [(6, [5])] [(5, fun w' => Nn w' n b p c st), (12, fun w' => Mn w' m q R st)] [] (by kernel_rfl) (by kernel_rfl) ?_ ?_ ?_ ?_ ⟨HW1.out.drew, (But.of_below HK1.out.drew), HB1.out.below (Below.refl _ _).drew HB1.out.lt⟩ ?_
  · rintro p1 hp1 w1 w2 ⟨g1, g2, g3⟩ hR
    have hR := rStep_but hR
    have hlow : ∀ s ∈ nS n b p ++ mS m q R, w0.heap.size ≤ s := fun s hs => by
      rcases List.mem_append.1 hs with h | h
      · exact HSN.out s h
      · exact HSM.out s h
    refine ⟨g1.trans (hR.below hlow g1.size), g2.trans hR, hR.blk g3 ?_⟩
    rw [Bool.eq_false_iff]
    intro hc
    rcases List.mem_append.1 (List.contains_iff_mem.1 hc) with h | h
    · have := HN.out.lt _ h
      omega
    · have := HM.out.lt _ h
      omega
  · intro p1 hp p' hp' hne hks hns w1 w2 v hI hR hf
    simp only [List.mem_cons, List.not_mem_nil, or_false] at hp hp'
    rcases hp with rfl | rfl | rfl
    · obtain ⟨p9, h1, h2⟩ := hf
      exact ⟨p9, h1, rStep_nn hR hne h2⟩
    · trivial
    · obtain ⟨q9, h1, h2⟩ := hf
      exact ⟨q9, h1, rStep_mn hR hne h2⟩
  · intro p1 hp u hu hne w1 w2 hI hR hf
    simp only [List.mem_cons, List.not_mem_nil, or_false] at hu
    rcases hu with rfl | rfl
    · exact rStep_nn hR (fun e => hne e.symm) hf
    · exact rStep_mn hR (fun e => hne e.symm) hf
  · intro u hu
    simp only [List.mem_cons, List.not_mem_nil, or_false] at hu
    rcases hu with rfl | rfl
    · exact HN1.out.below (Below.refl _ _).drew
    · exact HM1.out.below (Below.refl _ _).drew
  repeat (first | (refine phiU_skipK rfl (fun K hK => ?_); simp only [Act.put, List.setIfInBounds_toArray, List.set_cons_succ, List.set_cons_zero]; (try simp only [List.cons_append]); (try simp only [List.nil_append]); apply hK; clear hK K) | (refine phiU_pureK rfl rfl (fun K hK => ?_); apply Exists.intro; constructor; (focus (rintro w' ⟨g1, g2, g3⟩; have q1 := (g3.cell 1).trans rfl; have q2 := (g3.cell 2).trans rfl; have q3 := (g3.cell 3).trans rfl; have q4 := (g3.cell 4).trans rfl; clear g1 g2 g3; first | (go_simp; done) | (go_simp; (try go_bits); (try go_simp); rfl) | go_simp)); simp only [Act.put, List.setIfInBounds_toArray, List.set_cons_succ, List.set_cons_zero]; (try simp only [List.cons_append]); (try simp only [List.nil_append]); apply hK; clear hK K))
  refine phiU_partK (PFactE (errV E k) (fun w' => ∃ p', Nx w p p' ∧ Nn w' n b p' (c + 1) st')) rfl rfl ⟨_, rfl⟩ ?_ (fun K hK v hv => ?_)
  · rintro w' ⟨g1, g2, g3⟩ hf hu
    have hn : Nn w' n b p c st := hu (5, fun w' => Nn w' n b p c st) (by simp) rfl
    have HCA := Lib.hid (HNC.out w' hn (HE.out.below g1))
    have HTY := Lib.hid hn.ty
    have HS2 := Lib.hid g2.size
    unfold gives
    clear hf hu hn g1 g2 g3
    go_simp
    refine HCA.out.mono ?_
    rintro e w'' ⟨rfl, ⟨p9, hnx, hn2⟩, k2⟩
    exact ⟨_, rfl, rfl, ⟨p9, hnx.lower HS2.out, hn2⟩, by rw [rStep_n]; exact ⟨k2, HTY.out⟩⟩
  obtain rfl : v = _ := hv
  simp only [Act.put, List.setIfInBounds_toArray, List.set_cons_succ, List.set_cons_zero]; (try simp only [List.cons_append]); (try simp only [List.nil_append])
  apply hK
  clear hK K
  repeat (first | (refine phiU_skipK rfl (fun K hK => ?_); simp only [Act.put, List.setIfInBounds_toArray, List.set_cons_succ, List.set_cons_zero]; (try simp only [List.cons_append]); (try simp only [List.nil_append]); apply hK; clear hK K) | (refine phiU_pureK rfl rfl (fun K hK => ?_); apply Exists.intro; constructor; (focus (rintro w' ⟨g1, g2, g3⟩; have q1 := (g3.cell 1).trans rfl; have q2 := (g3.cell 2).trans rfl; have q3 := (g3.cell 3).trans rfl; have q4 := (g3.cell 4).trans rfl; clear g1 g2 g3; first | (go_simp; done) | (go_simp; (try go_bits); (try go_simp); rfl) | go_simp)); simp only [Act.put, List.setIfInBounds_toArray, List.set_cons_succ, List.set_cons_zero]; (try simp only [List.cons_append]); (try simp only [List.nil_append]); apply hK; clear hK K))
  refine phiU_partK (PVal (.int .i64 (k : Int))) rfl rfl ⟨_, rfl⟩ ?_ (fun K hK v hv => ?_)
  · rintro w' ⟨g1, g2, g3⟩ hf hu
    have HCA := Lib.hid (num_any w' E k HKK.out (HE.out.below g1))
    unfold gives
    clear hf hu g1 g2 g3
    go_simp
    refine HCA.out.mono ?_
    rintro e w'' ⟨rfl, hb⟩
    exact ⟨_, rfl, rfl, trivial, by rw [rStep_o (by decide) (by decide)]; exact hb⟩
  obtain rfl : v = _ := hv
  simp only [Act.put, List.setIfInBounds_toArray, List.set_cons_succ, List.set_cons_zero]; (try simp only [List.cons_append]); (try simp only [List.nil_append])
  apply hK
  clear hK K
  repeat (first | (refine phiU_skipK rfl (fun K hK => ?_); simp only [Act.put, List.setIfInBounds_toArray, List.set_cons_succ, List.set_cons_zero]; (try simp only [List.cons_append]); (try simp only [List.nil_append]); apply hK; clear hK K) | (refine phiU_pureK rfl rfl (fun K hK => ?_); apply Exists.intro; constructor; (focus (rintro w' ⟨g1, g2, g3⟩; have q1 := (g3.cell 1).trans rfl; have q2 := (g3.cell 2).trans rfl; have q3 := (g3.cell 3).trans rfl; have q4 := (g3.cell 4).trans rfl; clear g1 g2 g3; first | (go_simp; done) | (go_simp; (try go_bits); (try go_simp); rfl) | go_simp)); simp only [Act.put, List.setIfInBounds_toArray, List.set_cons_succ, List.set_cons_zero]; (try simp only [List.cons_append]); (try simp only [List.nil_append]); apply hK; clear hK K))
  refine phiU_partK (PFactM (k : Int) (fun w' => ∃ q', Nx w q q' ∧ Mn w' m q' R st')) rfl rfl ⟨_, rfl⟩ ?_ (fun K hK v hv => ?_)
  · rintro w' ⟨g1, g2, g3⟩ hf hu
    have hm : Mn w' m q R st := hu (12, fun w' => Mn w' m q R st) (by simp) rfl
    have HCA := Lib.hid (HMC.out w' hm)
    have HTY := Lib.hid hm.ty
    have HS2 := Lib.hid g2.size
    unfold gives
    clear hf hu hm g1 g2 g3
    go_simp
    refine HCA.out.mono ?_
    rintro e w'' ⟨rfl, ⟨q9, hnx, hm2⟩, k2⟩
    exact ⟨_, rfl, rfl, ⟨q9, hnx.lower HS2.out, hm2⟩, by rw [rStep_m (by decide)]; exact ⟨k2, HTY.out⟩⟩
  obtain rfl : v = _ := hv
  simp only [Act.put, List.setIfInBounds_toArray, List.set_cons_succ, List.set_cons_zero]; (try simp only [List.cons_append]); (try simp only [List.nil_append])
  apply hK
  clear hK K
  repeat (first | (refine phiU_skipK rfl (fun K hK => ?_); simp only [Act.put, List.setIfInBounds_toArray, List.set_cons_succ, List.set_cons_zero]; (try simp only [List.cons_append]); (try simp only [List.nil_append]); apply hK; clear hK K) | (refine phiU_pureK rfl rfl (fun K hK => ?_); apply Exists.intro; constructor; (focus (rintro w' ⟨g1, g2, g3⟩; have q1 := (g3.cell 1).trans rfl; have q2 := (g3.cell 2).trans rfl; have q3 := (g3.cell 3).trans rfl; have q4 := (g3.cell 4).trans rfl; clear g1 g2 g3; first | (go_simp; done) | (go_simp; (try go_bits); (try go_simp); rfl) | go_simp)); simp only [Act.put, List.setIfInBounds_toArray, List.set_cons_succ, List.set_cons_zero]; (try simp only [List.cons_append]); (try simp only [List.nil_append]); apply hK; clear hK K))
  refine phiU_done ?_
  rintro w9 ⟨g1, g2, g3⟩ hf
  obtain ⟨p9, hp9, hn9⟩ : ∃ p', Nx w p p' ∧ Nn w9 n b p' (c + 1) st' := hf (5, fun w1 => (PFactE (errV E k) (fun w' => ∃ p', Nx w p p' ∧ Nn w' n b p' (c + 1) st')).fact w1 (errV E k)) (by simp) rfl
  obtain ⟨q9, hq9, hm9⟩ : ∃ q', Nx w q q' ∧ Mn w9 m q' R st' := hf (12, fun w1 => (PFactM (k : Int) (fun w' => ∃ q', Nx w q q' ∧ Mn w' m q' R st')).fact w1 (.int .i64 (k : Int))) (by simp) rfl
  have HOU := Lib.hid (show StepOut n b m p q R c st st' w (.returned (.bool true)) w9 from ⟨rfl, ⟨p9, q9, HOK.out, hp9, hq9, hn9, hm9⟩, g2⟩)
  clear g1 g2 g3 hf hp9 hn9 hq9 hm9
  refine wpList_nil ?_
  go_wp2_with fail
  go_ret
  exact HOU.out
theorem step_other (w0 w : World) (E : Nat → Addr) (n b m : Nat) (p q : Option Nat) (R : List Nat) (c : Nat) (st : NSt) (vd : Value) (dat : List UInt8) (kind at_ f t : Int) (is : Bool) (h : StepIn w0 w E n b m p q R c st vd dat)
    (h1 : (kind == 1) = false) (h2 : (kind == 2) = false) (h3 : (kind == 3) = false) (h4 : (kind == 4) = false) (h5 : (kind == 5) = false) :
    Calls Tryd.prog 19 #[.pointer (some ⟨n, 0, none⟩), .pointer (some ⟨m, 0, none⟩), .agg #[.int .i64 kind, .int .i64 at_, .int .i64 f, .int .i64 t, .bool is, vd]] w (StepOut n b m p q R c st (stepN st kind at_ f t is dat) w) := by
  have hst : stepN st kind at_ f t is dat = st := by
    unfold stepN
    simp only [beq_eq_false_iff_ne] at h1 h2 h3 h4 h5
    rw [if_neg h1, if_neg h2, if_neg h3, if_neg h4, if_neg h5]
  rw [hst]
  clear hst
  have HE := Lib.hid h.errs
  have HW0 := Lib.hid h.low
  have HSN := Lib.hid h.sn
  have HSM := Lib.hid h.sm
  have HN := Lib.hid h.nn
  have HM := Lib.hid h.mn
  have HO := Lib.hid h.ok
  have HLO := Lib.hid h.lost
  have HCC := Lib.hid h.cc
  have HBY := Lib.hid h.byt
  have HDL := Lib.hid h.dl
  obtain ⟨qd, kd, rfl, _⟩ := id h.byt
  have hk1 := below_alloc1 w (.cells #[.int .i64 kind, .int .i64 at_, .int .i64 f, .int .i64 t, .bool is, .slice qd dat.length kd] 55)
  have HB1 := Lib.hid (Blk.new w 55 #[.int .i64 kind, .int .i64 at_, .int .i64 f, .int .i64 t, .bool is, .slice qd dat.length kd])
  have HK1 := Lib.hid hk1
  have HN1 := Lib.hid (h.nn.below hk1)
  have HM1 := Lib.hid (h.mn.below hk1)
  have HW1 := Lib.hid (h.low.trans (hk1.mono h.low.size))
  have o0 := (HB1.out.cell 0).trans rfl
  have o1 := (HB1.out.cell 1).trans rfl
  have o2 := (HB1.out.cell 2).trans rfl
  have o3 := (HB1.out.cell 3).trans rfl
  have o4 := (HB1.out.cell 4).trans rfl
  have o5 := (HB1.out.cell 5).trans rfl
  clear h hk1
  go_enter Tryd.func19, Tryd.ntmps19
  go_wp2_with fail
  go_ret
  exact ⟨rfl, ⟨p, q, HO.out.same, .inl rfl, .inl rfl, HN1.out.mono (Nat.le_succ _), HM1.out⟩, But.of_below HK1.out⟩
end Go.Proofs.YtbbhecadpbnobaaDoor
