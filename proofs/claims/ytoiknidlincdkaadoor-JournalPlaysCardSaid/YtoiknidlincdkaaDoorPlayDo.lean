/-
  PlayDo: the walk of play.do: Put and Compact.
-/
import Derived.Test.YtoiknidlincdkaaDoorPlay7
namespace Go.Proofs.YtoiknidlincdkaaDoor
open Go.RowKit
attribute [local irreducible] wpPhiU

/-- a part with a fact -/
def PFact (c : Value) (F : World → Prop) : Part := ⟨fun v => v = c, fun w _ => F w⟩
theorem JSt.put_le (st : JSt) (ls : List (List UInt8)) : (st.put ls).rows.length ≤ st.rows.length + ls.length := by
  unfold JSt.put
  repeat' split
  all_goals (try simp only [List.length_append])
  all_goals omega
theorem JSt.compact_le (st : JSt) (ls : List (List UInt8)) : (st.compact ls).rows.length ≤ st.rows.length + ls.length := by
  unfold JSt.compact
  repeat' split
  all_goals (try dsimp only)
  all_goals omega
theorem JSt.putE_le (st : JSt) (ls : List (List UInt8)) : st.putE ls ≤ 14 := by
  unfold JSt.putE
  have h1 := st.t.appendE_cases (framesJ ls)
  have h2 := (st.t.append (framesJ ls)).stepE_cases
  repeat' split
  all_goals omega
theorem JSt.compactE_le (st : JSt) (ls : List (List UInt8)) : st.compactE ls ≤ 14 := by
  unfold JSt.compactE
  have h1 := st.t.swapE_cases (framesJ ls)
  repeat' split
  all_goals omega
/-- which calls turn what -/
def r7 (B : Nat) (E : Nat → Addr) (a g j m : Nat) (i : Nat) (w w' : World) : Prop := if i = 6 then JStep B E a g j m w w' else if i = 14 then MStepJ B E a g j m w w' else Below w.heap.size w w'
section
variable {B a g j m i : Nat} {E : Nat → Addr} {w w' : World}
theorem r7_j : r7 B E a g j m 6 w w' = JStep B E a g j m w w' := by unfold r7; rw [if_pos rfl]
theorem r7_m : r7 B E a g j m 14 w w' = MStepJ B E a g j m w w' := by unfold r7; rw [if_neg (by decide), if_pos rfl]
theorem r7_o (h : i ≠ 6) (h2 : i ≠ 14) : r7 B E a g j m i w w' = Below w.heap.size w w' := by unfold r7; rw [if_neg h, if_neg h2]
theorem r7_below (h : r7 B E a g j m i w w') (hB : B ≤ w.heap.size) : Below B w w' := by
  unfold r7 at h
  split at h
  · exact h.below
  · split at h
    · exact h.below
    · exact h.mono hB
theorem r7_blk {x : Nat} {t : TypeId} {cs : Array Value} (h : r7 B E a g j m i w w') (hb : Blk w x t cs) (h1 : t ≠ 83) (h2 : t ≠ 57) (h3 : t ≠ 22) (h4 : t ≠ 5) (h5 : t ≠ 71) (h6 : t ≠ 73) : Blk w' x t cs := by
  unfold r7 at h
  split at h
  · exact h.blk hb h1 h2 h3 h4
  · split at h
    · exact h.blk hb h5 h6 h3
    · exact hb.below h hb.lt
end
set_option maxRecDepth 20000 in
set_option maxHeartbeats 4000000 in
theorem do1_any (w : World) (E : Nat → Addr) (B P a g j m : Nat) (p o q : Option Nat) (st : JSt) (mr : MJr) (n : Int) (vl : Value) (ls : List (List UInt8)) (hv : OldL B w vl ls) (h : PlayW B w E P a g j m p o q st mr) (hl : ls.length ≤ 10) (N : Nat) (hN : st.rows.length ≤ N) (hN2 : N ≤ 90000) :
    Calls Tryd.prog 30 #[.pointer (some ⟨P, 0, none⟩), .agg #[.int .i64 1, .int .i64 n, vl]] w (DoJ B E P a g (N + 10) w) := by
  have HV := Lib.hid hv
  have HGL := Lib.hid h.duo.jg.glob
  obtain ⟨pl, cl, vs, rfl, _⟩ := hv
  have hbx := Blk.new w 49 #[.int .i64 1, .int .i64 n, .slice pl ls.length cl]
  have hkx := below_alloc1 w (.cells #[.int .i64 1, .int .i64 n, .slice pl ls.length cl] 49)
  have HX := Lib.hid hbx
  have HKX := Lib.hid (hkx.mono h.duo.jg.hB)
  have HBX := Lib.hid (Nat.le_trans h.duo.jg.hB hkx.size)
  have HDU := Lib.hid (h.duo.below hkx)
  have HPL := Lib.hid (h.pl.below hkx h.pl.lt)
  have HR := Lib.hid h.rel
  have HP := Lib.hid h.hP
  have HQ := Lib.hid (h.rel.put ls)
  have HRL := Lib.hid (show mr.rows.length ≤ 100000 from by rw [← h.rel.rows]; omega)
  have c0 := (hbx.cell 0).trans rfl
  clear h hbx hkx
  go_enter Tryd.func30, Tryd.ntmps30
  go_wp2_with fail
  generalize w.alloc (.cells #[.int .i64 1, .int .i64 n, .slice pl ls.length cl] 49) = wx at *
  refine wp_phiU (r7 B E a g j m) (fun w' => Below B wx w' ∧ Blk w' P 67 #[.pointer (some ⟨a, 0, none⟩), .pointer (some ⟨j, 0, none⟩), .pointer (some ⟨m, 0, none⟩)] ∧ Blk w' w.heap.size 49 #[.int .i64 1, .int .i64 n, .slice pl ls.length cl])
    [(6, PFact (errV E (st.putE ls)) (AJ B E a g j m (st.put ls))), (7, PVal (.int .i64 (st.putE ls : Int))), (14, PFact (.int .i64 (mr.putE ls : Int)) (AM B E a g j m (mr.put ls)))] [] [(6, AJ B E a g j m st), (14, AM B E a g j m mr)] [] (by kernel_rfl) (by kernel_rfl) ?_ ?_ ?_ ?_ ⟨(Below.refl B wx).trans ((Below.refl wx.heap.size wx).drew.mono HBX.out), HPL.out.below (Below.refl _ _).drew HPL.out.lt, HX.out.below (Below.refl _ _).drew HX.out.lt⟩ ?_
  · rintro p hp w1 w2 ⟨h1, h2, h3⟩ hr
    exact ⟨h1.trans (r7_below hr (Nat.le_trans HBX.out h1.size)), r7_blk hr h2 (by decide) (by decide) (by decide) (by decide) (by decide) (by decide), r7_blk hr h3 (by decide) (by decide) (by decide) (by decide) (by decide) (by decide)⟩
  · simp only [List.mem_cons, List.not_mem_nil, or_false, forall_eq_or_imp, forall_eq]
    refine ⟨⟨fun h => absurd rfl h, ?_, ?_⟩, ⟨?_, fun h => absurd rfl h, ?_⟩, ⟨?_, ?_, fun h => absurd rfl h⟩⟩
    all_goals intro _ _ _ w1 w2 v hI h hf
    · rw [r7_o (by decide) (by decide)] at h; exact AJ.below hf h
    · rw [r7_m] at h; exact AJ.mstep hf h
    · trivial
    · trivial
    · rw [r7_j] at h; exact AM.jstep hf h
    · rw [r7_o (by decide) (by decide)] at h; exact AM.below hf h
  · simp only [List.mem_cons, List.not_mem_nil, or_false, forall_eq_or_imp, forall_eq]
    refine ⟨⟨fun h => absurd rfl h, ?_⟩, ⟨?_, ?_⟩, ⟨?_, fun h => absurd rfl h⟩⟩
    all_goals intro _ w1 w2 hI h hf
    · rw [r7_j] at h; exact AM.jstep hf h
    · rw [r7_o (by decide) (by decide)] at h; exact AJ.below hf h
    · rw [r7_o (by decide) (by decide)] at h; exact AM.below hf h
    · rw [r7_m] at h; exact AJ.mstep hf h
  · simp only [List.mem_cons, List.not_mem_nil, or_false, forall_eq_or_imp, forall_eq]
    exact ⟨AJ.below ⟨_, _, _, _, HDU.out⟩ (Below.refl _ _).drew, AM.below ⟨_, _, _, _, HDU.out⟩ (Below.refl _ _).drew⟩
  repeat (first | (refine phiU_skipK rfl (fun K hK => ?_); simp only [Act.put, List.setIfInBounds_toArray, List.set_cons_succ, List.set_cons_zero]; (try simp only [List.cons_append]); (try simp only [List.nil_append]); apply hK; clear hK K) | (refine phiU_pureK rfl rfl (fun K hK => ?_); apply Exists.intro; constructor; (focus (rintro w' ⟨h1, h2, h3⟩; have q0 := (h3.cell 2).trans rfl; have q1 := (h2.cell 1).trans rfl; have q2 := (h2.cell 2).trans rfl; clear h1 h2 h3; first | (go_simp; done) | (go_simp; (try go_bits); (try go_simp); rfl) | go_simp)); simp only [Act.put, List.setIfInBounds_toArray, List.set_cons_succ, List.set_cons_zero]; (try simp only [List.cons_append]); (try simp only [List.nil_append]); apply hK; clear hK K))
  refine phiU_partK (PFact (errV E (st.putE ls)) (AJ B E a g j m (st.put ls))) rfl rfl ⟨_, rfl⟩ ?_ (fun K hK v hv => ?_)
  · rintro w' ⟨h1, h2, h3⟩ hf hu
    obtain ⟨p0, o0, q0, mr0, hd⟩ : AJ B E a g j m st w' := hu (6, AJ B E a g j m st) (by simp) rfl
    have hv : StayL (jS j a p0 o0) w' (.slice pl ls.length cl) ls := (HV.out.mono (HKX.out.trans h1)).stay hd.jg.base (Nat.le_trans HBX.out h1.size)
    unfold gives
    clear hf hu
    go_simp
    refine (put_any B w' E j a p0 o0 [] st (.slice pl ls.length cl) ls hd.jg hv (by omega) (by omega)).mono ?_
    rintro e w'' ⟨rfl, ⟨p1, o1, hp, ho, hj⟩, kk⟩
    exact ⟨_, rfl, rfl, ⟨_, _, _, _, hd.jstep hj hp ho kk⟩, by rw [r7_j]; exact ⟨_, _, _, _, _, _, _, _, hd, hj, hp, ho, kk⟩⟩
  obtain rfl : v = _ := hv
  simp only [Act.put, List.setIfInBounds_toArray, List.set_cons_succ, List.set_cons_zero]; (try simp only [List.cons_append]); (try simp only [List.nil_append])
  apply hK
  clear hK K
  repeat (first | (refine phiU_skipK rfl (fun K hK => ?_); simp only [Act.put, List.setIfInBounds_toArray, List.set_cons_succ, List.set_cons_zero]; (try simp only [List.cons_append]); (try simp only [List.nil_append]); apply hK; clear hK K) | (refine phiU_pureK rfl rfl (fun K hK => ?_); apply Exists.intro; constructor; (focus (rintro w' ⟨h1, h2, h3⟩; have q0 := (h3.cell 2).trans rfl; have q1 := (h2.cell 1).trans rfl; have q2 := (h2.cell 2).trans rfl; clear h1 h2 h3; first | (go_simp; done) | (go_simp; (try go_bits); (try go_simp); rfl) | go_simp)); simp only [Act.put, List.setIfInBounds_toArray, List.set_cons_succ, List.set_cons_zero]; (try simp only [List.cons_append]); (try simp only [List.nil_append]); apply hK; clear hK K))
  refine phiU_partK (PVal (.int .i64 (st.putE ls : Int))) rfl rfl ⟨_, rfl⟩ ?_ (fun K hK v hv => ?_)
  · rintro w' ⟨h1, h2, h3⟩ hf hu
    unfold gives
    clear hf hu
    go_simp
    refine (num_any w' E (st.putE ls) (st.putE_le ls) (HGL.out.errs w' (HKX.out.trans h1))).mono ?_
    rintro e w'' ⟨rfl, hb⟩
    exact ⟨_, rfl, rfl, trivial, by rw [r7_o (by decide) (by decide)]; exact hb⟩
  obtain rfl : v = _ := hv
  simp only [Act.put, List.setIfInBounds_toArray, List.set_cons_succ, List.set_cons_zero]; (try simp only [List.cons_append]); (try simp only [List.nil_append])
  apply hK
  clear hK K
  repeat (first | (refine phiU_skipK rfl (fun K hK => ?_); simp only [Act.put, List.setIfInBounds_toArray, List.set_cons_succ, List.set_cons_zero]; (try simp only [List.cons_append]); (try simp only [List.nil_append]); apply hK; clear hK K) | (refine phiU_pureK rfl rfl (fun K hK => ?_); apply Exists.intro; constructor; (focus (rintro w' ⟨h1, h2, h3⟩; have q0 := (h3.cell 2).trans rfl; have q1 := (h2.cell 1).trans rfl; have q2 := (h2.cell 2).trans rfl; clear h1 h2 h3; first | (go_simp; done) | (go_simp; (try go_bits); (try go_simp); rfl) | go_simp)); simp only [Act.put, List.setIfInBounds_toArray, List.set_cons_succ, List.set_cons_zero]; (try simp only [List.cons_append]); (try simp only [List.nil_append]); apply hK; clear hK K))
  refine phiU_partK (PFact (.int .i64 (mr.putE ls : Int)) (AM B E a g j m (mr.put ls))) rfl rfl ⟨_, rfl⟩ ?_ (fun K hK v hv => ?_)
  · rintro w' ⟨h1, h2, h3⟩ hf hu
    obtain ⟨p0, o0, q0, st0, hd⟩ : AM B E a g j m mr w' := hu (14, AM B E a g j m mr) (by simp) rfl
    have hv := HV.out.mono (HKX.out.trans h1)
    unfold gives
    clear hf hu
    go_simp
    refine (mput_any B w' m g q0 (fun b => o0 = some b) mr (.slice pl ls.length cl) ls hd.mn hv HRL.out (by omega)).mono ?_
    rintro e w'' ⟨rfl, ⟨q1, hq, hm⟩, kk⟩
    exact ⟨_, rfl, rfl, ⟨_, _, _, _, hd.mstep hm hq kk⟩, by rw [r7_m]; exact ⟨_, _, _, _, _, _, _, hd, hm, hq, kk⟩⟩
  obtain rfl : v = _ := hv
  simp only [Act.put, List.setIfInBounds_toArray, List.set_cons_succ, List.set_cons_zero]; (try simp only [List.cons_append]); (try simp only [List.nil_append])
  apply hK
  clear hK K
  rw [HQ.out.2]
  repeat (first | (refine phiU_skipK rfl (fun K hK => ?_); simp only [Act.put, List.setIfInBounds_toArray, List.set_cons_succ, List.set_cons_zero]; (try simp only [List.cons_append]); (try simp only [List.nil_append]); apply hK; clear hK K) | (refine phiU_pureK rfl rfl (fun K hK => ?_); apply Exists.intro; constructor; (focus (rintro w' ⟨h1, h2, h3⟩; clear h1 h2 h3; first | (go_simp; done) | (go_simp; (try go_bits); (try go_simp); rfl) | go_simp)); simp only [Act.put, List.setIfInBounds_toArray, List.set_cons_succ, List.set_cons_zero]; (try simp only [List.cons_append]); (try simp only [List.nil_append]); apply hK; clear hK K))
  refine phiU_done ?_
  rintro w9 ⟨h1, h2, h3⟩ hf
  have hj9 : AJ B E a g j m (st.put ls) w9 := hf (6, fun w => (PFact (errV E (mr.putE ls)) (AJ B E a g j m (st.put ls))).fact w (errV E (mr.putE ls))) (by simp) rfl
  have hm9 : AM B E a g j m (mr.put ls) w9 := hf (14, fun w => (PFact (.int .i64 (mr.putE ls : Int)) (AM B E a g j m (mr.put ls))).fact w (.int .i64 (mr.putE ls : Int))) (by simp) rfl
  obtain ⟨p9, o9, q9, hd9⟩ := hj9.and hm9
  clear hf
  refine wpList_nil ?_
  go_wp2_with fail
  go_ret
  exact ⟨rfl, ⟨j, m, p9, o9, q9, _, _, ⟨hd9, h2, HQ.out.1, HP.out⟩, Nat.le_trans (st.put_le ls) (by omega)⟩, HKX.out.trans h1⟩
set_option maxRecDepth 20000 in
set_option maxHeartbeats 4000000 in
theorem do2_any (w : World) (E : Nat → Addr) (B P a g j m : Nat) (p o q : Option Nat) (st : JSt) (mr : MJr) (n : Int) (vl : Value) (ls : List (List UInt8)) (hv : OldL B w vl ls) (h : PlayW B w E P a g j m p o q st mr) (hl : ls.length ≤ 10) (N : Nat) (hN : st.rows.length ≤ N) :
    Calls Tryd.prog 30 #[.pointer (some ⟨P, 0, none⟩), .agg #[.int .i64 2, .int .i64 n, vl]] w (DoJ B E P a g (N + 10) w) := by
  have HV := Lib.hid hv
  have HGL := Lib.hid h.duo.jg.glob
  obtain ⟨pl, cl, vs, rfl, _⟩ := hv
  have hbx := Blk.new w 49 #[.int .i64 2, .int .i64 n, .slice pl ls.length cl]
  have hkx := below_alloc1 w (.cells #[.int .i64 2, .int .i64 n, .slice pl ls.length cl] 49)
  have HX := Lib.hid hbx
  have HKX := Lib.hid (hkx.mono h.duo.jg.hB)
  have HBX := Lib.hid (Nat.le_trans h.duo.jg.hB hkx.size)
  have HDU := Lib.hid (h.duo.below hkx)
  have HPL := Lib.hid (h.pl.below hkx h.pl.lt)
  have HR := Lib.hid h.rel
  have HP := Lib.hid h.hP
  have HQ := Lib.hid (h.rel.compact ls)
  have c0 := (hbx.cell 0).trans rfl
  clear h hbx hkx
  go_enter Tryd.func30, Tryd.ntmps30
  go_wp2_with fail
  generalize w.alloc (.cells #[.int .i64 2, .int .i64 n, .slice pl ls.length cl] 49) = wx at *
  refine wp_phiU (r7 B E a g j m) (fun w' => Below B wx w' ∧ Blk w' P 67 #[.pointer (some ⟨a, 0, none⟩), .pointer (some ⟨j, 0, none⟩), .pointer (some ⟨m, 0, none⟩)] ∧ Blk w' w.heap.size 49 #[.int .i64 2, .int .i64 n, .slice pl ls.length cl])
    [(6, PFact (errV E (st.compactE ls)) (AJ B E a g j m (st.compact ls))), (7, PVal (.int .i64 (st.compactE ls : Int))), (14, PFact (.int .i64 (mr.compactE ls : Int)) (AM B E a g j m (mr.compact ls)))] [] [(6, AJ B E a g j m st), (14, AM B E a g j m mr)] [] (by kernel_rfl) (by kernel_rfl) ?_ ?_ ?_ ?_ ⟨(Below.refl B wx).trans ((Below.refl wx.heap.size wx).drew.mono HBX.out), HPL.out.below (Below.refl _ _).drew HPL.out.lt, HX.out.below (Below.refl _ _).drew HX.out.lt⟩ ?_
  · rintro p hp w1 w2 ⟨h1, h2, h3⟩ hr
    exact ⟨h1.trans (r7_below hr (Nat.le_trans HBX.out h1.size)), r7_blk hr h2 (by decide) (by decide) (by decide) (by decide) (by decide) (by decide), r7_blk hr h3 (by decide) (by decide) (by decide) (by decide) (by decide) (by decide)⟩
  · simp only [List.mem_cons, List.not_mem_nil, or_false, forall_eq_or_imp, forall_eq]
    refine ⟨⟨fun h => absurd rfl h, ?_, ?_⟩, ⟨?_, fun h => absurd rfl h, ?_⟩, ⟨?_, ?_, fun h => absurd rfl h⟩⟩
    all_goals intro _ _ _ w1 w2 v hI h hf
    · rw [r7_o (by decide) (by decide)] at h; exact AJ.below hf h
    · rw [r7_m] at h; exact AJ.mstep hf h
    · trivial
    · trivial
    · rw [r7_j] at h; exact AM.jstep hf h
    · rw [r7_o (by decide) (by decide)] at h; exact AM.below hf h
  · simp only [List.mem_cons, List.not_mem_nil, or_false, forall_eq_or_imp, forall_eq]
    refine ⟨⟨fun h => absurd rfl h, ?_⟩, ⟨?_, ?_⟩, ⟨?_, fun h => absurd rfl h⟩⟩
    all_goals intro _ w1 w2 hI h hf
    · rw [r7_j] at h; exact AM.jstep hf h
    · rw [r7_o (by decide) (by decide)] at h; exact AJ.below hf h
    · rw [r7_o (by decide) (by decide)] at h; exact AM.below hf h
    · rw [r7_m] at h; exact AJ.mstep hf h
  · simp only [List.mem_cons, List.not_mem_nil, or_false, forall_eq_or_imp, forall_eq]
    exact ⟨AJ.below ⟨_, _, _, _, HDU.out⟩ (Below.refl _ _).drew, AM.below ⟨_, _, _, _, HDU.out⟩ (Below.refl _ _).drew⟩
  repeat (first | (refine phiU_skipK rfl (fun K hK => ?_); simp only [Act.put, List.setIfInBounds_toArray, List.set_cons_succ, List.set_cons_zero]; (try simp only [List.cons_append]); (try simp only [List.nil_append]); apply hK; clear hK K) | (refine phiU_pureK rfl rfl (fun K hK => ?_); apply Exists.intro; constructor; (focus (rintro w' ⟨h1, h2, h3⟩; have q0 := (h3.cell 2).trans rfl; have q1 := (h2.cell 1).trans rfl; have q2 := (h2.cell 2).trans rfl; clear h1 h2 h3; first | (go_simp; done) | (go_simp; (try go_bits); (try go_simp); rfl) | go_simp)); simp only [Act.put, List.setIfInBounds_toArray, List.set_cons_succ, List.set_cons_zero]; (try simp only [List.cons_append]); (try simp only [List.nil_append]); apply hK; clear hK K))
  refine phiU_partK (PFact (errV E (st.compactE ls)) (AJ B E a g j m (st.compact ls))) rfl rfl ⟨_, rfl⟩ ?_ (fun K hK v hv => ?_)
  · rintro w' ⟨h1, h2, h3⟩ hf hu
    obtain ⟨p0, o0, q0, mr0, hd⟩ : AJ B E a g j m st w' := hu (6, AJ B E a g j m st) (by simp) rfl
    have hv : StayL (jS j a p0 o0) w' (.slice pl ls.length cl) ls := (HV.out.mono (HKX.out.trans h1)).stay hd.jg.base (Nat.le_trans HBX.out h1.size)
    unfold gives
    clear hf hu
    go_simp
    refine (compact_any B w' E j a p0 o0 [] st (.slice pl ls.length cl) ls hd.jg hv (by omega)).mono ?_
    rintro e w'' ⟨rfl, ⟨p1, o1, hp, ho, hj⟩, kk⟩
    exact ⟨_, rfl, rfl, ⟨_, _, _, _, hd.jstep hj hp ho kk⟩, by rw [r7_j]; exact ⟨_, _, _, _, _, _, _, _, hd, hj, hp, ho, kk⟩⟩
  obtain rfl : v = _ := hv
  simp only [Act.put, List.setIfInBounds_toArray, List.set_cons_succ, List.set_cons_zero]; (try simp only [List.cons_append]); (try simp only [List.nil_append])
  apply hK
  clear hK K
  repeat (first | (refine phiU_skipK rfl (fun K hK => ?_); simp only [Act.put, List.setIfInBounds_toArray, List.set_cons_succ, List.set_cons_zero]; (try simp only [List.cons_append]); (try simp only [List.nil_append]); apply hK; clear hK K) | (refine phiU_pureK rfl rfl (fun K hK => ?_); apply Exists.intro; constructor; (focus (rintro w' ⟨h1, h2, h3⟩; have q0 := (h3.cell 2).trans rfl; have q1 := (h2.cell 1).trans rfl; have q2 := (h2.cell 2).trans rfl; clear h1 h2 h3; first | (go_simp; done) | (go_simp; (try go_bits); (try go_simp); rfl) | go_simp)); simp only [Act.put, List.setIfInBounds_toArray, List.set_cons_succ, List.set_cons_zero]; (try simp only [List.cons_append]); (try simp only [List.nil_append]); apply hK; clear hK K))
  refine phiU_partK (PVal (.int .i64 (st.compactE ls : Int))) rfl rfl ⟨_, rfl⟩ ?_ (fun K hK v hv => ?_)
  · rintro w' ⟨h1, h2, h3⟩ hf hu
    unfold gives
    clear hf hu
    go_simp
    refine (num_any w' E (st.compactE ls) (st.compactE_le ls) (HGL.out.errs w' (HKX.out.trans h1))).mono ?_
    rintro e w'' ⟨rfl, hb⟩
    exact ⟨_, rfl, rfl, trivial, by rw [r7_o (by decide) (by decide)]; exact hb⟩
  obtain rfl : v = _ := hv
  simp only [Act.put, List.setIfInBounds_toArray, List.set_cons_succ, List.set_cons_zero]; (try simp only [List.cons_append]); (try simp only [List.nil_append])
  apply hK
  clear hK K
  repeat (first | (refine phiU_skipK rfl (fun K hK => ?_); simp only [Act.put, List.setIfInBounds_toArray, List.set_cons_succ, List.set_cons_zero]; (try simp only [List.cons_append]); (try simp only [List.nil_append]); apply hK; clear hK K) | (refine phiU_pureK rfl rfl (fun K hK => ?_); apply Exists.intro; constructor; (focus (rintro w' ⟨h1, h2, h3⟩; have q0 := (h3.cell 2).trans rfl; have q1 := (h2.cell 1).trans rfl; have q2 := (h2.cell 2).trans rfl; clear h1 h2 h3; first | (go_simp; done) | (go_simp; (try go_bits); (try go_simp); rfl) | go_simp)); simp only [Act.put, List.setIfInBounds_toArray, List.set_cons_succ, List.set_cons_zero]; (try simp only [List.cons_append]); (try simp only [List.nil_append]); apply hK; clear hK K))
  refine phiU_partK (PFact (.int .i64 (mr.compactE ls : Int)) (AM B E a g j m (mr.compact ls))) rfl rfl ⟨_, rfl⟩ ?_ (fun K hK v hv => ?_)
  · rintro w' ⟨h1, h2, h3⟩ hf hu
    obtain ⟨p0, o0, q0, st0, hd⟩ : AM B E a g j m mr w' := hu (14, AM B E a g j m mr) (by simp) rfl
    have hv := HV.out.mono (HKX.out.trans h1)
    unfold gives
    clear hf hu
    go_simp
    refine (mcompact_any B w' m g q0 (fun b => o0 = some b) mr (.slice pl ls.length cl) ls hd.mn hv (by omega)).mono ?_
    rintro e w'' ⟨rfl, ⟨q1, hq, hm⟩, kk⟩
    exact ⟨_, rfl, rfl, ⟨_, _, _, _, hd.mstep hm hq kk⟩, by rw [r7_m]; exact ⟨_, _, _, _, _, _, _, hd, hm, hq, kk⟩⟩
  obtain rfl : v = _ := hv
  simp only [Act.put, List.setIfInBounds_toArray, List.set_cons_succ, List.set_cons_zero]; (try simp only [List.cons_append]); (try simp only [List.nil_append])
  apply hK
  clear hK K
  rw [HQ.out.2]
  repeat (first | (refine phiU_skipK rfl (fun K hK => ?_); simp only [Act.put, List.setIfInBounds_toArray, List.set_cons_succ, List.set_cons_zero]; (try simp only [List.cons_append]); (try simp only [List.nil_append]); apply hK; clear hK K) | (refine phiU_pureK rfl rfl (fun K hK => ?_); apply Exists.intro; constructor; (focus (rintro w' ⟨h1, h2, h3⟩; clear h1 h2 h3; first | (go_simp; done) | (go_simp; (try go_bits); (try go_simp); rfl) | go_simp)); simp only [Act.put, List.setIfInBounds_toArray, List.set_cons_succ, List.set_cons_zero]; (try simp only [List.cons_append]); (try simp only [List.nil_append]); apply hK; clear hK K))
  refine phiU_done ?_
  rintro w9 ⟨h1, h2, h3⟩ hf
  have hj9 : AJ B E a g j m (st.compact ls) w9 := hf (6, fun w => (PFact (errV E (mr.compactE ls)) (AJ B E a g j m (st.compact ls))).fact w (errV E (mr.compactE ls))) (by simp) rfl
  have hm9 : AM B E a g j m (mr.compact ls) w9 := hf (14, fun w => (PFact (.int .i64 (mr.compactE ls : Int)) (AM B E a g j m (mr.compact ls))).fact w (.int .i64 (mr.compactE ls : Int))) (by simp) rfl
  obtain ⟨p9, o9, q9, hd9⟩ := hj9.and hm9
  clear hf
  refine wpList_nil ?_
  go_wp2_with fail
  go_ret
  exact ⟨rfl, ⟨j, m, p9, o9, q9, _, _, ⟨hd9, h2, HQ.out.1, HP.out⟩, Nat.le_trans (st.compact_le ls) (by omega)⟩, HKX.out.trans h1⟩
end Go.Proofs.YtoiknidlincdkaaDoor
