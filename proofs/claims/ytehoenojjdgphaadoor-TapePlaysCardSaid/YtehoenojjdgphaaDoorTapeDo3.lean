/-
  TapeDo3: the walk of liaisonlaw06.do: the other kinds, and all.
-/
import Derived.Test.YtehoenojjdgphaaDoorTapeDo2
namespace Go.Proofs.YtehoenojjdgphaaDoor
open Go.RowKit
attribute [local go_sem] bs_toList bs_size
attribute [local irreducible] wpPhi wpPhiU

theorem cutE_le (s : TSt) (n : Int) : s.cutE n ≤ 14 := by unfold TSt.cutE TSt.stepE; split <;> (try split) <;> omega
set_option maxRecDepth 20000 in
set_option maxHeartbeats 4000000 in
theorem do4_any (w : World) (E : Nat → Addr) (B a g : Nat) (s : TSt) (m : MSt) (n : Int) (vd : Value) (d : List UInt8) (hn : -9223372036854775808 ≤ n ∧ n ≤ 9223372036854775807) (hl : d.length ≤ 400)
    (hB : B ≤ w.heap.size) (hE : ∀ w', Below B w w' → Errs w' E) (hd : ∀ w', Below B w w' → Byt w' vd d) (hb : Both w B a g s m) :
    Calls Tryd.prog 21 #[.pointer (some ⟨a, 0, none⟩), .pointer (some ⟨g, 0, none⟩), .agg #[.int .i64 4, .int .i64 n, vd]] w (DoR w B a g (s.cut n) (m.cutTo n)) := by
  have HE := Lib.hid hE
  have HD := Lib.hid hd
  have HB := Lib.hid hB
  have HG := Lib.hid hb.gg
  obtain ⟨pd, cd, hvd, _⟩ := hd w (Below.refl _ _)
  subst hvd
  have hbx := Blk.new w 50 #[.int .i64 4, .int .i64 n, .slice pd d.length cd]
  have hkx := below_alloc1 w (.cells #[.int .i64 4, .int .i64 n, .slice pd d.length cd] 50)
  have HX := Lib.hid hbx
  have HKX := Lib.hid (Keeps.of_below hkx hB : Keeps B playTs w _)
  have HBX := Lib.hid (Nat.le_trans hB hkx.size)
  have HT := Lib.hid (hb.tt.below hkx)
  have HM := Lib.hid (show MB _ g m from Blk.below hb.mm hkx (Blk.lt hb.mm))
  have HR := Lib.hid hb.rr
  have c0 := (hbx.cell 0).trans rfl
  have c1 := (hbx.cell 1).trans rfl
  have c2 := (hbx.cell 2).trans rfl
  clear hE hd hB hb hkx hbx
  go_enter Tryd.func21, Tryd.ntmps21
  go_wp2_with fail
  generalize w.alloc (.cells #[.int .i64 4, .int .i64 n, .slice pd d.length cd] 50) = wx at *
  refine wp_phiU (doRel B g m 3 8) (fun w' => Keeps B playTs wx w') [(3, PFact (errV E (s.cutE n)) fun w' => Tp w' B a (s.cut n)), (4, PVal (.int .i64 (s.cutE n : Int))), (8, PFact (.int .i64 (m.cutE n : Int)) fun w' => MB w' g (m.cutTo n))] [] [(3, fun w' => Tp w' B a s), (8, fun w' => MB w' g m)] [] (by kernel_rfl) (by kernel_rfl) ?_ ?_ ?_ ?_ (Keeps.refl _ _ _).drew ?_
  · intro p hp w1 w2 h1 h2
    exact h1.trans (doRel_keeps (Nat.le_trans HBX.out h1.size) HG.out h2)
  · simp only [List.mem_cons, List.not_mem_nil, or_false, forall_eq_or_imp, forall_eq]
    refine ⟨⟨fun h => absurd rfl h, ?_, ?_⟩, ⟨?_, fun h => absurd rfl h, ?_⟩, ⟨?_, ?_, fun h => absurd rfl h⟩⟩
    all_goals intro _ _ _ w1 w2 v hI h hf
    · rw [doRel_o (by decide) (by decide)] at h; exact Tp.below hf h
    · rw [doRel_m (by decide)] at h; exact Tp.mstep hf h
    · trivial
    · trivial
    · rw [doRel_t] at h; exact h.blk (t := 53) hf (by decide)
    · rw [doRel_o (by decide) (by decide)] at h; exact Blk.below hf h (Blk.lt hf)
  · simp only [List.mem_cons, List.not_mem_nil, or_false, forall_eq_or_imp, forall_eq]
    refine ⟨⟨fun h => absurd rfl h, ?_⟩, ⟨?_, ?_⟩, ⟨?_, fun h => absurd rfl h⟩⟩
    all_goals intro _ w1 w2 hI h hf
    · rw [doRel_t] at h; exact h.blk (t := 53) hf (by decide)
    · rw [doRel_o (by decide) (by decide)] at h; exact Tp.below hf h
    · rw [doRel_o (by decide) (by decide)] at h; exact Blk.below hf h (Blk.lt hf)
    · rw [doRel_m (by decide)] at h; exact Tp.mstep hf h
  · simp only [List.mem_cons, List.not_mem_nil, or_false, forall_eq_or_imp, forall_eq]
    exact ⟨HT.out.below (Below.refl _ _).drew, HM.out⟩
  repeat (first | (refine phiU_skipK rfl (fun K hK => ?_); simp only [Act.put, List.setIfInBounds_toArray, List.set_cons_succ, List.set_cons_zero]; (try simp only [List.cons_append]); (try simp only [List.nil_append]); apply hK; clear hK K) | (refine phiU_pureK rfl rfl (fun K hK => ?_); apply Exists.intro; constructor; (rintro w' hI; have q0 := (hI.blk HX.out rfl).cell 1; clear hI; first | (go_simp; (try go_bits); (try go_simp); rfl) | go_simp); simp only [Act.put, List.setIfInBounds_toArray, List.set_cons_succ, List.set_cons_zero]; (try simp only [List.cons_append]); (try simp only [List.nil_append]); apply hK; clear hK K))
  refine phiU_partK (PFact (errV E (s.cutE n)) fun w' => Tp w' B a (s.cut n)) rfl rfl ⟨_, rfl⟩ ?_ (fun K hK v hv => ?_)
  · intro w' hI hf hu
    have ht : Tp w' B a s := hu (3, fun w' => Tp w' B a s) (by simp) rfl
    unfold gives
    clear hf hu
    go_simp
    refine (cut_any w' E B a s n ((HE.out w' (HKX.out.trans hI).below).on [0, 6] rfl) ht (Nat.le_trans HBX.out hI.size)).mono ?_
    rintro e w'' ⟨rfl, ht2, hk⟩
    exact ⟨_, rfl, rfl, ht2, by rw [doRel_t]; exact hk⟩
  obtain rfl : v = _ := hv
  simp only [Act.put, List.setIfInBounds_toArray, List.set_cons_succ, List.set_cons_zero]; (try simp only [List.cons_append]); (try simp only [List.nil_append])
  apply hK
  clear hK K
  repeat (first | (refine phiU_skipK rfl (fun K hK => ?_); simp only [Act.put, List.setIfInBounds_toArray, List.set_cons_succ, List.set_cons_zero]; (try simp only [List.cons_append]); (try simp only [List.nil_append]); apply hK; clear hK K) | (refine phiU_pureK rfl rfl (fun K hK => ?_); apply Exists.intro; constructor; (rintro w' hI; have q0 := (hI.blk HX.out rfl).cell 1; clear hI; first | (go_simp; (try go_bits); (try go_simp); rfl) | go_simp); simp only [Act.put, List.setIfInBounds_toArray, List.set_cons_succ, List.set_cons_zero]; (try simp only [List.cons_append]); (try simp only [List.nil_append]); apply hK; clear hK K))
  refine phiU_partK (PVal (.int .i64 (s.cutE n : Int))) rfl rfl ⟨_, rfl⟩ ?_ (fun K hK v hv => ?_)
  · intro w' hI hf hu
    unfold gives
    clear hf hu
    go_simp
    refine (num_any w' E (s.cutE n) (cutE_le s n) (HE.out w' (HKX.out.trans hI).below)).mono ?_
    rintro e w'' ⟨rfl, hb⟩
    exact ⟨_, rfl, rfl, trivial, by rw [doRel_o (by decide) (by decide)]; exact hb⟩
  obtain rfl : v = _ := hv
  simp only [Act.put, List.setIfInBounds_toArray, List.set_cons_succ, List.set_cons_zero]; (try simp only [List.cons_append]); (try simp only [List.nil_append])
  apply hK
  clear hK K
  repeat (first | (refine phiU_skipK rfl (fun K hK => ?_); simp only [Act.put, List.setIfInBounds_toArray, List.set_cons_succ, List.set_cons_zero]; (try simp only [List.cons_append]); (try simp only [List.nil_append]); apply hK; clear hK K) | (refine phiU_pureK rfl rfl (fun K hK => ?_); apply Exists.intro; constructor; (rintro w' hI; have q0 := (hI.blk HX.out rfl).cell 1; clear hI; first | (go_simp; (try go_bits); (try go_simp); rfl) | go_simp); simp only [Act.put, List.setIfInBounds_toArray, List.set_cons_succ, List.set_cons_zero]; (try simp only [List.cons_append]); (try simp only [List.nil_append]); apply hK; clear hK K))
  refine phiU_partK (PFact (.int .i64 (m.cutE n : Int)) fun w' => MB w' g (m.cutTo n)) rfl rfl ⟨_, rfl⟩ ?_ (fun K hK v hv => ?_)
  · intro w' hI hf hu
    have hm : MB w' g m := hu (8, fun w' => MB w' g m) (by simp) rfl
    unfold gives
    clear hf hu
    go_simp
    refine (mcut_any w' g m n HR.out.bd hm).mono ?_
    rintro e w'' ⟨rfl, hm2, hk⟩
    exact ⟨_, rfl, rfl, hm2, by rw [doRel_m (by decide)]; exact ⟨hk, hm⟩⟩
  obtain rfl : v = _ := hv
  simp only [Act.put, List.setIfInBounds_toArray, List.set_cons_succ, List.set_cons_zero]; (try simp only [List.cons_append]); (try simp only [List.nil_append])
  apply hK
  clear hK K
  rw [(HR.out.cutTo n).2]
  repeat (first | (refine phiU_skipK rfl (fun K hK => ?_); simp only [Act.put, List.setIfInBounds_toArray, List.set_cons_succ, List.set_cons_zero]; (try simp only [List.cons_append]); (try simp only [List.nil_append]); apply hK; clear hK K) | (refine phiU_pureK rfl rfl (fun K hK => ?_); apply Exists.intro; constructor; (rintro w' hI; clear hI; first | (go_simp; (try go_bits); (try go_simp); rfl) | go_simp); simp only [Act.put, List.setIfInBounds_toArray, List.set_cons_succ, List.set_cons_zero]; (try simp only [List.cons_append]); (try simp only [List.nil_append]); apply hK; clear hK K))
  refine phiU_done ?_
  intro w9 hI hf
  have ht9 : Tp w9 B a (s.cut n) := hf (3, fun w => (PFact (errV E (m.cutE n)) fun w' => Tp w' B a (s.cut n)).fact w (errV E (m.cutE n))) (by simp) rfl
  have hm9 : MB w9 g (m.cutTo n) := hf (8, fun w => (PFact (.int .i64 (m.cutE n : Int)) fun w' => MB w' g (m.cutTo n)).fact w (.int .i64 (m.cutE n : Int))) (by simp) rfl
  clear hf
  refine wpList_nil ?_
  go_wp2_with fail
  go_ret
  exact ⟨rfl, ⟨ht9, hm9, (HR.out.cutTo n).1, HG.out⟩, HKX.out.trans hI⟩
set_option maxRecDepth 20000 in
set_option maxHeartbeats 4000000 in
theorem do5_any (w : World) (E : Nat → Addr) (B a g : Nat) (s : TSt) (m : MSt) (n : Int) (vd : Value) (d : List UInt8) (hn : -9223372036854775808 ≤ n ∧ n ≤ 9223372036854775807) (hl : d.length ≤ 400)
    (hB : B ≤ w.heap.size) (hE : ∀ w', Below B w w' → Errs w' E) (hd : ∀ w', Below B w w' → Byt w' vd d) (hb : Both w B a g s m) :
    Calls Tryd.prog 21 #[.pointer (some ⟨a, 0, none⟩), .pointer (some ⟨g, 0, none⟩), .agg #[.int .i64 5, .int .i64 n, vd]] w (DoR w B a g (s.setRoom n) (m.setRoom n)) := by
  have HE := Lib.hid hE
  have HD := Lib.hid hd
  have HB := Lib.hid hB
  have HG := Lib.hid hb.gg
  obtain ⟨pd, cd, hvd, _⟩ := hd w (Below.refl _ _)
  subst hvd
  have hbx := Blk.new w 50 #[.int .i64 5, .int .i64 n, .slice pd d.length cd]
  have hkx := below_alloc1 w (.cells #[.int .i64 5, .int .i64 n, .slice pd d.length cd] 50)
  have HX := Lib.hid hbx
  have HKX := Lib.hid (Keeps.of_below hkx hB : Keeps B playTs w _)
  have HBX := Lib.hid (Nat.le_trans hB hkx.size)
  have HT := Lib.hid (hb.tt.below hkx)
  have HM := Lib.hid (show MB _ g m from Blk.below hb.mm hkx (Blk.lt hb.mm))
  have HR := Lib.hid hb.rr
  have c0 := (hbx.cell 0).trans rfl
  have c1 := (hbx.cell 1).trans rfl
  have c2 := (hbx.cell 2).trans rfl
  clear hE hd hB hb hkx hbx
  go_enter Tryd.func21, Tryd.ntmps21
  go_wp2_with fail
  generalize w.alloc (.cells #[.int .i64 5, .int .i64 n, .slice pd d.length cd] 50) = wx at *
  refine (setRoom_any wx E B a s n ((HE.out wx HKX.out.below).on [0] rfl) HT.out).mono ?_
  rintro e w1 ⟨rfl, ht1, k1⟩
  have K1 := HKX.out.trans (play_of_tape k1)
  have HM1 := Lib.hid (show MB w1 g m from k1.blk HM.out (by decide))
  have HT1 := Lib.hid ht1
  have hx1 := (play_of_tape k1).blk HX.out rfl
  have c1' := (hx1.cell 1).trans rfl
  have hc := HM1.out.cells.c2
  have hfz := HM1.out.frozen 2
  clear ht1 k1 c0 c1 c2 hx1
  by_cases hn2 : n < 0 ∨ 65536 < n
  · have hE1 : TSt.setRoomE n = 1 := by unfold TSt.setRoomE; rw [if_pos hn2]
    have HRm := Lib.hid (show m.setRoom n = m by unfold MSt.setRoom; rw [if_pos hn2])
    rw [hE1]
    have d : (decide (n < 0) = true) ∨ (decide (n < 0) = false ∧ decide (65536 < n) = true) := by
      simp only [decide_eq_true_eq, decide_eq_false_iff_not]; omega
    clear hn2 hE1
    rcases d with d1 | ⟨d1, d2⟩
    all_goals
      go_wp2_with fail
      refine (num_any w1 E 1 (by omega) (HE.out w1 K1.below)).mono ?_
      rintro e w2 ⟨rfl, hb2⟩
      have K2 := K1.call (Nat.le_trans HB.out K1.size) hb2
      have HM2 := Lib.hid (show MB w2 g m from Blk.below HM1.out hb2 (Blk.lt HM1.out))
      have HT2 := Lib.hid (Tp.below HT1.out hb2)
      clear hb2
      go_wp2_with fail
      go_ret
      exact ⟨rfl, ⟨HT2.out, by rw [HRm.out]; exact HM2.out, HR.out.setRoom n, HG.out⟩, K2⟩
  · have hE1 : TSt.setRoomE n = 0 := by unfold TSt.setRoomE; rw [if_neg hn2]
    have HRm := Lib.hid (show m.setRoom n = { m with room := n } by unfold MSt.setRoom; rw [if_neg hn2])
    rw [hE1, errV_nil]
    have d1 : decide (n < 0) = false := by rw [decide_eq_false_iff_not]; omega
    have d2 : decide (65536 < n) = false := by rw [decide_eq_false_iff_not]; omega
    clear hn2 hE1
    go_wp2_with fail
    go_ret
    have hms : MStep g m w1 (w1.setCell ⟨g, 2, none⟩ (.int .i64 n)) := ⟨(Only.refl _ _).set_ 2 _, HM1.out⟩
    refine ⟨rfl, ⟨Tp.mstep HT1.out hms, ?_, HR.out.setRoom n, HG.out⟩, K1.trans (hms.keeps HG.out)⟩
    rw [HRm.out]
    exact HM1.out.set_ 2 (.int .i64 n)
set_option maxRecDepth 20000 in
set_option maxHeartbeats 4000000 in
theorem do6_any (w : World) (E : Nat → Addr) (B a g : Nat) (s : TSt) (m : MSt) (n : Int) (vd : Value) (d : List UInt8) (hn : -9223372036854775808 ≤ n ∧ n ≤ 9223372036854775807) (hl : d.length ≤ 400)
    (hB : B ≤ w.heap.size) (hE : ∀ w', Below B w w' → Errs w' E) (hd : ∀ w', Below B w w' → Byt w' vd d) (hb : Both w B a g s m) :
    Calls Tryd.prog 21 #[.pointer (some ⟨a, 0, none⟩), .pointer (some ⟨g, 0, none⟩), .agg #[.int .i64 6, .int .i64 n, vd]] w (DoR w B a g (s.arm n) (m.arm n)) := by
  have HE := Lib.hid hE
  have HD := Lib.hid hd
  have HB := Lib.hid hB
  have HG := Lib.hid hb.gg
  obtain ⟨pd, cd, hvd, _⟩ := hd w (Below.refl _ _)
  subst hvd
  have hbx := Blk.new w 50 #[.int .i64 6, .int .i64 n, .slice pd d.length cd]
  have hkx := below_alloc1 w (.cells #[.int .i64 6, .int .i64 n, .slice pd d.length cd] 50)
  have HX := Lib.hid hbx
  have HKX := Lib.hid (Keeps.of_below hkx hB : Keeps B playTs w _)
  have HBX := Lib.hid (Nat.le_trans hB hkx.size)
  have HT := Lib.hid (hb.tt.below hkx)
  have HM := Lib.hid (show MB _ g m from Blk.below hb.mm hkx (Blk.lt hb.mm))
  have HR := Lib.hid hb.rr
  have c0 := (hbx.cell 0).trans rfl
  have c1 := (hbx.cell 1).trans rfl
  have c2 := (hbx.cell 2).trans rfl
  clear hE hd hB hb hkx hbx
  go_enter Tryd.func21, Tryd.ntmps21
  go_wp2_with fail
  generalize w.alloc (.cells #[.int .i64 6, .int .i64 n, .slice pd d.length cd] 50) = wx at *
  have hbb : Below wx.heap.size wx wx := Below.refl _ _
  refine wp_phi_tail (List.take 5 _) (List.drop 5 _) (List.take_append_drop 5 _).symm (fun w' => (Tp w' B a s) ∧ (MB w' g m) ∧ (Blk w' w.heap.size 50 #[.int .i64 6, .int .i64 n, .slice pd d.length cd]) ∧ Below wx.heap.size wx w') [] [] (by kernel_rfl) (by kernel_rfl) ?_ ?_ ⟨HT.out, HM.out, HX.out, (hbb).drew⟩ ?_
  · rintro w1' w2' ⟨gt, gm, gx, hIB⟩ hb
    exact ⟨(by first | exact gt.below hb | exact gt.keep (Below.keeps hb) | exact Below.keeps hb _ _ gt | exact Blk.below gt hb (Blk.lt gt)), (by first | exact gm.below hb | exact gm.keep (Below.keeps hb) | exact Below.keeps hb _ _ gm | exact Blk.below gm hb (Blk.lt gm)), (by first | exact gx.below hb | exact gx.keep (Below.keeps hb) | exact Below.keeps hb _ _ gx | exact Blk.below gx hb (Blk.lt gx)), hIB.trans (hb.mono hIB.size)⟩
  · intro p hp; cases hp
  simp only [List.take_succ_cons, List.take_zero, List.drop_succ_cons, List.drop_zero]
  repeat (first | (refine phi_skipK rfl (fun K hK => ?_); simp only [Act.put, List.setIfInBounds_toArray, List.set_cons_succ, List.set_cons_zero]; (try simp only [List.cons_append]); (try simp only [List.nil_append]); apply hK; clear hK K) | (refine phi_pureK rfl rfl (fun K hK => ?_); apply Exists.intro; constructor; (rintro w' ⟨gt, gm, gx, hIB⟩; have q1 := (gx.cell 1).trans rfl; clear gt gm gx hIB; first | (go_simp; (try go_bits); (try go_simp); rfl) | go_simp); simp only [Act.put, List.setIfInBounds_toArray, List.set_cons_succ, List.set_cons_zero]; (try simp only [List.cons_append]); (try simp only [List.nil_append]); apply hK; clear hK K))
  refine phi_done ?_
  rintro w5 ⟨gt, gm, gx, hb5⟩ _
  have K5 := HKX.out.call HBX.out hb5
  have HT5 := Lib.hid gt
  have HM5 := Lib.hid gm
  have HX5 := Lib.hid gx
  clear gt gm gx hb5 hbb
  go_wp2_with fail
  refine (arm_any w5 B a s n hn HT5.out).mono ?_
  rintro e w1 ⟨rfl, ht1, k1⟩
  have K1 := K5.trans (play_of_tape k1)
  have HM1 := Lib.hid (show MB w1 g m from k1.blk HM5.out (by decide))
  have HT1 := Lib.hid ht1
  have hx1 := (play_of_tape k1).blk HX5.out rfl
  have c1' := (hx1.cell 1).trans rfl
  clear ht1 k1 c0 c1 c2 hx1
  go_wp2_with fail
  refine (marm_any w1 g m n HM1.out).mono ?_
  rintro e w3 ⟨rfl, hm3, k3⟩
  have HM3 := Lib.hid hm3
  have hms : MStep g m w1 w3 := ⟨k3, HM1.out⟩
  have HT3 := Lib.hid (Tp.mstep HT1.out hms)
  have K3 := K1.trans (hms.keeps HG.out)
  clear hm3 k3 hms
  go_wp2_with fail
  go_ret
  exact ⟨rfl, ⟨HT3.out, HM3.out, HR.out.arm n hn, HG.out⟩, K3⟩
set_option maxRecDepth 20000 in
set_option maxHeartbeats 4000000 in
theorem do0_any (w : World) (E : Nat → Addr) (B a g : Nat) (s : TSt) (m : MSt) (kind n : Int) (hkind : ∀ k : Int, 1 ≤ k → k ≤ 7 → kind ≠ k) (vd : Value) (d : List UInt8) (hn : -9223372036854775808 ≤ n ∧ n ≤ 9223372036854775807) (hl : d.length ≤ 400)
    (hB : B ≤ w.heap.size) (hE : ∀ w', Below B w w' → Errs w' E) (hd : ∀ w', Below B w w' → Byt w' vd d) (hb : Both w B a g s m) :
    Calls Tryd.prog 21 #[.pointer (some ⟨a, 0, none⟩), .pointer (some ⟨g, 0, none⟩), .agg #[.int .i64 kind, .int .i64 n, vd]] w (DoR w B a g s m) := by
  have HE := Lib.hid hE
  have HD := Lib.hid hd
  have HB := Lib.hid hB
  have HG := Lib.hid hb.gg
  obtain ⟨pd, cd, hvd, _⟩ := hd w (Below.refl _ _)
  subst hvd
  have hbx := Blk.new w 50 #[.int .i64 kind, .int .i64 n, .slice pd d.length cd]
  have hkx := below_alloc1 w (.cells #[.int .i64 kind, .int .i64 n, .slice pd d.length cd] 50)
  have HX := Lib.hid hbx
  have HKX := Lib.hid (Keeps.of_below hkx hB : Keeps B playTs w _)
  have HBX := Lib.hid (Nat.le_trans hB hkx.size)
  have HT := Lib.hid (hb.tt.below hkx)
  have HM := Lib.hid (show MB _ g m from Blk.below hb.mm hkx (Blk.lt hb.mm))
  have HR := Lib.hid hb.rr
  have c0 := (hbx.cell 0).trans rfl
  have c1 := (hbx.cell 1).trans rfl
  have c2 := (hbx.cell 2).trans rfl
  clear hE hd hB hb hkx hbx
  have f1 : (kind == 1) = false := by simpa using hkind 1 (by omega) (by omega)
  have f2 : (kind == 2) = false := by simpa using hkind 2 (by omega) (by omega)
  have f3 : (kind == 3) = false := by simpa using hkind 3 (by omega) (by omega)
  have f4 : (kind == 4) = false := by simpa using hkind 4 (by omega) (by omega)
  have f5 : (kind == 5) = false := by simpa using hkind 5 (by omega) (by omega)
  have f6 : (kind == 6) = false := by simpa using hkind 6 (by omega) (by omega)
  have f7 : (kind == 7) = false := by simpa using hkind 7 (by omega) (by omega)
  clear hkind
  go_enter Tryd.func21, Tryd.ntmps21
  go_wp2_with fail
  go_ret
  exact ⟨rfl, ⟨HT.out, HM.out, HR.out, HG.out⟩, HKX.out⟩
def doS (s : TSt) (kind n : Int) (d : List UInt8) : TSt := if kind = 1 then s.append d else if kind = 2 then s.sync else if kind = 3 then s.swap d else if kind = 4 then s.cut n else if kind = 5 then s.setRoom n else if kind = 6 then s.arm n else if kind = 7 then s.crash n else s
def doM (m : MSt) (kind n : Int) (d : List UInt8) : MSt := if kind = 1 then m.append d else if kind = 2 then m.sync else if kind = 3 then m.swap d else if kind = 4 then m.cutTo n else if kind = 5 then m.setRoom n else if kind = 6 then m.arm n else if kind = 7 then m.crash n else m
theorem do_any (w : World) (E : Nat → Addr) (B a g : Nat) (s : TSt) (m : MSt) (kind n : Int) (vd : Value) (d : List UInt8) (hn : -9223372036854775808 ≤ n ∧ n ≤ 9223372036854775807) (hl : d.length ≤ 400)
    (hB : B ≤ w.heap.size) (hE : ∀ w', Below B w w' → Errs w' E) (hd : ∀ w', Below B w w' → Byt w' vd d) (hb : Both w B a g s m) :
    Calls Tryd.prog 21 #[.pointer (some ⟨a, 0, none⟩), .pointer (some ⟨g, 0, none⟩), .agg #[.int .i64 kind, .int .i64 n, vd]] w (DoR w B a g (doS s kind n d) (doM m kind n d)) := by
  by_cases k1 : kind = 1
  · subst k1; exact do1_any w E B a g s m n vd d hn hl hB hE hd hb
  by_cases k2 : kind = 2
  · subst k2; exact do2_any w E B a g s m n vd d hn hl hB hE hd hb
  by_cases k3 : kind = 3
  · subst k3; exact do3_any w E B a g s m n vd d hn hl hB hE hd hb
  by_cases k4 : kind = 4
  · subst k4; exact do4_any w E B a g s m n vd d hn hl hB hE hd hb
  by_cases k5 : kind = 5
  · subst k5; exact do5_any w E B a g s m n vd d hn hl hB hE hd hb
  by_cases k6 : kind = 6
  · subst k6; exact do6_any w E B a g s m n vd d hn hl hB hE hd hb
  by_cases k7 : kind = 7
  · subst k7; exact do7_any w E B a g s m n vd d hn hl hB hE hd hb
  have e1 : doS s kind n d = s := by unfold doS; simp [k1, k2, k3, k4, k5, k6, k7]
  have e2 : doM m kind n d = m := by unfold doM; simp [k1, k2, k3, k4, k5, k6, k7]
  rw [e1, e2]
  exact do0_any w E B a g s m kind n (fun k h1 h2 e => by omega) vd d hn hl hB hE hd hb
end Go.Proofs.YtehoenojjdgphaaDoor
