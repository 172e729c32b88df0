/-
  LawBCtx2: the walk of BindingContexts, at contexts that aren't right.
-/
import Derived.Test.YtgmiockaecklaaaGreatDoorLawBCtx
namespace Go.Proofs.YtgmiockaecklaaaGreatDoor
open Go.RowKit Go.Extern.Stop Go.Stop Go.Extern Ieee
attribute [local go_sem] bs_toList bs_size
attribute [local irreducible] wpPhi
attribute [local go_sem] run_store_flt

/-- the empty element -/
def zeroT : Tr := .node [[], []] [] [] []
theorem zero_of (w : World) (P : Nat → Prop) : TrC w P zeroT [.string ⟨#[]⟩, .string ⟨#[]⟩, .slice none 0 0, .slice none 0 0, .string ⟨#[]⟩] := by
  unfold zeroT TrC
  exact ⟨none, 0, none, 0, [], rfl, ⟨Nat.le_refl _, by unfold maxLen; omega, .inl rfl, fun a ha => by cases ha⟩, ⟨Nat.le_refl _, by unfold maxLen; omega, .inl rfl, fun a ha => by cases ha⟩, (by unfold TrL; rfl)⟩
theorem same_zero (w : World) : Calls Tryz.prog 8 #[.agg #[.string ⟨#[]⟩, .string ⟨#[]⟩, .slice none 0 0, .slice none 0 0, .string ⟨#[]⟩], .agg #[.string ⟨#[]⟩, .string ⟨#[]⟩, .slice none 0 0, .slice none 0 0, .string ⟨#[]⟩]] w (Gives w (.bool true)) := by
  have h := same_any _ zeroT zeroT (fun _ => True) (fun _ => True) _ _ w (Nat.le_refl _) ⟨rfl, by simp, trivial⟩ ⟨rfl, by simp, trivial⟩ (zero_of w _) (zero_of w _)
  rw [Tr.eqb_refl] at h
  exact h
set_option maxRecDepth 40000 in
set_option maxHeartbeats 16000000 in
theorem bctx_wrong (n9 s9 o9 d9 : Int) (x9 : Nat) (hn : -9223372036854775808 ≤ n9) (hs : -9223372036854775808 ≤ s9) (hx : x9 < 18446744073709551616) (pv : Option Addr) (cv : Nat) (vs : List (List UInt8)) (spoil : Int) (w : World) (E : Nat → Addr) (hg : LawG w E)
    (hv1 : vs.length ≤ cv) (hv2 : cv ≤ maxLen) (hv : Rd w pv (strs vs)) (h10 : vs.length ≤ 10) (hr : rightC ⟨n9, s9, o9, d9, x9⟩ = false) :
    Calls Tryz.prog 3 #[.agg #[.int .i64 n9, .int .i64 s9, .int .i64 o9, .int .i64 d9, .float .f64 x9], .slice pv vs.length cv, .int .i64 spoil] w (ok1 w) := by
  have HG := Lib.hid hg; have HV := Lib.hid hv; have HR9 := Lib.hid hr
  have B1 := Lib.hid (below_alloc1 w (.cells #[.int .i64 n9, .int .i64 s9, .int .i64 o9, .int .i64 d9, .float .f64 x9] 26))
  have N1 := Lib.hid (Blk.new w 26 #[.int .i64 n9, .int .i64 s9, .int .i64 o9, .int .i64 d9, .float .f64 x9])
  have d10 : decide ((10 : Int) < (vs.length : Int)) = false := decide_eq_false (by omega)
  have d10' : decide (10 < vs.length) = false := decide_eq_false (by omega)
  have HAL := Lib.hid (alive_any _ E ((hg.below B1.out).ids.errs.on [3] (by decide)) (hg.below B1.out).kinds)
  unfold maxLen at hv2
  have HHN := Lib.hid hn; have HHS := Lib.hid hs; have HHX9 := Lib.hid hx
  clear hg hv hr hn hs hx
  go_enter Tryz.func3, Tryz.ntmps3
  go_wp2_with fail
  refine HAL.out.mono ?_
  rintro e w1 ⟨rfl, hb1⟩
  have B2 := Lib.hid (B1.out.trans (hb1.mono B1.out.size))
  have N2 := Lib.hid (N1.out.below hb1 N1.out.lt)
  have c0 := (N2.out.cell 0).trans rfl
  have c1 := (N2.out.cell 1).trans rfl
  have c2 := (N2.out.cell 2).trans rfl
  have c3 := (N2.out.cell 3).trans rfl
  have c4 := (N2.out.cell 4).trans rfl
  clear hb1 HAL B1 N1
  go_wp2_with fail
  refine (ctx_any n9 s9 o9 d9 x9 HHN.out HHS.out HHX9.out w1 E (HG.out.below B2.out).ids (HG.out.below B2.out).outs).mono ?_
  rintro e w2 ⟨hb2, ⟨hno, _⟩ | ⟨_, rfl⟩⟩
  · rw [HR9.out] at hno
    cases hno
  have B3 := Lib.hid (below_alloc (B2.out.trans (hb2.mono B2.out.size)) (.cells #[.string ⟨#[]⟩, .string ⟨#[]⟩, .slice none 0 0, .slice none 0 0, .string ⟨#[]⟩] 34))
  have N3 := Lib.hid ((N2.out.below hb2 N2.out.lt).alloc (.cells #[.string ⟨#[]⟩, .string ⟨#[]⟩, .slice none 0 0, .slice none 0 0, .string ⟨#[]⟩] 34))
  have X3 := Lib.hid (Blk.new w2 34 #[.string ⟨#[]⟩, .string ⟨#[]⟩, .slice none 0 0, .slice none 0 0, .string ⟨#[]⟩])
  have hgx0 : w.heap.size < w2.heap.size := by have := N2.out.lt; have := hb2.size; omega
  clear c0 c1 c2 c3 c4 d10 d10' hb2 B2 N2
  have c0 := (N3.out.cell 0).trans rfl
  have c1 := (N3.out.cell 1).trans rfl
  have c2 := (N3.out.cell 2).trans rfl
  have c3 := (N3.out.cell 3).trans rfl
  have c4 := (N3.out.cell 4).trans rfl
  unfold eZ errAt
  go_wp2_with fail
  generalize hgx : w2.heap.size = gx at *
  generalize w2.alloc (.cells #[.string ⟨#[]⟩, .string ⟨#[]⟩, .slice none 0 0, .slice none 0 0, .string ⟨#[]⟩] 34) = w3 at *
  clear hgx
  refine (rright_any n9 s9 o9 d9 x9 HHX9.out w3).mono ?_
  rintro e w4 ⟨rfl, hb4⟩
  rw [HR9.out]
  have B4 := Lib.hid (B3.out.trans (hb4.mono B3.out.size))
  have N4 := Lib.hid (N3.out.below hb4 N3.out.lt)
  have X4 := Lib.hid (X3.out.below hb4 X3.out.lt)
  clear c0 c1 c2 c3 c4 hb4 B3 N3 X3
  go_wp2_with fail
  refine (num_err w4 E 3 (by omega) (HG.out.below B4.out).ids.errs).mono ?_
  rintro e w5 ⟨rfl, hb5⟩
  have B5 := Lib.hid (B4.out.trans (hb5.mono B4.out.size))
  have N5 := Lib.hid (N4.out.below hb5 N4.out.lt)
  have X5 := Lib.hid (X4.out.below hb5 X4.out.lt)
  clear hb5 B4 N4 X4
  have p0 := (X5.out.cell 0).trans rfl
  have p1 := (X5.out.cell 1).trans rfl
  have p2 := (X5.out.cell 2).trans rfl
  have p3 := (X5.out.cell 3).trans rfl
  have p4 := (X5.out.cell 4).trans rfl
  go_wp2_with fail
  refine (same_zero w5).mono ?_
  rintro e w6 ⟨rfl, hb6⟩
  have B6 := Lib.hid (B5.out.trans (hb6.mono B5.out.size))
  have N6 := Lib.hid (N5.out.below hb6 N5.out.lt)
  have X6 := Lib.hid (X5.out.below hb6 X5.out.lt)
  clear hb6 p0 p1 p2 p3 p4 B5 N5 X5
  go_wp2_with (refine wpList_store (.tmp 3) (.tmp 37) 26 rfl rfl w.heap.size 0 _ _ #[.int .i64 0, .int .i64 0, .int .i64 1, .int .i64 0, .float .f64 0] rfl rfl N6.out ?sa ?sb ?sc ?_)
  case sa => kernel_rfl
  case sb => simp [Value.oneCell']
  case sc => simp
  intro w7 hn7 ko7
  rw [putCells_all #[.int .i64 n9, .int .i64 s9, .int .i64 o9, .int .i64 d9, .float .f64 x9] #[.int .i64 0, .int .i64 0, .int .i64 1, .int .i64 0, .float .f64 0] rfl] at hn7
  have N7 := Lib.hid hn7
  have X7 := Lib.hid (ko7.blk X6.out (by omega))
  have B7 := Lib.hid (B6.out.trans (ko7.below (Nat.le_refl _)))
  clear hn7 ko7 B6 N6 X6
  have c0 := (N7.out.cell 0).trans rfl
  have c1 := (N7.out.cell 1).trans rfl
  have c2 := (N7.out.cell 2).trans rfl
  have c3 := (N7.out.cell 3).trans rfl
  have c4 := (N7.out.cell 4).trans rfl
  go_wp2_with fail
  refine (ctx_any 0 0 1 0 0 (by omega) (by omega) (by omega) w7 E (HG.out.below B7.out).ids (HG.out.below B7.out).outs).mono ?_
  rintro e w8 ⟨hb8, ⟨_, ga, rfl, hga, hka⟩ | ⟨hno, _⟩⟩
  rotate_left 1
  · exact absurd hno (by decide)
  have B8 := Lib.hid (B7.out.trans (hb8.mono B7.out.size))
  have N8 := Lib.hid (N7.out.below hb8 N7.out.lt)
  have X8 := Lib.hid (X7.out.below hb8 X7.out.lt)
  have K8 := Lib.hid hka
  have hga2 : w.heap.size < ga := by have := N7.out.lt; omega
  clear c0 c1 c2 c3 c4 hb8 hka hga B7 N7 X7
  unfold ctxE
  go_wp2_with (refine wpList_store (.tmp 7) (.tmp 41) 34 rfl rfl gx 0 _ _ #[.string (bs wscoorL), .string (bs ccL), .slice (some ⟨ga, 0, none⟩) 4 4, .slice none 0 0, .string (bs [])] rfl rfl X8.out ?sd ?se ?sf ?_)
  case sd => kernel_rfl
  case se => simp [Value.oneCell']
  case sf => simp
  intro w10 hn10 ko10
  rw [putCells_all #[.string ⟨#[]⟩, .string ⟨#[]⟩, .slice none 0 0, .slice none 0 0, .string ⟨#[]⟩] #[.string (bs wscoorL), .string (bs ccL), .slice (some ⟨ga, 0, none⟩) 4 4, .slice none 0 0, .string (bs [])] rfl] at hn10
  obtain ⟨n, s, o, d, x, hcn, hcs, hco, hcd, hcx⟩ : ∃ (n s o d : Int) (x : Nat), n = 0 ∧ s = 0 ∧ o = 1 ∧ d = 0 ∧ x = 0 := ⟨_, _, _, _, _, rfl, rfl, rfl, rfl, rfl⟩
  have HR := Lib.hid (show rightC ⟨n, s, o, d, x⟩ = true by rw [hcn, hcs, hco, hcd, hcx]; decide)
  have HHX := Lib.hid (show x < 18446744073709551616 by omega)
  have HX := Lib.hid hn10
  have HN := Lib.hid (show Blk w10 w.heap.size 26 #[.int .i64 n, .int .i64 s, .int .i64 o, .int .i64 d, .float .f64 x] by rw [hcn, hcs, hco, hcd, hcx]; exact ko10.blk N8.out (by omega))
  have HA := Lib.hid (show Blk w10 ga 54 (atC (txt1 ⟨n, s, o, d, x⟩) (txt2 ⟨n, s, o, d, x⟩) (txt3 ⟨n, s, o, d, x⟩) (txt4 ⟨n, s, o, d, x⟩)) by rw [hcn, hcs, hco, hcd, hcx]; exact ko10.blk K8.out (fun e => K8.out.ne_ (e ▸ X8.out) (by decide) rfl))
  have HB := Lib.hid (B8.out.trans (ko10.below (by omega)))
  have HGX := Lib.hid (And.intro hgx0 hga2)
  clear hcn hcs hco hcd hcx hn10 ko10 B8 N8 X8 K8 hgx0 hga2
  go_wp2_with fail
  have hne : gx ≠ ga := fun e => HX.out.ne_ (e ▸ HA.out) (by decide) rfl
  refine wp_phi (fun w' => Blk w' w.heap.size 26 #[.int .i64 n, .int .i64 s, .int .i64 o, .int .i64 d, .float .f64 x] ∧ Blk w' gx 34 #[.string (bs wscoorL), .string (bs ccL), .slice (some ⟨ga, 0, none⟩) 4 4, .slice none 0 0, .string (bs [])] ∧ Blk w' ga 54 (atC (txt1 ⟨n, s, o, d, x⟩) (txt2 ⟨n, s, o, d, x⟩) (txt3 ⟨n, s, o, d, x⟩) (txt4 ⟨n, s, o, d, x⟩)) ∧ Below w.heap.size w w') [(4, PTr2 (ctxT ⟨n, s, o, d, x⟩) w.heap.size), (6, PTr2 (ctxT ⟨n, s, o, d, x⟩) w.heap.size), (7, PVal (.bool true))] [(7, [4, 6])] (by kernel_rfl) (by kernel_rfl) ?_ ?_ ⟨HN.out, HX.out, HA.out, HB.out.drew⟩ ?_
  · rintro w1' w2' ⟨g1, g2, g3, g4⟩ hb
    exact ⟨g1.below hb g1.lt, g2.below hb g2.lt, g3.below hb g3.lt, g4.trans (hb.mono g4.size)⟩
  · simp only [List.mem_cons, List.not_mem_nil, or_false, forall_eq_or_imp, forall_eq]
    exact ⟨fun _ _ _ _ hb h => PTr2_stays hb h, fun _ _ _ _ hb h => PTr2_stays hb h, fun _ _ _ _ _ h => h⟩
  repeat (first | (refine phi_skipK rfl (fun K hK => ?_); simp only [Act.put, List.setIfInBounds_toArray, List.set_cons_succ, List.set_cons_zero]; (try simp only [List.cons_append]); (try simp only [List.nil_append]); apply hK; clear hK K) | (refine phi_pureK rfl rfl (fun K hK => ?_); apply Exists.intro; constructor; (focus (rintro w' ⟨f1, f2, f3, hIB⟩; (have q0 := (f1.cell 0).trans rfl; have q1 := (f1.cell 1).trans rfl; have q2 := (f1.cell 2).trans rfl; have q3 := (f1.cell 3).trans rfl; have q4 := (f1.cell 4).trans rfl; have p0 := (f2.cell 0).trans rfl; have p1 := (f2.cell 1).trans rfl; have p2 := (f2.cell 2).trans rfl; have p3 := (f2.cell 3).trans rfl; have p4 := (f2.cell 4).trans rfl; clear f1 f2 f3 hIB); first | (go_simp; done) | (go_simp; (try go_bits); (try go_simp); rfl) | go_simp)); simp only [Act.put, List.setIfInBounds_toArray, List.set_cons_succ, List.set_cons_zero]; (try simp only [List.cons_append]); (try simp only [List.nil_append]); apply hK; clear hK K))
  refine phi_partK (PTr2 (ctxT ⟨n, s, o, d, x⟩) w.heap.size) rfl rfl ⟨_, .nilIface, .nilIface, .nilIface, .nilIface, .nilIface, rfl⟩ ?_ (fun K hK v hv => ?_)
  · rintro w' ⟨f1, f2, f3, hIB⟩ _
    have HS := Lib.hid hIB.size
    have HK := Lib.hid (elem26_any _ (ctxT ⟨n, s, o, d, x⟩) (fun _ => True) _ w' (Nat.le_refl _) ⟨rfl, by simp [ctxT], trivial⟩ (ctxT_sm _) (ctxTr_of f3 trivial))
    clear f1 f2 f3 hIB
    unfold gives
    go_simp
    refine HK.out.mono ?_
    rintro e w'' ⟨cs, rfl, hcs, hb⟩
    obtain ⟨d0, d1, d2, d3, d4, rfl⟩ := cells5 hcs ⟨rfl, by simp [ctxT], trivial⟩
    exact ⟨_, rfl, ⟨d0, d1, d2, d3, d4, rfl⟩, ⟨_, w''.heap.size, rfl, hcs.imp (fun b hb => ⟨Nat.le_trans HS.out hb.1, hb.2⟩), Nat.le_refl _⟩, hb⟩
  obtain ⟨d0, d1, d2, d3, d4, rfl⟩ := hv
  simp only [Act.put, List.setIfInBounds_toArray, List.set_cons_succ, List.set_cons_zero]; (try simp only [List.cons_append]); (try simp only [List.nil_append])
  apply hK
  clear hK K
  repeat (first | (refine phi_skipK rfl (fun K hK => ?_); simp only [Act.put, List.setIfInBounds_toArray, List.set_cons_succ, List.set_cons_zero]; (try simp only [List.cons_append]); (try simp only [List.nil_append]); apply hK; clear hK K) | (refine phi_pureK rfl rfl (fun K hK => ?_); apply Exists.intro; constructor; (focus (rintro w' ⟨f1, f2, f3, hIB⟩; (have q0 := (f1.cell 0).trans rfl; have q1 := (f1.cell 1).trans rfl; have q2 := (f1.cell 2).trans rfl; have q3 := (f1.cell 3).trans rfl; have q4 := (f1.cell 4).trans rfl; have p0 := (f2.cell 0).trans rfl; have p1 := (f2.cell 1).trans rfl; have p2 := (f2.cell 2).trans rfl; have p3 := (f2.cell 3).trans rfl; have p4 := (f2.cell 4).trans rfl; clear f1 f2 f3 hIB); first | (go_simp; done) | (go_simp; (try go_bits); (try go_simp); rfl) | go_simp)); simp only [Act.put, List.setIfInBounds_toArray, List.set_cons_succ, List.set_cons_zero]; (try simp only [List.cons_append]); (try simp only [List.nil_append]); apply hK; clear hK K))
  refine phi_partK (PTr2 (ctxT ⟨n, s, o, d, x⟩) w.heap.size) rfl rfl ⟨_, .nilIface, .nilIface, .nilIface, .nilIface, .nilIface, rfl⟩ ?_ (fun K hK v hv => ?_)
  · rintro w' ⟨f1, f2, f3, hIB⟩ _
    have HS := Lib.hid hIB.size
    have HK := Lib.hid (refctx_any n s o d x HR.out w')
    clear f1 f2 f3 hIB
    unfold gives
    go_simp
    refine HK.out.mono ?_
    rintro e w'' ⟨cs, rfl, hcs, hb⟩
    obtain ⟨d0, d1, d2, d3, d4, rfl⟩ := cells5 hcs ⟨rfl, by simp [ctxT], trivial⟩
    exact ⟨_, rfl, ⟨d0, d1, d2, d3, d4, rfl⟩, ⟨_, w''.heap.size, rfl, hcs.imp (fun b hb => ⟨Nat.le_trans HS.out hb.1, hb.2⟩), Nat.le_refl _⟩, hb⟩
  obtain ⟨h0, h1, h2, h3, h4, rfl⟩ := hv
  simp only [Act.put, List.setIfInBounds_toArray, List.set_cons_succ, List.set_cons_zero]; (try simp only [List.cons_append]); (try simp only [List.nil_append])
  apply hK
  clear hK K
  repeat (first | (refine phi_skipK rfl (fun K hK => ?_); simp only [Act.put, List.setIfInBounds_toArray, List.set_cons_succ, List.set_cons_zero]; (try simp only [List.cons_append]); (try simp only [List.nil_append]); apply hK; clear hK K) | (refine phi_pureK rfl rfl (fun K hK => ?_); apply Exists.intro; constructor; (focus (rintro w' ⟨f1, f2, f3, hIB⟩; (have q0 := (f1.cell 0).trans rfl; have q1 := (f1.cell 1).trans rfl; have q2 := (f1.cell 2).trans rfl; have q3 := (f1.cell 3).trans rfl; have q4 := (f1.cell 4).trans rfl; have p0 := (f2.cell 0).trans rfl; have p1 := (f2.cell 1).trans rfl; have p2 := (f2.cell 2).trans rfl; have p3 := (f2.cell 3).trans rfl; have p4 := (f2.cell 4).trans rfl; clear f1 f2 f3 hIB); first | (go_simp; done) | (go_simp; (try go_bits); (try go_simp); rfl) | go_simp)); simp only [Act.put, List.setIfInBounds_toArray, List.set_cons_succ, List.set_cons_zero]; (try simp only [List.cons_append]); (try simp only [List.nil_append]); apply hK; clear hK K))
  refine phi_partK (PVal (.bool true)) rfl rfl ⟨_, rfl⟩ ?_ (fun K hK v hv => ?_)
  · rintro w' ⟨_, _, _, hIB⟩ hf
    obtain ⟨cs1, B1, ecs1, hcs1, _⟩ := hf (4, fun w1 => (PTr2 (ctxT ⟨n, s, o, d, x⟩) w.heap.size).fact w1 (.agg #[d0, d1, d2, d3, d4])) (by simp) (List.contains_iff_mem.1 rfl)
    injection ecs1 with ecs1
    have e1 : cs1 = [d0, d1, d2, d3, d4] := by
      have := congrArg Array.toList ecs1
      simpa using this.symm
    subst e1
    obtain ⟨cs2, B2, ecs2, hcs2, _⟩ := hf (6, fun w1 => (PTr2 (ctxT ⟨n, s, o, d, x⟩) w.heap.size).fact w1 (.agg #[h0, h1, h2, h3, h4])) (by simp) (List.contains_iff_mem.1 rfl)
    injection ecs2 with ecs2
    have e2 : cs2 = [h0, h1, h2, h3, h4] := by
      have := congrArg Array.toList ecs2
      simpa using this.symm
    subst e2
    have HSA := Lib.hid (refsame_any _ (ctxT ⟨n, s, o, d, x⟩) (ctxT ⟨n, s, o, d, x⟩) _ _ _ _ w' (Nat.le_refl _) ⟨rfl, by simp [ctxT], trivial⟩ ⟨rfl, by simp [ctxT], trivial⟩ hcs1 hcs2)
    rw [Tr.eqb_refl] at HSA
    clear hIB hf hcs1 hcs2 ecs1 ecs2
    unfold gives
    go_simp
    refine HSA.out.mono ?_
    rintro e w'' ⟨rfl, hb⟩
    exact ⟨_, rfl, rfl, trivial, hb⟩
  obtain rfl : v = _ := hv
  simp only [Act.put, List.setIfInBounds_toArray, List.set_cons_succ, List.set_cons_zero]; (try simp only [List.cons_append]); (try simp only [List.nil_append])
  apply hK
  clear hK K
  repeat (first | (refine phi_skipK rfl (fun K hK => ?_); simp only [Act.put, List.setIfInBounds_toArray, List.set_cons_succ, List.set_cons_zero]; (try simp only [List.cons_append]); (try simp only [List.nil_append]); apply hK; clear hK K) | (refine phi_pureK rfl rfl (fun K hK => ?_); apply Exists.intro; constructor; (focus (rintro w' ⟨f1, f2, f3, hIB⟩; (clear f1 f2 f3 hIB); first | (go_simp; done) | (go_simp; (try go_bits); (try go_simp); rfl) | go_simp)); simp only [Act.put, List.setIfInBounds_toArray, List.set_cons_succ, List.set_cons_zero]; (try simp only [List.cons_append]); (try simp only [List.nil_append]); apply hK; clear hK K))
  refine phi_done ?_
  rintro w5 ⟨f1, f2, f3, hb5⟩ _
  refine wpList_nil ?_
  have HN5 := Lib.hid f1; have HX5 := Lib.hid f2; have HA5 := Lib.hid f3; have HB5 := Lib.hid hb5
  have p0 := (HX5.out.cell 0).trans rfl
  have p1 := (HX5.out.cell 1).trans rfl
  have p2 := (HX5.out.cell 2).trans rfl
  have p3 := (HX5.out.cell 3).trans rfl
  have p4 := (HX5.out.cell 4).trans rfl
  clear f1 f2 f3 hb5 HN HX HA HB
  go_wp2_with fail
  have HTC := Lib.hid (toctx_any (ctxT ⟨n, s, o, d, x⟩) _ (fun _ => True) w5 E (HG.out.below HB5.out).ids (HG.out.below HB5.out).outs ⟨rfl, by simp [ctxT], trivial⟩ (ctxTr_of HA5.out trivial) (by
    obtain ⟨z1, z2, z3, z4⟩ := txt_len HR.out
    exact ctxTr_len z1 z2 z3 z4))
  rw [toE_right HR.out] at HTC
  refine HTC.out.mono ?_
  rintro e w6 ⟨hb6, rfl, _⟩
  have HB6 := Lib.hid (below_alloc (HB5.out.trans (hb6.mono HB5.out.size)) (.cells #[.int .i64 n, .int .i64 s, .int .i64 o, .int .i64 d, .float .f64 x] 26))
  have HN6 := Lib.hid ((HN5.out.below hb6 HN5.out.lt).alloc (.cells #[.int .i64 n, .int .i64 s, .int .i64 o, .int .i64 d, .float .f64 x] 26))
  have HX6 := Lib.hid ((HX5.out.below hb6 HX5.out.lt).alloc (.cells #[.int .i64 n, .int .i64 s, .int .i64 o, .int .i64 d, .float .f64 x] 26))
  have HA6 := Lib.hid ((HA5.out.below hb6 HA5.out.lt).alloc (.cells #[.int .i64 n, .int .i64 s, .int .i64 o, .int .i64 d, .float .f64 x] 26))
  have HK6 := Lib.hid (Blk.new w6 26 #[.int .i64 n, .int .i64 s, .int .i64 o, .int .i64 d, .float .f64 x])
  clear p0 p1 p2 p3 p4 hb6 HTC HN5 HX5 HA5 HB5
  have c0 := (HN6.out.cell 0).trans rfl
  have c1 := (HN6.out.cell 1).trans rfl
  have c2 := (HN6.out.cell 2).trans rfl
  have c3 := (HN6.out.cell 3).trans rfl
  have c4 := (HN6.out.cell 4).trans rfl
  have k0 := (HK6.out.cell 0).trans rfl
  have k1 := (HK6.out.cell 1).trans rfl
  have k2 := (HK6.out.cell 2).trans rfl
  have k3 := (HK6.out.cell 3).trans rfl
  have k4 := (HK6.out.cell 4).trans rfl
  unfold exO xval xbad ctxV ctxA errV
  go_wp2_with fail
  refine (rsame_any n s o d n s o d x x HHX.out HHX.out _).mono ?_
  rintro e w7 ⟨rfl, hb7⟩
  rw [same_self]
  have HX7 := Lib.hid (HX6.out.below hb7 HX6.out.lt)
  have HA7 := Lib.hid (HA6.out.below hb7 HA6.out.lt)
  have HB7 := Lib.hid (HB6.out.trans (hb7.mono HB6.out.size))
  clear c0 c1 c2 c3 c4 k0 k1 k2 k3 k4 hb7 HN6 HX6 HA6 HB6 HK6
  go_wp2_with fail
  go_loopw [68] (fun i wr => ∃ k : Nat, k ≤ vs.length ∧ i = .int .i64 k ∧ (∀ j (hj : j < vs.length), j < k → vs[j].length ≤ 100) ∧ Blk wr gx 34 #[.string (bs wscoorL), .string (bs ccL), .slice (some ⟨ga, 0, none⟩) 4 4, .slice none 0 0, .string (bs [])] ∧ Blk wr ga 54 (curC k vs (txt1 ⟨n, s, o, d, x⟩) (txt2 ⟨n, s, o, d, x⟩) (txt3 ⟨n, s, o, d, x⟩) (txt4 ⟨n, s, o, d, x⟩)) ∧ Below w.heap.size w wr) (fun i _ => vs.length - (intOf i).toNat)
  case atStart => exact ⟨0, by omega, rfl, fun _ _ h => absurd h (by omega), HX7.out, HA7.out, HB7.out⟩
  case round =>
    clear HX7 HA7 HB7
    obtain ⟨k, hk, rfl, hall, hX, hA, hbw⟩ := hrel
    by_cases hlt : k < vs.length
    · obtain ⟨vb, vo, rfl, hvc⟩ := rd_str HV.out hlt
      have hvc := Below.keeps hbw _ _ hvc
      have hki : (k : Int) < (vs.length : Int) := by omega
      have HALL := Lib.hid hall; have HX := Lib.hid hX; have HA := Lib.hid hA; have HB := Lib.hid hbw
      by_cases h100 : 100 < vs[k].length
      · have d1 : decide ((100 : Int) < (vs[k].length : Int)) = true := decide_eq_true (by omega)
        clear hall hX hA hbw
        go_wp2_with fail
        go_ret
        exact ⟨rfl, HB.out⟩
      · have d1 : decide ((100 : Int) < (vs[k].length : Int)) = false := decide_eq_false (by omega)
        have HALL2 := Lib.hid (show ∀ j (hj : j < vs.length), j < k + 1 → vs[j].length ≤ 100 from fun j hj hjk => by
          by_cases e : j = k
          · subst e; omega
          · exact hall j hj (by omega))
        have c2 := (hX.cell 2).trans rfl
        by_cases hk4 : k < 4
        · have hki4 : (k : Int) < 4 := by omega
          obtain ⟨u, hu⟩ := curC_at hk4 vs (txt1 ⟨n, s, o, d, x⟩) (txt2 ⟨n, s, o, d, x⟩) (txt3 ⟨n, s, o, d, x⟩) (txt4 ⟨n, s, o, d, x⟩)
          have hcu := (hA.cell (k * 3 + 2)).trans hu
          have hcf := hA.frozen (k * 3 + 2)
          have A2 := hA.set_ (k * 3 + 2) (.string (bs vs[k]))
          rw [curC_step hk4 hlt] at A2
          have O2 := (Only.refl ga wr).set_ (k * 3 + 2) (.string (bs vs[k]))
          have HA2 := Lib.hid A2
          have HX2 := Lib.hid (O2.blk hX hne)
          have HB2 := Lib.hid (hbw.trans (O2.below (by have := HGX.out; omega)))
          generalize hcu9 : curC k vs (txt1 ⟨n, s, o, d, x⟩) (txt2 ⟨n, s, o, d, x⟩) (txt3 ⟨n, s, o, d, x⟩) (txt4 ⟨n, s, o, d, x⟩) = QQ at *
          clear hall hX hA hbw A2 O2 hu hcu9
          go_wp2_with fail
          go_roundw
          case rel => exact ⟨k + 1, by omega, by go_num, HALL2.out, HX2.out, HA2.out, HB2.out⟩
          case measure => simp [intOf]; omega
        · have hki4 : ¬ (k : Int) < 4 := by omega
          have HA2 := Lib.hid (show Blk wr ga 54 (curC (k + 1) vs (txt1 ⟨n, s, o, d, x⟩) (txt2 ⟨n, s, o, d, x⟩) (txt3 ⟨n, s, o, d, x⟩) (txt4 ⟨n, s, o, d, x⟩)) by rw [curC_stay (by omega)]; exact hA)
          clear hall hX hA hbw
          go_wp2_with fail
          go_roundw
          case rel => exact ⟨k + 1, by omega, by go_num, HALL2.out, HX.out, HA2.out, HB.out⟩
          case measure => simp [intOf]; omega
    · obtain rfl : k = vs.length := by omega
      have hl4 : (curT vs.length 0 vs (txt1 ⟨n, s, o, d, x⟩)).length ≤ 100 ∧ (curT vs.length 1 vs (txt2 ⟨n, s, o, d, x⟩)).length ≤ 100 ∧ (curT vs.length 2 vs (txt3 ⟨n, s, o, d, x⟩)).length ≤ 100 ∧ (curT vs.length 3 vs (txt4 ⟨n, s, o, d, x⟩)).length ≤ 100 := by
        obtain ⟨z1, z2, z3, z4⟩ := txt_len HR.out
        exact ⟨curT_len hall z1, curT_len hall z2, curT_len hall z3, curT_len hall z4⟩
      unfold curC at hA
      generalize curT vs.length 0 vs (txt1 ⟨n, s, o, d, x⟩) = v0 at *
      generalize curT vs.length 1 vs (txt2 ⟨n, s, o, d, x⟩) = v1 at *
      generalize curT vs.length 2 vs (txt3 ⟨n, s, o, d, x⟩) = v2 at *
      generalize curT vs.length 3 vs (txt4 ⟨n, s, o, d, x⟩) = v3 at *
      have HL := Lib.hid hl4; have HX := Lib.hid hX; have HA := Lib.hid hA; have HB := Lib.hid hbw
      clear hall hl4 hX hA hbw
      obtain ⟨zl0, zl1, zl2, zl3⟩ := HL.out
      by_cases g1 : spoil = 1
      · have q1 : (spoil == 1) = true := by rw [g1]; rfl
        have c2 := (HX.out.cell 2).trans rfl
        have f2 := HX.out.frozen 2
        have O1 := (Only.refl gx wr).set_ 2 (.slice (some ⟨ga, 0, none⟩) 3 4)
        have hx1 := HX.out.set_ 2 (.slice (some ⟨ga, 0, none⟩) 3 4)
        have ha1 := O1.blk HA.out (fun e => hne e.symm)
        have HBz := Lib.hid (HB.out.trans (O1.below (by have := HGX.out; omega)))
        have HXz := Lib.hid (show Blk (wr.setCell ⟨gx, 2, none⟩ (.slice (some ⟨ga, 0, none⟩) 3 4)) gx 34 #[.string (bs wscoorL), .string (bs ccL), .slice (some ⟨ga, 0, none⟩) 3 4, .slice none 0 0, .string (bs [])] from hx1)
        have HTz := Lib.hid (show TrC (wr.setCell ⟨gx, 2, none⟩ (.slice (some ⟨ga, 0, none⟩) 3 4)) (fun _ => True) (sp1 v0 v1 v2) [.string (bs wscoorL), .string (bs ccL), .slice (some ⟨ga, 0, none⟩) 3 4, .slice none 0 0, .string (bs [])] from by
          unfold sp1 TrC
          exact ⟨some ⟨ga, 0, none⟩, 4, none, 0, [], rfl, ⟨by simp, by unfold maxLen; omega, rd_pref ha1 (fun i u hu => by
              match i, hu with
              | 0, h => exact h
              | 1, h => exact h
              | 2, h => exact h
              | 3, h => exact h
              | 4, h => exact h
              | 5, h => exact h
              | 6, h => exact h
              | 7, h => exact h
              | 8, h => exact h
              | (i + 9), h => simp [acells, strs] at h), fun _ _ => trivial⟩, ⟨Nat.le_refl _, by unfold maxLen; omega, .inl rfl, fun _ _ => trivial⟩, (by unfold TrL; rfl)⟩)
        have HOKz := Lib.hid (show (sp1 v0 v1 v2).ok 2 from ⟨rfl, by simp, trivial⟩)
        have HSMz := Lib.hid (show (sp1 v0 v1 v2).sm from ⟨by simp, by simp, trivial⟩)
        have HLENz := Lib.hid (sp1_len (a := v0) (o := v1) (d := v2) zl0 zl1 zl2)
        have HR1z := Lib.hid (sp1_no v0 v1 v2).1
        have HR2z := Lib.hid (sp1_no v0 v1 v2).2
        obtain ⟨wz, hwz⟩ : ∃ wz, wz = wr.setCell ⟨gx, 2, none⟩ (.slice (some ⟨ga, 0, none⟩) 3 4) := ⟨_, rfl⟩
        rw [← hwz] at HBz HXz HTz
        have HWZ := Lib.hid hwz
        clear hwz hx1 ha1 O1 g1
        have p0 := (HXz.out.cell 0).trans rfl; have p1 := (HXz.out.cell 1).trans rfl; have p2 := (HXz.out.cell 2).trans rfl; have p3 := (HXz.out.cell 3).trans rfl; have p4 := (HXz.out.cell 4).trans rfl
        rw [HWZ.out] at p0 p1 p2 p3 p4
        go_wp2_with fail
        rw [← HWZ.out]
        clear p0 p1 p2 p3 p4 c2 f2 q1
        have HTC0 := toctx_any (sp1 v0 v1 v2) _ (fun _ => True) wz E (HG.out.below HBz.out).ids (HG.out.below HBz.out).outs HOKz.out HTz.out HLENz.out
        rw [HR1z.out] at HTC0
        have HTC := Lib.hid (show Calls Tryz.prog 12 #[.agg #[.string (bs wscoorL), .string (bs ccL), .slice (some ⟨ga, 0, none⟩) 3 4, .slice none 0 0, .string (bs [])]] wz fun e w' => Below wz.heap.size wz w' ∧ e = .returned (.tuple #[.agg #[.int .i64 0, .int .i64 0, .int .i64 0, .int .i64 0, .float .f64 0], .iface 160 (.pointer (some (E 3)))]) from HTC0.mono fun _ _ h => ⟨h.1, h.2.1.trans rfl⟩)
        clear HTC0
        refine HTC.out.mono ?_
        rintro e wa ⟨hba, rfl⟩
        have HBa := Lib.hid (below_alloc (HBz.out.trans (hba.mono HBz.out.size)) (.cells #[.int .i64 0, .int .i64 0, .int .i64 0, .int .i64 0, .float .f64 0] 26))
        have HXa := Lib.hid ((HXz.out.below hba HXz.out.lt).alloc (.cells #[.int .i64 0, .int .i64 0, .int .i64 0, .int .i64 0, .float .f64 0] 26))
        have HKa := Lib.hid (Blk.new wa 26 #[.int .i64 0, .int .i64 0, .int .i64 0, .int .i64 0, .float .f64 0])
        have HTa := Lib.hid (HTz.out.below (hba.trans ((below_alloc1 wa (.cells #[.int .i64 0, .int .i64 0, .int .i64 0, .int .i64 0, .float .f64 0] 26)).mono hba.size)))
        clear hba HTC
        have p0 := (HXa.out.cell 0).trans rfl
        have p1 := (HXa.out.cell 1).trans rfl
        have p2 := (HXa.out.cell 2).trans rfl
        have p3 := (HXa.out.cell 3).trans rfl
        have p4 := (HXa.out.cell 4).trans rfl
        go_wp2_with fail
        refine (elem26_any _ (sp1 v0 v1 v2) (fun _ => True) [.string (bs wscoorL), .string (bs ccL), .slice (some ⟨ga, 0, none⟩) 3 4, .slice none 0 0, .string (bs [])] _ (Nat.le_refl _) HOKz.out HSMz.out HTa.out).mono ?_
        rintro e wc ⟨cs, rfl, hcs, hbc⟩
        obtain ⟨d0, d1, d2, d3, d4, rfl⟩ := cells5 hcs HOKz.out
        have HBc := Lib.hid (HBa.out.trans (hbc.mono HBa.out.size))
        have HKc := Lib.hid (HKa.out.below hbc HKa.out.lt)
        have HRT0 := reftoctx_any (sp1 v0 v1 v2) [d0, d1, d2, d3, d4] _ wc HOKz.out hcs HLENz.out
        rw [HR2z.out] at HRT0
        have HRT := Lib.hid (show Calls Tryz.prog 14 #[.agg #[d0, d1, d2, d3, d4]] wc fun e w' => Below wc.heap.size wc w' ∧ e = .returned (.tuple #[.agg #[.int .i64 0, .int .i64 0, .int .i64 0, .int .i64 0, .float .f64 0], .bool false]) from HRT0.mono fun _ _ h => ⟨h.1, h.2.trans rfl⟩)
        clear p0 p1 p2 p3 p4 hbc hcs HRT0
        go_wp2_with fail
        refine HRT.out.mono ?_
        rintro e wd ⟨hbd, rfl⟩
        have HBd := Lib.hid (below_alloc (HBc.out.trans (hbd.mono HBc.out.size)) (.cells #[.int .i64 0, .int .i64 0, .int .i64 0, .int .i64 0, .float .f64 0] 26))
        have HKd := Lib.hid ((HKc.out.below hbd HKc.out.lt).alloc (.cells #[.int .i64 0, .int .i64 0, .int .i64 0, .int .i64 0, .float .f64 0] 26))
        have HKe := Lib.hid (Blk.new wd 26 #[.int .i64 0, .int .i64 0, .int .i64 0, .int .i64 0, .float .f64 0])
        clear hbd HRT
        have k0 := (HKd.out.cell 0).trans rfl
        have k1 := (HKd.out.cell 1).trans rfl
        have k2 := (HKd.out.cell 2).trans rfl
        have k3 := (HKd.out.cell 3).trans rfl
        have k4 := (HKd.out.cell 4).trans rfl
        have l0 := (HKe.out.cell 0).trans rfl
        have l1 := (HKe.out.cell 1).trans rfl
        have l2 := (HKe.out.cell 2).trans rfl
        have l3 := (HKe.out.cell 3).trans rfl
        have l4 := (HKe.out.cell 4).trans rfl
        go_wp2_with fail
        refine (rsame_any 0 0 0 0 0 0 0 0 0 0 (by omega) (by omega) _).mono ?_
        rintro e we ⟨rfl, hbe⟩
        rw [same_self]
        have HBe := Lib.hid (HBd.out.trans (hbe.mono HBd.out.size))
        clear k0 k1 k2 k3 k4 l0 l1 l2 l3 l4 hbe
        go_wp2_with fail
        refine (num_err we E 3 (by omega) (HG.out.below HBe.out).ids.errs).mono ?_
        rintro e wf ⟨rfl, hbf⟩
        have HBf := Lib.hid (HBe.out.trans (hbf.mono HBe.out.size))
        clear hbf
        go_wp2_with fail
        go_ret
        exact ⟨rfl, HBf.out⟩
      by_cases g2 : spoil = 2
      · have q1 : (spoil == 1) = false := beq_eq_false_iff_ne.2 g1
        have q2 : (spoil == 2) = true := by rw [g2]; rfl
        have c2 := (HX.out.cell 2).trans rfl
        have cA := (HA.out.cell 1).trans rfl
        have fA := HA.out.frozen 1
        have O1 := (Only.refl ga wr).set_ 1 (.string ⟨#[111, 116, 104, 101, 114]⟩)
        have ha1 := HA.out.set_ 1 (.string ⟨#[111, 116, 104, 101, 114]⟩)
        have hx1 := O1.blk HX.out hne
        have HBz := Lib.hid (HB.out.trans (O1.below (by have := HGX.out; omega)))
        have HXz := Lib.hid (show Blk (wr.setCell ⟨ga, 1, none⟩ (.string ⟨#[111, 116, 104, 101, 114]⟩)) gx 34 #[.string (bs wscoorL), .string (bs ccL), .slice (some ⟨ga, 0, none⟩) 4 4, .slice none 0 0, .string (bs [])] from hx1)
        have HTz := Lib.hid (show TrC (wr.setCell ⟨ga, 1, none⟩ (.string ⟨#[111, 116, 104, 101, 114]⟩)) (fun _ => True) (sp2 v0 v1 v2 v3) [.string (bs wscoorL), .string (bs ccL), .slice (some ⟨ga, 0, none⟩) 4 4, .slice none 0 0, .string (bs [])] from by
          unfold sp2 TrC
          exact ⟨some ⟨ga, 0, none⟩, 4, none, 0, [], rfl, ⟨by simp, by unfold maxLen; omega, rd_pref ha1 (fun i u hu => by
              match i, hu with
              | 0, h => exact h
              | 1, h => exact h
              | 2, h => exact h
              | 3, h => exact h
              | 4, h => exact h
              | 5, h => exact h
              | 6, h => exact h
              | 7, h => exact h
              | 8, h => exact h
              | 9, h => exact h
              | 10, h => exact h
              | 11, h => exact h
              | (i + 12), h => simp [acells, strs] at h), fun _ _ => trivial⟩, ⟨Nat.le_refl _, by unfold maxLen; omega, .inl rfl, fun _ _ => trivial⟩, (by unfold TrL; rfl)⟩)
        have HOKz := Lib.hid (show (sp2 v0 v1 v2 v3).ok 2 from ⟨rfl, by simp, trivial⟩)
        have HSMz := Lib.hid (show (sp2 v0 v1 v2 v3).sm from ⟨by simp, by simp, trivial⟩)
        have HLENz := Lib.hid (sp_len (nm := [wscoorL, ccL]) (ks := []) (tx := []) (q := otherL) (by decide) zl0 zl1 zl2 zl3)
        have HR1z := Lib.hid (sp2_no v0 v1 v2 v3).1
        have HR2z := Lib.hid (sp2_no v0 v1 v2 v3).2
        obtain ⟨wz, hwz⟩ : ∃ wz, wz = wr.setCell ⟨ga, 1, none⟩ (.string ⟨#[111, 116, 104, 101, 114]⟩) := ⟨_, rfl⟩
        rw [← hwz] at HBz HXz HTz
        have HWZ := Lib.hid hwz
        clear hwz hx1 ha1 O1 g1 g2
        have p0 := (HXz.out.cell 0).trans rfl; have p1 := (HXz.out.cell 1).trans rfl; have p2 := (HXz.out.cell 2).trans rfl; have p3 := (HXz.out.cell 3).trans rfl; have p4 := (HXz.out.cell 4).trans rfl
        rw [HWZ.out] at p0 p1 p2 p3 p4
        go_wp2_with fail
        rw [← HWZ.out]
        clear p0 p1 p2 p3 p4 c2 cA fA q1 q2
        have HTC0 := toctx_any (sp2 v0 v1 v2 v3) _ (fun _ => True) wz E (HG.out.below HBz.out).ids (HG.out.below HBz.out).outs HOKz.out HTz.out HLENz.out
        rw [HR1z.out] at HTC0
        have HTC := Lib.hid (show Calls Tryz.prog 12 #[.agg #[.string (bs wscoorL), .string (bs ccL), .slice (some ⟨ga, 0, none⟩) 4 4, .slice none 0 0, .string (bs [])]] wz fun e w' => Below wz.heap.size wz w' ∧ e = .returned (.tuple #[.agg #[.int .i64 0, .int .i64 0, .int .i64 0, .int .i64 0, .float .f64 0], .iface 160 (.pointer (some (E 3)))]) from HTC0.mono fun _ _ h => ⟨h.1, h.2.1.trans rfl⟩)
        clear HTC0
        refine HTC.out.mono ?_
        rintro e wa ⟨hba, rfl⟩
        have HBa := Lib.hid (below_alloc (HBz.out.trans (hba.mono HBz.out.size)) (.cells #[.int .i64 0, .int .i64 0, .int .i64 0, .int .i64 0, .float .f64 0] 26))
        have HXa := Lib.hid ((HXz.out.below hba HXz.out.lt).alloc (.cells #[.int .i64 0, .int .i64 0, .int .i64 0, .int .i64 0, .float .f64 0] 26))
        have HKa := Lib.hid (Blk.new wa 26 #[.int .i64 0, .int .i64 0, .int .i64 0, .int .i64 0, .float .f64 0])
        have HTa := Lib.hid (HTz.out.below (hba.trans ((below_alloc1 wa (.cells #[.int .i64 0, .int .i64 0, .int .i64 0, .int .i64 0, .float .f64 0] 26)).mono hba.size)))
        clear hba HTC
        have p0 := (HXa.out.cell 0).trans rfl
        have p1 := (HXa.out.cell 1).trans rfl
        have p2 := (HXa.out.cell 2).trans rfl
        have p3 := (HXa.out.cell 3).trans rfl
        have p4 := (HXa.out.cell 4).trans rfl
        go_wp2_with fail
        refine (elem26_any _ (sp2 v0 v1 v2 v3) (fun _ => True) [.string (bs wscoorL), .string (bs ccL), .slice (some ⟨ga, 0, none⟩) 4 4, .slice none 0 0, .string (bs [])] _ (Nat.le_refl _) HOKz.out HSMz.out HTa.out).mono ?_
        rintro e wc ⟨cs, rfl, hcs, hbc⟩
        obtain ⟨d0, d1, d2, d3, d4, rfl⟩ := cells5 hcs HOKz.out
        have HBc := Lib.hid (HBa.out.trans (hbc.mono HBa.out.size))
        have HKc := Lib.hid (HKa.out.below hbc HKa.out.lt)
        have HRT0 := reftoctx_any (sp2 v0 v1 v2 v3) [d0, d1, d2, d3, d4] _ wc HOKz.out hcs HLENz.out
        rw [HR2z.out] at HRT0
        have HRT := Lib.hid (show Calls Tryz.prog 14 #[.agg #[d0, d1, d2, d3, d4]] wc fun e w' => Below wc.heap.size wc w' ∧ e = .returned (.tuple #[.agg #[.int .i64 0, .int .i64 0, .int .i64 0, .int .i64 0, .float .f64 0], .bool false]) from HRT0.mono fun _ _ h => ⟨h.1, h.2.trans rfl⟩)
        clear p0 p1 p2 p3 p4 hbc hcs HRT0
        go_wp2_with fail
        refine HRT.out.mono ?_
        rintro e wd ⟨hbd, rfl⟩
        have HBd := Lib.hid (below_alloc (HBc.out.trans (hbd.mono HBc.out.size)) (.cells #[.int .i64 0, .int .i64 0, .int .i64 0, .int .i64 0, .float .f64 0] 26))
        have HKd := Lib.hid ((HKc.out.below hbd HKc.out.lt).alloc (.cells #[.int .i64 0, .int .i64 0, .int .i64 0, .int .i64 0, .float .f64 0] 26))
        have HKe := Lib.hid (Blk.new wd 26 #[.int .i64 0, .int .i64 0, .int .i64 0, .int .i64 0, .float .f64 0])
        clear hbd HRT
        have k0 := (HKd.out.cell 0).trans rfl
        have k1 := (HKd.out.cell 1).trans rfl
        have k2 := (HKd.out.cell 2).trans rfl
        have k3 := (HKd.out.cell 3).trans rfl
        have k4 := (HKd.out.cell 4).trans rfl
        have l0 := (HKe.out.cell 0).trans rfl
        have l1 := (HKe.out.cell 1).trans rfl
        have l2 := (HKe.out.cell 2).trans rfl
        have l3 := (HKe.out.cell 3).trans rfl
        have l4 := (HKe.out.cell 4).trans rfl
        go_wp2_with fail
        refine (rsame_any 0 0 0 0 0 0 0 0 0 0 (by omega) (by omega) _).mono ?_
        rintro e we ⟨rfl, hbe⟩
        rw [same_self]
        have HBe := Lib.hid (HBd.out.trans (hbe.mono HBd.out.size))
        clear k0 k1 k2 k3 k4 l0 l1 l2 l3 l4 hbe
        go_wp2_with fail
        refine (num_err we E 3 (by omega) (HG.out.below HBe.out).ids.errs).mono ?_
        rintro e wf ⟨rfl, hbf⟩
        have HBf := Lib.hid (HBe.out.trans (hbf.mono HBe.out.size))
        clear hbf
        go_wp2_with fail
        go_ret
        exact ⟨rfl, HBf.out⟩
      by_cases g3 : spoil = 3
      · have q1 : (spoil == 1) = false := beq_eq_false_iff_ne.2 g1
        have q2 : (spoil == 2) = false := beq_eq_false_iff_ne.2 g2
        have q3 : (spoil == 3) = true := by rw [g3]; rfl
        have c3 := (HX.out.cell 3).trans rfl
        obtain ⟨i0, hi0, hz0, hz1, hz2⟩ := info_parts elemInfo
        have hnil : (wr.alloc (.cells #[.string ⟨#[]⟩, .string ⟨#[]⟩, .slice none 0 0, .slice none 0 0, .string ⟨#[116]⟩] 34)).ownsRow (wr.heap.size + 1) 34 5 (.slice none 0 0) 0 [] := ⟨rfl, .inl ⟨rfl, rfl⟩⟩
        have hsz : wr.heap.size + 1 ≤ (wr.alloc (.cells #[.string ⟨#[]⟩, .string ⟨#[]⟩, .slice none 0 0, .slice none 0 0, .string ⟨#[116]⟩] 34)).heap.size := by simp
        clear g1 g2 g3
        go_wp2_with (at_builtin; refine wpList_app (.tmp 105) (.tmp 107) 32 rfl rfl (wr.heap.size + 1) 34 i0 (.agg #[.string ⟨#[]⟩, .string ⟨#[]⟩, .slice none 0 0, .slice none 0 0, .string ⟨#[]⟩]) 5 96 Tryz.underlying32 hi0 hz0 hz1 hz2 rfl (by decide) _ _ _ rfl hnil _ _ _ [.string ⟨#[]⟩, .string ⟨#[]⟩, .slice none 0 0, .slice none 0 0, .string ⟨#[116]⟩] rfl rfl (rd_at _ #[_, _, _, _, _] _ _ _ (by simp)) ?b1 ?b2 ?b3 hsz ?_)
        case b1 => simp [Value.oneCell']
        case b2 => unfold maxLen; omega
        case b3 => omega
        intro u1 w9 ho9 hg9
        have hb9 : Below wr.heap.size wr w9 := (below_alloc1 wr (.cells #[.string ⟨#[]⟩, .string ⟨#[]⟩, .slice none 0 0, .slice none 0 0, .string ⟨#[116]⟩] 34)).grown hg9 (by simp) (by simp [Value.ownBlock])
        obtain ⟨pk, ck, rfl, hc1, hc2, hrd⟩ := owns_rd ho9
        obtain ⟨gk, ok, rfl, hkc⟩ := hrd.has (by simp)
        have HX9 := Lib.hid (HX.out.below hb9 HX.out.lt)
        have HA9 := Lib.hid (HA.out.below hb9 HA.out.lt)
        have HK9 := Lib.hid hrd
        have HC9 := Lib.hid (And.intro hc1 hc2)
        have HB9 := Lib.hid (HB.out.trans (hb9.mono HB.out.size))
        have hlo := (ho9.lt gk rfl).1
        have hxlt := HX.out.lt
        have d3 := (HX9.out.cell 3).trans rfl
        have f3 := HX9.out.frozen 3
        have O1 := (Only.refl gx w9).set_ 3 (.slice (some ⟨gk, ok, none⟩) 1 ck)
        have hx1 := HX9.out.set_ 3 (.slice (some ⟨gk, ok, none⟩) 1 ck)
        have ha1 := O1.blk HA9.out (fun e => hne e.symm)
        have HBz := Lib.hid (HB9.out.trans (O1.below (by have := HGX.out; omega)))
        have HK1 := Lib.hid (hrd.keepP (P := fun b => b ≠ gx) (w' := w9.setCell ⟨gx, 3, none⟩ (.slice (some ⟨gk, ok, none⟩) 1 ck)) (fun a ha => by cases ha; intro e; (have e' : gk = gx := e); omega) (fun a v hp hc => (World.cell?_of_block (O1.block a.block hp)).trans hc))
        clear hnil hsz hg9 ho9 hb9 hrd hkc hc1 hc2 c3 hlo hxlt
        have HXz := Lib.hid (show Blk (w9.setCell ⟨gx, 3, none⟩ (.slice (some ⟨gk, ok, none⟩) 1 ck)) gx 34 #[.string (bs wscoorL), .string (bs ccL), .slice (some ⟨ga, 0, none⟩) 4 4, .slice (some ⟨gk, ok, none⟩) 1 ck, .string (bs [])] from hx1)
        have HTz := Lib.hid (show TrC (w9.setCell ⟨gx, 3, none⟩ (.slice (some ⟨gk, ok, none⟩) 1 ck)) (fun _ => True) (sp3 v0 v1 v2 v3) [.string (bs wscoorL), .string (bs ccL), .slice (some ⟨ga, 0, none⟩) 4 4, .slice (some ⟨gk, ok, none⟩) 1 ck, .string (bs [])] from by
          unfold sp3 TrC
          exact ⟨some ⟨ga, 0, none⟩, 4, some ⟨gk, ok, none⟩, ck, [[.string (bs []), .string (bs []), .slice none 0 0, .slice none 0 0, .string (bs [116])]], rfl, ⟨by simp, by unfold maxLen; omega, rd_pref ha1 (fun i u hu => by
              match i, hu with
              | 0, h => exact h
              | 1, h => exact h
              | 2, h => exact h
              | 3, h => exact h
              | 4, h => exact h
              | 5, h => exact h
              | 6, h => exact h
              | 7, h => exact h
              | 8, h => exact h
              | 9, h => exact h
              | 10, h => exact h
              | 11, h => exact h
              | (i + 12), h => simp [acells, strs] at h), fun _ _ => trivial⟩, ⟨HC9.out.1, HC9.out.2, HK1.out, fun _ _ => trivial⟩, TrL.one (by unfold leafT TrC; exact ⟨none, 0, none, 0, [], rfl, ⟨Nat.le_refl _, by unfold maxLen; omega, .inl rfl, fun _ _ => trivial⟩, ⟨Nat.le_refl _, by unfold maxLen; omega, .inl rfl, fun _ _ => trivial⟩, (by unfold TrL; rfl)⟩)⟩)
        have HOKz := Lib.hid (show (sp3 v0 v1 v2 v3).ok 2 from ⟨rfl, by simp, ⟨rfl, by simp, trivial⟩, trivial⟩)
        have HSMz := Lib.hid (show (sp3 v0 v1 v2 v3).sm from ⟨by simp, by simp, ⟨by simp, by simp, trivial⟩, trivial⟩)
        have HLENz := Lib.hid (sp_len (nm := [wscoorL, ccL]) (ks := [leafT]) (tx := []) (q := actL) (by decide) zl0 zl1 zl2 zl3)
        have HR1z := Lib.hid (sp3_no v0 v1 v2 v3).1
        have HR2z := Lib.hid (sp3_no v0 v1 v2 v3).2
        obtain ⟨wz, hwz⟩ : ∃ wz, wz = w9.setCell ⟨gx, 3, none⟩ (.slice (some ⟨gk, ok, none⟩) 1 ck) := ⟨_, rfl⟩
        rw [← hwz] at HBz HXz HTz
        have HWZ := Lib.hid hwz
        clear hwz hx1 ha1 O1 HK1
        have p0 := (HXz.out.cell 0).trans rfl; have p1 := (HXz.out.cell 1).trans rfl; have p2 := (HXz.out.cell 2).trans rfl; have p3 := (HXz.out.cell 3).trans rfl; have p4 := (HXz.out.cell 4).trans rfl
        rw [HWZ.out] at p0 p1 p2 p3 p4
        go_wp2_with fail
        rw [← HWZ.out]
        clear p0 p1 p2 p3 p4 q1 q2 q3 d3 f3
        have HTC0 := toctx_any (sp3 v0 v1 v2 v3) _ (fun _ => True) wz E (HG.out.below HBz.out).ids (HG.out.below HBz.out).outs HOKz.out HTz.out HLENz.out
        rw [HR1z.out] at HTC0
        have HTC := Lib.hid (show Calls Tryz.prog 12 #[.agg #[.string (bs wscoorL), .string (bs ccL), .slice (some ⟨ga, 0, none⟩) 4 4, .slice (some ⟨gk, ok, none⟩) 1 ck, .string (bs [])]] wz fun e w' => Below wz.heap.size wz w' ∧ e = .returned (.tuple #[.agg #[.int .i64 0, .int .i64 0, .int .i64 0, .int .i64 0, .float .f64 0], .iface 160 (.pointer (some (E 3)))]) from HTC0.mono fun _ _ h => ⟨h.1, h.2.1.trans rfl⟩)
        clear HTC0
        refine HTC.out.mono ?_
        rintro e wa ⟨hba, rfl⟩
        have HBa := Lib.hid (below_alloc (HBz.out.trans (hba.mono HBz.out.size)) (.cells #[.int .i64 0, .int .i64 0, .int .i64 0, .int .i64 0, .float .f64 0] 26))
        have HXa := Lib.hid ((HXz.out.below hba HXz.out.lt).alloc (.cells #[.int .i64 0, .int .i64 0, .int .i64 0, .int .i64 0, .float .f64 0] 26))
        have HKa := Lib.hid (Blk.new wa 26 #[.int .i64 0, .int .i64 0, .int .i64 0, .int .i64 0, .float .f64 0])
        have HTa := Lib.hid (HTz.out.below (hba.trans ((below_alloc1 wa (.cells #[.int .i64 0, .int .i64 0, .int .i64 0, .int .i64 0, .float .f64 0] 26)).mono hba.size)))
        clear hba HTC
        have p0 := (HXa.out.cell 0).trans rfl
        have p1 := (HXa.out.cell 1).trans rfl
        have p2 := (HXa.out.cell 2).trans rfl
        have p3 := (HXa.out.cell 3).trans rfl
        have p4 := (HXa.out.cell 4).trans rfl
        go_wp2_with fail
        refine (elem26_any _ (sp3 v0 v1 v2 v3) (fun _ => True) [.string (bs wscoorL), .string (bs ccL), .slice (some ⟨ga, 0, none⟩) 4 4, .slice (some ⟨gk, ok, none⟩) 1 ck, .string (bs [])] _ (Nat.le_refl _) HOKz.out HSMz.out HTa.out).mono ?_
        rintro e wc ⟨cs, rfl, hcs, hbc⟩
        obtain ⟨d0, d1, d2, d3, d4, rfl⟩ := cells5 hcs HOKz.out
        have HBc := Lib.hid (HBa.out.trans (hbc.mono HBa.out.size))
        have HKc := Lib.hid (HKa.out.below hbc HKa.out.lt)
        have HRT0 := reftoctx_any (sp3 v0 v1 v2 v3) [d0, d1, d2, d3, d4] _ wc HOKz.out hcs HLENz.out
        rw [HR2z.out] at HRT0
        have HRT := Lib.hid (show Calls Tryz.prog 14 #[.agg #[d0, d1, d2, d3, d4]] wc fun e w' => Below wc.heap.size wc w' ∧ e = .returned (.tuple #[.agg #[.int .i64 0, .int .i64 0, .int .i64 0, .int .i64 0, .float .f64 0], .bool false]) from HRT0.mono fun _ _ h => ⟨h.1, h.2.trans rfl⟩)
        clear p0 p1 p2 p3 p4 hbc hcs HRT0
        go_wp2_with fail
        refine HRT.out.mono ?_
        rintro e wd ⟨hbd, rfl⟩
        have HBd := Lib.hid (below_alloc (HBc.out.trans (hbd.mono HBc.out.size)) (.cells #[.int .i64 0, .int .i64 0, .int .i64 0, .int .i64 0, .float .f64 0] 26))
        have HKd := Lib.hid ((HKc.out.below hbd HKc.out.lt).alloc (.cells #[.int .i64 0, .int .i64 0, .int .i64 0, .int .i64 0, .float .f64 0] 26))
        have HKe := Lib.hid (Blk.new wd 26 #[.int .i64 0, .int .i64 0, .int .i64 0, .int .i64 0, .float .f64 0])
        clear hbd HRT
        have k0 := (HKd.out.cell 0).trans rfl
        have k1 := (HKd.out.cell 1).trans rfl
        have k2 := (HKd.out.cell 2).trans rfl
        have k3 := (HKd.out.cell 3).trans rfl
        have k4 := (HKd.out.cell 4).trans rfl
        have l0 := (HKe.out.cell 0).trans rfl
        have l1 := (HKe.out.cell 1).trans rfl
        have l2 := (HKe.out.cell 2).trans rfl
        have l3 := (HKe.out.cell 3).trans rfl
        have l4 := (HKe.out.cell 4).trans rfl
        go_wp2_with fail
        refine (rsame_any 0 0 0 0 0 0 0 0 0 0 (by omega) (by omega) _).mono ?_
        rintro e we ⟨rfl, hbe⟩
        rw [same_self]
        have HBe := Lib.hid (HBd.out.trans (hbe.mono HBd.out.size))
        clear k0 k1 k2 k3 k4 l0 l1 l2 l3 l4 hbe
        go_wp2_with fail
        refine (num_err we E 3 (by omega) (HG.out.below HBe.out).ids.errs).mono ?_
        rintro e wf ⟨rfl, hbf⟩
        have HBf := Lib.hid (HBe.out.trans (hbf.mono HBe.out.size))
        clear hbf
        go_wp2_with fail
        go_ret
        exact ⟨rfl, HBf.out⟩
      by_cases g4 : spoil = 4
      · have q1 : (spoil == 1) = false := beq_eq_false_iff_ne.2 g1
        have q2 : (spoil == 2) = false := beq_eq_false_iff_ne.2 g2
        have q3 : (spoil == 3) = false := beq_eq_false_iff_ne.2 g3
        have q4 : (spoil == 4) = true := by rw [g4]; rfl
        have cX := (HX.out.cell 1).trans rfl
        have fX := HX.out.frozen 1
        have O1 := (Only.refl gx wr).set_ 1 (.string ⟨#[79, 116, 104, 101, 114]⟩)
        have hx1 := HX.out.set_ 1 (.string ⟨#[79, 116, 104, 101, 114]⟩)
        have ha1 := O1.blk HA.out (fun e => hne e.symm)
        have HBz := Lib.hid (HB.out.trans (O1.below (by have := HGX.out; omega)))
        have HXz := Lib.hid (show Blk (wr.setCell ⟨gx, 1, none⟩ (.string ⟨#[79, 116, 104, 101, 114]⟩)) gx 34 #[.string (bs wscoorL), .string (bs OtherL), .slice (some ⟨ga, 0, none⟩) 4 4, .slice none 0 0, .string (bs [])] from hx1)
        have HTz := Lib.hid (show TrC (wr.setCell ⟨gx, 1, none⟩ (.string ⟨#[79, 116, 104, 101, 114]⟩)) (fun _ => True) (sp4 v0 v1 v2 v3) [.string (bs wscoorL), .string (bs OtherL), .slice (some ⟨ga, 0, none⟩) 4 4, .slice none 0 0, .string (bs [])] from by
          unfold sp4 TrC
          exact ⟨some ⟨ga, 0, none⟩, 4, none, 0, [], rfl, ⟨by simp, by unfold maxLen; omega, rd_pref ha1 (fun i u hu => by
              match i, hu with
              | 0, h => exact h
              | 1, h => exact h
              | 2, h => exact h
              | 3, h => exact h
              | 4, h => exact h
              | 5, h => exact h
              | 6, h => exact h
              | 7, h => exact h
              | 8, h => exact h
              | 9, h => exact h
              | 10, h => exact h
              | 11, h => exact h
              | (i + 12), h => simp [acells, strs] at h), fun _ _ => trivial⟩, ⟨Nat.le_refl _, by unfold maxLen; omega, .inl rfl, fun _ _ => trivial⟩, (by unfold TrL; rfl)⟩)
        have HOKz := Lib.hid (show (sp4 v0 v1 v2 v3).ok 2 from ⟨rfl, by simp, trivial⟩)
        have HSMz := Lib.hid (show (sp4 v0 v1 v2 v3).sm from ⟨by simp, by simp, trivial⟩)
        have HLENz := Lib.hid (sp_len (nm := [wscoorL, OtherL]) (ks := []) (tx := []) (q := actL) (by decide) zl0 zl1 zl2 zl3)
        have HR1z := Lib.hid (sp4_no v0 v1 v2 v3).1
        have HR2z := Lib.hid (sp4_no v0 v1 v2 v3).2
        obtain ⟨wz, hwz⟩ : ∃ wz, wz = wr.setCell ⟨gx, 1, none⟩ (.string ⟨#[79, 116, 104, 101, 114]⟩) := ⟨_, rfl⟩
        rw [← hwz] at HBz HXz HTz
        have HWZ := Lib.hid hwz
        clear hwz hx1 ha1 O1 g1 g2 g3 g4
        have p0 := (HXz.out.cell 0).trans rfl; have p1 := (HXz.out.cell 1).trans rfl; have p2 := (HXz.out.cell 2).trans rfl; have p3 := (HXz.out.cell 3).trans rfl; have p4 := (HXz.out.cell 4).trans rfl
        rw [HWZ.out] at p0 p1 p2 p3 p4
        go_wp2_with fail
        rw [← HWZ.out]
        clear p0 p1 p2 p3 p4 cX fX q1 q2 q3 q4
        have HTC0 := toctx_any (sp4 v0 v1 v2 v3) _ (fun _ => True) wz E (HG.out.below HBz.out).ids (HG.out.below HBz.out).outs HOKz.out HTz.out HLENz.out
        rw [HR1z.out] at HTC0
        have HTC := Lib.hid (show Calls Tryz.prog 12 #[.agg #[.string (bs wscoorL), .string (bs OtherL), .slice (some ⟨ga, 0, none⟩) 4 4, .slice none 0 0, .string (bs [])]] wz fun e w' => Below wz.heap.size wz w' ∧ e = .returned (.tuple #[.agg #[.int .i64 0, .int .i64 0, .int .i64 0, .int .i64 0, .float .f64 0], .iface 160 (.pointer (some (E 3)))]) from HTC0.mono fun _ _ h => ⟨h.1, h.2.1.trans rfl⟩)
        clear HTC0
        refine HTC.out.mono ?_
        rintro e wa ⟨hba, rfl⟩
        have HBa := Lib.hid (below_alloc (HBz.out.trans (hba.mono HBz.out.size)) (.cells #[.int .i64 0, .int .i64 0, .int .i64 0, .int .i64 0, .float .f64 0] 26))
        have HXa := Lib.hid ((HXz.out.below hba HXz.out.lt).alloc (.cells #[.int .i64 0, .int .i64 0, .int .i64 0, .int .i64 0, .float .f64 0] 26))
        have HKa := Lib.hid (Blk.new wa 26 #[.int .i64 0, .int .i64 0, .int .i64 0, .int .i64 0, .float .f64 0])
        have HTa := Lib.hid (HTz.out.below (hba.trans ((below_alloc1 wa (.cells #[.int .i64 0, .int .i64 0, .int .i64 0, .int .i64 0, .float .f64 0] 26)).mono hba.size)))
        clear hba HTC
        have p0 := (HXa.out.cell 0).trans rfl
        have p1 := (HXa.out.cell 1).trans rfl
        have p2 := (HXa.out.cell 2).trans rfl
        have p3 := (HXa.out.cell 3).trans rfl
        have p4 := (HXa.out.cell 4).trans rfl
        go_wp2_with fail
        refine (elem26_any _ (sp4 v0 v1 v2 v3) (fun _ => True) [.string (bs wscoorL), .string (bs OtherL), .slice (some ⟨ga, 0, none⟩) 4 4, .slice none 0 0, .string (bs [])] _ (Nat.le_refl _) HOKz.out HSMz.out HTa.out).mono ?_
        rintro e wc ⟨cs, rfl, hcs, hbc⟩
        obtain ⟨d0, d1, d2, d3, d4, rfl⟩ := cells5 hcs HOKz.out
        have HBc := Lib.hid (HBa.out.trans (hbc.mono HBa.out.size))
        have HKc := Lib.hid (HKa.out.below hbc HKa.out.lt)
        have HRT0 := reftoctx_any (sp4 v0 v1 v2 v3) [d0, d1, d2, d3, d4] _ wc HOKz.out hcs HLENz.out
        rw [HR2z.out] at HRT0
        have HRT := Lib.hid (show Calls Tryz.prog 14 #[.agg #[d0, d1, d2, d3, d4]] wc fun e w' => Below wc.heap.size wc w' ∧ e = .returned (.tuple #[.agg #[.int .i64 0, .int .i64 0, .int .i64 0, .int .i64 0, .float .f64 0], .bool false]) from HRT0.mono fun _ _ h => ⟨h.1, h.2.trans rfl⟩)
        clear p0 p1 p2 p3 p4 hbc hcs HRT0
        go_wp2_with fail
        refine HRT.out.mono ?_
        rintro e wd ⟨hbd, rfl⟩
        have HBd := Lib.hid (below_alloc (HBc.out.trans (hbd.mono HBc.out.size)) (.cells #[.int .i64 0, .int .i64 0, .int .i64 0, .int .i64 0, .float .f64 0] 26))
        have HKd := Lib.hid ((HKc.out.below hbd HKc.out.lt).alloc (.cells #[.int .i64 0, .int .i64 0, .int .i64 0, .int .i64 0, .float .f64 0] 26))
        have HKe := Lib.hid (Blk.new wd 26 #[.int .i64 0, .int .i64 0, .int .i64 0, .int .i64 0, .float .f64 0])
        clear hbd HRT
        have k0 := (HKd.out.cell 0).trans rfl
        have k1 := (HKd.out.cell 1).trans rfl
        have k2 := (HKd.out.cell 2).trans rfl
        have k3 := (HKd.out.cell 3).trans rfl
        have k4 := (HKd.out.cell 4).trans rfl
        have l0 := (HKe.out.cell 0).trans rfl
        have l1 := (HKe.out.cell 1).trans rfl
        have l2 := (HKe.out.cell 2).trans rfl
        have l3 := (HKe.out.cell 3).trans rfl
        have l4 := (HKe.out.cell 4).trans rfl
        go_wp2_with fail
        refine (rsame_any 0 0 0 0 0 0 0 0 0 0 (by omega) (by omega) _).mono ?_
        rintro e we ⟨rfl, hbe⟩
        rw [same_self]
        have HBe := Lib.hid (HBd.out.trans (hbe.mono HBd.out.size))
        clear k0 k1 k2 k3 k4 l0 l1 l2 l3 l4 hbe
        go_wp2_with fail
        refine (num_err we E 3 (by omega) (HG.out.below HBe.out).ids.errs).mono ?_
        rintro e wf ⟨rfl, hbf⟩
        have HBf := Lib.hid (HBe.out.trans (hbf.mono HBe.out.size))
        clear hbf
        go_wp2_with fail
        go_ret
        exact ⟨rfl, HBf.out⟩
      have q1 : (spoil == 1) = false := beq_eq_false_iff_ne.2 g1
      have q2 : (spoil == 2) = false := beq_eq_false_iff_ne.2 g2
      have q3 : (spoil == 3) = false := beq_eq_false_iff_ne.2 g3
      have q4 : (spoil == 4) = false := beq_eq_false_iff_ne.2 g4
      obtain ⟨wz, rfl⟩ : ∃ wz, wz = wr := ⟨_, rfl⟩
      have HBz := HB; have HXz := HX
      have HTz := Lib.hid (ctxTr_of (P := fun _ => True) HA.out trivial)
      have HOKz := Lib.hid (show (ctxTr v0 v1 v2 v3).ok 2 from ⟨rfl, by simp, trivial⟩)
      have HSMz := Lib.hid (show (ctxTr v0 v1 v2 v3).sm from ⟨by simp, by simp, trivial⟩)
      have HLENz := Lib.hid (ctxTr_len zl0 zl1 zl2 zl3)
      have hR := toE_ctx v0 v1 v2 v3
      have hR2 := same_ctx v0 v1 v2 v3
      clear g1 g2 g3 g4
      have p0 := (HXz.out.cell 0).trans rfl; have p1 := (HXz.out.cell 1).trans rfl; have p2 := (HXz.out.cell 2).trans rfl; have p3 := (HXz.out.cell 3).trans rfl; have p4 := (HXz.out.cell 4).trans rfl
      cases hq : toCtx v0 v1 v2 v3 with
      | none =>
        have HR1z := Lib.hid (hR.trans hq)
        have HR2z := Lib.hid (hR2.symm.trans (hR.trans hq))
        clear hR hR2 hq
        go_wp2_with fail
        clear p0 p1 p2 p3 p4 q1 q2 q3 q4
        have HTC0 := toctx_any (ctxTr v0 v1 v2 v3) _ (fun _ => True) wz E (HG.out.below HBz.out).ids (HG.out.below HBz.out).outs HOKz.out HTz.out HLENz.out
        rw [HR1z.out] at HTC0
        have HTC := Lib.hid (show Calls Tryz.prog 12 #[.agg #[.string (bs wscoorL), .string (bs ccL), .slice (some ⟨ga, 0, none⟩) 4 4, .slice none 0 0, .string (bs [])]] wz fun e w' => Below wz.heap.size wz w' ∧ e = .returned (.tuple #[.agg #[.int .i64 0, .int .i64 0, .int .i64 0, .int .i64 0, .float .f64 0], .iface 160 (.pointer (some (E 3)))]) from HTC0.mono fun _ _ h => ⟨h.1, h.2.1.trans rfl⟩)
        clear HTC0
        refine HTC.out.mono ?_
        rintro e wa ⟨hba, rfl⟩
        have HBa := Lib.hid (below_alloc (HBz.out.trans (hba.mono HBz.out.size)) (.cells #[.int .i64 0, .int .i64 0, .int .i64 0, .int .i64 0, .float .f64 0] 26))
        have HXa := Lib.hid ((HXz.out.below hba HXz.out.lt).alloc (.cells #[.int .i64 0, .int .i64 0, .int .i64 0, .int .i64 0, .float .f64 0] 26))
        have HKa := Lib.hid (Blk.new wa 26 #[.int .i64 0, .int .i64 0, .int .i64 0, .int .i64 0, .float .f64 0])
        have HTa := Lib.hid (HTz.out.below (hba.trans ((below_alloc1 wa (.cells #[.int .i64 0, .int .i64 0, .int .i64 0, .int .i64 0, .float .f64 0] 26)).mono hba.size)))
        clear hba HTC
        have p0 := (HXa.out.cell 0).trans rfl
        have p1 := (HXa.out.cell 1).trans rfl
        have p2 := (HXa.out.cell 2).trans rfl
        have p3 := (HXa.out.cell 3).trans rfl
        have p4 := (HXa.out.cell 4).trans rfl
        go_wp2_with fail
        refine (elem26_any _ (ctxTr v0 v1 v2 v3) (fun _ => True) [.string (bs wscoorL), .string (bs ccL), .slice (some ⟨ga, 0, none⟩) 4 4, .slice none 0 0, .string (bs [])] _ (Nat.le_refl _) HOKz.out HSMz.out HTa.out).mono ?_
        rintro e wc ⟨cs, rfl, hcs, hbc⟩
        obtain ⟨d0, d1, d2, d3, d4, rfl⟩ := cells5 hcs HOKz.out
        have HBc := Lib.hid (HBa.out.trans (hbc.mono HBa.out.size))
        have HKc := Lib.hid (HKa.out.below hbc HKa.out.lt)
        have HRT0 := reftoctx_any (ctxTr v0 v1 v2 v3) [d0, d1, d2, d3, d4] _ wc HOKz.out hcs HLENz.out
        rw [HR2z.out] at HRT0
        have HRT := Lib.hid (show Calls Tryz.prog 14 #[.agg #[d0, d1, d2, d3, d4]] wc fun e w' => Below wc.heap.size wc w' ∧ e = .returned (.tuple #[.agg #[.int .i64 0, .int .i64 0, .int .i64 0, .int .i64 0, .float .f64 0], .bool false]) from HRT0.mono fun _ _ h => ⟨h.1, h.2.trans rfl⟩)
        clear p0 p1 p2 p3 p4 hbc hcs HRT0
        go_wp2_with fail
        refine HRT.out.mono ?_
        rintro e wd ⟨hbd, rfl⟩
        have HBd := Lib.hid (below_alloc (HBc.out.trans (hbd.mono HBc.out.size)) (.cells #[.int .i64 0, .int .i64 0, .int .i64 0, .int .i64 0, .float .f64 0] 26))
        have HKd := Lib.hid ((HKc.out.below hbd HKc.out.lt).alloc (.cells #[.int .i64 0, .int .i64 0, .int .i64 0, .int .i64 0, .float .f64 0] 26))
        have HKe := Lib.hid (Blk.new wd 26 #[.int .i64 0, .int .i64 0, .int .i64 0, .int .i64 0, .float .f64 0])
        clear hbd HRT
        have k0 := (HKd.out.cell 0).trans rfl
        have k1 := (HKd.out.cell 1).trans rfl
        have k2 := (HKd.out.cell 2).trans rfl
        have k3 := (HKd.out.cell 3).trans rfl
        have k4 := (HKd.out.cell 4).trans rfl
        have l0 := (HKe.out.cell 0).trans rfl
        have l1 := (HKe.out.cell 1).trans rfl
        have l2 := (HKe.out.cell 2).trans rfl
        have l3 := (HKe.out.cell 3).trans rfl
        have l4 := (HKe.out.cell 4).trans rfl
        go_wp2_with fail
        refine (rsame_any 0 0 0 0 0 0 0 0 0 0 (by omega) (by omega) _).mono ?_
        rintro e we ⟨rfl, hbe⟩
        rw [same_self]
        have HBe := Lib.hid (HBd.out.trans (hbe.mono HBd.out.size))
        clear k0 k1 k2 k3 k4 l0 l1 l2 l3 l4 hbe
        go_wp2_with fail
        refine (num_err we E 3 (by omega) (HG.out.below HBe.out).ids.errs).mono ?_
        rintro e wf ⟨rfl, hbf⟩
        have HBf := Lib.hid (HBe.out.trans (hbf.mono HBe.out.size))
        clear hbf
        go_wp2_with fail
        go_ret
        exact ⟨rfl, HBf.out⟩
      | some cz =>
        have HR1z := Lib.hid (hR.trans hq)
        have HR2z := Lib.hid (hR2.symm.trans (hR.trans hq))
        have HRX := Lib.hid (show cz.x < 18446744073709551616 by
          have h1 := (right_parts (toCtx_some hq).1).1
          have := infR_lt
          omega)
        clear hR hR2 hq
        obtain ⟨rn, rs, ro, rd, rx⟩ := cz
        go_wp2_with fail
        clear p0 p1 p2 p3 p4 q1 q2 q3 q4
        have HTC0 := toctx_any (ctxTr v0 v1 v2 v3) _ (fun _ => True) wz E (HG.out.below HBz.out).ids (HG.out.below HBz.out).outs HOKz.out HTz.out HLENz.out
        rw [HR1z.out] at HTC0
        have HTC := Lib.hid (show Calls Tryz.prog 12 #[.agg #[.string (bs wscoorL), .string (bs ccL), .slice (some ⟨ga, 0, none⟩) 4 4, .slice none 0 0, .string (bs [])]] wz fun e w' => Below wz.heap.size wz w' ∧ e = .returned (.tuple #[.agg #[.int .i64 rn, .int .i64 rs, .int .i64 ro, .int .i64 rd, .float .f64 rx], .nilIface]) from HTC0.mono fun _ _ h => ⟨h.1, h.2.1.trans rfl⟩)
        clear HTC0
        refine HTC.out.mono ?_
        rintro e wa ⟨hba, rfl⟩
        have HBa := Lib.hid (below_alloc (HBz.out.trans (hba.mono HBz.out.size)) (.cells #[.int .i64 rn, .int .i64 rs, .int .i64 ro, .int .i64 rd, .float .f64 rx] 26))
        have HXa := Lib.hid ((HXz.out.below hba HXz.out.lt).alloc (.cells #[.int .i64 rn, .int .i64 rs, .int .i64 ro, .int .i64 rd, .float .f64 rx] 26))
        have HKa := Lib.hid (Blk.new wa 26 #[.int .i64 rn, .int .i64 rs, .int .i64 ro, .int .i64 rd, .float .f64 rx])
        have HTa := Lib.hid (HTz.out.below (hba.trans ((below_alloc1 wa (.cells #[.int .i64 rn, .int .i64 rs, .int .i64 ro, .int .i64 rd, .float .f64 rx] 26)).mono hba.size)))
        clear hba HTC
        have p0 := (HXa.out.cell 0).trans rfl
        have p1 := (HXa.out.cell 1).trans rfl
        have p2 := (HXa.out.cell 2).trans rfl
        have p3 := (HXa.out.cell 3).trans rfl
        have p4 := (HXa.out.cell 4).trans rfl
        go_wp2_with fail
        refine (elem26_any _ (ctxTr v0 v1 v2 v3) (fun _ => True) [.string (bs wscoorL), .string (bs ccL), .slice (some ⟨ga, 0, none⟩) 4 4, .slice none 0 0, .string (bs [])] _ (Nat.le_refl _) HOKz.out HSMz.out HTa.out).mono ?_
        rintro e wc ⟨cs, rfl, hcs, hbc⟩
        obtain ⟨d0, d1, d2, d3, d4, rfl⟩ := cells5 hcs HOKz.out
        have HBc := Lib.hid (HBa.out.trans (hbc.mono HBa.out.size))
        have HKc := Lib.hid (HKa.out.below hbc HKa.out.lt)
        have HRT0 := reftoctx_any (ctxTr v0 v1 v2 v3) [d0, d1, d2, d3, d4] _ wc HOKz.out hcs HLENz.out
        rw [HR2z.out] at HRT0
        have HRT := Lib.hid (show Calls Tryz.prog 14 #[.agg #[d0, d1, d2, d3, d4]] wc fun e w' => Below wc.heap.size wc w' ∧ e = .returned (.tuple #[.agg #[.int .i64 rn, .int .i64 rs, .int .i64 ro, .int .i64 rd, .float .f64 rx], .bool true]) from HRT0.mono fun _ _ h => ⟨h.1, h.2.trans rfl⟩)
        clear p0 p1 p2 p3 p4 hbc hcs HRT0
        go_wp2_with fail
        refine HRT.out.mono ?_
        rintro e wd ⟨hbd, rfl⟩
        have HBd := Lib.hid (below_alloc (HBc.out.trans (hbd.mono HBc.out.size)) (.cells #[.int .i64 rn, .int .i64 rs, .int .i64 ro, .int .i64 rd, .float .f64 rx] 26))
        have HKd := Lib.hid ((HKc.out.below hbd HKc.out.lt).alloc (.cells #[.int .i64 rn, .int .i64 rs, .int .i64 ro, .int .i64 rd, .float .f64 rx] 26))
        have HKe := Lib.hid (Blk.new wd 26 #[.int .i64 rn, .int .i64 rs, .int .i64 ro, .int .i64 rd, .float .f64 rx])
        clear hbd HRT
        have k0 := (HKd.out.cell 0).trans rfl
        have k1 := (HKd.out.cell 1).trans rfl
        have k2 := (HKd.out.cell 2).trans rfl
        have k3 := (HKd.out.cell 3).trans rfl
        have k4 := (HKd.out.cell 4).trans rfl
        have l0 := (HKe.out.cell 0).trans rfl
        have l1 := (HKe.out.cell 1).trans rfl
        have l2 := (HKe.out.cell 2).trans rfl
        have l3 := (HKe.out.cell 3).trans rfl
        have l4 := (HKe.out.cell 4).trans rfl
        go_wp2_with fail
        refine (rsame_any rn rs ro rd rn rs ro rd rx rx HRX.out HRX.out _).mono ?_
        rintro e we ⟨rfl, hbe⟩
        rw [same_self]
        have HBe := Lib.hid (HBd.out.trans (hbe.mono HBd.out.size))
        clear k0 k1 k2 k3 k4 l0 l1 l2 l3 l4 hbe
        go_wp2_with fail
        go_ret
        exact ⟨rfl, HBe.out⟩
theorem bctx_law (n s o d : Int) (x : Nat) (hn : -9223372036854775808 ≤ n) (hs : -9223372036854775808 ≤ s) (hx : x < 18446744073709551616) (pv : Option Addr) (cv : Nat) (vs : List (List UInt8)) (spoil : Int) (w : World) (E : Nat → Addr) (hg : LawG w E)
    (hv1 : vs.length ≤ cv) (hv2 : cv ≤ maxLen) (hv : Rd w pv (strs vs)) :
    Calls Tryz.prog 3 #[.agg #[.int .i64 n, .int .i64 s, .int .i64 o, .int .i64 d, .float .f64 x], .slice pv vs.length cv, .int .i64 spoil] w (ok1 w) := by
  by_cases h10 : vs.length ≤ 10
  · cases hr : rightC ⟨n, s, o, d, x⟩
    · exact bctx_wrong n s o d x hn hs hx pv cv vs spoil w E hg hv1 hv2 hv h10 hr
    · exact bctx_right n s o d x hn hs hx pv cv vs spoil w E hg hv1 hv2 hv h10 hr
  · have d10 : decide ((10 : Int) < (vs.length : Int)) = true := decide_eq_true (by omega)
    have d10' : decide (10 < vs.length) = true := decide_eq_true (by omega)
    have B1 := Lib.hid (below_alloc1 w (.cells #[.int .i64 n, .int .i64 s, .int .i64 o, .int .i64 d, .float .f64 x] 26))
    have HAL := Lib.hid (alive_any _ E ((hg.below B1.out).ids.errs.on [3] (by decide)) (hg.below B1.out).kinds)
    clear hg hv
    unfold maxLen at hv2
    go_enter Tryz.func3, Tryz.ntmps3
    go_wp2_with fail
    refine HAL.out.mono ?_
    rintro e w1 ⟨rfl, hb1⟩
    have B2 := Lib.hid (B1.out.trans (hb1.mono B1.out.size))
    clear hb1 HAL
    go_wp2_with fail
    go_ret
    exact ⟨rfl, B2.out⟩
end Go.Proofs.YtgmiockaecklaaaGreatDoor
