/-
  LawChildren: the walk of ScopeChildren.
-/
import Derived.Test.YtejdnpbkljdahaaDoorLawNews
import Derived.Test.YtejdnpbkljdahaaDoorScopeW3
namespace Go.Proofs.YtejdnpbkljdahaaDoor
open Go.RowKit Go.Extern.Stop Go.Stop Go.Extern Ieee
attribute [local go_sem] flt_def fgt_def feq_def fne_def
attribute [local go_sem] run_store_flt

theorem childE_le (c : Ctx) (n s o : Int) : childE c n s o ≤ 14 := by unfold childE; split <;> (try split) <;> (try split) <;> (try split) <;> omega
theorem child_x {c : Ctx} (h : c.x < 18446744073709551616) (n s o : Int) : (childC c n s o).x < 18446744073709551616 := by
  unfold childC
  split
  · exact h
  · show 0 < _; omega
set_option maxRecDepth 20000 in
set_option maxHeartbeats 4000000 in
theorem children_law (c d : Ctx) (now : Nat) (hc : c.wf) (hd : d.wf) (hw : now < 18446744073709551616) (w : World) (E : Nat → Addr) (h : IdsG w E) :
    Calls Tryd.prog 6 #[ctxV c, ctxV d, .float .f64 now] w fun e w' => e = .returned (.bool true) ∧ Below w.heap.size w w' := by
  have HG := Lib.hid (fun w' (hb : Below w.heap.size w w') => h.below hb)
  have HAL := Lib.hid (fun w' h => alive9_any w' E h)
  have HN := Lib.hid (fun w' h => schild_any c.n c.s c.o c.d c.x d.n d.s d.o hc.1.1 hc.2.1.1 hd.1.1 hd.2.1.1 hc.2.2.2.2 w' E h)
  have HM := Lib.hid (fun w' => rchild_any c.n c.s c.o c.d c.x d.n d.s d.o hc.2.2.2.2 w')
  have HRI := Lib.hid (fun w' h => sright_any c.n c.s c.o c.d c.x hc.1.1 hc.2.1.1 hc.2.2.2.2 w' E h)
  have HRR := Lib.hid (fun w' => rright_any c.n c.s c.o c.d c.x hc.2.2.2.2 w')
  have HO := Lib.hid (fun w' h => sopen_any c.n c.s c.o c.d c.x now hc.1.1 hc.2.1.1 hc.2.2.2.2 hw w' E h)
  have HRO := Lib.hid (fun w' => ropen_any c.n c.s c.o c.d c.x now hc.2.2.2.2 hw w')
  have HS := Lib.hid (fun w' => ssame_any c.n c.s c.o c.d d.n d.s d.o d.d c.x d.x hc.2.2.2.2 hd.2.2.2.2 w')
  have HRS := Lib.hid (fun w' => rsame_any c.n c.s c.o c.d d.n d.s d.o d.d c.x d.x hc.2.2.2.2 hd.2.2.2.2 w')
  have HSS := Lib.hid (fun w' => ssame_any c.n c.s c.o c.d c.n c.s c.o c.d c.x c.x hc.2.2.2.2 hc.2.2.2.2 w')
  have hrf : sameC ⟨c.n, c.s, c.o, c.d, c.x⟩ ⟨c.n, c.s, c.o, c.d, c.x⟩ = true := sameC_refl c
  rw [hrf] at HSS
  obtain ⟨p1, p2, p3, p4, p5⟩ := c
  obtain ⟨q1, q2, q3, q4, q5⟩ := d
  have hle := childE_le ⟨p1, p2, p3, p4, p5⟩ q1 q2 q3
  have HU := Lib.hid (fun w' h => num_any w' E (childE ⟨p1, p2, p3, p4, p5⟩ q1 q2 q3) hle h)
  have hx' := child_x (c := ⟨p1, p2, p3, p4, p5⟩) hc.2.2.2.2 q1 q2 q3
  simp only at HN HM HRI HRR HO HRO HS HRS HSS
  generalize hq : childE ⟨p1, p2, p3, p4, p5⟩ q1 q2 q3 = q at *
  generalize hz : childC ⟨p1, p2, p3, p4, p5⟩ q1 q2 q3 = z at *
  have hrz := sameC_refl z
  obtain ⟨z1, z2, z3, z4, z5⟩ := z
  have HSX := Lib.hid (fun w' => rsame_any z1 z2 z3 z4 z1 z2 z3 z4 z5 z5 hx' hx' w')
  rw [hrz] at HSX
  clear hq hz hrz hx' hle hrf hc hd hw h
  unfold ctxV ctxA at HN HM
  unfold ctxV ctxA
  simp only at HN HM ⊢
  generalize rightC ⟨p1, p2, p3, p4, p5⟩ = rr at *
  generalize openC ⟨p1, p2, p3, p4, p5⟩ now = oo at *
  generalize sameC ⟨p1, p2, p3, p4, p5⟩ ⟨q1, q2, q3, q4, q5⟩ = ss at *
  generalize errV E q = ev at *
  have B := Lib.hid (below_alloc (below_alloc1 w (.cells #[.int .i64 p1, .int .i64 p2, .int .i64 p3, .int .i64 p4, .float .f64 p5] 29)) (.cells #[.int .i64 q1, .int .i64 q2, .int .i64 q3, .int .i64 q4, .float .f64 q5] 29))
  have N := Lib.hid ((Blk.new w 29 #[.int .i64 p1, .int .i64 p2, .int .i64 p3, .int .i64 p4, .float .f64 p5]).alloc (.cells #[.int .i64 q1, .int .i64 q2, .int .i64 q3, .int .i64 q4, .float .f64 q5] 29))
  have O := Lib.hid (show Blk ((w.alloc (.cells #[.int .i64 p1, .int .i64 p2, .int .i64 p3, .int .i64 p4, .float .f64 p5] 29)).alloc (.cells #[.int .i64 q1, .int .i64 q2, .int .i64 q3, .int .i64 q4, .float .f64 q5] 29)) (w.heap.size + 1) 29 #[.int .i64 q1, .int .i64 q2, .int .i64 q3, .int .i64 q4, .float .f64 q5] from by
    have := Blk.new (w.alloc (.cells #[.int .i64 p1, .int .i64 p2, .int .i64 p3, .int .i64 p4, .float .f64 p5] 29)) 29 #[.int .i64 q1, .int .i64 q2, .int .i64 q3, .int .i64 q4, .float .f64 q5]
    rwa [World.size_alloc] at this)
  have n0 := (N.out.cell 0).trans rfl
  have n1 := (N.out.cell 1).trans rfl
  have n2 := (N.out.cell 2).trans rfl
  have n3 := (N.out.cell 3).trans rfl
  have n4 := (N.out.cell 4).trans rfl
  have o0 := (O.out.cell 0).trans rfl
  have o1 := (O.out.cell 1).trans rfl
  have o2 := (O.out.cell 2).trans rfl
  have o3 := (O.out.cell 3).trans rfl
  have o4 := (O.out.cell 4).trans rfl
  go_enter Tryd.func6, Tryd.ntmps6
  go_wp2_with fail
  refine (HAL.out _ (HG.out _ B.out)).mono ?_
  rintro e w' ⟨rfl, hb⟩
  have B' := Lib.hid (B.out.trans (hb.mono B.out.size))
  have N' := Lib.hid (N.out.below hb N.out.lt)
  have O' := Lib.hid (O.out.below hb O.out.lt)
  clear hb B N O n0 n1 n2 n3 n4 o0 o1 o2 o3 o4
  have n0 := (N'.out.cell 0).trans rfl
  have n1 := (N'.out.cell 1).trans rfl
  have n2 := (N'.out.cell 2).trans rfl
  have n3 := (N'.out.cell 3).trans rfl
  have n4 := (N'.out.cell 4).trans rfl
  have o0 := (O'.out.cell 0).trans rfl
  have o1 := (O'.out.cell 1).trans rfl
  have o2 := (O'.out.cell 2).trans rfl
  have o3 := (O'.out.cell 3).trans rfl
  have o4 := (O'.out.cell 4).trans rfl
  have B := Lib.hid B'.out
  have N := Lib.hid N'.out
  have O := Lib.hid O'.out
  clear B' N' O'
  go_wp2_with fail
  refine (HN.out _ (HG.out _ B.out)).mono ?_
  rintro e w' ⟨hb, rfl⟩
  have B' := Lib.hid (B.out.trans (hb.mono B.out.size))
  have N' := Lib.hid (N.out.below hb N.out.lt)
  have O' := Lib.hid (O.out.below hb O.out.lt)
  clear hb B N O n0 n1 n2 n3 n4 o0 o1 o2 o3 o4
  have n0 := (N'.out.cell 0).trans rfl
  have n1 := (N'.out.cell 1).trans rfl
  have n2 := (N'.out.cell 2).trans rfl
  have n3 := (N'.out.cell 3).trans rfl
  have n4 := (N'.out.cell 4).trans rfl
  have o0 := (O'.out.cell 0).trans rfl
  have o1 := (O'.out.cell 1).trans rfl
  have o2 := (O'.out.cell 2).trans rfl
  have o3 := (O'.out.cell 3).trans rfl
  have o4 := (O'.out.cell 4).trans rfl
  have B := Lib.hid B'.out
  have N := Lib.hid N'.out
  have O := Lib.hid O'.out
  clear B' N' O'
  have M := Lib.hid (Blk.new w' 29 #[.int .i64 0, .int .i64 0, .int .i64 0, .int .i64 0, .float .f64 0])
  have N' := Lib.hid (N.out.alloc (.cells #[.int .i64 0, .int .i64 0, .int .i64 0, .int .i64 0, .float .f64 0] 29))
  have O' := Lib.hid (O.out.alloc (.cells #[.int .i64 0, .int .i64 0, .int .i64 0, .int .i64 0, .float .f64 0] 29))
  have B' := Lib.hid (below_alloc B.out (.cells #[.int .i64 0, .int .i64 0, .int .i64 0, .int .i64 0, .float .f64 0] 29))
  go_wp2_with (refine wpList_store (.tmp 7) (.tmp 20) 29 rfl rfl w'.heap.size 0 _ _ #[.int .i64 z1, .int .i64 z2, .int .i64 z3, .int .i64 z4, .float .f64 z5] rfl rfl M.out (by kernel_rfl) (by simp [Value.oneCell']) (by simp) ?_)
  intro w7 hn7 ko7
  have h7 : Blk w7 w'.heap.size 29 #[.int .i64 z1, .int .i64 z2, .int .i64 z3, .int .i64 z4, .float .f64 z5] := hn7
  have B7 := Lib.hid (B'.out.trans (ko7.below B.out.size))
  have N7 := Lib.hid (ko7.blk N'.out (Nat.ne_of_lt N.out.lt))
  have O7 := Lib.hid (ko7.blk O'.out (Nat.ne_of_lt O.out.lt))
  have H7 := Lib.hid h7
  clear hn7 ko7 h7 M B' B N' O' N O n0 n1 n2 n3 n4 o0 o1 o2 o3 o4
  generalize w'.heap.size = gc at *
  have n0 := (N7.out.cell 0).trans rfl
  have n1 := (N7.out.cell 1).trans rfl
  have n2 := (N7.out.cell 2).trans rfl
  have n3 := (N7.out.cell 3).trans rfl
  have n4 := (N7.out.cell 4).trans rfl
  have o0 := (O7.out.cell 0).trans rfl
  have o1 := (O7.out.cell 1).trans rfl
  have o2 := (O7.out.cell 2).trans rfl
  have o3 := (O7.out.cell 3).trans rfl
  have o4 := (O7.out.cell 4).trans rfl
  have c0 := (H7.out.cell 0).trans rfl
  have c1 := (H7.out.cell 1).trans rfl
  have c2 := (H7.out.cell 2).trans rfl
  have c3 := (H7.out.cell 3).trans rfl
  have c4 := (H7.out.cell 4).trans rfl
  have B := Lib.hid B7.out
  have N := Lib.hid N7.out
  have O := Lib.hid O7.out
  have C := Lib.hid H7.out
  clear B7 H7 N7 O7
  go_wp2_with fail
  refine (HM.out _).mono ?_
  rintro e w' ⟨hb, rfl⟩
  have B' := Lib.hid (B.out.trans (hb.mono B.out.size))
  have N' := Lib.hid (N.out.below hb N.out.lt)
  have O' := Lib.hid (O.out.below hb O.out.lt)
  have C' := Lib.hid (C.out.below hb C.out.lt)
  clear hb B N O C n0 n1 n2 n3 n4 o0 o1 o2 o3 o4 c0 c1 c2 c3 c4
  have n0 := (N'.out.cell 0).trans rfl
  have n1 := (N'.out.cell 1).trans rfl
  have n2 := (N'.out.cell 2).trans rfl
  have n3 := (N'.out.cell 3).trans rfl
  have n4 := (N'.out.cell 4).trans rfl
  have o0 := (O'.out.cell 0).trans rfl
  have o1 := (O'.out.cell 1).trans rfl
  have o2 := (O'.out.cell 2).trans rfl
  have o3 := (O'.out.cell 3).trans rfl
  have o4 := (O'.out.cell 4).trans rfl
  have c0 := (C'.out.cell 0).trans rfl
  have c1 := (C'.out.cell 1).trans rfl
  have c2 := (C'.out.cell 2).trans rfl
  have c3 := (C'.out.cell 3).trans rfl
  have c4 := (C'.out.cell 4).trans rfl
  have B := Lib.hid B'.out
  have N := Lib.hid N'.out
  have O := Lib.hid O'.out
  have C := Lib.hid C'.out
  clear B' N' O' C'
  have M := Lib.hid (Blk.new w' 29 #[.int .i64 0, .int .i64 0, .int .i64 0, .int .i64 0, .float .f64 0])
  have N' := Lib.hid (N.out.alloc (.cells #[.int .i64 0, .int .i64 0, .int .i64 0, .int .i64 0, .float .f64 0] 29))
  have O' := Lib.hid (O.out.alloc (.cells #[.int .i64 0, .int .i64 0, .int .i64 0, .int .i64 0, .float .f64 0] 29))
  have C' := Lib.hid (C.out.alloc (.cells #[.int .i64 0, .int .i64 0, .int .i64 0, .int .i64 0, .float .f64 0] 29))
  have B' := Lib.hid (below_alloc B.out (.cells #[.int .i64 0, .int .i64 0, .int .i64 0, .int .i64 0, .float .f64 0] 29))
  go_wp2_with (refine wpList_store (.tmp 9) (.tmp 29) 29 rfl rfl w'.heap.size 0 _ _ #[.int .i64 z1, .int .i64 z2, .int .i64 z3, .int .i64 z4, .float .f64 z5] rfl rfl M.out (by kernel_rfl) (by simp [Value.oneCell']) (by simp) ?_)
  intro w7 hn7 ko7
  have h7 : Blk w7 w'.heap.size 29 #[.int .i64 z1, .int .i64 z2, .int .i64 z3, .int .i64 z4, .float .f64 z5] := hn7
  have B7 := Lib.hid (B'.out.trans (ko7.below B.out.size))
  have N7 := Lib.hid (ko7.blk N'.out (Nat.ne_of_lt N.out.lt))
  have O7 := Lib.hid (ko7.blk O'.out (Nat.ne_of_lt O.out.lt))
  have C7 := Lib.hid (ko7.blk C'.out (Nat.ne_of_lt C.out.lt))
  have H7 := Lib.hid h7
  clear hn7 ko7 h7 M B' B N' O' C' N O C n0 n1 n2 n3 n4 o0 o1 o2 o3 o4 c0 c1 c2 c3 c4
  generalize w'.heap.size = gd at *
  have n0 := (N7.out.cell 0).trans rfl
  have n1 := (N7.out.cell 1).trans rfl
  have n2 := (N7.out.cell 2).trans rfl
  have n3 := (N7.out.cell 3).trans rfl
  have n4 := (N7.out.cell 4).trans rfl
  have o0 := (O7.out.cell 0).trans rfl
  have o1 := (O7.out.cell 1).trans rfl
  have o2 := (O7.out.cell 2).trans rfl
  have o3 := (O7.out.cell 3).trans rfl
  have o4 := (O7.out.cell 4).trans rfl
  have c0 := (C7.out.cell 0).trans rfl
  have c1 := (C7.out.cell 1).trans rfl
  have c2 := (C7.out.cell 2).trans rfl
  have c3 := (C7.out.cell 3).trans rfl
  have c4 := (C7.out.cell 4).trans rfl
  have d0 := (H7.out.cell 0).trans rfl
  have d1 := (H7.out.cell 1).trans rfl
  have d2 := (H7.out.cell 2).trans rfl
  have d3 := (H7.out.cell 3).trans rfl
  have d4 := (H7.out.cell 4).trans rfl
  have B := Lib.hid B7.out
  have N := Lib.hid N7.out
  have O := Lib.hid O7.out
  have C := Lib.hid C7.out
  have D := Lib.hid H7.out
  clear B7 H7 N7 O7 C7
  go_wp2_with fail
  refine wp_phi (fun w' => Below w.heap.size w w' ∧ Blk w' w.heap.size 29 #[.int .i64 p1, .int .i64 p2, .int .i64 p3, .int .i64 p4, .float .f64 p5] ∧ Blk w' (w.heap.size + 1) 29 #[.int .i64 q1, .int .i64 q2, .int .i64 q3, .int .i64 q4, .float .f64 q5] ∧ Blk w' gc 29 #[.int .i64 z1, .int .i64 z2, .int .i64 z3, .int .i64 z4, .float .f64 z5] ∧ Blk w' gd 29 #[.int .i64 z1, .int .i64 z2, .int .i64 z3, .int .i64 z4, .float .f64 z5]) [(2, PVal (.bool true)), (5, PVal (.int .i64 (q : Int))), (11, PVal (.bool rr)), (13, PVal (.bool rr)), (19, PVal (.bool oo)), (22, PVal (.bool oo)), (28, PVal (.bool ss)), (31, PVal (.bool ss)), (37, PVal (.bool true))] [] (by kernel_rfl) (by kernel_rfl) ?_ ?_ ⟨B.out.drew, N.out, O.out, C.out, D.out⟩ ?_
  · rintro w1 w2 ⟨a1, a2, a3, a4, a5⟩ hb
    exact ⟨a1.trans (hb.mono a1.size), a2.below hb a2.lt, a3.below hb a3.lt, a4.below hb a4.lt, a5.below hb a5.lt⟩
  · simp only [List.mem_cons, List.not_mem_nil, or_false, forall_eq_or_imp, forall_eq]
    exact ⟨fun _ _ _ _ _ h => h, fun _ _ _ _ _ h => h, fun _ _ _ _ _ h => h, fun _ _ _ _ _ h => h, fun _ _ _ _ _ h => h, fun _ _ _ _ _ h => h, fun _ _ _ _ _ h => h, fun _ _ _ _ _ h => h, fun _ _ _ _ _ h => h⟩
  repeat (first | (refine phi_skipK rfl (fun K hK => ?_); simp only [Act.put, List.setIfInBounds_toArray, List.set_cons_succ, List.set_cons_zero]; (try simp only [List.cons_append]); (try simp only [List.nil_append]); apply hK; clear hK K) | (refine phi_pureK rfl rfl (fun K hK => ?_); apply Exists.intro; constructor; (focus (rintro w' ⟨h0, hN, hO, hC, hD⟩; (have kN0 := (hN.cell 0).trans rfl; have kN1 := (hN.cell 1).trans rfl; have kN2 := (hN.cell 2).trans rfl; have kN3 := (hN.cell 3).trans rfl; have kN4 := (hN.cell 4).trans rfl; have kO0 := (hO.cell 0).trans rfl; have kO1 := (hO.cell 1).trans rfl; have kO2 := (hO.cell 2).trans rfl; have kO3 := (hO.cell 3).trans rfl; have kO4 := (hO.cell 4).trans rfl; have kC0 := (hC.cell 0).trans rfl; have kC1 := (hC.cell 1).trans rfl; have kC2 := (hC.cell 2).trans rfl; have kC3 := (hC.cell 3).trans rfl; have kC4 := (hC.cell 4).trans rfl; have kD0 := (hD.cell 0).trans rfl; have kD1 := (hD.cell 1).trans rfl; have kD2 := (hD.cell 2).trans rfl; have kD3 := (hD.cell 3).trans rfl; have kD4 := (hD.cell 4).trans rfl; clear h0 hN hO hC hD); first | (go_simp; done) | (go_simp; (try go_bits); (try go_simp); rfl) | go_simp)); simp only [Act.put, List.setIfInBounds_toArray, List.set_cons_succ, List.set_cons_zero]; (try simp only [List.cons_append]); (try simp only [List.nil_append]); apply hK; clear hK K))
  refine phi_partK (PVal (.bool true)) rfl rfl ⟨_, rfl⟩ ?_ (fun K hK v hv => ?_)
  · rintro w' ⟨h0, hN, hO, hC, hD⟩ _
    unfold gives
    go_simp
    refine (HSX.out _).mono ?_
    rintro e w'' ⟨rfl, hb⟩
    exact ⟨_, rfl, rfl, trivial, hb⟩
  obtain rfl : v = _ := hv
  simp only [Act.put, List.setIfInBounds_toArray, List.set_cons_succ, List.set_cons_zero]; (try simp only [List.cons_append]); (try simp only [List.nil_append])
  apply hK
  clear hK K
  repeat (first | (refine phi_skipK rfl (fun K hK => ?_); simp only [Act.put, List.setIfInBounds_toArray, List.set_cons_succ, List.set_cons_zero]; (try simp only [List.cons_append]); (try simp only [List.nil_append]); apply hK; clear hK K) | (refine phi_pureK rfl rfl (fun K hK => ?_); apply Exists.intro; constructor; (focus (rintro w' ⟨h0, hN, hO, hC, hD⟩; (have kN0 := (hN.cell 0).trans rfl; have kN1 := (hN.cell 1).trans rfl; have kN2 := (hN.cell 2).trans rfl; have kN3 := (hN.cell 3).trans rfl; have kN4 := (hN.cell 4).trans rfl; have kO0 := (hO.cell 0).trans rfl; have kO1 := (hO.cell 1).trans rfl; have kO2 := (hO.cell 2).trans rfl; have kO3 := (hO.cell 3).trans rfl; have kO4 := (hO.cell 4).trans rfl; have kC0 := (hC.cell 0).trans rfl; have kC1 := (hC.cell 1).trans rfl; have kC2 := (hC.cell 2).trans rfl; have kC3 := (hC.cell 3).trans rfl; have kC4 := (hC.cell 4).trans rfl; have kD0 := (hD.cell 0).trans rfl; have kD1 := (hD.cell 1).trans rfl; have kD2 := (hD.cell 2).trans rfl; have kD3 := (hD.cell 3).trans rfl; have kD4 := (hD.cell 4).trans rfl; clear h0 hN hO hC hD); first | (go_simp; done) | (go_simp; (try go_bits); (try go_simp); rfl) | go_simp)); simp only [Act.put, List.setIfInBounds_toArray, List.set_cons_succ, List.set_cons_zero]; (try simp only [List.cons_append]); (try simp only [List.nil_append]); apply hK; clear hK K))
  refine phi_partK (PVal (.int .i64 (q : Int))) rfl rfl ⟨_, rfl⟩ ?_ (fun K hK v hv => ?_)
  · rintro w' ⟨h0, hN, hO, hC, hD⟩ _
    unfold gives
    go_simp
    refine (HU.out _ (HG.out _ h0).errs).mono ?_
    rintro e w'' ⟨rfl, hb⟩
    exact ⟨_, rfl, rfl, trivial, hb⟩
  obtain rfl : v = _ := hv
  simp only [Act.put, List.setIfInBounds_toArray, List.set_cons_succ, List.set_cons_zero]; (try simp only [List.cons_append]); (try simp only [List.nil_append])
  apply hK
  clear hK K
  repeat (first | (refine phi_skipK rfl (fun K hK => ?_); simp only [Act.put, List.setIfInBounds_toArray, List.set_cons_succ, List.set_cons_zero]; (try simp only [List.cons_append]); (try simp only [List.nil_append]); apply hK; clear hK K) | (refine phi_pureK rfl rfl (fun K hK => ?_); apply Exists.intro; constructor; (focus (rintro w' ⟨h0, hN, hO, hC, hD⟩; (have kN0 := (hN.cell 0).trans rfl; have kN1 := (hN.cell 1).trans rfl; have kN2 := (hN.cell 2).trans rfl; have kN3 := (hN.cell 3).trans rfl; have kN4 := (hN.cell 4).trans rfl; have kO0 := (hO.cell 0).trans rfl; have kO1 := (hO.cell 1).trans rfl; have kO2 := (hO.cell 2).trans rfl; have kO3 := (hO.cell 3).trans rfl; have kO4 := (hO.cell 4).trans rfl; have kC0 := (hC.cell 0).trans rfl; have kC1 := (hC.cell 1).trans rfl; have kC2 := (hC.cell 2).trans rfl; have kC3 := (hC.cell 3).trans rfl; have kC4 := (hC.cell 4).trans rfl; have kD0 := (hD.cell 0).trans rfl; have kD1 := (hD.cell 1).trans rfl; have kD2 := (hD.cell 2).trans rfl; have kD3 := (hD.cell 3).trans rfl; have kD4 := (hD.cell 4).trans rfl; clear h0 hN hO hC hD); first | (go_simp; done) | (go_simp; (try go_bits); (try go_simp); rfl) | go_simp)); simp only [Act.put, List.setIfInBounds_toArray, List.set_cons_succ, List.set_cons_zero]; (try simp only [List.cons_append]); (try simp only [List.nil_append]); apply hK; clear hK K))
  refine phi_partK (PVal (.bool rr)) rfl rfl ⟨_, rfl⟩ ?_ (fun K hK v hv => ?_)
  · rintro w' ⟨h0, hN, hO, hC, hD⟩ _
    unfold gives
    go_simp
    refine (HRI.out _ (HG.out _ h0)).mono ?_
    rintro e w'' ⟨rfl, hb⟩
    exact ⟨_, rfl, rfl, trivial, hb⟩
  obtain rfl : v = _ := hv
  simp only [Act.put, List.setIfInBounds_toArray, List.set_cons_succ, List.set_cons_zero]; (try simp only [List.cons_append]); (try simp only [List.nil_append])
  apply hK
  clear hK K
  repeat (first | (refine phi_skipK rfl (fun K hK => ?_); simp only [Act.put, List.setIfInBounds_toArray, List.set_cons_succ, List.set_cons_zero]; (try simp only [List.cons_append]); (try simp only [List.nil_append]); apply hK; clear hK K) | (refine phi_pureK rfl rfl (fun K hK => ?_); apply Exists.intro; constructor; (focus (rintro w' ⟨h0, hN, hO, hC, hD⟩; (have kN0 := (hN.cell 0).trans rfl; have kN1 := (hN.cell 1).trans rfl; have kN2 := (hN.cell 2).trans rfl; have kN3 := (hN.cell 3).trans rfl; have kN4 := (hN.cell 4).trans rfl; have kO0 := (hO.cell 0).trans rfl; have kO1 := (hO.cell 1).trans rfl; have kO2 := (hO.cell 2).trans rfl; have kO3 := (hO.cell 3).trans rfl; have kO4 := (hO.cell 4).trans rfl; have kC0 := (hC.cell 0).trans rfl; have kC1 := (hC.cell 1).trans rfl; have kC2 := (hC.cell 2).trans rfl; have kC3 := (hC.cell 3).trans rfl; have kC4 := (hC.cell 4).trans rfl; have kD0 := (hD.cell 0).trans rfl; have kD1 := (hD.cell 1).trans rfl; have kD2 := (hD.cell 2).trans rfl; have kD3 := (hD.cell 3).trans rfl; have kD4 := (hD.cell 4).trans rfl; clear h0 hN hO hC hD); first | (go_simp; done) | (go_simp; (try go_bits); (try go_simp); rfl) | go_simp)); simp only [Act.put, List.setIfInBounds_toArray, List.set_cons_succ, List.set_cons_zero]; (try simp only [List.cons_append]); (try simp only [List.nil_append]); apply hK; clear hK K))
  refine phi_partK (PVal (.bool rr)) rfl rfl ⟨_, rfl⟩ ?_ (fun K hK v hv => ?_)
  · rintro w' ⟨h0, hN, hO, hC, hD⟩ _
    unfold gives
    go_simp
    refine (HRR.out _).mono ?_
    rintro e w'' ⟨rfl, hb⟩
    exact ⟨_, rfl, rfl, trivial, hb⟩
  obtain rfl : v = _ := hv
  simp only [Act.put, List.setIfInBounds_toArray, List.set_cons_succ, List.set_cons_zero]; (try simp only [List.cons_append]); (try simp only [List.nil_append])
  apply hK
  clear hK K
  repeat (first | (refine phi_skipK rfl (fun K hK => ?_); simp only [Act.put, List.setIfInBounds_toArray, List.set_cons_succ, List.set_cons_zero]; (try simp only [List.cons_append]); (try simp only [List.nil_append]); apply hK; clear hK K) | (refine phi_pureK rfl rfl (fun K hK => ?_); apply Exists.intro; constructor; (focus (rintro w' ⟨h0, hN, hO, hC, hD⟩; (have kN0 := (hN.cell 0).trans rfl; have kN1 := (hN.cell 1).trans rfl; have kN2 := (hN.cell 2).trans rfl; have kN3 := (hN.cell 3).trans rfl; have kN4 := (hN.cell 4).trans rfl; have kO0 := (hO.cell 0).trans rfl; have kO1 := (hO.cell 1).trans rfl; have kO2 := (hO.cell 2).trans rfl; have kO3 := (hO.cell 3).trans rfl; have kO4 := (hO.cell 4).trans rfl; have kC0 := (hC.cell 0).trans rfl; have kC1 := (hC.cell 1).trans rfl; have kC2 := (hC.cell 2).trans rfl; have kC3 := (hC.cell 3).trans rfl; have kC4 := (hC.cell 4).trans rfl; have kD0 := (hD.cell 0).trans rfl; have kD1 := (hD.cell 1).trans rfl; have kD2 := (hD.cell 2).trans rfl; have kD3 := (hD.cell 3).trans rfl; have kD4 := (hD.cell 4).trans rfl; clear h0 hN hO hC hD); first | (go_simp; done) | (go_simp; (try go_bits); (try go_simp); rfl) | go_simp)); simp only [Act.put, List.setIfInBounds_toArray, List.set_cons_succ, List.set_cons_zero]; (try simp only [List.cons_append]); (try simp only [List.nil_append]); apply hK; clear hK K))
  refine phi_partK (PVal (.bool oo)) rfl rfl ⟨_, rfl⟩ ?_ (fun K hK v hv => ?_)
  · rintro w' ⟨h0, hN, hO, hC, hD⟩ _
    unfold gives
    go_simp
    refine (HO.out _ (HG.out _ h0)).mono ?_
    rintro e w'' ⟨rfl, hb⟩
    exact ⟨_, rfl, rfl, trivial, hb⟩
  obtain rfl : v = _ := hv
  simp only [Act.put, List.setIfInBounds_toArray, List.set_cons_succ, List.set_cons_zero]; (try simp only [List.cons_append]); (try simp only [List.nil_append])
  apply hK
  clear hK K
  repeat (first | (refine phi_skipK rfl (fun K hK => ?_); simp only [Act.put, List.setIfInBounds_toArray, List.set_cons_succ, List.set_cons_zero]; (try simp only [List.cons_append]); (try simp only [List.nil_append]); apply hK; clear hK K) | (refine phi_pureK rfl rfl (fun K hK => ?_); apply Exists.intro; constructor; (focus (rintro w' ⟨h0, hN, hO, hC, hD⟩; (have kN0 := (hN.cell 0).trans rfl; have kN1 := (hN.cell 1).trans rfl; have kN2 := (hN.cell 2).trans rfl; have kN3 := (hN.cell 3).trans rfl; have kN4 := (hN.cell 4).trans rfl; have kO0 := (hO.cell 0).trans rfl; have kO1 := (hO.cell 1).trans rfl; have kO2 := (hO.cell 2).trans rfl; have kO3 := (hO.cell 3).trans rfl; have kO4 := (hO.cell 4).trans rfl; have kC0 := (hC.cell 0).trans rfl; have kC1 := (hC.cell 1).trans rfl; have kC2 := (hC.cell 2).trans rfl; have kC3 := (hC.cell 3).trans rfl; have kC4 := (hC.cell 4).trans rfl; have kD0 := (hD.cell 0).trans rfl; have kD1 := (hD.cell 1).trans rfl; have kD2 := (hD.cell 2).trans rfl; have kD3 := (hD.cell 3).trans rfl; have kD4 := (hD.cell 4).trans rfl; clear h0 hN hO hC hD); first | (go_simp; done) | (go_simp; (try go_bits); (try go_simp); rfl) | go_simp)); simp only [Act.put, List.setIfInBounds_toArray, List.set_cons_succ, List.set_cons_zero]; (try simp only [List.cons_append]); (try simp only [List.nil_append]); apply hK; clear hK K))
  refine phi_partK (PVal (.bool oo)) rfl rfl ⟨_, rfl⟩ ?_ (fun K hK v hv => ?_)
  · rintro w' ⟨h0, hN, hO, hC, hD⟩ _
    unfold gives
    go_simp
    refine (HRO.out _).mono ?_
    rintro e w'' ⟨rfl, hb⟩
    exact ⟨_, rfl, rfl, trivial, hb⟩
  obtain rfl : v = _ := hv
  simp only [Act.put, List.setIfInBounds_toArray, List.set_cons_succ, List.set_cons_zero]; (try simp only [List.cons_append]); (try simp only [List.nil_append])
  apply hK
  clear hK K
  repeat (first | (refine phi_skipK rfl (fun K hK => ?_); simp only [Act.put, List.setIfInBounds_toArray, List.set_cons_succ, List.set_cons_zero]; (try simp only [List.cons_append]); (try simp only [List.nil_append]); apply hK; clear hK K) | (refine phi_pureK rfl rfl (fun K hK => ?_); apply Exists.intro; constructor; (focus (rintro w' ⟨h0, hN, hO, hC, hD⟩; (have kN0 := (hN.cell 0).trans rfl; have kN1 := (hN.cell 1).trans rfl; have kN2 := (hN.cell 2).trans rfl; have kN3 := (hN.cell 3).trans rfl; have kN4 := (hN.cell 4).trans rfl; have kO0 := (hO.cell 0).trans rfl; have kO1 := (hO.cell 1).trans rfl; have kO2 := (hO.cell 2).trans rfl; have kO3 := (hO.cell 3).trans rfl; have kO4 := (hO.cell 4).trans rfl; have kC0 := (hC.cell 0).trans rfl; have kC1 := (hC.cell 1).trans rfl; have kC2 := (hC.cell 2).trans rfl; have kC3 := (hC.cell 3).trans rfl; have kC4 := (hC.cell 4).trans rfl; have kD0 := (hD.cell 0).trans rfl; have kD1 := (hD.cell 1).trans rfl; have kD2 := (hD.cell 2).trans rfl; have kD3 := (hD.cell 3).trans rfl; have kD4 := (hD.cell 4).trans rfl; clear h0 hN hO hC hD); first | (go_simp; done) | (go_simp; (try go_bits); (try go_simp); rfl) | go_simp)); simp only [Act.put, List.setIfInBounds_toArray, List.set_cons_succ, List.set_cons_zero]; (try simp only [List.cons_append]); (try simp only [List.nil_append]); apply hK; clear hK K))
  refine phi_partK (PVal (.bool ss)) rfl rfl ⟨_, rfl⟩ ?_ (fun K hK v hv => ?_)
  · rintro w' ⟨h0, hN, hO, hC, hD⟩ _
    unfold gives
    go_simp
    refine (HS.out _).mono ?_
    rintro e w'' ⟨rfl, hb⟩
    exact ⟨_, rfl, rfl, trivial, hb⟩
  obtain rfl : v = _ := hv
  simp only [Act.put, List.setIfInBounds_toArray, List.set_cons_succ, List.set_cons_zero]; (try simp only [List.cons_append]); (try simp only [List.nil_append])
  apply hK
  clear hK K
  repeat (first | (refine phi_skipK rfl (fun K hK => ?_); simp only [Act.put, List.setIfInBounds_toArray, List.set_cons_succ, List.set_cons_zero]; (try simp only [List.cons_append]); (try simp only [List.nil_append]); apply hK; clear hK K) | (refine phi_pureK rfl rfl (fun K hK => ?_); apply Exists.intro; constructor; (focus (rintro w' ⟨h0, hN, hO, hC, hD⟩; (have kN0 := (hN.cell 0).trans rfl; have kN1 := (hN.cell 1).trans rfl; have kN2 := (hN.cell 2).trans rfl; have kN3 := (hN.cell 3).trans rfl; have kN4 := (hN.cell 4).trans rfl; have kO0 := (hO.cell 0).trans rfl; have kO1 := (hO.cell 1).trans rfl; have kO2 := (hO.cell 2).trans rfl; have kO3 := (hO.cell 3).trans rfl; have kO4 := (hO.cell 4).trans rfl; have kC0 := (hC.cell 0).trans rfl; have kC1 := (hC.cell 1).trans rfl; have kC2 := (hC.cell 2).trans rfl; have kC3 := (hC.cell 3).trans rfl; have kC4 := (hC.cell 4).trans rfl; have kD0 := (hD.cell 0).trans rfl; have kD1 := (hD.cell 1).trans rfl; have kD2 := (hD.cell 2).trans rfl; have kD3 := (hD.cell 3).trans rfl; have kD4 := (hD.cell 4).trans rfl; clear h0 hN hO hC hD); first | (go_simp; done) | (go_simp; (try go_bits); (try go_simp); rfl) | go_simp)); simp only [Act.put, List.setIfInBounds_toArray, List.set_cons_succ, List.set_cons_zero]; (try simp only [List.cons_append]); (try simp only [List.nil_append]); apply hK; clear hK K))
  refine phi_partK (PVal (.bool ss)) rfl rfl ⟨_, rfl⟩ ?_ (fun K hK v hv => ?_)
  · rintro w' ⟨h0, hN, hO, hC, hD⟩ _
    unfold gives
    go_simp
    refine (HRS.out _).mono ?_
    rintro e w'' ⟨rfl, hb⟩
    exact ⟨_, rfl, rfl, trivial, hb⟩
  obtain rfl : v = _ := hv
  simp only [Act.put, List.setIfInBounds_toArray, List.set_cons_succ, List.set_cons_zero]; (try simp only [List.cons_append]); (try simp only [List.nil_append])
  apply hK
  clear hK K
  repeat (first | (refine phi_skipK rfl (fun K hK => ?_); simp only [Act.put, List.setIfInBounds_toArray, List.set_cons_succ, List.set_cons_zero]; (try simp only [List.cons_append]); (try simp only [List.nil_append]); apply hK; clear hK K) | (refine phi_pureK rfl rfl (fun K hK => ?_); apply Exists.intro; constructor; (focus (rintro w' ⟨h0, hN, hO, hC, hD⟩; (have kN0 := (hN.cell 0).trans rfl; have kN1 := (hN.cell 1).trans rfl; have kN2 := (hN.cell 2).trans rfl; have kN3 := (hN.cell 3).trans rfl; have kN4 := (hN.cell 4).trans rfl; have kO0 := (hO.cell 0).trans rfl; have kO1 := (hO.cell 1).trans rfl; have kO2 := (hO.cell 2).trans rfl; have kO3 := (hO.cell 3).trans rfl; have kO4 := (hO.cell 4).trans rfl; have kC0 := (hC.cell 0).trans rfl; have kC1 := (hC.cell 1).trans rfl; have kC2 := (hC.cell 2).trans rfl; have kC3 := (hC.cell 3).trans rfl; have kC4 := (hC.cell 4).trans rfl; have kD0 := (hD.cell 0).trans rfl; have kD1 := (hD.cell 1).trans rfl; have kD2 := (hD.cell 2).trans rfl; have kD3 := (hD.cell 3).trans rfl; have kD4 := (hD.cell 4).trans rfl; clear h0 hN hO hC hD); first | (go_simp; done) | (go_simp; (try go_bits); (try go_simp); rfl) | go_simp)); simp only [Act.put, List.setIfInBounds_toArray, List.set_cons_succ, List.set_cons_zero]; (try simp only [List.cons_append]); (try simp only [List.nil_append]); apply hK; clear hK K))
  refine phi_partK (PVal (.bool true)) rfl rfl ⟨_, rfl⟩ ?_ (fun K hK v hv => ?_)
  · rintro w' ⟨h0, hN, hO, hC, hD⟩ _
    unfold gives
    go_simp
    refine (HSS.out _).mono ?_
    rintro e w'' ⟨rfl, hb⟩
    exact ⟨_, rfl, rfl, trivial, hb⟩
  obtain rfl : v = _ := hv
  simp only [Act.put, List.setIfInBounds_toArray, List.set_cons_succ, List.set_cons_zero]; (try simp only [List.cons_append]); (try simp only [List.nil_append])
  apply hK
  clear hK K
  repeat (first | (refine phi_skipK rfl (fun K hK => ?_); simp only [Act.put, List.setIfInBounds_toArray, List.set_cons_succ, List.set_cons_zero]; (try simp only [List.cons_append]); (try simp only [List.nil_append]); apply hK; clear hK K) | (refine phi_pureK rfl rfl (fun K hK => ?_); apply Exists.intro; constructor; (focus (rintro w' ⟨h0, hN, hO, hC, hD⟩; (have kN0 := (hN.cell 0).trans rfl; have kN1 := (hN.cell 1).trans rfl; have kN2 := (hN.cell 2).trans rfl; have kN3 := (hN.cell 3).trans rfl; have kN4 := (hN.cell 4).trans rfl; have kO0 := (hO.cell 0).trans rfl; have kO1 := (hO.cell 1).trans rfl; have kO2 := (hO.cell 2).trans rfl; have kO3 := (hO.cell 3).trans rfl; have kO4 := (hO.cell 4).trans rfl; have kC0 := (hC.cell 0).trans rfl; have kC1 := (hC.cell 1).trans rfl; have kC2 := (hC.cell 2).trans rfl; have kC3 := (hC.cell 3).trans rfl; have kC4 := (hC.cell 4).trans rfl; have kD0 := (hD.cell 0).trans rfl; have kD1 := (hD.cell 1).trans rfl; have kD2 := (hD.cell 2).trans rfl; have kD3 := (hD.cell 3).trans rfl; have kD4 := (hD.cell 4).trans rfl; clear h0 hN hO hC hD); first | (go_simp; done) | (go_simp; (try go_bits); (try go_simp); rfl) | go_simp)); simp only [Act.put, List.setIfInBounds_toArray, List.set_cons_succ, List.set_cons_zero]; (try simp only [List.cons_append]); (try simp only [List.nil_append]); apply hK; clear hK K))
  refine phi_done ?_
  rintro w' ⟨hb, _⟩ _
  have B' := Lib.hid hb
  clear hb
  refine wpList_nil ?_
  go_wp2_with fail
  go_ret
  exact ⟨rfl, B'.out⟩
end Go.Proofs.YtejdnpbkljdahaaDoor
