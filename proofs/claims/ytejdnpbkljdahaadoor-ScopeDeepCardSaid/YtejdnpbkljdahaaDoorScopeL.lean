/-
  ScopeL: the laws of chapter 9: alive.
-/
import Derived.Test.YtejdnpbkljdahaaDoorScopeN
import Derived.Test.YtejdnpbkljdahaaDoorScopeO
namespace Go.Proofs.YtejdnpbkljdahaaDoor
open Go.RowKit Go.Extern.Stop Go.Stop Go.Extern Ieee
attribute [local go_sem] flt_def fgt_def feq_def fne_def

theorem inf_any (w : World) : Calls Tryd.prog 20 #[.int .i64 1] w (Gives w (.float .f64 infR)) := by
  have h1 := run_frombits infR
  have h2 : ((infR : Nat) : Int) = 9218868437227405312 := rfl
  rw [h2] at h1
  go_enter Tryd.func20, Tryd.ntmps20
  go_wp2_with fail
  go_ret
  exact ⟨rfl, Below.refl _ _⟩
theorem alive_e : newE 0 1 1 4617315517961601024 infR = 0 := by decide +kernel
theorem alive_c : newC 0 1 1 4617315517961601024 infR = ⟨0, 1, 1, 0, infR⟩ := by
  unfold newC
  rw [alive_e, if_pos rfl, show addN (plainN 4617315517961601024) (plainN infR) = infR from if_pos (.inr (by decide))]
theorem alive_1 : openC ⟨0, 1, 1, 0, infR⟩ 4617315517961601024 = true := by decide +kernel
theorem alive_2 : openC ⟨0, 1, 1, 0, infR⟩ 9094988921128908188 = true := by decide +kernel
theorem alive_3 : openC ⟨0, 1, 1, 0, infR⟩ infR = false := by decide +kernel
set_option maxRecDepth 20000 in
set_option maxHeartbeats 4000000 in
theorem alive9_any (w : World) (E : Nat → Addr) (h : IdsG w E) :
    Calls Tryd.prog 7 #[] w fun e w' => e = .returned (.bool true) ∧ Below w.heap.size w w' := by
  have HG := Lib.hid (fun w' (hb : Below w.heap.size w w') => h.below hb)
  have HI := Lib.hid (fun w' => inf_any w')
  have HN := Lib.hid (fun w' h => snew_any 0 1 1 4617315517961601024 infR (by omega) (by omega) (by omega) (by decide) w' E h)
  rw [alive_c, alive_e] at HN
  have H1 := Lib.hid (fun w' h => sopen_any 0 1 1 0 infR 4617315517961601024 (by omega) (by omega) (by decide) (by omega) w' E h)
  rw [alive_1] at H1
  have H2 := Lib.hid (fun w' h => sopen_any 0 1 1 0 infR 9094988921128908188 (by omega) (by omega) (by decide) (by omega) w' E h)
  rw [alive_2] at H2
  have H3 := Lib.hid (fun w' h => sopen_any 0 1 1 0 infR infR (by omega) (by omega) (by decide) (by decide) w' E h)
  rw [alive_3] at H3
  unfold ctxV ctxA at HN
  simp only [errV_zero] at HN
  clear h
  generalize infR = x at *
  go_enter Tryd.func7, Tryd.ntmps7
  go_wp2_with fail
  refine (HI.out _).mono ?_
  rintro e w' ⟨rfl, hb⟩
  have B := Lib.hid hb
  clear hb
  go_wp2_with fail
  refine (HN.out _ (HG.out _ B.out)).mono ?_
  rintro e w' ⟨hb, rfl⟩
  have B' := Lib.hid (B.out.trans (hb.mono B.out.size))
  clear hb B
  have M := Lib.hid (Blk.new w' 29 #[.int .i64 0, .int .i64 0, .int .i64 0, .int .i64 0, .float .f64 0])
  have B := Lib.hid (below_alloc B'.out (.cells #[.int .i64 0, .int .i64 0, .int .i64 0, .int .i64 0, .float .f64 0] 29))
  go_wp2_with (refine wpList_store (.tmp 1) (.tmp 7) 29 rfl rfl w'.heap.size 0 _ _ #[.int .i64 0, .int .i64 1, .int .i64 1, .int .i64 0, .float .f64 x] rfl rfl M.out (by kernel_rfl) (by simp [Value.oneCell']) (by simp) ?_)
  intro w7 hn7 ko7
  have M7 : Blk w7 w'.heap.size 29 #[.int .i64 0, .int .i64 1, .int .i64 1, .int .i64 0, .float .f64 x] := hn7
  have B7 := Lib.hid (B.out.trans (ko7.below B'.out.size))
  have M8 := Lib.hid M7
  generalize w'.heap.size = g at *
  clear hn7 ko7 M7 M B B'
  go_wp2_with fail
  refine wp_phi (fun w' => Below w.heap.size w w' ∧ Blk w' g 29 #[.int .i64 0, .int .i64 1, .int .i64 1, .int .i64 0, .float .f64 x]) [(4, PVal (.bool true)), (8, PVal (.bool true)), (12, PVal (.float .f64 x)), (13, PVal (.bool false))] [] (by kernel_rfl) (by kernel_rfl) ?_ ?_ ⟨B7.out.drew, M8.out⟩ ?_
  · rintro w1 w2 ⟨a1, a2⟩ hb
    exact ⟨a1.trans (hb.mono a1.size), a2.below hb a2.lt⟩
  · simp only [List.mem_cons, List.not_mem_nil, or_false, forall_eq_or_imp, forall_eq]
    exact ⟨fun _ _ _ _ _ h => h, fun _ _ _ _ _ h => h, fun _ _ _ _ _ h => h, fun _ _ _ _ _ h => h⟩
  repeat (first | (refine phi_skipK rfl (fun K hK => ?_); simp only [Act.put, List.setIfInBounds_toArray, List.set_cons_succ, List.set_cons_zero]; (try simp only [List.cons_append]); (try simp only [List.nil_append]); apply hK; clear hK K) | (refine phi_pureK rfl rfl (fun K hK => ?_); apply Exists.intro; constructor; (focus (rintro w' ⟨h0, hN⟩; (have k0 := (hN.cell 0).trans rfl; have k1 := (hN.cell 1).trans rfl; have k2 := (hN.cell 2).trans rfl; have k3 := (hN.cell 3).trans rfl; have k4 := (hN.cell 4).trans rfl; clear h0 hN); first | (go_simp; done) | (go_simp; (try go_bits); (try go_simp); rfl) | go_simp)); simp only [Act.put, List.setIfInBounds_toArray, List.set_cons_succ, List.set_cons_zero]; (try simp only [List.cons_append]); (try simp only [List.nil_append]); apply hK; clear hK K))
  refine phi_partK (PVal (.bool true)) rfl rfl ⟨_, rfl⟩ ?_ (fun K hK v hv => ?_)
  · rintro w' ⟨h0, hN⟩ _
    unfold gives
    go_simp
    refine (H1.out _ (HG.out _ h0)).mono ?_
    rintro e w'' ⟨rfl, hb⟩
    exact ⟨_, rfl, rfl, trivial, hb⟩
  obtain rfl : v = _ := hv
  simp only [Act.put, List.setIfInBounds_toArray, List.set_cons_succ, List.set_cons_zero]; (try simp only [List.cons_append]); (try simp only [List.nil_append])
  apply hK
  clear hK K
  repeat (first | (refine phi_skipK rfl (fun K hK => ?_); simp only [Act.put, List.setIfInBounds_toArray, List.set_cons_succ, List.set_cons_zero]; (try simp only [List.cons_append]); (try simp only [List.nil_append]); apply hK; clear hK K) | (refine phi_pureK rfl rfl (fun K hK => ?_); apply Exists.intro; constructor; (focus (rintro w' ⟨h0, hN⟩; (have k0 := (hN.cell 0).trans rfl; have k1 := (hN.cell 1).trans rfl; have k2 := (hN.cell 2).trans rfl; have k3 := (hN.cell 3).trans rfl; have k4 := (hN.cell 4).trans rfl; clear h0 hN); first | (go_simp; done) | (go_simp; (try go_bits); (try go_simp); rfl) | go_simp)); simp only [Act.put, List.setIfInBounds_toArray, List.set_cons_succ, List.set_cons_zero]; (try simp only [List.cons_append]); (try simp only [List.nil_append]); apply hK; clear hK K))
  refine phi_partK (PVal (.bool true)) rfl rfl ⟨_, rfl⟩ ?_ (fun K hK v hv => ?_)
  · rintro w' ⟨h0, hN⟩ _
    unfold gives
    go_simp
    refine (H2.out _ (HG.out _ h0)).mono ?_
    rintro e w'' ⟨rfl, hb⟩
    exact ⟨_, rfl, rfl, trivial, hb⟩
  obtain rfl : v = _ := hv
  simp only [Act.put, List.setIfInBounds_toArray, List.set_cons_succ, List.set_cons_zero]; (try simp only [List.cons_append]); (try simp only [List.nil_append])
  apply hK
  clear hK K
  repeat (first | (refine phi_skipK rfl (fun K hK => ?_); simp only [Act.put, List.setIfInBounds_toArray, List.set_cons_succ, List.set_cons_zero]; (try simp only [List.cons_append]); (try simp only [List.nil_append]); apply hK; clear hK K) | (refine phi_pureK rfl rfl (fun K hK => ?_); apply Exists.intro; constructor; (focus (rintro w' ⟨h0, hN⟩; (have k0 := (hN.cell 0).trans rfl; have k1 := (hN.cell 1).trans rfl; have k2 := (hN.cell 2).trans rfl; have k3 := (hN.cell 3).trans rfl; have k4 := (hN.cell 4).trans rfl; clear h0 hN); first | (go_simp; done) | (go_simp; (try go_bits); (try go_simp); rfl) | go_simp)); simp only [Act.put, List.setIfInBounds_toArray, List.set_cons_succ, List.set_cons_zero]; (try simp only [List.cons_append]); (try simp only [List.nil_append]); apply hK; clear hK K))
  refine phi_partK (PVal (.float .f64 x)) rfl rfl ⟨_, rfl⟩ ?_ (fun K hK v hv => ?_)
  · rintro w' ⟨h0, hN⟩ _
    unfold gives
    go_simp
    refine (HI.out _).mono ?_
    rintro e w'' ⟨rfl, hb⟩
    exact ⟨_, rfl, rfl, trivial, hb⟩
  obtain rfl : v = _ := hv
  simp only [Act.put, List.setIfInBounds_toArray, List.set_cons_succ, List.set_cons_zero]; (try simp only [List.cons_append]); (try simp only [List.nil_append])
  apply hK
  clear hK K
  repeat (first | (refine phi_skipK rfl (fun K hK => ?_); simp only [Act.put, List.setIfInBounds_toArray, List.set_cons_succ, List.set_cons_zero]; (try simp only [List.cons_append]); (try simp only [List.nil_append]); apply hK; clear hK K) | (refine phi_pureK rfl rfl (fun K hK => ?_); apply Exists.intro; constructor; (focus (rintro w' ⟨h0, hN⟩; (have k0 := (hN.cell 0).trans rfl; have k1 := (hN.cell 1).trans rfl; have k2 := (hN.cell 2).trans rfl; have k3 := (hN.cell 3).trans rfl; have k4 := (hN.cell 4).trans rfl; clear h0 hN); first | (go_simp; done) | (go_simp; (try go_bits); (try go_simp); rfl) | go_simp)); simp only [Act.put, List.setIfInBounds_toArray, List.set_cons_succ, List.set_cons_zero]; (try simp only [List.cons_append]); (try simp only [List.nil_append]); apply hK; clear hK K))
  refine phi_partK (PVal (.bool false)) rfl rfl ⟨_, rfl⟩ ?_ (fun K hK v hv => ?_)
  · rintro w' ⟨h0, hN⟩ _
    unfold gives
    go_simp
    refine (H3.out _ (HG.out _ h0)).mono ?_
    rintro e w'' ⟨rfl, hb⟩
    exact ⟨_, rfl, rfl, trivial, hb⟩
  obtain rfl : v = _ := hv
  simp only [Act.put, List.setIfInBounds_toArray, List.set_cons_succ, List.set_cons_zero]; (try simp only [List.cons_append]); (try simp only [List.nil_append])
  apply hK
  clear hK K
  repeat (first | (refine phi_skipK rfl (fun K hK => ?_); simp only [Act.put, List.setIfInBounds_toArray, List.set_cons_succ, List.set_cons_zero]; (try simp only [List.cons_append]); (try simp only [List.nil_append]); apply hK; clear hK K) | (refine phi_pureK rfl rfl (fun K hK => ?_); apply Exists.intro; constructor; (focus (rintro w' ⟨h0, hN⟩; (have k0 := (hN.cell 0).trans rfl; have k1 := (hN.cell 1).trans rfl; have k2 := (hN.cell 2).trans rfl; have k3 := (hN.cell 3).trans rfl; have k4 := (hN.cell 4).trans rfl; clear h0 hN); first | (go_simp; done) | (go_simp; (try go_bits); (try go_simp); rfl) | go_simp)); simp only [Act.put, List.setIfInBounds_toArray, List.set_cons_succ, List.set_cons_zero]; (try simp only [List.cons_append]); (try simp only [List.nil_append]); apply hK; clear hK K))
  refine phi_done ?_
  rintro w' ⟨hb, _⟩ _
  have B' := Lib.hid hb
  clear hb
  refine wpList_nil ?_
  go_wp2_with fail
  go_ret
  exact ⟨rfl, B'.out⟩
end Go.Proofs.YtejdnpbkljdahaaDoor
