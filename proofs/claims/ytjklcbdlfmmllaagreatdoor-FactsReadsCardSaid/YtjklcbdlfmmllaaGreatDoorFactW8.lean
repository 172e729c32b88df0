/-
  FactW8: a fact with its kind's fields alone: kind 8.
-/
import Derived.Test.YtjklcbdlfmmllaaGreatDoorFactW
namespace Go.Proofs.YtjklcbdlfmmllaaGreatDoor
open Go.RowKit Go.Extern.Stop Go.Stop Go.Extern Ieee
attribute [local go_sem] flt_def fgt_def feq_def fne_def
attribute [local go_sem] run_store_flt

set_option maxRecDepth 20000 in
set_option maxHeartbeats 8000000 in
theorem plain8_any (n s r nd p q o d pa st hw dc : Int) (x : Nat) (hn : -9223372036854775808 ≤ n) (hs : -9223372036854775808 ≤ s) (hx : x < 18446744073709551616) (w : World) (E : Nat → Addr) (h : IdsG w E) :
    Calls Tryz.prog 23 #[fctV ⟨8, n, s, r, nd, p, q, o, d, pa, st, hw, dc, x⟩] w fun e w' => e = .returned (.tuple #[fctV (plainP ⟨8, n, s, r, nd, p, q, o, d, pa, st, hw, dc, x⟩), .bool (plainO ⟨8, n, s, r, nd, p, q, o, d, pa, st, hw, dc, x⟩)]) ∧ Below w.heap.size w w' := by
  have HG := Lib.hid (fun w' (hb : Below w.heap.size w w') => h.below hb)
  have HID0 := Lib.hid (fun w' h => right_any w' E n s hn hs h)
  unfold actV at HID0
  have HID : RowKit.Hid (∀ w' : World, IdsG w' E → Calls Tryz.prog 51 #[.agg #[.int .i64 n, .int .i64 s]] w' fun e w'' => e = .returned (.bool (actB n s)) ∧ Below w'.heap.size w' w'') := Lib.hid HID0.out
  have HSC := Lib.hid (fun w' h => sright_any n s o d x hn hs hx w' E h)
  have HWI := Lib.hid within_any
  have HRG := Lib.hid isreg_any
  have HPA := Lib.hid ispart_any
  have HST := Lib.hid isstate_any
  clear HID0 hn hs hx h
  have HPV := Lib.hid (show plainP ⟨8, n, s, r, nd, p, q, o, d, pa, st, hw, dc, x⟩ = ⟨8, 0, 0, 0, 0, p, 0, 0, 0, 0, st, hw, 0, 0⟩ from rfl)
  have HOV := Lib.hid (show plainO ⟨8, n, s, r, nd, p, q, o, d, pa, st, hw, dc, x⟩ = (inR p 0 7 && stB st hw) from rfl)
  cases hvP : inR p 0 7
  · rw [hvP] at HOV
    have HVP := Lib.hid hvP
    clear hvP
    have B := Lib.hid (below_alloc (below_alloc1 w (.cells #[.int .i64 8, .int .i64 n, .int .i64 s, .int .i64 r, .int .i64 nd, .int .i64 p, .int .i64 q, .int .i64 o, .int .i64 d, .int .i64 pa, .int .i64 st, .int .i64 hw, .int .i64 dc, .float .f64 x] 26)) (.cells #[.int .i64 0, .int .i64 0, .int .i64 0, .int .i64 0, .int .i64 0, .int .i64 0, .int .i64 0, .int .i64 0, .int .i64 0, .int .i64 0, .int .i64 0, .int .i64 0, .int .i64 0, .float .f64 0] 26))
    have N := Lib.hid ((Blk.new w 26 #[.int .i64 8, .int .i64 n, .int .i64 s, .int .i64 r, .int .i64 nd, .int .i64 p, .int .i64 q, .int .i64 o, .int .i64 d, .int .i64 pa, .int .i64 st, .int .i64 hw, .int .i64 dc, .float .f64 x]).alloc (.cells #[.int .i64 0, .int .i64 0, .int .i64 0, .int .i64 0, .int .i64 0, .int .i64 0, .int .i64 0, .int .i64 0, .int .i64 0, .int .i64 0, .int .i64 0, .int .i64 0, .int .i64 0, .float .f64 0] 26))
    have M := Lib.hid (show Blk ((w.alloc (.cells #[.int .i64 8, .int .i64 n, .int .i64 s, .int .i64 r, .int .i64 nd, .int .i64 p, .int .i64 q, .int .i64 o, .int .i64 d, .int .i64 pa, .int .i64 st, .int .i64 hw, .int .i64 dc, .float .f64 x] 26)).alloc (.cells #[.int .i64 0, .int .i64 0, .int .i64 0, .int .i64 0, .int .i64 0, .int .i64 0, .int .i64 0, .int .i64 0, .int .i64 0, .int .i64 0, .int .i64 0, .int .i64 0, .int .i64 0, .float .f64 0] 26)) (w.heap.size + 1) 26 #[.int .i64 0, .int .i64 0, .int .i64 0, .int .i64 0, .int .i64 0, .int .i64 0, .int .i64 0, .int .i64 0, .int .i64 0, .int .i64 0, .int .i64 0, .int .i64 0, .int .i64 0, .float .f64 0] from by
      have := Blk.new (w.alloc (.cells #[.int .i64 8, .int .i64 n, .int .i64 s, .int .i64 r, .int .i64 nd, .int .i64 p, .int .i64 q, .int .i64 o, .int .i64 d, .int .i64 pa, .int .i64 st, .int .i64 hw, .int .i64 dc, .float .f64 x] 26)) 26 #[.int .i64 0, .int .i64 0, .int .i64 0, .int .i64 0, .int .i64 0, .int .i64 0, .int .i64 0, .int .i64 0, .int .i64 0, .int .i64 0, .int .i64 0, .int .i64 0, .int .i64 0, .float .f64 0]
      rwa [World.size_alloc] at this)
    have n0 := (N.out.cell 0).trans rfl
    have n1 := (N.out.cell 1).trans rfl
    have n2 := (N.out.cell 2).trans rfl
    have n3 := (N.out.cell 3).trans rfl
    have n4 := (N.out.cell 4).trans rfl
    have n5 := (N.out.cell 5).trans rfl
    have n6 := (N.out.cell 6).trans rfl
    have n7 := (N.out.cell 7).trans rfl
    have n8 := (N.out.cell 8).trans rfl
    have n9 := (N.out.cell 9).trans rfl
    have n10 := (N.out.cell 10).trans rfl
    have n11 := (N.out.cell 11).trans rfl
    have n12 := (N.out.cell 12).trans rfl
    have n13 := (N.out.cell 13).trans rfl
    unfold fctV fctA
    simp only
    go_enter Tryz.func23, Tryz.ntmps23
    go_wp2_with fail
    refine wp_phiU (fun p wa wb => if p = 19 then Only (w.heap.size + 1) wa wb else Below wa.heap.size wa wb) (fun wq => Below w.heap.size w wq ∧ Blk wq w.heap.size 26 #[.int .i64 8, .int .i64 n, .int .i64 s, .int .i64 r, .int .i64 nd, .int .i64 p, .int .i64 q, .int .i64 o, .int .i64 d, .int .i64 pa, .int .i64 st, .int .i64 hw, .int .i64 dc, .float .f64 x]) [(11, PVal (.bool false)), (17, PVal (.bool false)), (19, PSto fun wq => Blk wq (w.heap.size + 1) 26 #[.int .i64 8, .int .i64 0, .int .i64 0, .int .i64 0, .int .i64 0, .int .i64 p, .int .i64 0, .int .i64 0, .int .i64 0, .int .i64 0, .int .i64 st, .int .i64 hw, .int .i64 0, .float .f64 0])] [] [(19, fun wq => Blk wq (w.heap.size + 1) 26 #[.int .i64 0, .int .i64 0, .int .i64 0, .int .i64 0, .int .i64 0, .int .i64 0, .int .i64 0, .int .i64 0, .int .i64 0, .int .i64 0, .int .i64 0, .int .i64 0, .int .i64 0, .float .f64 0])] [] (by kernel_rfl) (by kernel_rfl) ?_ ?_ ?_ ?_ ⟨B.out.drew, N.out⟩ ?_
    · rintro p hp wa wb ⟨a1, a2⟩ hR
      by_cases hps : p.1 = 19
      · rw [if_pos hps] at hR
        exact ⟨a1.trans (hR.below (Nat.le_succ _)), hR.blk a2 (by omega)⟩
      · rw [if_neg hps] at hR
        exact ⟨a1.trans (hR.mono a1.size), a2.below hR a2.lt⟩
    · intro p hp p' hp' hne _ _ wa wb v hIa hR hf
      simp only [List.mem_cons, List.not_mem_nil, or_false] at hp
      rcases hp with rfl | rfl | rfl
      · trivial
      · trivial
      · by_cases hps : p'.1 = 19
        · exact absurd hps hne
        · rw [if_neg hps] at hR
          exact Blk.below hf hR (Blk.lt hf)
    · intro p hp u hu hne wa wb hIa hR hf
      simp only [List.mem_cons, List.not_mem_nil, or_false] at hu
      subst hu
      by_cases hps : p.1 = 19
      · exact absurd hps.symm hne
      · rw [if_neg hps] at hR
        exact Blk.below hf hR (Blk.lt hf)
    · intro u hu
      simp only [List.mem_cons, List.not_mem_nil, or_false] at hu
      subst hu
      exact M.out
    repeat (first | (refine phiU_skipK rfl (fun K hK => ?_); simp only [Act.put, List.setIfInBounds_toArray, List.set_cons_succ, List.set_cons_zero]; (try simp only [List.cons_append]); (try simp only [List.nil_append]); apply hK; clear hK K) | (refine phiU_pureK rfl rfl (fun K hK => ?_); apply Exists.intro; constructor; (focus (rintro w' ⟨h0, hN⟩; (have g0 := (hN.cell 0).trans rfl; have g1 := (hN.cell 1).trans rfl; have g2 := (hN.cell 2).trans rfl; have g3 := (hN.cell 3).trans rfl; have g4 := (hN.cell 4).trans rfl; have g5 := (hN.cell 5).trans rfl; have g6 := (hN.cell 6).trans rfl; have g7 := (hN.cell 7).trans rfl; have g8 := (hN.cell 8).trans rfl; have g9 := (hN.cell 9).trans rfl; have g10 := (hN.cell 10).trans rfl; have g11 := (hN.cell 11).trans rfl; have g12 := (hN.cell 12).trans rfl; have g13 := (hN.cell 13).trans rfl; clear h0 hN); first | (go_simp; done) | (go_simp; (try go_bits); (try go_simp); rfl) | go_simp)); simp only [Act.put, List.setIfInBounds_toArray, List.set_cons_succ, List.set_cons_zero]; (try simp only [List.cons_append]); (try simp only [List.nil_append]); apply hK; clear hK K))
    refine phiU_partK (PVal (.bool false)) rfl rfl ⟨_, rfl⟩ ?_ (fun K hK v hv => ?_)
    · rintro wq ⟨h0, hN⟩ _ _
      unfold gives
      go_simp
      refine (HPA.out _ _).mono ?_
      rintro e w'' ⟨rfl, hb⟩
      exact ⟨_, rfl, by rw [HVP.out] <;> rfl, trivial, hb⟩
    obtain rfl : v = _ := hv
    simp only [Act.put, List.setIfInBounds_toArray, List.set_cons_succ, List.set_cons_zero]; (try simp only [List.cons_append]); (try simp only [List.nil_append])
    apply hK
    clear hK K
    repeat (first | (refine phiU_skipK rfl (fun K hK => ?_); simp only [Act.put, List.setIfInBounds_toArray, List.set_cons_succ, List.set_cons_zero]; (try simp only [List.cons_append]); (try simp only [List.nil_append]); apply hK; clear hK K) | (refine phiU_pureK rfl rfl (fun K hK => ?_); apply Exists.intro; constructor; (focus (rintro w' ⟨h0, hN⟩; (have g0 := (hN.cell 0).trans rfl; have g1 := (hN.cell 1).trans rfl; have g2 := (hN.cell 2).trans rfl; have g3 := (hN.cell 3).trans rfl; have g4 := (hN.cell 4).trans rfl; have g5 := (hN.cell 5).trans rfl; have g6 := (hN.cell 6).trans rfl; have g7 := (hN.cell 7).trans rfl; have g8 := (hN.cell 8).trans rfl; have g9 := (hN.cell 9).trans rfl; have g10 := (hN.cell 10).trans rfl; have g11 := (hN.cell 11).trans rfl; have g12 := (hN.cell 12).trans rfl; have g13 := (hN.cell 13).trans rfl; clear h0 hN); first | (go_simp; done) | (go_simp; (try go_bits); (try go_simp); rfl) | go_simp)); simp only [Act.put, List.setIfInBounds_toArray, List.set_cons_succ, List.set_cons_zero]; (try simp only [List.cons_append]); (try simp only [List.nil_append]); apply hK; clear hK K))
    refine phiU_partK (PSto fun wq => Blk wq (w.heap.size + 1) 26 #[.int .i64 8, .int .i64 0, .int .i64 0, .int .i64 0, .int .i64 0, .int .i64 p, .int .i64 0, .int .i64 0, .int .i64 0, .int .i64 0, .int .i64 st, .int .i64 hw, .int .i64 0, .float .f64 0]) rfl rfl ⟨_, rfl⟩ ?_ (fun K hK v hv => ?_)
    · rintro wq ⟨h0, hN⟩ _ hu
      have hm : Blk wq (w.heap.size + 1) 26 #[.int .i64 0, .int .i64 0, .int .i64 0, .int .i64 0, .int .i64 0, .int .i64 0, .int .i64 0, .int .i64 0, .int .i64 0, .int .i64 0, .int .i64 0, .int .i64 0, .int .i64 0, .float .f64 0] := hu (19, fun wq => Blk wq (w.heap.size + 1) 26 #[.int .i64 0, .int .i64 0, .int .i64 0, .int .i64 0, .int .i64 0, .int .i64 0, .int .i64 0, .int .i64 0, .int .i64 0, .int .i64 0, .int .i64 0, .int .i64 0, .int .i64 0, .float .f64 0]) (by simp) rfl
      exact gives_store (.tmp 2) (.tmp 184) 26 rfl (w.heap.size + 1) 0 _ _ #[.int .i64 8, .int .i64 0, .int .i64 0, .int .i64 0, .int .i64 0, .int .i64 p, .int .i64 0, .int .i64 0, .int .i64 0, .int .i64 0, .int .i64 st, .int .i64 hw, .int .i64 0, .float .f64 0] rfl rfl hm (by kernel_rfl) (by simp [Value.oneCell']) (by simp) (fun w2 h2 h3 => ⟨rfl, h2, h3⟩)
    obtain rfl : v = _ := hv
    simp only [Act.put]; (try simp only [List.cons_append]); (try simp only [List.nil_append])
    apply hK
    clear hK K
    repeat (first | (refine phiU_skipK rfl (fun K hK => ?_); simp only [Act.put, List.setIfInBounds_toArray, List.set_cons_succ, List.set_cons_zero]; (try simp only [List.cons_append]); (try simp only [List.nil_append]); apply hK; clear hK K) | (refine phiU_pureK rfl rfl (fun K hK => ?_); apply Exists.intro; constructor; (focus (rintro w' ⟨h0, hN⟩; (have g0 := (hN.cell 0).trans rfl; have g1 := (hN.cell 1).trans rfl; have g2 := (hN.cell 2).trans rfl; have g3 := (hN.cell 3).trans rfl; have g4 := (hN.cell 4).trans rfl; have g5 := (hN.cell 5).trans rfl; have g6 := (hN.cell 6).trans rfl; have g7 := (hN.cell 7).trans rfl; have g8 := (hN.cell 8).trans rfl; have g9 := (hN.cell 9).trans rfl; have g10 := (hN.cell 10).trans rfl; have g11 := (hN.cell 11).trans rfl; have g12 := (hN.cell 12).trans rfl; have g13 := (hN.cell 13).trans rfl; clear h0 hN); first | (go_simp; done) | (go_simp; (try go_bits); (try go_simp); rfl) | go_simp)); simp only [Act.put, List.setIfInBounds_toArray, List.set_cons_succ, List.set_cons_zero]; (try simp only [List.cons_append]); (try simp only [List.nil_append]); apply hK; clear hK K))
    refine phiU_done ?_
    rintro w7 ⟨h0, hN⟩ hf
    have h7 : Blk w7 (w.heap.size + 1) 26 #[.int .i64 8, .int .i64 0, .int .i64 0, .int .i64 0, .int .i64 0, .int .i64 p, .int .i64 0, .int .i64 0, .int .i64 0, .int .i64 0, .int .i64 st, .int .i64 hw, .int .i64 0, .float .f64 0] := hf (19, fun wq => (PSto fun wq => Blk wq (w.heap.size + 1) 26 #[.int .i64 8, .int .i64 0, .int .i64 0, .int .i64 0, .int .i64 0, .int .i64 p, .int .i64 0, .int .i64 0, .int .i64 0, .int .i64 0, .int .i64 st, .int .i64 hw, .int .i64 0, .float .f64 0]).fact wq undef) (by simp) rfl
    have B7 := Lib.hid h0
    clear hf h0 hN
    have q0 := (h7.cell 0).trans rfl
    have q1 := (h7.cell 1).trans rfl
    have q2 := (h7.cell 2).trans rfl
    have q3 := (h7.cell 3).trans rfl
    have q4 := (h7.cell 4).trans rfl
    have q5 := (h7.cell 5).trans rfl
    have q6 := (h7.cell 6).trans rfl
    have q7 := (h7.cell 7).trans rfl
    have q8 := (h7.cell 8).trans rfl
    have q9 := (h7.cell 9).trans rfl
    have q10 := (h7.cell 10).trans rfl
    have q11 := (h7.cell 11).trans rfl
    have q12 := (h7.cell 12).trans rfl
    have q13 := (h7.cell 13).trans rfl
    refine wpList_nil ?_
    go_wp2_with fail
    refine bodyPost_ret (v := .tuple #[.agg #[.int .i64 8, .int .i64 0, .int .i64 0, .int .i64 0, .int .i64 0, .int .i64 p, .int .i64 0, .int .i64 0, .int .i64 0, .int .i64 0, .int .i64 st, .int .i64 hw, .int .i64 0, .float .f64 0], .bool false]) (by simp [results, Tryz.results23, go_sem, q0, q1, q2, q3, q4, q5, q6, q7, q8, q9, q10, q11, q12, q13]) rfl ?_
    exact ⟨by rw [HPV.out, HOV.out] <;> rfl, B7.out⟩
  · rw [hvP] at HOV
    have HVP := Lib.hid hvP
    clear hvP
    cases hvS : stB st hw
    · rw [hvS] at HOV
      have HVS := Lib.hid hvS
      clear hvS
      have B := Lib.hid (below_alloc (below_alloc1 w (.cells #[.int .i64 8, .int .i64 n, .int .i64 s, .int .i64 r, .int .i64 nd, .int .i64 p, .int .i64 q, .int .i64 o, .int .i64 d, .int .i64 pa, .int .i64 st, .int .i64 hw, .int .i64 dc, .float .f64 x] 26)) (.cells #[.int .i64 0, .int .i64 0, .int .i64 0, .int .i64 0, .int .i64 0, .int .i64 0, .int .i64 0, .int .i64 0, .int .i64 0, .int .i64 0, .int .i64 0, .int .i64 0, .int .i64 0, .float .f64 0] 26))
      have N := Lib.hid ((Blk.new w 26 #[.int .i64 8, .int .i64 n, .int .i64 s, .int .i64 r, .int .i64 nd, .int .i64 p, .int .i64 q, .int .i64 o, .int .i64 d, .int .i64 pa, .int .i64 st, .int .i64 hw, .int .i64 dc, .float .f64 x]).alloc (.cells #[.int .i64 0, .int .i64 0, .int .i64 0, .int .i64 0, .int .i64 0, .int .i64 0, .int .i64 0, .int .i64 0, .int .i64 0, .int .i64 0, .int .i64 0, .int .i64 0, .int .i64 0, .float .f64 0] 26))
      have M := Lib.hid (show Blk ((w.alloc (.cells #[.int .i64 8, .int .i64 n, .int .i64 s, .int .i64 r, .int .i64 nd, .int .i64 p, .int .i64 q, .int .i64 o, .int .i64 d, .int .i64 pa, .int .i64 st, .int .i64 hw, .int .i64 dc, .float .f64 x] 26)).alloc (.cells #[.int .i64 0, .int .i64 0, .int .i64 0, .int .i64 0, .int .i64 0, .int .i64 0, .int .i64 0, .int .i64 0, .int .i64 0, .int .i64 0, .int .i64 0, .int .i64 0, .int .i64 0, .float .f64 0] 26)) (w.heap.size + 1) 26 #[.int .i64 0, .int .i64 0, .int .i64 0, .int .i64 0, .int .i64 0, .int .i64 0, .int .i64 0, .int .i64 0, .int .i64 0, .int .i64 0, .int .i64 0, .int .i64 0, .int .i64 0, .float .f64 0] from by
        have := Blk.new (w.alloc (.cells #[.int .i64 8, .int .i64 n, .int .i64 s, .int .i64 r, .int .i64 nd, .int .i64 p, .int .i64 q, .int .i64 o, .int .i64 d, .int .i64 pa, .int .i64 st, .int .i64 hw, .int .i64 dc, .float .f64 x] 26)) 26 #[.int .i64 0, .int .i64 0, .int .i64 0, .int .i64 0, .int .i64 0, .int .i64 0, .int .i64 0, .int .i64 0, .int .i64 0, .int .i64 0, .int .i64 0, .int .i64 0, .int .i64 0, .float .f64 0]
        rwa [World.size_alloc] at this)
      have n0 := (N.out.cell 0).trans rfl
      have n1 := (N.out.cell 1).trans rfl
      have n2 := (N.out.cell 2).trans rfl
      have n3 := (N.out.cell 3).trans rfl
      have n4 := (N.out.cell 4).trans rfl
      have n5 := (N.out.cell 5).trans rfl
      have n6 := (N.out.cell 6).trans rfl
      have n7 := (N.out.cell 7).trans rfl
      have n8 := (N.out.cell 8).trans rfl
      have n9 := (N.out.cell 9).trans rfl
      have n10 := (N.out.cell 10).trans rfl
      have n11 := (N.out.cell 11).trans rfl
      have n12 := (N.out.cell 12).trans rfl
      have n13 := (N.out.cell 13).trans rfl
      unfold fctV fctA
      simp only
      go_enter Tryz.func23, Tryz.ntmps23
      go_wp2_with fail
      refine wp_phiU (fun p wa wb => if p = 19 then Only (w.heap.size + 1) wa wb else Below wa.heap.size wa wb) (fun wq => Below w.heap.size w wq ∧ Blk wq w.heap.size 26 #[.int .i64 8, .int .i64 n, .int .i64 s, .int .i64 r, .int .i64 nd, .int .i64 p, .int .i64 q, .int .i64 o, .int .i64 d, .int .i64 pa, .int .i64 st, .int .i64 hw, .int .i64 dc, .float .f64 x]) [(11, PVal (.bool true)), (17, PVal (.bool false)), (19, PSto fun wq => Blk wq (w.heap.size + 1) 26 #[.int .i64 8, .int .i64 0, .int .i64 0, .int .i64 0, .int .i64 0, .int .i64 p, .int .i64 0, .int .i64 0, .int .i64 0, .int .i64 0, .int .i64 st, .int .i64 hw, .int .i64 0, .float .f64 0])] [] [(19, fun wq => Blk wq (w.heap.size + 1) 26 #[.int .i64 0, .int .i64 0, .int .i64 0, .int .i64 0, .int .i64 0, .int .i64 0, .int .i64 0, .int .i64 0, .int .i64 0, .int .i64 0, .int .i64 0, .int .i64 0, .int .i64 0, .float .f64 0])] [] (by kernel_rfl) (by kernel_rfl) ?_ ?_ ?_ ?_ ⟨B.out.drew, N.out⟩ ?_
      · rintro p hp wa wb ⟨a1, a2⟩ hR
        by_cases hps : p.1 = 19
        · rw [if_pos hps] at hR
          exact ⟨a1.trans (hR.below (Nat.le_succ _)), hR.blk a2 (by omega)⟩
        · rw [if_neg hps] at hR
          exact ⟨a1.trans (hR.mono a1.size), a2.below hR a2.lt⟩
      · intro p hp p' hp' hne _ _ wa wb v hIa hR hf
        simp only [List.mem_cons, List.not_mem_nil, or_false] at hp
        rcases hp with rfl | rfl | rfl
        · trivial
        · trivial
        · by_cases hps : p'.1 = 19
          · exact absurd hps hne
          · rw [if_neg hps] at hR
            exact Blk.below hf hR (Blk.lt hf)
      · intro p hp u hu hne wa wb hIa hR hf
        simp only [List.mem_cons, List.not_mem_nil, or_false] at hu
        subst hu
        by_cases hps : p.1 = 19
        · exact absurd hps.symm hne
        · rw [if_neg hps] at hR
          exact Blk.below hf hR (Blk.lt hf)
      · intro u hu
        simp only [List.mem_cons, List.not_mem_nil, or_false] at hu
        subst hu
        exact M.out
      repeat (first | (refine phiU_skipK rfl (fun K hK => ?_); simp only [Act.put, List.setIfInBounds_toArray, List.set_cons_succ, List.set_cons_zero]; (try simp only [List.cons_append]); (try simp only [List.nil_append]); apply hK; clear hK K) | (refine phiU_pureK rfl rfl (fun K hK => ?_); apply Exists.intro; constructor; (focus (rintro w' ⟨h0, hN⟩; (have g0 := (hN.cell 0).trans rfl; have g1 := (hN.cell 1).trans rfl; have g2 := (hN.cell 2).trans rfl; have g3 := (hN.cell 3).trans rfl; have g4 := (hN.cell 4).trans rfl; have g5 := (hN.cell 5).trans rfl; have g6 := (hN.cell 6).trans rfl; have g7 := (hN.cell 7).trans rfl; have g8 := (hN.cell 8).trans rfl; have g9 := (hN.cell 9).trans rfl; have g10 := (hN.cell 10).trans rfl; have g11 := (hN.cell 11).trans rfl; have g12 := (hN.cell 12).trans rfl; have g13 := (hN.cell 13).trans rfl; clear h0 hN); first | (go_simp; done) | (go_simp; (try go_bits); (try go_simp); rfl) | go_simp)); simp only [Act.put, List.setIfInBounds_toArray, List.set_cons_succ, List.set_cons_zero]; (try simp only [List.cons_append]); (try simp only [List.nil_append]); apply hK; clear hK K))
      refine phiU_partK (PVal (.bool true)) rfl rfl ⟨_, rfl⟩ ?_ (fun K hK v hv => ?_)
      · rintro wq ⟨h0, hN⟩ _ _
        unfold gives
        go_simp
        refine (HPA.out _ _).mono ?_
        rintro e w'' ⟨rfl, hb⟩
        exact ⟨_, rfl, by rw [HVP.out] <;> rfl, trivial, hb⟩
      obtain rfl : v = _ := hv
      simp only [Act.put, List.setIfInBounds_toArray, List.set_cons_succ, List.set_cons_zero]; (try simp only [List.cons_append]); (try simp only [List.nil_append])
      apply hK
      clear hK K
      repeat (first | (refine phiU_skipK rfl (fun K hK => ?_); simp only [Act.put, List.setIfInBounds_toArray, List.set_cons_succ, List.set_cons_zero]; (try simp only [List.cons_append]); (try simp only [List.nil_append]); apply hK; clear hK K) | (refine phiU_pureK rfl rfl (fun K hK => ?_); apply Exists.intro; constructor; (focus (rintro w' ⟨h0, hN⟩; (have g0 := (hN.cell 0).trans rfl; have g1 := (hN.cell 1).trans rfl; have g2 := (hN.cell 2).trans rfl; have g3 := (hN.cell 3).trans rfl; have g4 := (hN.cell 4).trans rfl; have g5 := (hN.cell 5).trans rfl; have g6 := (hN.cell 6).trans rfl; have g7 := (hN.cell 7).trans rfl; have g8 := (hN.cell 8).trans rfl; have g9 := (hN.cell 9).trans rfl; have g10 := (hN.cell 10).trans rfl; have g11 := (hN.cell 11).trans rfl; have g12 := (hN.cell 12).trans rfl; have g13 := (hN.cell 13).trans rfl; clear h0 hN); first | (go_simp; done) | (go_simp; (try go_bits); (try go_simp); rfl) | go_simp)); simp only [Act.put, List.setIfInBounds_toArray, List.set_cons_succ, List.set_cons_zero]; (try simp only [List.cons_append]); (try simp only [List.nil_append]); apply hK; clear hK K))
      refine phiU_partK (PVal (.bool false)) rfl rfl ⟨_, rfl⟩ ?_ (fun K hK v hv => ?_)
      · rintro wq ⟨h0, hN⟩ _ _
        unfold gives
        go_simp
        refine (HST.out _ _ _).mono ?_
        rintro e w'' ⟨rfl, hb⟩
        exact ⟨_, rfl, by rw [HVS.out] <;> rfl, trivial, hb⟩
      obtain rfl : v = _ := hv
      simp only [Act.put, List.setIfInBounds_toArray, List.set_cons_succ, List.set_cons_zero]; (try simp only [List.cons_append]); (try simp only [List.nil_append])
      apply hK
      clear hK K
      repeat (first | (refine phiU_skipK rfl (fun K hK => ?_); simp only [Act.put, List.setIfInBounds_toArray, List.set_cons_succ, List.set_cons_zero]; (try simp only [List.cons_append]); (try simp only [List.nil_append]); apply hK; clear hK K) | (refine phiU_pureK rfl rfl (fun K hK => ?_); apply Exists.intro; constructor; (focus (rintro w' ⟨h0, hN⟩; (have g0 := (hN.cell 0).trans rfl; have g1 := (hN.cell 1).trans rfl; have g2 := (hN.cell 2).trans rfl; have g3 := (hN.cell 3).trans rfl; have g4 := (hN.cell 4).trans rfl; have g5 := (hN.cell 5).trans rfl; have g6 := (hN.cell 6).trans rfl; have g7 := (hN.cell 7).trans rfl; have g8 := (hN.cell 8).trans rfl; have g9 := (hN.cell 9).trans rfl; have g10 := (hN.cell 10).trans rfl; have g11 := (hN.cell 11).trans rfl; have g12 := (hN.cell 12).trans rfl; have g13 := (hN.cell 13).trans rfl; clear h0 hN); first | (go_simp; done) | (go_simp; (try go_bits); (try go_simp); rfl) | go_simp)); simp only [Act.put, List.setIfInBounds_toArray, List.set_cons_succ, List.set_cons_zero]; (try simp only [List.cons_append]); (try simp only [List.nil_append]); apply hK; clear hK K))
      refine phiU_partK (PSto fun wq => Blk wq (w.heap.size + 1) 26 #[.int .i64 8, .int .i64 0, .int .i64 0, .int .i64 0, .int .i64 0, .int .i64 p, .int .i64 0, .int .i64 0, .int .i64 0, .int .i64 0, .int .i64 st, .int .i64 hw, .int .i64 0, .float .f64 0]) rfl rfl ⟨_, rfl⟩ ?_ (fun K hK v hv => ?_)
      · rintro wq ⟨h0, hN⟩ _ hu
        have hm : Blk wq (w.heap.size + 1) 26 #[.int .i64 0, .int .i64 0, .int .i64 0, .int .i64 0, .int .i64 0, .int .i64 0, .int .i64 0, .int .i64 0, .int .i64 0, .int .i64 0, .int .i64 0, .int .i64 0, .int .i64 0, .float .f64 0] := hu (19, fun wq => Blk wq (w.heap.size + 1) 26 #[.int .i64 0, .int .i64 0, .int .i64 0, .int .i64 0, .int .i64 0, .int .i64 0, .int .i64 0, .int .i64 0, .int .i64 0, .int .i64 0, .int .i64 0, .int .i64 0, .int .i64 0, .float .f64 0]) (by simp) rfl
        exact gives_store (.tmp 2) (.tmp 184) 26 rfl (w.heap.size + 1) 0 _ _ #[.int .i64 8, .int .i64 0, .int .i64 0, .int .i64 0, .int .i64 0, .int .i64 p, .int .i64 0, .int .i64 0, .int .i64 0, .int .i64 0, .int .i64 st, .int .i64 hw, .int .i64 0, .float .f64 0] rfl rfl hm (by kernel_rfl) (by simp [Value.oneCell']) (by simp) (fun w2 h2 h3 => ⟨rfl, h2, h3⟩)
      obtain rfl : v = _ := hv
      simp only [Act.put]; (try simp only [List.cons_append]); (try simp only [List.nil_append])
      apply hK
      clear hK K
      repeat (first | (refine phiU_skipK rfl (fun K hK => ?_); simp only [Act.put, List.setIfInBounds_toArray, List.set_cons_succ, List.set_cons_zero]; (try simp only [List.cons_append]); (try simp only [List.nil_append]); apply hK; clear hK K) | (refine phiU_pureK rfl rfl (fun K hK => ?_); apply Exists.intro; constructor; (focus (rintro w' ⟨h0, hN⟩; (have g0 := (hN.cell 0).trans rfl; have g1 := (hN.cell 1).trans rfl; have g2 := (hN.cell 2).trans rfl; have g3 := (hN.cell 3).trans rfl; have g4 := (hN.cell 4).trans rfl; have g5 := (hN.cell 5).trans rfl; have g6 := (hN.cell 6).trans rfl; have g7 := (hN.cell 7).trans rfl; have g8 := (hN.cell 8).trans rfl; have g9 := (hN.cell 9).trans rfl; have g10 := (hN.cell 10).trans rfl; have g11 := (hN.cell 11).trans rfl; have g12 := (hN.cell 12).trans rfl; have g13 := (hN.cell 13).trans rfl; clear h0 hN); first | (go_simp; done) | (go_simp; (try go_bits); (try go_simp); rfl) | go_simp)); simp only [Act.put, List.setIfInBounds_toArray, List.set_cons_succ, List.set_cons_zero]; (try simp only [List.cons_append]); (try simp only [List.nil_append]); apply hK; clear hK K))
      refine phiU_done ?_
      rintro w7 ⟨h0, hN⟩ hf
      have h7 : Blk w7 (w.heap.size + 1) 26 #[.int .i64 8, .int .i64 0, .int .i64 0, .int .i64 0, .int .i64 0, .int .i64 p, .int .i64 0, .int .i64 0, .int .i64 0, .int .i64 0, .int .i64 st, .int .i64 hw, .int .i64 0, .float .f64 0] := hf (19, fun wq => (PSto fun wq => Blk wq (w.heap.size + 1) 26 #[.int .i64 8, .int .i64 0, .int .i64 0, .int .i64 0, .int .i64 0, .int .i64 p, .int .i64 0, .int .i64 0, .int .i64 0, .int .i64 0, .int .i64 st, .int .i64 hw, .int .i64 0, .float .f64 0]).fact wq undef) (by simp) rfl
      have B7 := Lib.hid h0
      clear hf h0 hN
      have q0 := (h7.cell 0).trans rfl
      have q1 := (h7.cell 1).trans rfl
      have q2 := (h7.cell 2).trans rfl
      have q3 := (h7.cell 3).trans rfl
      have q4 := (h7.cell 4).trans rfl
      have q5 := (h7.cell 5).trans rfl
      have q6 := (h7.cell 6).trans rfl
      have q7 := (h7.cell 7).trans rfl
      have q8 := (h7.cell 8).trans rfl
      have q9 := (h7.cell 9).trans rfl
      have q10 := (h7.cell 10).trans rfl
      have q11 := (h7.cell 11).trans rfl
      have q12 := (h7.cell 12).trans rfl
      have q13 := (h7.cell 13).trans rfl
      refine wpList_nil ?_
      go_wp2_with fail
      refine bodyPost_ret (v := .tuple #[.agg #[.int .i64 8, .int .i64 0, .int .i64 0, .int .i64 0, .int .i64 0, .int .i64 p, .int .i64 0, .int .i64 0, .int .i64 0, .int .i64 0, .int .i64 st, .int .i64 hw, .int .i64 0, .float .f64 0], .bool false]) (by simp [results, Tryz.results23, go_sem, q0, q1, q2, q3, q4, q5, q6, q7, q8, q9, q10, q11, q12, q13]) rfl ?_
      exact ⟨by rw [HPV.out, HOV.out] <;> rfl, B7.out⟩
    · rw [hvS] at HOV
      have HVS := Lib.hid hvS
      clear hvS
      have B := Lib.hid (below_alloc (below_alloc1 w (.cells #[.int .i64 8, .int .i64 n, .int .i64 s, .int .i64 r, .int .i64 nd, .int .i64 p, .int .i64 q, .int .i64 o, .int .i64 d, .int .i64 pa, .int .i64 st, .int .i64 hw, .int .i64 dc, .float .f64 x] 26)) (.cells #[.int .i64 0, .int .i64 0, .int .i64 0, .int .i64 0, .int .i64 0, .int .i64 0, .int .i64 0, .int .i64 0, .int .i64 0, .int .i64 0, .int .i64 0, .int .i64 0, .int .i64 0, .float .f64 0] 26))
      have N := Lib.hid ((Blk.new w 26 #[.int .i64 8, .int .i64 n, .int .i64 s, .int .i64 r, .int .i64 nd, .int .i64 p, .int .i64 q, .int .i64 o, .int .i64 d, .int .i64 pa, .int .i64 st, .int .i64 hw, .int .i64 dc, .float .f64 x]).alloc (.cells #[.int .i64 0, .int .i64 0, .int .i64 0, .int .i64 0, .int .i64 0, .int .i64 0, .int .i64 0, .int .i64 0, .int .i64 0, .int .i64 0, .int .i64 0, .int .i64 0, .int .i64 0, .float .f64 0] 26))
      have M := Lib.hid (show Blk ((w.alloc (.cells #[.int .i64 8, .int .i64 n, .int .i64 s, .int .i64 r, .int .i64 nd, .int .i64 p, .int .i64 q, .int .i64 o, .int .i64 d, .int .i64 pa, .int .i64 st, .int .i64 hw, .int .i64 dc, .float .f64 x] 26)).alloc (.cells #[.int .i64 0, .int .i64 0, .int .i64 0, .int .i64 0, .int .i64 0, .int .i64 0, .int .i64 0, .int .i64 0, .int .i64 0, .int .i64 0, .int .i64 0, .int .i64 0, .int .i64 0, .float .f64 0] 26)) (w.heap.size + 1) 26 #[.int .i64 0, .int .i64 0, .int .i64 0, .int .i64 0, .int .i64 0, .int .i64 0, .int .i64 0, .int .i64 0, .int .i64 0, .int .i64 0, .int .i64 0, .int .i64 0, .int .i64 0, .float .f64 0] from by
        have := Blk.new (w.alloc (.cells #[.int .i64 8, .int .i64 n, .int .i64 s, .int .i64 r, .int .i64 nd, .int .i64 p, .int .i64 q, .int .i64 o, .int .i64 d, .int .i64 pa, .int .i64 st, .int .i64 hw, .int .i64 dc, .float .f64 x] 26)) 26 #[.int .i64 0, .int .i64 0, .int .i64 0, .int .i64 0, .int .i64 0, .int .i64 0, .int .i64 0, .int .i64 0, .int .i64 0, .int .i64 0, .int .i64 0, .int .i64 0, .int .i64 0, .float .f64 0]
        rwa [World.size_alloc] at this)
      have n0 := (N.out.cell 0).trans rfl
      have n1 := (N.out.cell 1).trans rfl
      have n2 := (N.out.cell 2).trans rfl
      have n3 := (N.out.cell 3).trans rfl
      have n4 := (N.out.cell 4).trans rfl
      have n5 := (N.out.cell 5).trans rfl
      have n6 := (N.out.cell 6).trans rfl
      have n7 := (N.out.cell 7).trans rfl
      have n8 := (N.out.cell 8).trans rfl
      have n9 := (N.out.cell 9).trans rfl
      have n10 := (N.out.cell 10).trans rfl
      have n11 := (N.out.cell 11).trans rfl
      have n12 := (N.out.cell 12).trans rfl
      have n13 := (N.out.cell 13).trans rfl
      unfold fctV fctA
      simp only
      go_enter Tryz.func23, Tryz.ntmps23
      go_wp2_with fail
      refine wp_phiU (fun p wa wb => if p = 19 then Only (w.heap.size + 1) wa wb else Below wa.heap.size wa wb) (fun wq => Below w.heap.size w wq ∧ Blk wq w.heap.size 26 #[.int .i64 8, .int .i64 n, .int .i64 s, .int .i64 r, .int .i64 nd, .int .i64 p, .int .i64 q, .int .i64 o, .int .i64 d, .int .i64 pa, .int .i64 st, .int .i64 hw, .int .i64 dc, .float .f64 x]) [(11, PVal (.bool true)), (17, PVal (.bool true)), (19, PSto fun wq => Blk wq (w.heap.size + 1) 26 #[.int .i64 8, .int .i64 0, .int .i64 0, .int .i64 0, .int .i64 0, .int .i64 p, .int .i64 0, .int .i64 0, .int .i64 0, .int .i64 0, .int .i64 st, .int .i64 hw, .int .i64 0, .float .f64 0])] [] [(19, fun wq => Blk wq (w.heap.size + 1) 26 #[.int .i64 0, .int .i64 0, .int .i64 0, .int .i64 0, .int .i64 0, .int .i64 0, .int .i64 0, .int .i64 0, .int .i64 0, .int .i64 0, .int .i64 0, .int .i64 0, .int .i64 0, .float .f64 0])] [] (by kernel_rfl) (by kernel_rfl) ?_ ?_ ?_ ?_ ⟨B.out.drew, N.out⟩ ?_
      · rintro p hp wa wb ⟨a1, a2⟩ hR
        by_cases hps : p.1 = 19
        · rw [if_pos hps] at hR
          exact ⟨a1.trans (hR.below (Nat.le_succ _)), hR.blk a2 (by omega)⟩
        · rw [if_neg hps] at hR
          exact ⟨a1.trans (hR.mono a1.size), a2.below hR a2.lt⟩
      · intro p hp p' hp' hne _ _ wa wb v hIa hR hf
        simp only [List.mem_cons, List.not_mem_nil, or_false] at hp
        rcases hp with rfl | rfl | rfl
        · trivial
        · trivial
        · by_cases hps : p'.1 = 19
          · exact absurd hps hne
          · rw [if_neg hps] at hR
            exact Blk.below hf hR (Blk.lt hf)
      · intro p hp u hu hne wa wb hIa hR hf
        simp only [List.mem_cons, List.not_mem_nil, or_false] at hu
        subst hu
        by_cases hps : p.1 = 19
        · exact absurd hps.symm hne
        · rw [if_neg hps] at hR
          exact Blk.below hf hR (Blk.lt hf)
      · intro u hu
        simp only [List.mem_cons, List.not_mem_nil, or_false] at hu
        subst hu
        exact M.out
      repeat (first | (refine phiU_skipK rfl (fun K hK => ?_); simp only [Act.put, List.setIfInBounds_toArray, List.set_cons_succ, List.set_cons_zero]; (try simp only [List.cons_append]); (try simp only [List.nil_append]); apply hK; clear hK K) | (refine phiU_pureK rfl rfl (fun K hK => ?_); apply Exists.intro; constructor; (focus (rintro w' ⟨h0, hN⟩; (have g0 := (hN.cell 0).trans rfl; have g1 := (hN.cell 1).trans rfl; have g2 := (hN.cell 2).trans rfl; have g3 := (hN.cell 3).trans rfl; have g4 := (hN.cell 4).trans rfl; have g5 := (hN.cell 5).trans rfl; have g6 := (hN.cell 6).trans rfl; have g7 := (hN.cell 7).trans rfl; have g8 := (hN.cell 8).trans rfl; have g9 := (hN.cell 9).trans rfl; have g10 := (hN.cell 10).trans rfl; have g11 := (hN.cell 11).trans rfl; have g12 := (hN.cell 12).trans rfl; have g13 := (hN.cell 13).trans rfl; clear h0 hN); first | (go_simp; done) | (go_simp; (try go_bits); (try go_simp); rfl) | go_simp)); simp only [Act.put, List.setIfInBounds_toArray, List.set_cons_succ, List.set_cons_zero]; (try simp only [List.cons_append]); (try simp only [List.nil_append]); apply hK; clear hK K))
      refine phiU_partK (PVal (.bool true)) rfl rfl ⟨_, rfl⟩ ?_ (fun K hK v hv => ?_)
      · rintro wq ⟨h0, hN⟩ _ _
        unfold gives
        go_simp
        refine (HPA.out _ _).mono ?_
        rintro e w'' ⟨rfl, hb⟩
        exact ⟨_, rfl, by rw [HVP.out] <;> rfl, trivial, hb⟩
      obtain rfl : v = _ := hv
      simp only [Act.put, List.setIfInBounds_toArray, List.set_cons_succ, List.set_cons_zero]; (try simp only [List.cons_append]); (try simp only [List.nil_append])
      apply hK
      clear hK K
      repeat (first | (refine phiU_skipK rfl (fun K hK => ?_); simp only [Act.put, List.setIfInBounds_toArray, List.set_cons_succ, List.set_cons_zero]; (try simp only [List.cons_append]); (try simp only [List.nil_append]); apply hK; clear hK K) | (refine phiU_pureK rfl rfl (fun K hK => ?_); apply Exists.intro; constructor; (focus (rintro w' ⟨h0, hN⟩; (have g0 := (hN.cell 0).trans rfl; have g1 := (hN.cell 1).trans rfl; have g2 := (hN.cell 2).trans rfl; have g3 := (hN.cell 3).trans rfl; have g4 := (hN.cell 4).trans rfl; have g5 := (hN.cell 5).trans rfl; have g6 := (hN.cell 6).trans rfl; have g7 := (hN.cell 7).trans rfl; have g8 := (hN.cell 8).trans rfl; have g9 := (hN.cell 9).trans rfl; have g10 := (hN.cell 10).trans rfl; have g11 := (hN.cell 11).trans rfl; have g12 := (hN.cell 12).trans rfl; have g13 := (hN.cell 13).trans rfl; clear h0 hN); first | (go_simp; done) | (go_simp; (try go_bits); (try go_simp); rfl) | go_simp)); simp only [Act.put, List.setIfInBounds_toArray, List.set_cons_succ, List.set_cons_zero]; (try simp only [List.cons_append]); (try simp only [List.nil_append]); apply hK; clear hK K))
      refine phiU_partK (PVal (.bool true)) rfl rfl ⟨_, rfl⟩ ?_ (fun K hK v hv => ?_)
      · rintro wq ⟨h0, hN⟩ _ _
        unfold gives
        go_simp
        refine (HST.out _ _ _).mono ?_
        rintro e w'' ⟨rfl, hb⟩
        exact ⟨_, rfl, by rw [HVS.out] <;> rfl, trivial, hb⟩
      obtain rfl : v = _ := hv
      simp only [Act.put, List.setIfInBounds_toArray, List.set_cons_succ, List.set_cons_zero]; (try simp only [List.cons_append]); (try simp only [List.nil_append])
      apply hK
      clear hK K
      repeat (first | (refine phiU_skipK rfl (fun K hK => ?_); simp only [Act.put, List.setIfInBounds_toArray, List.set_cons_succ, List.set_cons_zero]; (try simp only [List.cons_append]); (try simp only [List.nil_append]); apply hK; clear hK K) | (refine phiU_pureK rfl rfl (fun K hK => ?_); apply Exists.intro; constructor; (focus (rintro w' ⟨h0, hN⟩; (have g0 := (hN.cell 0).trans rfl; have g1 := (hN.cell 1).trans rfl; have g2 := (hN.cell 2).trans rfl; have g3 := (hN.cell 3).trans rfl; have g4 := (hN.cell 4).trans rfl; have g5 := (hN.cell 5).trans rfl; have g6 := (hN.cell 6).trans rfl; have g7 := (hN.cell 7).trans rfl; have g8 := (hN.cell 8).trans rfl; have g9 := (hN.cell 9).trans rfl; have g10 := (hN.cell 10).trans rfl; have g11 := (hN.cell 11).trans rfl; have g12 := (hN.cell 12).trans rfl; have g13 := (hN.cell 13).trans rfl; clear h0 hN); first | (go_simp; done) | (go_simp; (try go_bits); (try go_simp); rfl) | go_simp)); simp only [Act.put, List.setIfInBounds_toArray, List.set_cons_succ, List.set_cons_zero]; (try simp only [List.cons_append]); (try simp only [List.nil_append]); apply hK; clear hK K))
      refine phiU_partK (PSto fun wq => Blk wq (w.heap.size + 1) 26 #[.int .i64 8, .int .i64 0, .int .i64 0, .int .i64 0, .int .i64 0, .int .i64 p, .int .i64 0, .int .i64 0, .int .i64 0, .int .i64 0, .int .i64 st, .int .i64 hw, .int .i64 0, .float .f64 0]) rfl rfl ⟨_, rfl⟩ ?_ (fun K hK v hv => ?_)
      · rintro wq ⟨h0, hN⟩ _ hu
        have hm : Blk wq (w.heap.size + 1) 26 #[.int .i64 0, .int .i64 0, .int .i64 0, .int .i64 0, .int .i64 0, .int .i64 0, .int .i64 0, .int .i64 0, .int .i64 0, .int .i64 0, .int .i64 0, .int .i64 0, .int .i64 0, .float .f64 0] := hu (19, fun wq => Blk wq (w.heap.size + 1) 26 #[.int .i64 0, .int .i64 0, .int .i64 0, .int .i64 0, .int .i64 0, .int .i64 0, .int .i64 0, .int .i64 0, .int .i64 0, .int .i64 0, .int .i64 0, .int .i64 0, .int .i64 0, .float .f64 0]) (by simp) rfl
        exact gives_store (.tmp 2) (.tmp 184) 26 rfl (w.heap.size + 1) 0 _ _ #[.int .i64 8, .int .i64 0, .int .i64 0, .int .i64 0, .int .i64 0, .int .i64 p, .int .i64 0, .int .i64 0, .int .i64 0, .int .i64 0, .int .i64 st, .int .i64 hw, .int .i64 0, .float .f64 0] rfl rfl hm (by kernel_rfl) (by simp [Value.oneCell']) (by simp) (fun w2 h2 h3 => ⟨rfl, h2, h3⟩)
      obtain rfl : v = _ := hv
      simp only [Act.put]; (try simp only [List.cons_append]); (try simp only [List.nil_append])
      apply hK
      clear hK K
      repeat (first | (refine phiU_skipK rfl (fun K hK => ?_); simp only [Act.put, List.setIfInBounds_toArray, List.set_cons_succ, List.set_cons_zero]; (try simp only [List.cons_append]); (try simp only [List.nil_append]); apply hK; clear hK K) | (refine phiU_pureK rfl rfl (fun K hK => ?_); apply Exists.intro; constructor; (focus (rintro w' ⟨h0, hN⟩; (have g0 := (hN.cell 0).trans rfl; have g1 := (hN.cell 1).trans rfl; have g2 := (hN.cell 2).trans rfl; have g3 := (hN.cell 3).trans rfl; have g4 := (hN.cell 4).trans rfl; have g5 := (hN.cell 5).trans rfl; have g6 := (hN.cell 6).trans rfl; have g7 := (hN.cell 7).trans rfl; have g8 := (hN.cell 8).trans rfl; have g9 := (hN.cell 9).trans rfl; have g10 := (hN.cell 10).trans rfl; have g11 := (hN.cell 11).trans rfl; have g12 := (hN.cell 12).trans rfl; have g13 := (hN.cell 13).trans rfl; clear h0 hN); first | (go_simp; done) | (go_simp; (try go_bits); (try go_simp); rfl) | go_simp)); simp only [Act.put, List.setIfInBounds_toArray, List.set_cons_succ, List.set_cons_zero]; (try simp only [List.cons_append]); (try simp only [List.nil_append]); apply hK; clear hK K))
      refine phiU_done ?_
      rintro w7 ⟨h0, hN⟩ hf
      have h7 : Blk w7 (w.heap.size + 1) 26 #[.int .i64 8, .int .i64 0, .int .i64 0, .int .i64 0, .int .i64 0, .int .i64 p, .int .i64 0, .int .i64 0, .int .i64 0, .int .i64 0, .int .i64 st, .int .i64 hw, .int .i64 0, .float .f64 0] := hf (19, fun wq => (PSto fun wq => Blk wq (w.heap.size + 1) 26 #[.int .i64 8, .int .i64 0, .int .i64 0, .int .i64 0, .int .i64 0, .int .i64 p, .int .i64 0, .int .i64 0, .int .i64 0, .int .i64 0, .int .i64 st, .int .i64 hw, .int .i64 0, .float .f64 0]).fact wq undef) (by simp) rfl
      have B7 := Lib.hid h0
      clear hf h0 hN
      have q0 := (h7.cell 0).trans rfl
      have q1 := (h7.cell 1).trans rfl
      have q2 := (h7.cell 2).trans rfl
      have q3 := (h7.cell 3).trans rfl
      have q4 := (h7.cell 4).trans rfl
      have q5 := (h7.cell 5).trans rfl
      have q6 := (h7.cell 6).trans rfl
      have q7 := (h7.cell 7).trans rfl
      have q8 := (h7.cell 8).trans rfl
      have q9 := (h7.cell 9).trans rfl
      have q10 := (h7.cell 10).trans rfl
      have q11 := (h7.cell 11).trans rfl
      have q12 := (h7.cell 12).trans rfl
      have q13 := (h7.cell 13).trans rfl
      refine wpList_nil ?_
      go_wp2_with fail
      refine bodyPost_ret (v := .tuple #[.agg #[.int .i64 8, .int .i64 0, .int .i64 0, .int .i64 0, .int .i64 0, .int .i64 p, .int .i64 0, .int .i64 0, .int .i64 0, .int .i64 0, .int .i64 st, .int .i64 hw, .int .i64 0, .float .f64 0], .bool true]) (by simp [results, Tryz.results23, go_sem, q0, q1, q2, q3, q4, q5, q6, q7, q8, q9, q10, q11, q12, q13]) rfl ?_
      exact ⟨by rw [HPV.out, HOV.out] <;> rfl, B7.out⟩
end Go.Proofs.YtjklcbdlfmmllaaGreatDoor
