/-
  ScopeC2: package scope's child of a context.
-/
import Derived.Test.YtejdnpbkljdahaaDoorScopeC
import Derived.Test.YtejdnpbkljdahaaDoorRetErr
namespace Go.Proofs.YtejdnpbkljdahaaDoor
open Go.RowKit Go.Extern.Stop Go.Stop Go.Extern Ieee
attribute [local go_sem] flt_def fgt_def feq_def fne_def
attribute [local go_sem] run_store_flt

set_option maxRecDepth 20000 in
set_option maxHeartbeats 4000000 in
theorem schild_any (n s o d : Int) (x : Nat) (a b p : Int) (hn : -9223372036854775808 ≤ n) (hs : -9223372036854775808 ≤ s) (ha0 : -9223372036854775808 ≤ a) (hb0 : -9223372036854775808 ≤ b) (hx : x < 18446744073709551616) (w : World) (E : Nat → Addr) (h : IdsG w E) :
    Calls Tryd.prog 15 #[.agg #[.int .i64 n, .int .i64 s, .int .i64 o, .int .i64 d, .float .f64 x], .agg #[.int .i64 a, .int .i64 b], .int .i64 p] w fun e w' => Below w.heap.size w w' ∧ e = .returned (.tuple #[ctxV (childC ⟨n, s, o, d, x⟩ a b p), errV E (childE ⟨n, s, o, d, x⟩ a b p)]) := by
  have HG := Lib.hid (fun w' (hb : Below w.heap.size w w') => h.below hb)
  have HR := Lib.hid (fun w' h => sright_any n s o d x hn hs hx w' E h)
  have HA := Lib.hid (fun w' h => right_any w' E a b ha0 hb0 h)
  have HI := Lib.hid (fun w' => isout_any p w')
  unfold actV at HA
  clear hx hn hs ha0 hb0 h
  have hb1 := below_alloc (below_alloc (below_alloc1 w (.cells #[.int .i64 n, .int .i64 s, .int .i64 o, .int .i64 d, .float .f64 x] 29)) (.cells #[.int .i64 a, .int .i64 b] 23)) (.cells #[.int .i64 0, .int .i64 0, .int .i64 0, .int .i64 0, .float .f64 0] 29)
  have B := Lib.hid hb1
  have N := Lib.hid (((Blk.new w 29 #[.int .i64 n, .int .i64 s, .int .i64 o, .int .i64 d, .float .f64 x]).alloc (.cells #[.int .i64 a, .int .i64 b] 23)).alloc (.cells #[.int .i64 0, .int .i64 0, .int .i64 0, .int .i64 0, .float .f64 0] 29))
  have A := Lib.hid (show Blk (((w.alloc (.cells #[.int .i64 n, .int .i64 s, .int .i64 o, .int .i64 d, .float .f64 x] 29)).alloc (.cells #[.int .i64 a, .int .i64 b] 23)).alloc (.cells #[.int .i64 0, .int .i64 0, .int .i64 0, .int .i64 0, .float .f64 0] 29)) (w.heap.size + 1) 23 #[.int .i64 a, .int .i64 b] from by
    have := (Blk.new (w.alloc (.cells #[.int .i64 n, .int .i64 s, .int .i64 o, .int .i64 d, .float .f64 x] 29)) 23 #[.int .i64 a, .int .i64 b]).alloc (.cells #[.int .i64 0, .int .i64 0, .int .i64 0, .int .i64 0, .float .f64 0] 29)
    rwa [World.size_alloc] at this)
  have M := Lib.hid (show Blk (((w.alloc (.cells #[.int .i64 n, .int .i64 s, .int .i64 o, .int .i64 d, .float .f64 x] 29)).alloc (.cells #[.int .i64 a, .int .i64 b] 23)).alloc (.cells #[.int .i64 0, .int .i64 0, .int .i64 0, .int .i64 0, .float .f64 0] 29)) (w.heap.size + 1 + 1) 29 #[.int .i64 0, .int .i64 0, .int .i64 0, .int .i64 0, .float .f64 0] from by
    have := Blk.new ((w.alloc (.cells #[.int .i64 n, .int .i64 s, .int .i64 o, .int .i64 d, .float .f64 x] 29)).alloc (.cells #[.int .i64 a, .int .i64 b] 23)) 29 #[.int .i64 0, .int .i64 0, .int .i64 0, .int .i64 0, .float .f64 0]
    rwa [World.size_alloc, World.size_alloc] at this)
  have n0 := (N.out.cell 0).trans rfl
  have n1 := (N.out.cell 1).trans rfl
  have n2 := (N.out.cell 2).trans rfl
  have n3 := (N.out.cell 3).trans rfl
  have n4 := (N.out.cell 4).trans rfl
  have a0 := (A.out.cell 0).trans rfl
  have a1 := (A.out.cell 1).trans rfl
  clear hb1
  cases hr : rightC ⟨n, s, o, d, x⟩
  · rw [hr] at HR
    have HE := Lib.hid (show childE ⟨n, s, o, d, x⟩ a b p = 4 by unfold childE; rw [hr]; rfl)
    have HC := Lib.hid (show childC ⟨n, s, o, d, x⟩ a b p = ctx0 by unfold childC; rw [HE.out]; exact if_neg (by decide))
    clear hr HA HI
    go_enter Tryd.func15, Tryd.ntmps15
    go_wp2_with fail
    refine (HR.out _ (HG.out _ B.out)).mono ?_
    rintro e w' ⟨rfl, hb⟩
    have B' := Lib.hid (B.out.trans (hb.mono B.out.size))
    have N' := Lib.hid (N.out.below hb N.out.lt)
    have A' := Lib.hid (A.out.below hb A.out.lt)
    have M' := Lib.hid (M.out.below hb M.out.lt)
    clear n0 n1 n2 n3 n4 a0 a1 hb B N A M
    have n0 := (N'.out.cell 0).trans rfl
    have n1 := (N'.out.cell 1).trans rfl
    have n2 := (N'.out.cell 2).trans rfl
    have n3 := (N'.out.cell 3).trans rfl
    have n4 := (N'.out.cell 4).trans rfl
    have a0 := (A'.out.cell 0).trans rfl
    have a1 := (A'.out.cell 1).trans rfl
    have B := Lib.hid B'.out
    have N := Lib.hid N'.out
    have A := Lib.hid A'.out
    have M := Lib.hid M'.out
    clear B' N' A' M'
    go_wp2_with fail
    refine wp_phiU (fun _ wa wb => Only (w.heap.size + 1 + 1) wa wb) (fun wq => Only (w.heap.size + 1 + 1) w' wq) [(2, PSto fun wq => Blk wq (w.heap.size + 1 + 1) 29 #[.int .i64 0, .int .i64 0, .int .i64 0, .int .i64 0, .float .f64 0])] [] [(2, fun wq => Blk wq (w.heap.size + 1 + 1) 29 #[.int .i64 0, .int .i64 0, .int .i64 0, .int .i64 0, .float .f64 0])] [] (by kernel_rfl) (by kernel_rfl) ?_ ?_ ?_ ?_ (Only.refl _ _).drew ?_
    · intro p hp w1 w2 h1 h2
      exact h1.trans h2
    · simp only [List.mem_cons, List.not_mem_nil, or_false, forall_eq]
      intro h
      exact absurd rfl h
    · simp only [List.mem_cons, List.not_mem_nil, or_false, forall_eq]
      intro h
      exact absurd rfl h
    · simp only [List.mem_cons, List.not_mem_nil, or_false, forall_eq]
      exact M.out
    repeat (first | (refine phiU_skipK rfl (fun K hK => ?_); simp only [Act.put, List.setIfInBounds_toArray, List.set_cons_succ, List.set_cons_zero]; (try simp only [List.cons_append]); (try simp only [List.nil_append]); apply hK; clear hK K) | (refine phiU_pureK rfl rfl (fun K hK => ?_); apply Exists.intro; constructor; (focus (rintro w' hI; (have hbI := hI.below (B := w.heap.size) (by omega); have s1 := (HG.out _ (B.out.trans hbI)).errs.cell 3 (by omega); simp only [errVar, errAt, List.getD_cons_zero, List.getD_cons_succ] at s1; clear hI hbI); first | (go_simp; done) | (go_simp; (try go_bits); (try go_simp); rfl) | go_simp)); simp only [Act.put, List.setIfInBounds_toArray, List.set_cons_succ, List.set_cons_zero]; (try simp only [List.cons_append]); (try simp only [List.nil_append]); apply hK; clear hK K))
    refine phiU_partK (PSto fun wq => Blk wq (w.heap.size + 1 + 1) 29 #[.int .i64 0, .int .i64 0, .int .i64 0, .int .i64 0, .float .f64 0]) rfl rfl ⟨_, rfl⟩ ?_ (fun K hK v hv => ?_)
    · intro wq hI hf hu
      have hm : Blk wq (w.heap.size + 1 + 1) 29 #[.int .i64 0, .int .i64 0, .int .i64 0, .int .i64 0, .float .f64 0] := hu (2, fun wq => Blk wq (w.heap.size + 1 + 1) 29 #[.int .i64 0, .int .i64 0, .int .i64 0, .int .i64 0, .float .f64 0]) (by simp) rfl
      exact gives_store (.tmp 6) (.tmp 12) 29 rfl (w.heap.size + 1 + 1) 0 _ _ #[.int .i64 0, .int .i64 0, .int .i64 0, .int .i64 0, .float .f64 0] rfl rfl hm (by kernel_rfl) (by simp [Value.oneCell']) (by simp) (fun w2 h2 h3 => ⟨rfl, h2, h3⟩)
    obtain rfl : v = _ := hv
    simp only [Act.put, List.setIfInBounds_toArray, List.set_cons_succ, List.set_cons_zero]; (try simp only [List.cons_append]); (try simp only [List.nil_append])
    apply hK
    clear hK K
    repeat (first | (refine phiU_skipK rfl (fun K hK => ?_); simp only [Act.put, List.setIfInBounds_toArray, List.set_cons_succ, List.set_cons_zero]; (try simp only [List.cons_append]); (try simp only [List.nil_append]); apply hK; clear hK K) | (refine phiU_pureK rfl rfl (fun K hK => ?_); apply Exists.intro; constructor; (focus (rintro w' hI; (clear hI); first | (go_simp; done) | (go_simp; (try go_bits); (try go_simp); rfl) | go_simp)); simp only [Act.put, List.setIfInBounds_toArray, List.set_cons_succ, List.set_cons_zero]; (try simp only [List.cons_append]); (try simp only [List.nil_append]); apply hK; clear hK K))
    refine phiU_done ?_
    intro w7 hI hf
    have h7 : Blk w7 (w.heap.size + 1 + 1) 29 #[.int .i64 0, .int .i64 0, .int .i64 0, .int .i64 0, .float .f64 0] := hf (2, fun wq => (PSto fun wq => Blk wq (w.heap.size + 1 + 1) 29 #[.int .i64 0, .int .i64 0, .int .i64 0, .int .i64 0, .float .f64 0]).fact wq undef) (by simp) rfl
    have B7 := Lib.hid (B.out.trans (hI.below (B := w.heap.size) (by omega)))
    clear hf hI
    have q0 := (h7.cell 0).trans rfl
    have q1 := (h7.cell 1).trans rfl
    have q2 := (h7.cell 2).trans rfl
    have q3 := (h7.cell 3).trans rfl
    have q4 := (h7.cell 4).trans rfl
    refine wpList_nil ?_
    go_wp2_with fail
    refine bodyPost_ret (v := .tuple #[.agg #[.int .i64 0, .int .i64 0, .int .i64 0, .int .i64 0, .float .f64 0], errAt (E 3)]) (by simp [results, Tryd.results15, go_sem, errAt, q0, q1, q2, q3, q4]) rfl ?_
    exact ⟨B7.out, by rw [HC.out, HE.out]; rfl⟩
  · rw [hr] at HR
    obtain ⟨hd0, hd3⟩ : 0 ≤ d ∧ d ≤ 3 := right_d hr
    cases ha : (actT a b).isSome
    · rw [ha] at HA
      have HE := Lib.hid (show childE ⟨n, s, o, d, x⟩ a b p = 1 by unfold childE actB; rw [hr, ha]; rfl)
      have HC := Lib.hid (show childC ⟨n, s, o, d, x⟩ a b p = ctx0 by unfold childC; rw [HE.out]; exact if_neg (by decide))
      clear hr ha hd0 hd3 HI
      go_enter Tryd.func15, Tryd.ntmps15
      go_wp2_with fail
      refine (HR.out _ (HG.out _ B.out)).mono ?_
      rintro e w' ⟨rfl, hb⟩
      have B' := Lib.hid (B.out.trans (hb.mono B.out.size))
      have N' := Lib.hid (N.out.below hb N.out.lt)
      have A' := Lib.hid (A.out.below hb A.out.lt)
      have M' := Lib.hid (M.out.below hb M.out.lt)
      clear n0 n1 n2 n3 n4 a0 a1 hb B N A M
      have n0 := (N'.out.cell 0).trans rfl
      have n1 := (N'.out.cell 1).trans rfl
      have n2 := (N'.out.cell 2).trans rfl
      have n3 := (N'.out.cell 3).trans rfl
      have n4 := (N'.out.cell 4).trans rfl
      have a0 := (A'.out.cell 0).trans rfl
      have a1 := (A'.out.cell 1).trans rfl
      have B := Lib.hid B'.out
      have N := Lib.hid N'.out
      have A := Lib.hid A'.out
      have M := Lib.hid M'.out
      clear B' N' A' M'
      go_wp2_with fail
      refine (HA.out _ (HG.out _ B.out)).mono ?_
      rintro e w' ⟨rfl, hb⟩
      have B' := Lib.hid (B.out.trans (hb.mono B.out.size))
      have N' := Lib.hid (N.out.below hb N.out.lt)
      have A' := Lib.hid (A.out.below hb A.out.lt)
      have M' := Lib.hid (M.out.below hb M.out.lt)
      clear n0 n1 n2 n3 n4 a0 a1 hb B N A M
      have n0 := (N'.out.cell 0).trans rfl
      have n1 := (N'.out.cell 1).trans rfl
      have n2 := (N'.out.cell 2).trans rfl
      have n3 := (N'.out.cell 3).trans rfl
      have n4 := (N'.out.cell 4).trans rfl
      have a0 := (A'.out.cell 0).trans rfl
      have a1 := (A'.out.cell 1).trans rfl
      have B := Lib.hid B'.out
      have N := Lib.hid N'.out
      have A := Lib.hid A'.out
      have M := Lib.hid M'.out
      clear B' N' A' M'
      go_wp2_with fail
      refine wp_phiU (fun _ wa wb => Only (w.heap.size + 1 + 1) wa wb) (fun wq => Only (w.heap.size + 1 + 1) w' wq) [(2, PSto fun wq => Blk wq (w.heap.size + 1 + 1) 29 #[.int .i64 0, .int .i64 0, .int .i64 0, .int .i64 0, .float .f64 0])] [] [(2, fun wq => Blk wq (w.heap.size + 1 + 1) 29 #[.int .i64 0, .int .i64 0, .int .i64 0, .int .i64 0, .float .f64 0])] [] (by kernel_rfl) (by kernel_rfl) ?_ ?_ ?_ ?_ (Only.refl _ _).drew ?_
      · intro p hp w1 w2 h1 h2
        exact h1.trans h2
      · simp only [List.mem_cons, List.not_mem_nil, or_false, forall_eq]
        intro h
        exact absurd rfl h
      · simp only [List.mem_cons, List.not_mem_nil, or_false, forall_eq]
        intro h
        exact absurd rfl h
      · simp only [List.mem_cons, List.not_mem_nil, or_false, forall_eq]
        exact M.out
      repeat (first | (refine phiU_skipK rfl (fun K hK => ?_); simp only [Act.put, List.setIfInBounds_toArray, List.set_cons_succ, List.set_cons_zero]; (try simp only [List.cons_append]); (try simp only [List.nil_append]); apply hK; clear hK K) | (refine phiU_pureK rfl rfl (fun K hK => ?_); apply Exists.intro; constructor; (focus (rintro w' hI; (have hbI := hI.below (B := w.heap.size) (by omega); have s1 := (HG.out _ (B.out.trans hbI)).errs.cell 0 (by omega); simp only [errVar, errAt, List.getD_cons_zero, List.getD_cons_succ] at s1; clear hI hbI); first | (go_simp; done) | (go_simp; (try go_bits); (try go_simp); rfl) | go_simp)); simp only [Act.put, List.setIfInBounds_toArray, List.set_cons_succ, List.set_cons_zero]; (try simp only [List.cons_append]); (try simp only [List.nil_append]); apply hK; clear hK K))
      refine phiU_partK (PSto fun wq => Blk wq (w.heap.size + 1 + 1) 29 #[.int .i64 0, .int .i64 0, .int .i64 0, .int .i64 0, .float .f64 0]) rfl rfl ⟨_, rfl⟩ ?_ (fun K hK v hv => ?_)
      · intro wq hI hf hu
        have hm : Blk wq (w.heap.size + 1 + 1) 29 #[.int .i64 0, .int .i64 0, .int .i64 0, .int .i64 0, .float .f64 0] := hu (2, fun wq => Blk wq (w.heap.size + 1 + 1) 29 #[.int .i64 0, .int .i64 0, .int .i64 0, .int .i64 0, .float .f64 0]) (by simp) rfl
        exact gives_store (.tmp 6) (.tmp 18) 29 rfl (w.heap.size + 1 + 1) 0 _ _ #[.int .i64 0, .int .i64 0, .int .i64 0, .int .i64 0, .float .f64 0] rfl rfl hm (by kernel_rfl) (by simp [Value.oneCell']) (by simp) (fun w2 h2 h3 => ⟨rfl, h2, h3⟩)
      obtain rfl : v = _ := hv
      simp only [Act.put, List.setIfInBounds_toArray, List.set_cons_succ, List.set_cons_zero]; (try simp only [List.cons_append]); (try simp only [List.nil_append])
      apply hK
      clear hK K
      repeat (first | (refine phiU_skipK rfl (fun K hK => ?_); simp only [Act.put, List.setIfInBounds_toArray, List.set_cons_succ, List.set_cons_zero]; (try simp only [List.cons_append]); (try simp only [List.nil_append]); apply hK; clear hK K) | (refine phiU_pureK rfl rfl (fun K hK => ?_); apply Exists.intro; constructor; (focus (rintro w' hI; (clear hI); first | (go_simp; done) | (go_simp; (try go_bits); (try go_simp); rfl) | go_simp)); simp only [Act.put, List.setIfInBounds_toArray, List.set_cons_succ, List.set_cons_zero]; (try simp only [List.cons_append]); (try simp only [List.nil_append]); apply hK; clear hK K))
      refine phiU_done ?_
      intro w7 hI hf
      have h7 : Blk w7 (w.heap.size + 1 + 1) 29 #[.int .i64 0, .int .i64 0, .int .i64 0, .int .i64 0, .float .f64 0] := hf (2, fun wq => (PSto fun wq => Blk wq (w.heap.size + 1 + 1) 29 #[.int .i64 0, .int .i64 0, .int .i64 0, .int .i64 0, .float .f64 0]).fact wq undef) (by simp) rfl
      have B7 := Lib.hid (B.out.trans (hI.below (B := w.heap.size) (by omega)))
      clear hf hI
      have q0 := (h7.cell 0).trans rfl
      have q1 := (h7.cell 1).trans rfl
      have q2 := (h7.cell 2).trans rfl
      have q3 := (h7.cell 3).trans rfl
      have q4 := (h7.cell 4).trans rfl
      refine wpList_nil ?_
      go_wp2_with fail
      refine bodyPost_ret (v := .tuple #[.agg #[.int .i64 0, .int .i64 0, .int .i64 0, .int .i64 0, .float .f64 0], errAt (E 0)]) (by simp [results, Tryd.results15, go_sem, errAt, q0, q1, q2, q3, q4]) rfl ?_
      exact ⟨B7.out, by rw [HC.out, HE.out]; rfl⟩
    · rw [ha] at HA
      cases ho : isOut p
      · rw [ho] at HI
        have HE := Lib.hid (show childE ⟨n, s, o, d, x⟩ a b p = 4 by unfold childE actB; rw [hr, ha, ho]; rfl)
        have HC := Lib.hid (show childC ⟨n, s, o, d, x⟩ a b p = ctx0 by unfold childC; rw [HE.out]; exact if_neg (by decide))
        clear hr ha ho hd0 hd3
        go_enter Tryd.func15, Tryd.ntmps15
        go_wp2_with fail
        refine (HR.out _ (HG.out _ B.out)).mono ?_
        rintro e w' ⟨rfl, hb⟩
        have B' := Lib.hid (B.out.trans (hb.mono B.out.size))
        have N' := Lib.hid (N.out.below hb N.out.lt)
        have A' := Lib.hid (A.out.below hb A.out.lt)
        have M' := Lib.hid (M.out.below hb M.out.lt)
        clear n0 n1 n2 n3 n4 a0 a1 hb B N A M
        have n0 := (N'.out.cell 0).trans rfl
        have n1 := (N'.out.cell 1).trans rfl
        have n2 := (N'.out.cell 2).trans rfl
        have n3 := (N'.out.cell 3).trans rfl
        have n4 := (N'.out.cell 4).trans rfl
        have a0 := (A'.out.cell 0).trans rfl
        have a1 := (A'.out.cell 1).trans rfl
        have B := Lib.hid B'.out
        have N := Lib.hid N'.out
        have A := Lib.hid A'.out
        have M := Lib.hid M'.out
        clear B' N' A' M'
        go_wp2_with fail
        refine (HA.out _ (HG.out _ B.out)).mono ?_
        rintro e w' ⟨rfl, hb⟩
        have B' := Lib.hid (B.out.trans (hb.mono B.out.size))
        have N' := Lib.hid (N.out.below hb N.out.lt)
        have A' := Lib.hid (A.out.below hb A.out.lt)
        have M' := Lib.hid (M.out.below hb M.out.lt)
        clear n0 n1 n2 n3 n4 a0 a1 hb B N A M
        have n0 := (N'.out.cell 0).trans rfl
        have n1 := (N'.out.cell 1).trans rfl
        have n2 := (N'.out.cell 2).trans rfl
        have n3 := (N'.out.cell 3).trans rfl
        have n4 := (N'.out.cell 4).trans rfl
        have a0 := (A'.out.cell 0).trans rfl
        have a1 := (A'.out.cell 1).trans rfl
        have B := Lib.hid B'.out
        have N := Lib.hid N'.out
        have A := Lib.hid A'.out
        have M := Lib.hid M'.out
        clear B' N' A' M'
        go_wp2_with fail
        refine (HI.out _).mono ?_
        rintro e w' ⟨rfl, hb⟩
        have B' := Lib.hid (B.out.trans (hb.mono B.out.size))
        have N' := Lib.hid (N.out.below hb N.out.lt)
        have A' := Lib.hid (A.out.below hb A.out.lt)
        have M' := Lib.hid (M.out.below hb M.out.lt)
        clear n0 n1 n2 n3 n4 a0 a1 hb B N A M
        have n0 := (N'.out.cell 0).trans rfl
        have n1 := (N'.out.cell 1).trans rfl
        have n2 := (N'.out.cell 2).trans rfl
        have n3 := (N'.out.cell 3).trans rfl
        have n4 := (N'.out.cell 4).trans rfl
        have a0 := (A'.out.cell 0).trans rfl
        have a1 := (A'.out.cell 1).trans rfl
        have B := Lib.hid B'.out
        have N := Lib.hid N'.out
        have A := Lib.hid A'.out
        have M := Lib.hid M'.out
        clear B' N' A' M'
        go_wp2_with fail
        refine wp_phiU (fun _ wa wb => Only (w.heap.size + 1 + 1) wa wb) (fun wq => Only (w.heap.size + 1 + 1) w' wq) [(2, PSto fun wq => Blk wq (w.heap.size + 1 + 1) 29 #[.int .i64 0, .int .i64 0, .int .i64 0, .int .i64 0, .float .f64 0])] [] [(2, fun wq => Blk wq (w.heap.size + 1 + 1) 29 #[.int .i64 0, .int .i64 0, .int .i64 0, .int .i64 0, .float .f64 0])] [] (by kernel_rfl) (by kernel_rfl) ?_ ?_ ?_ ?_ (Only.refl _ _).drew ?_
        · intro p hp w1 w2 h1 h2
          exact h1.trans h2
        · simp only [List.mem_cons, List.not_mem_nil, or_false, forall_eq]
          intro h
          exact absurd rfl h
        · simp only [List.mem_cons, List.not_mem_nil, or_false, forall_eq]
          intro h
          exact absurd rfl h
        · simp only [List.mem_cons, List.not_mem_nil, or_false, forall_eq]
          exact M.out
        repeat (first | (refine phiU_skipK rfl (fun K hK => ?_); simp only [Act.put, List.setIfInBounds_toArray, List.set_cons_succ, List.set_cons_zero]; (try simp only [List.cons_append]); (try simp only [List.nil_append]); apply hK; clear hK K) | (refine phiU_pureK rfl rfl (fun K hK => ?_); apply Exists.intro; constructor; (focus (rintro w' hI; (have hbI := hI.below (B := w.heap.size) (by omega); have s1 := (HG.out _ (B.out.trans hbI)).errs.cell 3 (by omega); simp only [errVar, errAt, List.getD_cons_zero, List.getD_cons_succ] at s1; clear hI hbI); first | (go_simp; done) | (go_simp; (try go_bits); (try go_simp); rfl) | go_simp)); simp only [Act.put, List.setIfInBounds_toArray, List.set_cons_succ, List.set_cons_zero]; (try simp only [List.cons_append]); (try simp only [List.nil_append]); apply hK; clear hK K))
        refine phiU_partK (PSto fun wq => Blk wq (w.heap.size + 1 + 1) 29 #[.int .i64 0, .int .i64 0, .int .i64 0, .int .i64 0, .float .f64 0]) rfl rfl ⟨_, rfl⟩ ?_ (fun K hK v hv => ?_)
        · intro wq hI hf hu
          have hm : Blk wq (w.heap.size + 1 + 1) 29 #[.int .i64 0, .int .i64 0, .int .i64 0, .int .i64 0, .float .f64 0] := hu (2, fun wq => Blk wq (w.heap.size + 1 + 1) 29 #[.int .i64 0, .int .i64 0, .int .i64 0, .int .i64 0, .float .f64 0]) (by simp) rfl
          exact gives_store (.tmp 6) (.tmp 24) 29 rfl (w.heap.size + 1 + 1) 0 _ _ #[.int .i64 0, .int .i64 0, .int .i64 0, .int .i64 0, .float .f64 0] rfl rfl hm (by kernel_rfl) (by simp [Value.oneCell']) (by simp) (fun w2 h2 h3 => ⟨rfl, h2, h3⟩)
        obtain rfl : v = _ := hv
        simp only [Act.put, List.setIfInBounds_toArray, List.set_cons_succ, List.set_cons_zero]; (try simp only [List.cons_append]); (try simp only [List.nil_append])
        apply hK
        clear hK K
        repeat (first | (refine phiU_skipK rfl (fun K hK => ?_); simp only [Act.put, List.setIfInBounds_toArray, List.set_cons_succ, List.set_cons_zero]; (try simp only [List.cons_append]); (try simp only [List.nil_append]); apply hK; clear hK K) | (refine phiU_pureK rfl rfl (fun K hK => ?_); apply Exists.intro; constructor; (focus (rintro w' hI; (clear hI); first | (go_simp; done) | (go_simp; (try go_bits); (try go_simp); rfl) | go_simp)); simp only [Act.put, List.setIfInBounds_toArray, List.set_cons_succ, List.set_cons_zero]; (try simp only [List.cons_append]); (try simp only [List.nil_append]); apply hK; clear hK K))
        refine phiU_done ?_
        intro w7 hI hf
        have h7 : Blk w7 (w.heap.size + 1 + 1) 29 #[.int .i64 0, .int .i64 0, .int .i64 0, .int .i64 0, .float .f64 0] := hf (2, fun wq => (PSto fun wq => Blk wq (w.heap.size + 1 + 1) 29 #[.int .i64 0, .int .i64 0, .int .i64 0, .int .i64 0, .float .f64 0]).fact wq undef) (by simp) rfl
        have B7 := Lib.hid (B.out.trans (hI.below (B := w.heap.size) (by omega)))
        clear hf hI
        have q0 := (h7.cell 0).trans rfl
        have q1 := (h7.cell 1).trans rfl
        have q2 := (h7.cell 2).trans rfl
        have q3 := (h7.cell 3).trans rfl
        have q4 := (h7.cell 4).trans rfl
        refine wpList_nil ?_
        go_wp2_with fail
        refine bodyPost_ret (v := .tuple #[.agg #[.int .i64 0, .int .i64 0, .int .i64 0, .int .i64 0, .float .f64 0], errAt (E 3)]) (by simp [results, Tryd.results15, go_sem, errAt, q0, q1, q2, q3, q4]) rfl ?_
        exact ⟨B7.out, by rw [HC.out, HE.out]; rfl⟩
      · rw [ho] at HI
        have HE0 : childE ⟨n, s, o, d, x⟩ a b p = if d = 3 then 11 else 0 := by unfold childE actB; rw [hr, ha, ho]; rfl
        by_cases h3 : d = 3
        · have HE := Lib.hid (show childE ⟨n, s, o, d, x⟩ a b p = 11 by rw [HE0, if_pos h3])
          have HC := Lib.hid (show childC ⟨n, s, o, d, x⟩ a b p = ctx0 by unfold childC; rw [HE.out]; exact if_neg (by decide))
          have hg : (d == 3) = true := by simpa using h3
          clear HE0 hr ha ho h3 hd0 hd3
          go_enter Tryd.func15, Tryd.ntmps15
          go_wp2_with fail
          refine (HR.out _ (HG.out _ B.out)).mono ?_
          rintro e w' ⟨rfl, hb⟩
          have B' := Lib.hid (B.out.trans (hb.mono B.out.size))
          have N' := Lib.hid (N.out.below hb N.out.lt)
          have A' := Lib.hid (A.out.below hb A.out.lt)
          have M' := Lib.hid (M.out.below hb M.out.lt)
          clear n0 n1 n2 n3 n4 a0 a1 hb B N A M
          have n0 := (N'.out.cell 0).trans rfl
          have n1 := (N'.out.cell 1).trans rfl
          have n2 := (N'.out.cell 2).trans rfl
          have n3 := (N'.out.cell 3).trans rfl
          have n4 := (N'.out.cell 4).trans rfl
          have a0 := (A'.out.cell 0).trans rfl
          have a1 := (A'.out.cell 1).trans rfl
          have B := Lib.hid B'.out
          have N := Lib.hid N'.out
          have A := Lib.hid A'.out
          have M := Lib.hid M'.out
          clear B' N' A' M'
          go_wp2_with fail
          refine (HA.out _ (HG.out _ B.out)).mono ?_
          rintro e w' ⟨rfl, hb⟩
          have B' := Lib.hid (B.out.trans (hb.mono B.out.size))
          have N' := Lib.hid (N.out.below hb N.out.lt)
          have A' := Lib.hid (A.out.below hb A.out.lt)
          have M' := Lib.hid (M.out.below hb M.out.lt)
          clear n0 n1 n2 n3 n4 a0 a1 hb B N A M
          have n0 := (N'.out.cell 0).trans rfl
          have n1 := (N'.out.cell 1).trans rfl
          have n2 := (N'.out.cell 2).trans rfl
          have n3 := (N'.out.cell 3).trans rfl
          have n4 := (N'.out.cell 4).trans rfl
          have a0 := (A'.out.cell 0).trans rfl
          have a1 := (A'.out.cell 1).trans rfl
          have B := Lib.hid B'.out
          have N := Lib.hid N'.out
          have A := Lib.hid A'.out
          have M := Lib.hid M'.out
          clear B' N' A' M'
          go_wp2_with fail
          refine (HI.out _).mono ?_
          rintro e w' ⟨rfl, hb⟩
          have B' := Lib.hid (B.out.trans (hb.mono B.out.size))
          have N' := Lib.hid (N.out.below hb N.out.lt)
          have A' := Lib.hid (A.out.below hb A.out.lt)
          have M' := Lib.hid (M.out.below hb M.out.lt)
          clear n0 n1 n2 n3 n4 a0 a1 hb B N A M
          have n0 := (N'.out.cell 0).trans rfl
          have n1 := (N'.out.cell 1).trans rfl
          have n2 := (N'.out.cell 2).trans rfl
          have n3 := (N'.out.cell 3).trans rfl
          have n4 := (N'.out.cell 4).trans rfl
          have a0 := (A'.out.cell 0).trans rfl
          have a1 := (A'.out.cell 1).trans rfl
          have B := Lib.hid B'.out
          have N := Lib.hid N'.out
          have A := Lib.hid A'.out
          have M := Lib.hid M'.out
          clear B' N' A' M'
          go_wp2_with fail
          refine wp_phiU (fun _ wa wb => Only (w.heap.size + 1 + 1) wa wb) (fun wq => Only (w.heap.size + 1 + 1) w' wq) [(2, PSto fun wq => Blk wq (w.heap.size + 1 + 1) 29 #[.int .i64 0, .int .i64 0, .int .i64 0, .int .i64 0, .float .f64 0])] [] [(2, fun wq => Blk wq (w.heap.size + 1 + 1) 29 #[.int .i64 0, .int .i64 0, .int .i64 0, .int .i64 0, .float .f64 0])] [] (by kernel_rfl) (by kernel_rfl) ?_ ?_ ?_ ?_ (Only.refl _ _).drew ?_
          · intro p hp w1 w2 h1 h2
            exact h1.trans h2
          · simp only [List.mem_cons, List.not_mem_nil, or_false, forall_eq]
            intro h
            exact absurd rfl h
          · simp only [List.mem_cons, List.not_mem_nil, or_false, forall_eq]
            intro h
            exact absurd rfl h
          · simp only [List.mem_cons, List.not_mem_nil, or_false, forall_eq]
            exact M.out
          repeat (first | (refine phiU_skipK rfl (fun K hK => ?_); simp only [Act.put, List.setIfInBounds_toArray, List.set_cons_succ, List.set_cons_zero]; (try simp only [List.cons_append]); (try simp only [List.nil_append]); apply hK; clear hK K) | (refine phiU_pureK rfl rfl (fun K hK => ?_); apply Exists.intro; constructor; (focus (rintro w' hI; (have hbI := hI.below (B := w.heap.size) (by omega); have s1 := (HG.out _ (B.out.trans hbI)).errs.cell 10 (by omega); simp only [errVar, errAt, List.getD_cons_zero, List.getD_cons_succ] at s1; clear hI hbI); first | (go_simp; done) | (go_simp; (try go_bits); (try go_simp); rfl) | go_simp)); simp only [Act.put, List.setIfInBounds_toArray, List.set_cons_succ, List.set_cons_zero]; (try simp only [List.cons_append]); (try simp only [List.nil_append]); apply hK; clear hK K))
          refine phiU_partK (PSto fun wq => Blk wq (w.heap.size + 1 + 1) 29 #[.int .i64 0, .int .i64 0, .int .i64 0, .int .i64 0, .float .f64 0]) rfl rfl ⟨_, rfl⟩ ?_ (fun K hK v hv => ?_)
          · intro wq hI hf hu
            have hm : Blk wq (w.heap.size + 1 + 1) 29 #[.int .i64 0, .int .i64 0, .int .i64 0, .int .i64 0, .float .f64 0] := hu (2, fun wq => Blk wq (w.heap.size + 1 + 1) 29 #[.int .i64 0, .int .i64 0, .int .i64 0, .int .i64 0, .float .f64 0]) (by simp) rfl
            exact gives_store (.tmp 6) (.tmp 30) 29 rfl (w.heap.size + 1 + 1) 0 _ _ #[.int .i64 0, .int .i64 0, .int .i64 0, .int .i64 0, .float .f64 0] rfl rfl hm (by kernel_rfl) (by simp [Value.oneCell']) (by simp) (fun w2 h2 h3 => ⟨rfl, h2, h3⟩)
          obtain rfl : v = _ := hv
          simp only [Act.put, List.setIfInBounds_toArray, List.set_cons_succ, List.set_cons_zero]; (try simp only [List.cons_append]); (try simp only [List.nil_append])
          apply hK
          clear hK K
          repeat (first | (refine phiU_skipK rfl (fun K hK => ?_); simp only [Act.put, List.setIfInBounds_toArray, List.set_cons_succ, List.set_cons_zero]; (try simp only [List.cons_append]); (try simp only [List.nil_append]); apply hK; clear hK K) | (refine phiU_pureK rfl rfl (fun K hK => ?_); apply Exists.intro; constructor; (focus (rintro w' hI; (clear hI); first | (go_simp; done) | (go_simp; (try go_bits); (try go_simp); rfl) | go_simp)); simp only [Act.put, List.setIfInBounds_toArray, List.set_cons_succ, List.set_cons_zero]; (try simp only [List.cons_append]); (try simp only [List.nil_append]); apply hK; clear hK K))
          refine phiU_done ?_
          intro w7 hI hf
          have h7 : Blk w7 (w.heap.size + 1 + 1) 29 #[.int .i64 0, .int .i64 0, .int .i64 0, .int .i64 0, .float .f64 0] := hf (2, fun wq => (PSto fun wq => Blk wq (w.heap.size + 1 + 1) 29 #[.int .i64 0, .int .i64 0, .int .i64 0, .int .i64 0, .float .f64 0]).fact wq undef) (by simp) rfl
          have B7 := Lib.hid (B.out.trans (hI.below (B := w.heap.size) (by omega)))
          clear hf hI
          have q0 := (h7.cell 0).trans rfl
          have q1 := (h7.cell 1).trans rfl
          have q2 := (h7.cell 2).trans rfl
          have q3 := (h7.cell 3).trans rfl
          have q4 := (h7.cell 4).trans rfl
          refine wpList_nil ?_
          go_wp2_with fail
          refine bodyPost_ret (v := .tuple #[.agg #[.int .i64 0, .int .i64 0, .int .i64 0, .int .i64 0, .float .f64 0], errAt (E 10)]) (by simp [results, Tryd.results15, go_sem, errAt, q0, q1, q2, q3, q4]) rfl ?_
          exact ⟨B7.out, by rw [HC.out, HE.out]; rfl⟩
        · have HE := Lib.hid (show childE ⟨n, s, o, d, x⟩ a b p = 0 by rw [HE0, if_neg h3])
          have HC := Lib.hid (show childC ⟨n, s, o, d, x⟩ a b p = ⟨a, b, p, d + 1, x⟩ by unfold childC; rw [HE.out]; exact if_pos rfl)
          have hg : (d == 3) = false := by simpa using h3
          have hw1 : wrap64 (d + 1) = d + 1 := by unfold wrap64; omega
          clear HE0 hr ha ho h3
          go_enter Tryd.func15, Tryd.ntmps15
          go_wp2_with fail
          refine (HR.out _ (HG.out _ B.out)).mono ?_
          rintro e w' ⟨rfl, hb⟩
          have B' := Lib.hid (B.out.trans (hb.mono B.out.size))
          have N' := Lib.hid (N.out.below hb N.out.lt)
          have A' := Lib.hid (A.out.below hb A.out.lt)
          have M' := Lib.hid (M.out.below hb M.out.lt)
          clear n0 n1 n2 n3 n4 a0 a1 hb B N A M
          have n0 := (N'.out.cell 0).trans rfl
          have n1 := (N'.out.cell 1).trans rfl
          have n2 := (N'.out.cell 2).trans rfl
          have n3 := (N'.out.cell 3).trans rfl
          have n4 := (N'.out.cell 4).trans rfl
          have a0 := (A'.out.cell 0).trans rfl
          have a1 := (A'.out.cell 1).trans rfl
          have B := Lib.hid B'.out
          have N := Lib.hid N'.out
          have A := Lib.hid A'.out
          have M := Lib.hid M'.out
          clear B' N' A' M'
          go_wp2_with fail
          refine (HA.out _ (HG.out _ B.out)).mono ?_
          rintro e w' ⟨rfl, hb⟩
          have B' := Lib.hid (B.out.trans (hb.mono B.out.size))
          have N' := Lib.hid (N.out.below hb N.out.lt)
          have A' := Lib.hid (A.out.below hb A.out.lt)
          have M' := Lib.hid (M.out.below hb M.out.lt)
          clear n0 n1 n2 n3 n4 a0 a1 hb B N A M
          have n0 := (N'.out.cell 0).trans rfl
          have n1 := (N'.out.cell 1).trans rfl
          have n2 := (N'.out.cell 2).trans rfl
          have n3 := (N'.out.cell 3).trans rfl
          have n4 := (N'.out.cell 4).trans rfl
          have a0 := (A'.out.cell 0).trans rfl
          have a1 := (A'.out.cell 1).trans rfl
          have B := Lib.hid B'.out
          have N := Lib.hid N'.out
          have A := Lib.hid A'.out
          have M := Lib.hid M'.out
          clear B' N' A' M'
          go_wp2_with fail
          refine (HI.out _).mono ?_
          rintro e w' ⟨rfl, hb⟩
          have B' := Lib.hid (B.out.trans (hb.mono B.out.size))
          have N' := Lib.hid (N.out.below hb N.out.lt)
          have A' := Lib.hid (A.out.below hb A.out.lt)
          have M' := Lib.hid (M.out.below hb M.out.lt)
          clear n0 n1 n2 n3 n4 a0 a1 hb B N A M
          have n0 := (N'.out.cell 0).trans rfl
          have n1 := (N'.out.cell 1).trans rfl
          have n2 := (N'.out.cell 2).trans rfl
          have n3 := (N'.out.cell 3).trans rfl
          have n4 := (N'.out.cell 4).trans rfl
          have a0 := (A'.out.cell 0).trans rfl
          have a1 := (A'.out.cell 1).trans rfl
          have B := Lib.hid B'.out
          have N := Lib.hid N'.out
          have A := Lib.hid A'.out
          have M := Lib.hid M'.out
          clear B' N' A' M'
          go_wp2_with (refine wpList_store (.tmp 34) (.tmp 32) 23 rfl rfl w.heap.size 0 _ _ #[.int .i64 a, .int .i64 b] rfl rfl N.out (by kernel_rfl) (by simp [Value.oneCell']) (by simp) ?_)
          intro w7 hn7 ko7
          have h7 : Blk w7 w.heap.size 29 #[.int .i64 a, .int .i64 b, .int .i64 o, .int .i64 d, .float .f64 x] := hn7
          have m7 := ko7.blk M.out (by omega)
          have B7 := Lib.hid (B.out.trans (ko7.below (Nat.le_refl _)))
          have c2 := (h7.cell 2).trans rfl
          have f2 := h7.frozen 2
          have h8 : Blk (w7.setCell ⟨w.heap.size, 2, none⟩ (.int .i64 p)) w.heap.size 29 #[.int .i64 a, .int .i64 b, .int .i64 p, .int .i64 d, .float .f64 x] := h7.set_ 2 (.int .i64 p)
          have m8 := m7.far (b := w.heap.size) (by omega) 2 (.int .i64 p)
          have c3 := (h8.cell 3).trans rfl
          have f3 := h8.frozen 3
          have h9 : Blk ((w7.setCell ⟨w.heap.size, 2, none⟩ (.int .i64 p)).setCell ⟨w.heap.size, 3, none⟩ (.int .i64 (d + 1))) w.heap.size 29 #[.int .i64 a, .int .i64 b, .int .i64 p, .int .i64 (d + 1), .float .f64 x] := h8.set_ 3 (.int .i64 (d + 1))
          have m9 := m8.far (b := w.heap.size) (by omega) 3 (.int .i64 (d + 1))
          have r0 := (h9.cell 0).trans rfl
          have r1 := (h9.cell 1).trans rfl
          have r2 := (h9.cell 2).trans rfl
          have r3 := (h9.cell 3).trans rfl
          have r4 := (h9.cell 4).trans rfl
          have M9 := Lib.hid m9
          have B9 : RowKit.Hid (Below w.heap.size w ((w7.setCell ⟨w.heap.size, 2, none⟩ (.int .i64 p)).setCell ⟨w.heap.size, 3, none⟩ (.int .i64 (d + 1)))) := Lib.hid (B7.out.trans ((((Only.refl w.heap.size w7).set_ 2 _).set_ 3 _).below (Nat.le_refl _)))
          clear n0 n1 n2 n3 n4 a0 a1 hn7 ko7 h7 m7 h8 m8 h9 m9 B N A M
          go_wp2_with (refine wpList_store (.tmp 6) (.tmp 40) 29 rfl rfl (w.heap.size + 1 + 1) 0 _ _ #[.int .i64 a, .int .i64 b, .int .i64 p, .int .i64 (d + 1), .float .f64 x] rfl rfl M9.out (by kernel_rfl) (by simp [Value.oneCell']) (by simp) ?_)
          intro w8 hn8 ko8
          have h8 : Blk w8 (w.heap.size + 1 + 1) 29 #[.int .i64 a, .int .i64 b, .int .i64 p, .int .i64 (d + 1), .float .f64 x] := hn8
          have q0 := (h8.cell 0).trans rfl
          have q1 := (h8.cell 1).trans rfl
          have q2 := (h8.cell 2).trans rfl
          have q3 := (h8.cell 3).trans rfl
          have q4 := (h8.cell 4).trans rfl
          have B8 := Lib.hid (B9.out.trans (ko8.below (by omega)))
          clear hn8 ko8 h8 r0 r1 r2 r3 r4 c2 c3 f2 f3 M9
          go_wp2_with fail
          refine bodyPost_ret (v := .tuple #[.agg #[.int .i64 a, .int .i64 b, .int .i64 p, .int .i64 (d + 1), .float .f64 x], .nilIface]) (by simp [results, Tryd.results15, go_sem, q0, q1, q2, q3, q4]) rfl ?_
          exact ⟨B8.out, by rw [HC.out, HE.out]; rfl⟩
end Go.Proofs.YtejdnpbkljdahaaDoor
