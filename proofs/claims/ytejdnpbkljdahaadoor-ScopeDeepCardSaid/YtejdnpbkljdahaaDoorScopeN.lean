/-
  ScopeN: package scope's new contexts.
-/
import Derived.Test.YtejdnpbkljdahaaDoorScopeW
import Derived.Test.YtejdnpbkljdahaaDoorRetErr
namespace Go.Proofs.YtejdnpbkljdahaaDoor
open Go.RowKit Go.Extern.Stop Go.Stop Go.Extern Ieee
attribute [local go_sem] flt_def fgt_def feq_def fne_def

theorem run_store_flt {P : Program} {w : World} {a : Addr} (k : FloatKind) (x : Nat) (m : Mode) : (store a (.float k x) m).run P w = stored P w a (.float k x) m := run_store P w a _ m rfl
attribute [local go_sem] run_store_flt
set_option maxRecDepth 20000 in
set_option maxHeartbeats 4000000 in
theorem snew_any (n s o : Int) (now lasts : Nat) (hn : -9223372036854775808 ≤ n) (hs : -9223372036854775808 ≤ s) (h1 : now < 18446744073709551616) (h2 : lasts < 18446744073709551616) (w : World) (E : Nat → Addr) (h : IdsG w E) :
    Calls Tryd.prog 8 #[.agg #[.int .i64 n, .int .i64 s], .int .i64 o, .float .f64 now, .float .f64 lasts] w fun e w' => Below w.heap.size w w' ∧ e = .returned (.tuple #[ctxV (newC n s o now lasts), errV E (newE n s o now lasts)]) := by
  have HG := Lib.hid (fun w' (hb : Below w.heap.size w w') => h.below hb)
  have HA := Lib.hid (fun w' h => right_any w' E n s hn hs h)
  have HL := Lib.hid (fun w' (h : Errs w' E) => later_any now lasts h1 h2 w' E (h.on [0, 3] (by decide)))
  have HI := Lib.hid (fun w' => isout_any o w')
  have hb1 := below_alloc (below_alloc1 w (.cells #[.int .i64 n, .int .i64 s] 23)) (.cells #[.int .i64 0, .int .i64 0, .int .i64 0, .int .i64 0, .float .f64 0] 29)
  have B := Lib.hid hb1
  have N := Lib.hid ((Blk.new w 23 #[.int .i64 n, .int .i64 s]).alloc (.cells #[.int .i64 0, .int .i64 0, .int .i64 0, .int .i64 0, .float .f64 0] 29))
  have M := Lib.hid (show Blk ((w.alloc (.cells #[.int .i64 n, .int .i64 s] 23)).alloc (.cells #[.int .i64 0, .int .i64 0, .int .i64 0, .int .i64 0, .float .f64 0] 29)) (w.heap.size + 1) 29 #[.int .i64 0, .int .i64 0, .int .i64 0, .int .i64 0, .float .f64 0] from by
    have := Blk.new (w.alloc (.cells #[.int .i64 n, .int .i64 s] 23)) 29 #[.int .i64 0, .int .i64 0, .int .i64 0, .int .i64 0, .float .f64 0]
    rwa [World.size_alloc] at this)
  have n0 := (N.out.cell 0).trans rfl
  have n1 := (N.out.cell 1).trans rfl
  unfold actV at HA
  clear hb1 h hn hs h1 h2
  cases ha : (actT n s).isSome
  · rw [ha] at HA
    have HE := Lib.hid (show newE n s o now lasts = 1 by unfold newE actB; rw [ha]; exact if_neg (by decide))
    have HC := Lib.hid (show newC n s o now lasts = ctx0 by unfold newC; rw [HE.out]; exact if_neg (by decide))
    clear ha HL HI
    go_enter Tryd.func8, Tryd.ntmps8
    go_wp2_with fail
    refine (HA.out _ (HG.out _ B.out)).mono ?_
    rintro e w' ⟨rfl, hb⟩
    have B' := Lib.hid (B.out.trans (hb.mono B.out.size))
    have N' := Lib.hid (N.out.below hb N.out.lt)
    have M' := Lib.hid (M.out.below hb M.out.lt)
    clear n0 n1 hb B N M
    have n0 := (N'.out.cell 0).trans rfl
    have n1 := (N'.out.cell 1).trans rfl
    have B := Lib.hid B'.out
    have N := Lib.hid N'.out
    have M := Lib.hid M'.out
    clear B' N' M'
    go_wp2_with fail
    refine wp_phiU (fun _ wa wb => Only (w.heap.size + 1) wa wb) (fun wq => Only (w.heap.size + 1) w' wq) [(2, PSto fun wq => Blk wq (w.heap.size + 1) 29 #[.int .i64 0, .int .i64 0, .int .i64 0, .int .i64 0, .float .f64 0])] [] [(2, fun wq => Blk wq (w.heap.size + 1) 29 #[.int .i64 0, .int .i64 0, .int .i64 0, .int .i64 0, .float .f64 0])] [] (by kernel_rfl) (by kernel_rfl) ?_ ?_ ?_ ?_ (Only.refl _ _).drew ?_
    · intro p hp w1 w2 h1 h2
      exact h1.trans h2
    · simp only [List.mem_cons, List.not_mem_nil, or_false, forall_eq]
      intro h
      exact absurd rfl h
    · simp only [List.mem_cons, List.not_mem_nil, or_false, forall_eq]
      intro h
      exact absurd rfl h
    · simp only [List.mem_cons, List.not_mem_nil, or_false, forall_eq]
      exact M.out
    repeat (first | (refine phiU_skipK rfl (fun K hK => ?_); simp only [Act.put, List.setIfInBounds_toArray, List.set_cons_succ, List.set_cons_zero]; (try simp only [List.cons_append]); (try simp only [List.nil_append]); apply hK; clear hK K) | (refine phiU_pureK rfl rfl (fun K hK => ?_); apply Exists.intro; constructor; (focus (rintro w' hI; (have hbI := hI.below (Nat.le_succ w.heap.size); have s1 := (HG.out _ (B.out.trans hbI)).errs.cell 0 (by omega); simp only [errVar, errAt, List.getD_cons_zero, List.getD_cons_succ] at s1; clear hI hbI); first | (go_simp; done) | (go_simp; (try go_bits); (try go_simp); rfl) | go_simp)); simp only [Act.put, List.setIfInBounds_toArray, List.set_cons_succ, List.set_cons_zero]; (try simp only [List.cons_append]); (try simp only [List.nil_append]); apply hK; clear hK K))
    refine phiU_partK (PSto fun wq => Blk wq (w.heap.size + 1) 29 #[.int .i64 0, .int .i64 0, .int .i64 0, .int .i64 0, .float .f64 0]) rfl rfl ⟨_, rfl⟩ ?_ (fun K hK v hv => ?_)
    · intro wq hI hf hu
      have hm : Blk wq (w.heap.size + 1) 29 #[.int .i64 0, .int .i64 0, .int .i64 0, .int .i64 0, .float .f64 0] := hu (2, fun wq => Blk wq (w.heap.size + 1) 29 #[.int .i64 0, .int .i64 0, .int .i64 0, .int .i64 0, .float .f64 0]) (by simp) rfl
      exact gives_store (.tmp 8) (.tmp 15) 29 rfl (w.heap.size + 1) 0 _ _ #[.int .i64 0, .int .i64 0, .int .i64 0, .int .i64 0, .float .f64 0] rfl rfl hm (by kernel_rfl) (by simp [Value.oneCell']) (by simp) (fun w2 h2 h3 => ⟨rfl, h2, h3⟩)
    obtain rfl : v = _ := hv
    simp only [Act.put, List.setIfInBounds_toArray, List.set_cons_succ, List.set_cons_zero]; (try simp only [List.cons_append]); (try simp only [List.nil_append])
    apply hK
    clear hK K
    repeat (first | (refine phiU_skipK rfl (fun K hK => ?_); simp only [Act.put, List.setIfInBounds_toArray, List.set_cons_succ, List.set_cons_zero]; (try simp only [List.cons_append]); (try simp only [List.nil_append]); apply hK; clear hK K) | (refine phiU_pureK rfl rfl (fun K hK => ?_); apply Exists.intro; constructor; (focus (rintro w' hI; (clear hI); first | (go_simp; done) | (go_simp; (try go_bits); (try go_simp); rfl) | go_simp)); simp only [Act.put, List.setIfInBounds_toArray, List.set_cons_succ, List.set_cons_zero]; (try simp only [List.cons_append]); (try simp only [List.nil_append]); apply hK; clear hK K))
    refine phiU_done ?_
    intro w7 hI hf
    have h7 : Blk w7 (w.heap.size + 1) 29 #[.int .i64 0, .int .i64 0, .int .i64 0, .int .i64 0, .float .f64 0] := hf (2, fun wq => (PSto fun wq => Blk wq (w.heap.size + 1) 29 #[.int .i64 0, .int .i64 0, .int .i64 0, .int .i64 0, .float .f64 0]).fact wq undef) (by simp) rfl
    have B7 := Lib.hid (B.out.trans (hI.below (Nat.le_succ w.heap.size)))
    clear hf hI
    have q0 := (h7.cell 0).trans rfl
    have q1 := (h7.cell 1).trans rfl
    have q2 := (h7.cell 2).trans rfl
    have q3 := (h7.cell 3).trans rfl
    have q4 := (h7.cell 4).trans rfl
    refine wpList_nil ?_
    go_wp2_with fail
    refine bodyPost_ret (v := .tuple #[.agg #[.int .i64 0, .int .i64 0, .int .i64 0, .int .i64 0, .float .f64 0], errAt (E 0)]) (by simp [results, Tryd.results8, go_sem, errAt, q0, q1, q2, q3, q4]) rfl ?_
    exact ⟨B7.out, by rw [HC.out, HE.out]; rfl⟩
  · rw [ha] at HA
    cases hl : bothDel now lasts
    · have HE := Lib.hid (show newE n s o now lasts = 4 by unfold newE actB; rw [ha, hl]; rfl)
      have HC := Lib.hid (show newC n s o now lasts = ctx0 by unfold newC; rw [HE.out]; exact if_neg (by decide))
      have e1 : laterF now lasts = 0 := by unfold laterF; exact if_neg (by rw [hl]; decide)
      have e2 : laterE now lasts = 4 := by unfold laterE; exact if_neg (by rw [hl]; decide)
      rw [e1, e2, errV_four] at HL
      clear ha hl HI e1 e2
      go_enter Tryd.func8, Tryd.ntmps8
      go_wp2_with fail
      refine (HA.out _ (HG.out _ B.out)).mono ?_
      rintro e w' ⟨rfl, hb⟩
      have B' := Lib.hid (B.out.trans (hb.mono B.out.size))
      have N' := Lib.hid (N.out.below hb N.out.lt)
      have M' := Lib.hid (M.out.below hb M.out.lt)
      clear n0 n1 hb B N M
      have n0 := (N'.out.cell 0).trans rfl
      have n1 := (N'.out.cell 1).trans rfl
      have B := Lib.hid B'.out
      have N := Lib.hid N'.out
      have M := Lib.hid M'.out
      clear B' N' M'
      go_wp2_with fail
      refine (HL.out _ (HG.out _ B.out).errs).mono ?_
      rintro e w' ⟨rfl, hb⟩
      have B' := Lib.hid (B.out.trans (hb.mono B.out.size))
      have N' := Lib.hid (N.out.below hb N.out.lt)
      have M' := Lib.hid (M.out.below hb M.out.lt)
      clear n0 n1 hb B N M
      have n0 := (N'.out.cell 0).trans rfl
      have n1 := (N'.out.cell 1).trans rfl
      have B := Lib.hid B'.out
      have N := Lib.hid N'.out
      have M := Lib.hid M'.out
      clear B' N' M'
      go_wp2_with fail
      refine wp_phiU (fun _ wa wb => Only (w.heap.size + 1) wa wb) (fun wq => Only (w.heap.size + 1) w' wq) [(2, PSto fun wq => Blk wq (w.heap.size + 1) 29 #[.int .i64 0, .int .i64 0, .int .i64 0, .int .i64 0, .float .f64 0])] [] [(2, fun wq => Blk wq (w.heap.size + 1) 29 #[.int .i64 0, .int .i64 0, .int .i64 0, .int .i64 0, .float .f64 0])] [] (by kernel_rfl) (by kernel_rfl) ?_ ?_ ?_ ?_ (Only.refl _ _).drew ?_
      · intro p hp w1 w2 h1 h2
        exact h1.trans h2
      · simp only [List.mem_cons, List.not_mem_nil, or_false, forall_eq]
        intro h
        exact absurd rfl h
      · simp only [List.mem_cons, List.not_mem_nil, or_false, forall_eq]
        intro h
        exact absurd rfl h
      · simp only [List.mem_cons, List.not_mem_nil, or_false, forall_eq]
        exact M.out
      repeat (first | (refine phiU_skipK rfl (fun K hK => ?_); simp only [Act.put, List.setIfInBounds_toArray, List.set_cons_succ, List.set_cons_zero]; (try simp only [List.cons_append]); (try simp only [List.nil_append]); apply hK; clear hK K) | (refine phiU_pureK rfl rfl (fun K hK => ?_); apply Exists.intro; constructor; (focus (rintro w' hI; (have hbI := hI.below (Nat.le_succ w.heap.size); have s1 := (HG.out _ (B.out.trans hbI)).errs.cell 3 (by omega); simp only [errVar, errAt, List.getD_cons_zero, List.getD_cons_succ] at s1; clear hI hbI); first | (go_simp; done) | (go_simp; (try go_bits); (try go_simp); rfl) | go_simp)); simp only [Act.put, List.setIfInBounds_toArray, List.set_cons_succ, List.set_cons_zero]; (try simp only [List.cons_append]); (try simp only [List.nil_append]); apply hK; clear hK K))
      refine phiU_partK (PSto fun wq => Blk wq (w.heap.size + 1) 29 #[.int .i64 0, .int .i64 0, .int .i64 0, .int .i64 0, .float .f64 0]) rfl rfl ⟨_, rfl⟩ ?_ (fun K hK v hv => ?_)
      · intro wq hI hf hu
        have hm : Blk wq (w.heap.size + 1) 29 #[.int .i64 0, .int .i64 0, .int .i64 0, .int .i64 0, .float .f64 0] := hu (2, fun wq => Blk wq (w.heap.size + 1) 29 #[.int .i64 0, .int .i64 0, .int .i64 0, .int .i64 0, .float .f64 0]) (by simp) rfl
        exact gives_store (.tmp 8) (.tmp 30) 29 rfl (w.heap.size + 1) 0 _ _ #[.int .i64 0, .int .i64 0, .int .i64 0, .int .i64 0, .float .f64 0] rfl rfl hm (by kernel_rfl) (by simp [Value.oneCell']) (by simp) (fun w2 h2 h3 => ⟨rfl, h2, h3⟩)
      obtain rfl : v = _ := hv
      simp only [Act.put, List.setIfInBounds_toArray, List.set_cons_succ, List.set_cons_zero]; (try simp only [List.cons_append]); (try simp only [List.nil_append])
      apply hK
      clear hK K
      repeat (first | (refine phiU_skipK rfl (fun K hK => ?_); simp only [Act.put, List.setIfInBounds_toArray, List.set_cons_succ, List.set_cons_zero]; (try simp only [List.cons_append]); (try simp only [List.nil_append]); apply hK; clear hK K) | (refine phiU_pureK rfl rfl (fun K hK => ?_); apply Exists.intro; constructor; (focus (rintro w' hI; (clear hI); first | (go_simp; done) | (go_simp; (try go_bits); (try go_simp); rfl) | go_simp)); simp only [Act.put, List.setIfInBounds_toArray, List.set_cons_succ, List.set_cons_zero]; (try simp only [List.cons_append]); (try simp only [List.nil_append]); apply hK; clear hK K))
      refine phiU_done ?_
      intro w7 hI hf
      have h7 : Blk w7 (w.heap.size + 1) 29 #[.int .i64 0, .int .i64 0, .int .i64 0, .int .i64 0, .float .f64 0] := hf (2, fun wq => (PSto fun wq => Blk wq (w.heap.size + 1) 29 #[.int .i64 0, .int .i64 0, .int .i64 0, .int .i64 0, .float .f64 0]).fact wq undef) (by simp) rfl
      have B7 := Lib.hid (B.out.trans (hI.below (Nat.le_succ w.heap.size)))
      clear hf hI
      have q0 := (h7.cell 0).trans rfl
      have q1 := (h7.cell 1).trans rfl
      have q2 := (h7.cell 2).trans rfl
      have q3 := (h7.cell 3).trans rfl
      have q4 := (h7.cell 4).trans rfl
      refine wpList_nil ?_
      go_wp2_with fail
      refine bodyPost_ret (v := .tuple #[.agg #[.int .i64 0, .int .i64 0, .int .i64 0, .int .i64 0, .float .f64 0], errAt (E 3)]) (by simp [results, Tryd.results8, go_sem, errAt, q0, q1, q2, q3, q4]) rfl ?_
      exact ⟨B7.out, by rw [HC.out, HE.out]; rfl⟩
    · have e1 : laterF now lasts = addN (plainN now) (plainN lasts) := by unfold laterF; exact if_pos hl
      have e2 : laterE now lasts = 0 := by unfold laterE; exact if_pos hl
      rw [e1, e2, errV_zero] at HL
      cases ho : isOut o
      · rw [ho] at HI
        have HE := Lib.hid (show newE n s o now lasts = 4 by unfold newE actB; rw [ha, hl, ho]; rfl)
        have HC := Lib.hid (show newC n s o now lasts = ctx0 by unfold newC; rw [HE.out]; exact if_neg (by decide))
        clear ha hl ho e1 e2
        generalize addN (plainN now) (plainN lasts) = x at *
        go_enter Tryd.func8, Tryd.ntmps8
        go_wp2_with fail
        refine (HA.out _ (HG.out _ B.out)).mono ?_
        rintro e w' ⟨rfl, hb⟩
        have B' := Lib.hid (B.out.trans (hb.mono B.out.size))
        have N' := Lib.hid (N.out.below hb N.out.lt)
        have M' := Lib.hid (M.out.below hb M.out.lt)
        clear n0 n1 hb B N M
        have n0 := (N'.out.cell 0).trans rfl
        have n1 := (N'.out.cell 1).trans rfl
        have B := Lib.hid B'.out
        have N := Lib.hid N'.out
        have M := Lib.hid M'.out
        clear B' N' M'
        go_wp2_with fail
        refine (HL.out _ (HG.out _ B.out).errs).mono ?_
        rintro e w' ⟨rfl, hb⟩
        have B' := Lib.hid (B.out.trans (hb.mono B.out.size))
        have N' := Lib.hid (N.out.below hb N.out.lt)
        have M' := Lib.hid (M.out.below hb M.out.lt)
        clear n0 n1 hb B N M
        have n0 := (N'.out.cell 0).trans rfl
        have n1 := (N'.out.cell 1).trans rfl
        have B := Lib.hid B'.out
        have N := Lib.hid N'.out
        have M := Lib.hid M'.out
        clear B' N' M'
        go_wp2_with fail
        refine (HI.out _).mono ?_
        rintro e w' ⟨rfl, hb⟩
        have B' := Lib.hid (B.out.trans (hb.mono B.out.size))
        have N' := Lib.hid (N.out.below hb N.out.lt)
        have M' := Lib.hid (M.out.below hb M.out.lt)
        clear n0 n1 hb B N M
        have n0 := (N'.out.cell 0).trans rfl
        have n1 := (N'.out.cell 1).trans rfl
        have B := Lib.hid B'.out
        have N := Lib.hid N'.out
        have M := Lib.hid M'.out
        clear B' N' M'
        go_wp2_with fail
        refine wp_phiU (fun _ wa wb => Only (w.heap.size + 1) wa wb) (fun wq => Only (w.heap.size + 1) w' wq) [(2, PSto fun wq => Blk wq (w.heap.size + 1) 29 #[.int .i64 0, .int .i64 0, .int .i64 0, .int .i64 0, .float .f64 0])] [] [(2, fun wq => Blk wq (w.heap.size + 1) 29 #[.int .i64 0, .int .i64 0, .int .i64 0, .int .i64 0, .float .f64 0])] [] (by kernel_rfl) (by kernel_rfl) ?_ ?_ ?_ ?_ (Only.refl _ _).drew ?_
        · intro p hp w1 w2 h1 h2
          exact h1.trans h2
        · simp only [List.mem_cons, List.not_mem_nil, or_false, forall_eq]
          intro h
          exact absurd rfl h
        · simp only [List.mem_cons, List.not_mem_nil, or_false, forall_eq]
          intro h
          exact absurd rfl h
        · simp only [List.mem_cons, List.not_mem_nil, or_false, forall_eq]
          exact M.out
        repeat (first | (refine phiU_skipK rfl (fun K hK => ?_); simp only [Act.put, List.setIfInBounds_toArray, List.set_cons_succ, List.set_cons_zero]; (try simp only [List.cons_append]); (try simp only [List.nil_append]); apply hK; clear hK K) | (refine phiU_pureK rfl rfl (fun K hK => ?_); apply Exists.intro; constructor; (focus (rintro w' hI; (have hbI := hI.below (Nat.le_succ w.heap.size); have s1 := (HG.out _ (B.out.trans hbI)).errs.cell 3 (by omega); simp only [errVar, errAt, List.getD_cons_zero, List.getD_cons_succ] at s1; clear hI hbI); first | (go_simp; done) | (go_simp; (try go_bits); (try go_simp); rfl) | go_simp)); simp only [Act.put, List.setIfInBounds_toArray, List.set_cons_succ, List.set_cons_zero]; (try simp only [List.cons_append]); (try simp only [List.nil_append]); apply hK; clear hK K))
        refine phiU_partK (PSto fun wq => Blk wq (w.heap.size + 1) 29 #[.int .i64 0, .int .i64 0, .int .i64 0, .int .i64 0, .float .f64 0]) rfl rfl ⟨_, rfl⟩ ?_ (fun K hK v hv => ?_)
        · intro wq hI hf hu
          have hm : Blk wq (w.heap.size + 1) 29 #[.int .i64 0, .int .i64 0, .int .i64 0, .int .i64 0, .float .f64 0] := hu (2, fun wq => Blk wq (w.heap.size + 1) 29 #[.int .i64 0, .int .i64 0, .int .i64 0, .int .i64 0, .float .f64 0]) (by simp) rfl
          exact gives_store (.tmp 8) (.tmp 30) 29 rfl (w.heap.size + 1) 0 _ _ #[.int .i64 0, .int .i64 0, .int .i64 0, .int .i64 0, .float .f64 0] rfl rfl hm (by kernel_rfl) (by simp [Value.oneCell']) (by simp) (fun w2 h2 h3 => ⟨rfl, h2, h3⟩)
        obtain rfl : v = _ := hv
        simp only [Act.put, List.setIfInBounds_toArray, List.set_cons_succ, List.set_cons_zero]; (try simp only [List.cons_append]); (try simp only [List.nil_append])
        apply hK
        clear hK K
        repeat (first | (refine phiU_skipK rfl (fun K hK => ?_); simp only [Act.put, List.setIfInBounds_toArray, List.set_cons_succ, List.set_cons_zero]; (try simp only [List.cons_append]); (try simp only [List.nil_append]); apply hK; clear hK K) | (refine phiU_pureK rfl rfl (fun K hK => ?_); apply Exists.intro; constructor; (focus (rintro w' hI; (clear hI); first | (go_simp; done) | (go_simp; (try go_bits); (try go_simp); rfl) | go_simp)); simp only [Act.put, List.setIfInBounds_toArray, List.set_cons_succ, List.set_cons_zero]; (try simp only [List.cons_append]); (try simp only [List.nil_append]); apply hK; clear hK K))
        refine phiU_done ?_
        intro w7 hI hf
        have h7 : Blk w7 (w.heap.size + 1) 29 #[.int .i64 0, .int .i64 0, .int .i64 0, .int .i64 0, .float .f64 0] := hf (2, fun wq => (PSto fun wq => Blk wq (w.heap.size + 1) 29 #[.int .i64 0, .int .i64 0, .int .i64 0, .int .i64 0, .float .f64 0]).fact wq undef) (by simp) rfl
        have B7 := Lib.hid (B.out.trans (hI.below (Nat.le_succ w.heap.size)))
        clear hf hI
        have q0 := (h7.cell 0).trans rfl
        have q1 := (h7.cell 1).trans rfl
        have q2 := (h7.cell 2).trans rfl
        have q3 := (h7.cell 3).trans rfl
        have q4 := (h7.cell 4).trans rfl
        refine wpList_nil ?_
        go_wp2_with fail
        refine bodyPost_ret (v := .tuple #[.agg #[.int .i64 0, .int .i64 0, .int .i64 0, .int .i64 0, .float .f64 0], errAt (E 3)]) (by simp [results, Tryd.results8, go_sem, errAt, q0, q1, q2, q3, q4]) rfl ?_
        exact ⟨B7.out, by rw [HC.out, HE.out]; rfl⟩
      · rw [ho] at HI
        have HE := Lib.hid (show newE n s o now lasts = 0 by unfold newE actB; rw [ha, hl, ho]; rfl)
        have HC := Lib.hid (show newC n s o now lasts = ⟨n, s, o, 0, addN (plainN now) (plainN lasts)⟩ by unfold newC; rw [HE.out]; exact if_pos rfl)
        clear ha hl ho e1 e2
        generalize addN (plainN now) (plainN lasts) = x at *
        go_enter Tryd.func8, Tryd.ntmps8
        go_wp2_with fail
        refine (HA.out _ (HG.out _ B.out)).mono ?_
        rintro e w' ⟨rfl, hb⟩
        have B' := Lib.hid (B.out.trans (hb.mono B.out.size))
        have N' := Lib.hid (N.out.below hb N.out.lt)
        have M' := Lib.hid (M.out.below hb M.out.lt)
        clear n0 n1 hb B N M
        have n0 := (N'.out.cell 0).trans rfl
        have n1 := (N'.out.cell 1).trans rfl
        have B := Lib.hid B'.out
        have N := Lib.hid N'.out
        have M := Lib.hid M'.out
        clear B' N' M'
        go_wp2_with fail
        refine (HL.out _ (HG.out _ B.out).errs).mono ?_
        rintro e w' ⟨rfl, hb⟩
        have B' := Lib.hid (B.out.trans (hb.mono B.out.size))
        have N' := Lib.hid (N.out.below hb N.out.lt)
        have M' := Lib.hid (M.out.below hb M.out.lt)
        clear n0 n1 hb B N M
        have n0 := (N'.out.cell 0).trans rfl
        have n1 := (N'.out.cell 1).trans rfl
        have B := Lib.hid B'.out
        have N := Lib.hid N'.out
        have M := Lib.hid M'.out
        clear B' N' M'
        go_wp2_with fail
        refine (HI.out _).mono ?_
        rintro e w' ⟨rfl, hb⟩
        have B' := Lib.hid (B.out.trans (hb.mono B.out.size))
        have N' := Lib.hid (N.out.below hb N.out.lt)
        have M' := Lib.hid (M.out.below hb M.out.lt)
        clear n0 n1 hb B N M
        have n0 := (N'.out.cell 0).trans rfl
        have n1 := (N'.out.cell 1).trans rfl
        have B := Lib.hid B'.out
        have N := Lib.hid N'.out
        have M := Lib.hid M'.out
        clear B' N' M'
        go_wp2_with (refine wpList_store (.tmp 8) (.tmp 35) 29 rfl rfl (w.heap.size + 1) 0 _ _ #[.int .i64 n, .int .i64 s, .int .i64 o, .int .i64 0, .float .f64 x] rfl rfl M.out (by kernel_rfl) (by simp [Value.oneCell']) (by simp) ?_)
        intro w7 hn7 ko7
        have h7 : Blk w7 (w.heap.size + 1) 29 #[.int .i64 n, .int .i64 s, .int .i64 o, .int .i64 0, .float .f64 x] := hn7
        have q0 := (h7.cell 0).trans rfl
        have q1 := (h7.cell 1).trans rfl
        have q2 := (h7.cell 2).trans rfl
        have q3 := (h7.cell 3).trans rfl
        have q4 := (h7.cell 4).trans rfl
        go_wp2_with fail
        refine bodyPost_ret (v := .tuple #[.agg #[.int .i64 n, .int .i64 s, .int .i64 o, .int .i64 0, .float .f64 x], .nilIface]) (by simp [results, Tryd.results8, go_sem, errAt, q0, q1, q2, q3, q4]) rfl ?_
        exact ⟨B.out.trans (ko7.below (Nat.le_succ _)), by rw [HC.out, HE.out]; rfl⟩
end Go.Proofs.YtejdnpbkljdahaaDoor
