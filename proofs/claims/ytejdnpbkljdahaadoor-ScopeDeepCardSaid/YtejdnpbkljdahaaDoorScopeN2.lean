/-
  ScopeN2: the document's new contexts.
-/
import Derived.Test.YtejdnpbkljdahaaDoorScopeN
import Derived.Test.YtejdnpbkljdahaaDoorScopeW2
import Derived.Test.YtejdnpbkljdahaaDoorFltArith
namespace Go.Proofs.YtejdnpbkljdahaaDoor
open Go.RowKit Go.Extern.Stop Go.Stop Go.Extern Ieee
attribute [local go_sem] flt_def fgt_def feq_def fne_def
attribute [local go_sem] run_store_flt

set_option maxRecDepth 20000 in
set_option maxHeartbeats 4000000 in
theorem rnew_any (n s o : Int) (now lasts : Nat) (h1 : now < 18446744073709551616) (h2 : lasts < 18446744073709551616) (w : World) :
    Calls Tryd.prog 9 #[.agg #[.int .i64 n, .int .i64 s], .int .i64 o, .float .f64 now, .float .f64 lasts] w fun e w' => Below w.heap.size w w' ∧ e = .returned (.tuple #[ctxV (newC n s o now lasts), .int .i64 (newE n s o now lasts : Int)]) := by
  have HA := Lib.hid (fun w' => refright_any n s w')
  have HD1 := Lib.hid (fun w' => refdel_any now w')
  have HD2 := Lib.hid (fun w' => refdel_any lasts w')
  have HP1 := Lib.hid (fun w' => refplain_any now h1 w')
  have HP2 := Lib.hid (fun w' => refplain_any lasts h2 w')
  have HM0 := Lib.hid (fun (d1 : isDel now = true) (d2 : isDel lasts = true) w t => run_float_arith (P := Tryd.prog) w .add t .f64 (plainN now) (plainN lasts) (addN (plainN now) (plainN lasts)) (add_eq (plain_le d1) (plain_le d2)))
  have hb1 := below_alloc (below_alloc1 w (.cells #[.int .i64 n, .int .i64 s] 23)) (.cells #[.int .i64 0, .int .i64 0, .int .i64 0, .int .i64 0, .float .f64 0] 29)
  have B := Lib.hid hb1
  have N := Lib.hid ((Blk.new w 23 #[.int .i64 n, .int .i64 s]).alloc (.cells #[.int .i64 0, .int .i64 0, .int .i64 0, .int .i64 0, .float .f64 0] 29))
  have M := Lib.hid (show Blk ((w.alloc (.cells #[.int .i64 n, .int .i64 s] 23)).alloc (.cells #[.int .i64 0, .int .i64 0, .int .i64 0, .int .i64 0, .float .f64 0] 29)) (w.heap.size + 1) 29 #[.int .i64 0, .int .i64 0, .int .i64 0, .int .i64 0, .float .f64 0] from by
    have := Blk.new (w.alloc (.cells #[.int .i64 n, .int .i64 s] 23)) 29 #[.int .i64 0, .int .i64 0, .int .i64 0, .int .i64 0, .float .f64 0]
    rwa [World.size_alloc] at this)
  have n0 := (N.out.cell 0).trans rfl
  have n1 := (N.out.cell 1).trans rfl
  unfold actV at HA
  clear hb1 h1 h2
  cases ha : (actT n s).isSome
  · rw [ha] at HA
    have HE := Lib.hid (show newE n s o now lasts = 1 by unfold newE actB; rw [ha]; exact if_neg (by decide))
    have HC := Lib.hid (show newC n s o now lasts = ctx0 by unfold newC; rw [HE.out]; exact if_neg (by decide))
    clear ha HD1 HD2 HP1 HP2 HM0
    go_enter Tryd.func9, Tryd.ntmps9
    go_wp2_with fail
    refine (HA.out _).mono ?_
    rintro e w' ⟨rfl, hb⟩
    have B' := Lib.hid (B.out.trans (hb.mono B.out.size))
    have N' := Lib.hid (N.out.below hb N.out.lt)
    have M' := Lib.hid (M.out.below hb M.out.lt)
    clear n0 n1 hb B N M
    have n0 := (N'.out.cell 0).trans rfl
    have n1 := (N'.out.cell 1).trans rfl
    have B := Lib.hid B'.out
    have N := Lib.hid N'.out
    have M := Lib.hid M'.out
    clear B' N' M'
    go_wp2_with (refine wpList_store (.tmp 8) (.tmp 13) 29 rfl rfl (w.heap.size + 1) 0 _ _ #[.int .i64 0, .int .i64 0, .int .i64 0, .int .i64 0, .float .f64 0] rfl rfl M.out (by kernel_rfl) (by simp [Value.oneCell']) (by simp) ?_)
    intro w7 hn7 ko7
    have h7 : Blk w7 (w.heap.size + 1) 29 #[.int .i64 0, .int .i64 0, .int .i64 0, .int .i64 0, .float .f64 0] := hn7
    have q0 := (h7.cell 0).trans rfl
    have q1 := (h7.cell 1).trans rfl
    have q2 := (h7.cell 2).trans rfl
    have q3 := (h7.cell 3).trans rfl
    have q4 := (h7.cell 4).trans rfl
    go_wp2_with fail
    refine bodyPost_ret (v := .tuple #[.agg #[.int .i64 0, .int .i64 0, .int .i64 0, .int .i64 0, .float .f64 0], .int .i64 1]) (by simp [results, Tryd.results9, go_sem, q0, q1, q2, q3, q4]) rfl ?_
    exact ⟨B.out.trans (ko7.below (Nat.le_succ _)), by rw [HC.out, HE.out]; rfl⟩
  · rw [ha] at HA
    by_cases h1 : o = 1
    · subst h1
      have ho : isOut 1 = true := rfl
      have HE0 : newE n s 1 now lasts = if bothDel now lasts then 0 else 4 := by unfold newE actB; rw [ha, ho, Bool.and_true]; rfl
      cases d1 : isDel now
      · have HE := Lib.hid (show newE n s 1 now lasts = 4 by rw [HE0]; unfold bothDel; rw [d1]; rfl)
        have HC := Lib.hid (show newC n s 1 now lasts = ctx0 by unfold newC; rw [HE.out]; exact if_neg (by decide))
        rw [d1] at HD1
        clear HE0 d1 HD2 HM0 ha ho
        go_enter Tryd.func9, Tryd.ntmps9
        go_wp2_with fail
        refine (HA.out _).mono ?_
        rintro e w' ⟨rfl, hb⟩
        have B' := Lib.hid (B.out.trans (hb.mono B.out.size))
        have N' := Lib.hid (N.out.below hb N.out.lt)
        have M' := Lib.hid (M.out.below hb M.out.lt)
        clear n0 n1 hb B N M
        have n0 := (N'.out.cell 0).trans rfl
        have n1 := (N'.out.cell 1).trans rfl
        have B := Lib.hid B'.out
        have N := Lib.hid N'.out
        have M := Lib.hid M'.out
        clear B' N' M'
        go_wp2_with fail
        refine (HD1.out _).mono ?_
        rintro e w' ⟨rfl, hb⟩
        have B' := Lib.hid (B.out.trans (hb.mono B.out.size))
        have N' := Lib.hid (N.out.below hb N.out.lt)
        have M' := Lib.hid (M.out.below hb M.out.lt)
        clear n0 n1 hb B N M
        have n0 := (N'.out.cell 0).trans rfl
        have n1 := (N'.out.cell 1).trans rfl
        have B := Lib.hid B'.out
        have N := Lib.hid N'.out
        have M := Lib.hid M'.out
        clear B' N' M'
        go_wp2_with (refine wpList_store (.tmp 8) (.tmp 30) 29 rfl rfl (w.heap.size + 1) 0 _ _ #[.int .i64 0, .int .i64 0, .int .i64 0, .int .i64 0, .float .f64 0] rfl rfl M.out (by kernel_rfl) (by simp [Value.oneCell']) (by simp) ?_)
        intro w7 hn7 ko7
        have h7 : Blk w7 (w.heap.size + 1) 29 #[.int .i64 0, .int .i64 0, .int .i64 0, .int .i64 0, .float .f64 0] := hn7
        have q0 := (h7.cell 0).trans rfl
        have q1 := (h7.cell 1).trans rfl
        have q2 := (h7.cell 2).trans rfl
        have q3 := (h7.cell 3).trans rfl
        have q4 := (h7.cell 4).trans rfl
        go_wp2_with fail
        refine bodyPost_ret (v := .tuple #[.agg #[.int .i64 0, .int .i64 0, .int .i64 0, .int .i64 0, .float .f64 0], .int .i64 4]) (by simp [results, Tryd.results9, go_sem, q0, q1, q2, q3, q4]) rfl ?_
        exact ⟨B.out.trans (ko7.below (Nat.le_succ _)), by rw [HC.out, HE.out]; rfl⟩
      · cases d2 : isDel lasts
        · have HE := Lib.hid (show newE n s 1 now lasts = 4 by rw [HE0]; unfold bothDel; rw [d1, d2]; rfl)
          have HC := Lib.hid (show newC n s 1 now lasts = ctx0 by unfold newC; rw [HE.out]; exact if_neg (by decide))
          rw [d1] at HD1
          rw [d2] at HD2
          clear HE0 d1 d2 HM0 ha ho
          go_enter Tryd.func9, Tryd.ntmps9
          go_wp2_with fail
          refine (HA.out _).mono ?_
          rintro e w' ⟨rfl, hb⟩
          have B' := Lib.hid (B.out.trans (hb.mono B.out.size))
          have N' := Lib.hid (N.out.below hb N.out.lt)
          have M' := Lib.hid (M.out.below hb M.out.lt)
          clear n0 n1 hb B N M
          have n0 := (N'.out.cell 0).trans rfl
          have n1 := (N'.out.cell 1).trans rfl
          have B := Lib.hid B'.out
          have N := Lib.hid N'.out
          have M := Lib.hid M'.out
          clear B' N' M'
          go_wp2_with fail
          refine (HD1.out _).mono ?_
          rintro e w' ⟨rfl, hb⟩
          have B' := Lib.hid (B.out.trans (hb.mono B.out.size))
          have N' := Lib.hid (N.out.below hb N.out.lt)
          have M' := Lib.hid (M.out.below hb M.out.lt)
          clear n0 n1 hb B N M
          have n0 := (N'.out.cell 0).trans rfl
          have n1 := (N'.out.cell 1).trans rfl
          have B := Lib.hid B'.out
          have N := Lib.hid N'.out
          have M := Lib.hid M'.out
          clear B' N' M'
          go_wp2_with fail
          refine (HD2.out _).mono ?_
          rintro e w' ⟨rfl, hb⟩
          have B' := Lib.hid (B.out.trans (hb.mono B.out.size))
          have N' := Lib.hid (N.out.below hb N.out.lt)
          have M' := Lib.hid (M.out.below hb M.out.lt)
          clear n0 n1 hb B N M
          have n0 := (N'.out.cell 0).trans rfl
          have n1 := (N'.out.cell 1).trans rfl
          have B := Lib.hid B'.out
          have N := Lib.hid N'.out
          have M := Lib.hid M'.out
          clear B' N' M'
          go_wp2_with (refine wpList_store (.tmp 8) (.tmp 30) 29 rfl rfl (w.heap.size + 1) 0 _ _ #[.int .i64 0, .int .i64 0, .int .i64 0, .int .i64 0, .float .f64 0] rfl rfl M.out (by kernel_rfl) (by simp [Value.oneCell']) (by simp) ?_)
          intro w7 hn7 ko7
          have h7 : Blk w7 (w.heap.size + 1) 29 #[.int .i64 0, .int .i64 0, .int .i64 0, .int .i64 0, .float .f64 0] := hn7
          have q0 := (h7.cell 0).trans rfl
          have q1 := (h7.cell 1).trans rfl
          have q2 := (h7.cell 2).trans rfl
          have q3 := (h7.cell 3).trans rfl
          have q4 := (h7.cell 4).trans rfl
          go_wp2_with fail
          refine bodyPost_ret (v := .tuple #[.agg #[.int .i64 0, .int .i64 0, .int .i64 0, .int .i64 0, .float .f64 0], .int .i64 4]) (by simp [results, Tryd.results9, go_sem, q0, q1, q2, q3, q4]) rfl ?_
          exact ⟨B.out.trans (ko7.below (Nat.le_succ _)), by rw [HC.out, HE.out]; rfl⟩
        · have HE := Lib.hid (show newE n s 1 now lasts = 0 by rw [HE0]; unfold bothDel; rw [d1, d2]; rfl)
          have HC := Lib.hid (show newC n s 1 now lasts = ⟨n, s, 1, 0, addN (plainN now) (plainN lasts)⟩ by unfold newC; rw [HE.out]; exact if_pos rfl)
          have hm := HM0.out d1 d2
          rw [d1] at HD1
          rw [d2] at HD2
          clear HE0 d1 d2 HM0 ha ho
          generalize addN (plainN now) (plainN lasts) = x at *
          generalize plainN now = p at *
          generalize plainN lasts = q at *
          go_enter Tryd.func9, Tryd.ntmps9
          go_wp2_with fail
          refine (HA.out _).mono ?_
          rintro e w' ⟨rfl, hb⟩
          have B' := Lib.hid (B.out.trans (hb.mono B.out.size))
          have N' := Lib.hid (N.out.below hb N.out.lt)
          have M' := Lib.hid (M.out.below hb M.out.lt)
          clear n0 n1 hb B N M
          have n0 := (N'.out.cell 0).trans rfl
          have n1 := (N'.out.cell 1).trans rfl
          have B := Lib.hid B'.out
          have N := Lib.hid N'.out
          have M := Lib.hid M'.out
          clear B' N' M'
          go_wp2_with fail
          refine (HD1.out _).mono ?_
          rintro e w' ⟨rfl, hb⟩
          have B' := Lib.hid (B.out.trans (hb.mono B.out.size))
          have N' := Lib.hid (N.out.below hb N.out.lt)
          have M' := Lib.hid (M.out.below hb M.out.lt)
          clear n0 n1 hb B N M
          have n0 := (N'.out.cell 0).trans rfl
          have n1 := (N'.out.cell 1).trans rfl
          have B := Lib.hid B'.out
          have N := Lib.hid N'.out
          have M := Lib.hid M'.out
          clear B' N' M'
          go_wp2_with fail
          refine (HD2.out _).mono ?_
          rintro e w' ⟨rfl, hb⟩
          have B' := Lib.hid (B.out.trans (hb.mono B.out.size))
          have N' := Lib.hid (N.out.below hb N.out.lt)
          have M' := Lib.hid (M.out.below hb M.out.lt)
          clear n0 n1 hb B N M
          have n0 := (N'.out.cell 0).trans rfl
          have n1 := (N'.out.cell 1).trans rfl
          have B := Lib.hid B'.out
          have N := Lib.hid N'.out
          have M := Lib.hid M'.out
          clear B' N' M'
          go_wp2_with fail
          refine wp_phi_tail (List.take 8 _) (List.drop 8 _) (List.take_append_drop 8 _).symm (fun w' => Below w.heap.size w w' ∧ Blk w' w.heap.size 23 #[.int .i64 n, .int .i64 s] ∧ Blk w' (w.heap.size + 1) 29 #[.int .i64 0, .int .i64 0, .int .i64 0, .int .i64 0, .float .f64 0]) [(3, PVal (.float .f64 p)), (5, PVal (.float .f64 q))] [] (by kernel_rfl) (by kernel_rfl) ?_ ?_ ⟨B.out.drew, N.out, M.out⟩ ?_
          · rintro w1 w2 ⟨a1, a2, a3⟩ hb
            exact ⟨a1.trans (hb.mono a1.size), a2.below hb a2.lt, a3.below hb a3.lt⟩
          · simp only [List.mem_cons, List.not_mem_nil, or_false, forall_eq_or_imp, forall_eq]
            exact ⟨fun _ _ _ _ _ h => h, fun _ _ _ _ _ h => h⟩
          simp only [List.take_succ_cons, List.take_zero, List.drop_succ_cons, List.drop_zero]
          repeat (first | (refine phi_skipK rfl (fun K hK => ?_); simp only [Act.put, List.setIfInBounds_toArray, List.set_cons_succ, List.set_cons_zero]; (try simp only [List.cons_append]); (try simp only [List.nil_append]); apply hK; clear hK K) | (refine phi_pureK rfl rfl (fun K hK => ?_); apply Exists.intro; constructor; (focus (rintro w' ⟨h0, hN, hM⟩; (have k0 := (hN.cell 0).trans rfl; have k1 := (hN.cell 1).trans rfl; clear h0 hN hM); first | (go_simp; done) | (go_simp; (try go_bits); (try go_simp); rfl) | go_simp)); simp only [Act.put, List.setIfInBounds_toArray, List.set_cons_succ, List.set_cons_zero]; (try simp only [List.cons_append]); (try simp only [List.nil_append]); apply hK; clear hK K))
          refine phi_partK (PVal (.float .f64 p)) rfl rfl ⟨_, rfl⟩ ?_ (fun K hK v hv => ?_)
          · rintro w' ⟨h0, hN, hM⟩ _
            unfold gives
            go_simp
            refine (HP1.out w').mono ?_
            rintro e w'' ⟨rfl, hb⟩
            exact ⟨_, rfl, rfl, trivial, hb⟩
          obtain rfl : v = _ := hv
          simp only [Act.put, List.setIfInBounds_toArray, List.set_cons_succ, List.set_cons_zero]; (try simp only [List.cons_append]); (try simp only [List.nil_append])
          apply hK
          clear hK K
          repeat (first | (refine phi_skipK rfl (fun K hK => ?_); simp only [Act.put, List.setIfInBounds_toArray, List.set_cons_succ, List.set_cons_zero]; (try simp only [List.cons_append]); (try simp only [List.nil_append]); apply hK; clear hK K) | (refine phi_pureK rfl rfl (fun K hK => ?_); apply Exists.intro; constructor; (focus (rintro w' ⟨h0, hN, hM⟩; (have k0 := (hN.cell 0).trans rfl; have k1 := (hN.cell 1).trans rfl; clear h0 hN hM); first | (go_simp; done) | (go_simp; (try go_bits); (try go_simp); rfl) | go_simp)); simp only [Act.put, List.setIfInBounds_toArray, List.set_cons_succ, List.set_cons_zero]; (try simp only [List.cons_append]); (try simp only [List.nil_append]); apply hK; clear hK K))
          refine phi_partK (PVal (.float .f64 q)) rfl rfl ⟨_, rfl⟩ ?_ (fun K hK v hv => ?_)
          · rintro w' ⟨h0, hN, hM⟩ _
            unfold gives
            go_simp
            refine (HP2.out w').mono ?_
            rintro e w'' ⟨rfl, hb⟩
            exact ⟨_, rfl, rfl, trivial, hb⟩
          obtain rfl : v = _ := hv
          simp only [Act.put, List.setIfInBounds_toArray, List.set_cons_succ, List.set_cons_zero]; (try simp only [List.cons_append]); (try simp only [List.nil_append])
          apply hK
          clear hK K
          repeat (first | (refine phi_skipK rfl (fun K hK => ?_); simp only [Act.put, List.setIfInBounds_toArray, List.set_cons_succ, List.set_cons_zero]; (try simp only [List.cons_append]); (try simp only [List.nil_append]); apply hK; clear hK K) | (refine phi_pureK rfl rfl (fun K hK => ?_); apply Exists.intro; constructor; (focus (rintro w' ⟨h0, hN, hM⟩; (have k0 := (hN.cell 0).trans rfl; have k1 := (hN.cell 1).trans rfl; clear h0 hN hM); first | (go_simp; done) | (go_simp; (try go_bits); (try go_simp); rfl) | go_simp)); simp only [Act.put, List.setIfInBounds_toArray, List.set_cons_succ, List.set_cons_zero]; (try simp only [List.cons_append]); (try simp only [List.nil_append]); apply hK; clear hK K))
          refine phi_done ?_
          rintro w' ⟨hb, hN, hM⟩ _
          have B' := Lib.hid hb
          have M' := Lib.hid hM
          clear hb hN hM B N M
          have B := Lib.hid B'.out
          have M := Lib.hid M'.out
          clear B' M'
          refine wpList_store (.tmp 8) (.tmp 38) 29 rfl rfl (w.heap.size + 1) 0 _ _ #[.int .i64 n, .int .i64 s, .int .i64 1, .int .i64 0, .float .f64 x] rfl rfl M.out (by kernel_rfl) (by simp [Value.oneCell']) (by simp) ?_
          intro w7 hn7 ko7
          have h7 : Blk w7 (w.heap.size + 1) 29 #[.int .i64 n, .int .i64 s, .int .i64 1, .int .i64 0, .float .f64 x] := hn7
          have q0 := (h7.cell 0).trans rfl
          have q1 := (h7.cell 1).trans rfl
          have q2 := (h7.cell 2).trans rfl
          have q3 := (h7.cell 3).trans rfl
          have q4 := (h7.cell 4).trans rfl
          go_wp2_with fail
          refine bodyPost_ret (v := .tuple #[.agg #[.int .i64 n, .int .i64 s, .int .i64 1, .int .i64 0, .float .f64 x], .int .i64 0]) (by simp [results, Tryd.results9, go_sem, q0, q1, q2, q3, q4]) rfl ?_
          exact ⟨B.out.trans (ko7.below (Nat.le_succ _)), by rw [HC.out, HE.out]; rfl⟩
    · by_cases h2 : o = 2
      · subst h2
        have ho : isOut 2 = true := rfl
        have HE0 : newE n s 2 now lasts = if bothDel now lasts then 0 else 4 := by unfold newE actB; rw [ha, ho, Bool.and_true]; rfl
        cases d1 : isDel now
        · have HE := Lib.hid (show newE n s 2 now lasts = 4 by rw [HE0]; unfold bothDel; rw [d1]; rfl)
          have HC := Lib.hid (show newC n s 2 now lasts = ctx0 by unfold newC; rw [HE.out]; exact if_neg (by decide))
          rw [d1] at HD1
          clear HE0 d1 HD2 HM0 ha ho
          go_enter Tryd.func9, Tryd.ntmps9
          go_wp2_with fail
          refine (HA.out _).mono ?_
          rintro e w' ⟨rfl, hb⟩
          have B' := Lib.hid (B.out.trans (hb.mono B.out.size))
          have N' := Lib.hid (N.out.below hb N.out.lt)
          have M' := Lib.hid (M.out.below hb M.out.lt)
          clear n0 n1 hb B N M
          have n0 := (N'.out.cell 0).trans rfl
          have n1 := (N'.out.cell 1).trans rfl
          have B := Lib.hid B'.out
          have N := Lib.hid N'.out
          have M := Lib.hid M'.out
          clear B' N' M'
          go_wp2_with fail
          refine (HD1.out _).mono ?_
          rintro e w' ⟨rfl, hb⟩
          have B' := Lib.hid (B.out.trans (hb.mono B.out.size))
          have N' := Lib.hid (N.out.below hb N.out.lt)
          have M' := Lib.hid (M.out.below hb M.out.lt)
          clear n0 n1 hb B N M
          have n0 := (N'.out.cell 0).trans rfl
          have n1 := (N'.out.cell 1).trans rfl
          have B := Lib.hid B'.out
          have N := Lib.hid N'.out
          have M := Lib.hid M'.out
          clear B' N' M'
          go_wp2_with (refine wpList_store (.tmp 8) (.tmp 30) 29 rfl rfl (w.heap.size + 1) 0 _ _ #[.int .i64 0, .int .i64 0, .int .i64 0, .int .i64 0, .float .f64 0] rfl rfl M.out (by kernel_rfl) (by simp [Value.oneCell']) (by simp) ?_)
          intro w7 hn7 ko7
          have h7 : Blk w7 (w.heap.size + 1) 29 #[.int .i64 0, .int .i64 0, .int .i64 0, .int .i64 0, .float .f64 0] := hn7
          have q0 := (h7.cell 0).trans rfl
          have q1 := (h7.cell 1).trans rfl
          have q2 := (h7.cell 2).trans rfl
          have q3 := (h7.cell 3).trans rfl
          have q4 := (h7.cell 4).trans rfl
          go_wp2_with fail
          refine bodyPost_ret (v := .tuple #[.agg #[.int .i64 0, .int .i64 0, .int .i64 0, .int .i64 0, .float .f64 0], .int .i64 4]) (by simp [results, Tryd.results9, go_sem, q0, q1, q2, q3, q4]) rfl ?_
          exact ⟨B.out.trans (ko7.below (Nat.le_succ _)), by rw [HC.out, HE.out]; rfl⟩
        · cases d2 : isDel lasts
          · have HE := Lib.hid (show newE n s 2 now lasts = 4 by rw [HE0]; unfold bothDel; rw [d1, d2]; rfl)
            have HC := Lib.hid (show newC n s 2 now lasts = ctx0 by unfold newC; rw [HE.out]; exact if_neg (by decide))
            rw [d1] at HD1
            rw [d2] at HD2
            clear HE0 d1 d2 HM0 ha ho
            go_enter Tryd.func9, Tryd.ntmps9
            go_wp2_with fail
            refine (HA.out _).mono ?_
            rintro e w' ⟨rfl, hb⟩
            have B' := Lib.hid (B.out.trans (hb.mono B.out.size))
            have N' := Lib.hid (N.out.below hb N.out.lt)
            have M' := Lib.hid (M.out.below hb M.out.lt)
            clear n0 n1 hb B N M
            have n0 := (N'.out.cell 0).trans rfl
            have n1 := (N'.out.cell 1).trans rfl
            have B := Lib.hid B'.out
            have N := Lib.hid N'.out
            have M := Lib.hid M'.out
            clear B' N' M'
            go_wp2_with fail
            refine (HD1.out _).mono ?_
            rintro e w' ⟨rfl, hb⟩
            have B' := Lib.hid (B.out.trans (hb.mono B.out.size))
            have N' := Lib.hid (N.out.below hb N.out.lt)
            have M' := Lib.hid (M.out.below hb M.out.lt)
            clear n0 n1 hb B N M
            have n0 := (N'.out.cell 0).trans rfl
            have n1 := (N'.out.cell 1).trans rfl
            have B := Lib.hid B'.out
            have N := Lib.hid N'.out
            have M := Lib.hid M'.out
            clear B' N' M'
            go_wp2_with fail
            refine (HD2.out _).mono ?_
            rintro e w' ⟨rfl, hb⟩
            have B' := Lib.hid (B.out.trans (hb.mono B.out.size))
            have N' := Lib.hid (N.out.below hb N.out.lt)
            have M' := Lib.hid (M.out.below hb M.out.lt)
            clear n0 n1 hb B N M
            have n0 := (N'.out.cell 0).trans rfl
            have n1 := (N'.out.cell 1).trans rfl
            have B := Lib.hid B'.out
            have N := Lib.hid N'.out
            have M := Lib.hid M'.out
            clear B' N' M'
            go_wp2_with (refine wpList_store (.tmp 8) (.tmp 30) 29 rfl rfl (w.heap.size + 1) 0 _ _ #[.int .i64 0, .int .i64 0, .int .i64 0, .int .i64 0, .float .f64 0] rfl rfl M.out (by kernel_rfl) (by simp [Value.oneCell']) (by simp) ?_)
            intro w7 hn7 ko7
            have h7 : Blk w7 (w.heap.size + 1) 29 #[.int .i64 0, .int .i64 0, .int .i64 0, .int .i64 0, .float .f64 0] := hn7
            have q0 := (h7.cell 0).trans rfl
            have q1 := (h7.cell 1).trans rfl
            have q2 := (h7.cell 2).trans rfl
            have q3 := (h7.cell 3).trans rfl
            have q4 := (h7.cell 4).trans rfl
            go_wp2_with fail
            refine bodyPost_ret (v := .tuple #[.agg #[.int .i64 0, .int .i64 0, .int .i64 0, .int .i64 0, .float .f64 0], .int .i64 4]) (by simp [results, Tryd.results9, go_sem, q0, q1, q2, q3, q4]) rfl ?_
            exact ⟨B.out.trans (ko7.below (Nat.le_succ _)), by rw [HC.out, HE.out]; rfl⟩
          · have HE := Lib.hid (show newE n s 2 now lasts = 0 by rw [HE0]; unfold bothDel; rw [d1, d2]; rfl)
            have HC := Lib.hid (show newC n s 2 now lasts = ⟨n, s, 2, 0, addN (plainN now) (plainN lasts)⟩ by unfold newC; rw [HE.out]; exact if_pos rfl)
            have hm := HM0.out d1 d2
            rw [d1] at HD1
            rw [d2] at HD2
            clear HE0 d1 d2 HM0 ha ho
            generalize addN (plainN now) (plainN lasts) = x at *
            generalize plainN now = p at *
            generalize plainN lasts = q at *
            go_enter Tryd.func9, Tryd.ntmps9
            go_wp2_with fail
            refine (HA.out _).mono ?_
            rintro e w' ⟨rfl, hb⟩
            have B' := Lib.hid (B.out.trans (hb.mono B.out.size))
            have N' := Lib.hid (N.out.below hb N.out.lt)
            have M' := Lib.hid (M.out.below hb M.out.lt)
            clear n0 n1 hb B N M
            have n0 := (N'.out.cell 0).trans rfl
            have n1 := (N'.out.cell 1).trans rfl
            have B := Lib.hid B'.out
            have N := Lib.hid N'.out
            have M := Lib.hid M'.out
            clear B' N' M'
            go_wp2_with fail
            refine (HD1.out _).mono ?_
            rintro e w' ⟨rfl, hb⟩
            have B' := Lib.hid (B.out.trans (hb.mono B.out.size))
            have N' := Lib.hid (N.out.below hb N.out.lt)
            have M' := Lib.hid (M.out.below hb M.out.lt)
            clear n0 n1 hb B N M
            have n0 := (N'.out.cell 0).trans rfl
            have n1 := (N'.out.cell 1).trans rfl
            have B := Lib.hid B'.out
            have N := Lib.hid N'.out
            have M := Lib.hid M'.out
            clear B' N' M'
            go_wp2_with fail
            refine (HD2.out _).mono ?_
            rintro e w' ⟨rfl, hb⟩
            have B' := Lib.hid (B.out.trans (hb.mono B.out.size))
            have N' := Lib.hid (N.out.below hb N.out.lt)
            have M' := Lib.hid (M.out.below hb M.out.lt)
            clear n0 n1 hb B N M
            have n0 := (N'.out.cell 0).trans rfl
            have n1 := (N'.out.cell 1).trans rfl
            have B := Lib.hid B'.out
            have N := Lib.hid N'.out
            have M := Lib.hid M'.out
            clear B' N' M'
            go_wp2_with fail
            refine wp_phi_tail (List.take 8 _) (List.drop 8 _) (List.take_append_drop 8 _).symm (fun w' => Below w.heap.size w w' ∧ Blk w' w.heap.size 23 #[.int .i64 n, .int .i64 s] ∧ Blk w' (w.heap.size + 1) 29 #[.int .i64 0, .int .i64 0, .int .i64 0, .int .i64 0, .float .f64 0]) [(3, PVal (.float .f64 p)), (5, PVal (.float .f64 q))] [] (by kernel_rfl) (by kernel_rfl) ?_ ?_ ⟨B.out.drew, N.out, M.out⟩ ?_
            · rintro w1 w2 ⟨a1, a2, a3⟩ hb
              exact ⟨a1.trans (hb.mono a1.size), a2.below hb a2.lt, a3.below hb a3.lt⟩
            · simp only [List.mem_cons, List.not_mem_nil, or_false, forall_eq_or_imp, forall_eq]
              exact ⟨fun _ _ _ _ _ h => h, fun _ _ _ _ _ h => h⟩
            simp only [List.take_succ_cons, List.take_zero, List.drop_succ_cons, List.drop_zero]
            repeat (first | (refine phi_skipK rfl (fun K hK => ?_); simp only [Act.put, List.setIfInBounds_toArray, List.set_cons_succ, List.set_cons_zero]; (try simp only [List.cons_append]); (try simp only [List.nil_append]); apply hK; clear hK K) | (refine phi_pureK rfl rfl (fun K hK => ?_); apply Exists.intro; constructor; (focus (rintro w' ⟨h0, hN, hM⟩; (have k0 := (hN.cell 0).trans rfl; have k1 := (hN.cell 1).trans rfl; clear h0 hN hM); first | (go_simp; done) | (go_simp; (try go_bits); (try go_simp); rfl) | go_simp)); simp only [Act.put, List.setIfInBounds_toArray, List.set_cons_succ, List.set_cons_zero]; (try simp only [List.cons_append]); (try simp only [List.nil_append]); apply hK; clear hK K))
            refine phi_partK (PVal (.float .f64 p)) rfl rfl ⟨_, rfl⟩ ?_ (fun K hK v hv => ?_)
            · rintro w' ⟨h0, hN, hM⟩ _
              unfold gives
              go_simp
              refine (HP1.out w').mono ?_
              rintro e w'' ⟨rfl, hb⟩
              exact ⟨_, rfl, rfl, trivial, hb⟩
            obtain rfl : v = _ := hv
            simp only [Act.put, List.setIfInBounds_toArray, List.set_cons_succ, List.set_cons_zero]; (try simp only [List.cons_append]); (try simp only [List.nil_append])
            apply hK
            clear hK K
            repeat (first | (refine phi_skipK rfl (fun K hK => ?_); simp only [Act.put, List.setIfInBounds_toArray, List.set_cons_succ, List.set_cons_zero]; (try simp only [List.cons_append]); (try simp only [List.nil_append]); apply hK; clear hK K) | (refine phi_pureK rfl rfl (fun K hK => ?_); apply Exists.intro; constructor; (focus (rintro w' ⟨h0, hN, hM⟩; (have k0 := (hN.cell 0).trans rfl; have k1 := (hN.cell 1).trans rfl; clear h0 hN hM); first | (go_simp; done) | (go_simp; (try go_bits); (try go_simp); rfl) | go_simp)); simp only [Act.put, List.setIfInBounds_toArray, List.set_cons_succ, List.set_cons_zero]; (try simp only [List.cons_append]); (try simp only [List.nil_append]); apply hK; clear hK K))
            refine phi_partK (PVal (.float .f64 q)) rfl rfl ⟨_, rfl⟩ ?_ (fun K hK v hv => ?_)
            · rintro w' ⟨h0, hN, hM⟩ _
              unfold gives
              go_simp
              refine (HP2.out w').mono ?_
              rintro e w'' ⟨rfl, hb⟩
              exact ⟨_, rfl, rfl, trivial, hb⟩
            obtain rfl : v = _ := hv
            simp only [Act.put, List.setIfInBounds_toArray, List.set_cons_succ, List.set_cons_zero]; (try simp only [List.cons_append]); (try simp only [List.nil_append])
            apply hK
            clear hK K
            repeat (first | (refine phi_skipK rfl (fun K hK => ?_); simp only [Act.put, List.setIfInBounds_toArray, List.set_cons_succ, List.set_cons_zero]; (try simp only [List.cons_append]); (try simp only [List.nil_append]); apply hK; clear hK K) | (refine phi_pureK rfl rfl (fun K hK => ?_); apply Exists.intro; constructor; (focus (rintro w' ⟨h0, hN, hM⟩; (have k0 := (hN.cell 0).trans rfl; have k1 := (hN.cell 1).trans rfl; clear h0 hN hM); first | (go_simp; done) | (go_simp; (try go_bits); (try go_simp); rfl) | go_simp)); simp only [Act.put, List.setIfInBounds_toArray, List.set_cons_succ, List.set_cons_zero]; (try simp only [List.cons_append]); (try simp only [List.nil_append]); apply hK; clear hK K))
            refine phi_done ?_
            rintro w' ⟨hb, hN, hM⟩ _
            have B' := Lib.hid hb
            have M' := Lib.hid hM
            clear hb hN hM B N M
            have B := Lib.hid B'.out
            have M := Lib.hid M'.out
            clear B' M'
            refine wpList_store (.tmp 8) (.tmp 38) 29 rfl rfl (w.heap.size + 1) 0 _ _ #[.int .i64 n, .int .i64 s, .int .i64 2, .int .i64 0, .float .f64 x] rfl rfl M.out (by kernel_rfl) (by simp [Value.oneCell']) (by simp) ?_
            intro w7 hn7 ko7
            have h7 : Blk w7 (w.heap.size + 1) 29 #[.int .i64 n, .int .i64 s, .int .i64 2, .int .i64 0, .float .f64 x] := hn7
            have q0 := (h7.cell 0).trans rfl
            have q1 := (h7.cell 1).trans rfl
            have q2 := (h7.cell 2).trans rfl
            have q3 := (h7.cell 3).trans rfl
            have q4 := (h7.cell 4).trans rfl
            go_wp2_with fail
            refine bodyPost_ret (v := .tuple #[.agg #[.int .i64 n, .int .i64 s, .int .i64 2, .int .i64 0, .float .f64 x], .int .i64 0]) (by simp [results, Tryd.results9, go_sem, q0, q1, q2, q3, q4]) rfl ?_
            exact ⟨B.out.trans (ko7.below (Nat.le_succ _)), by rw [HC.out, HE.out]; rfl⟩
      · have d1 : (o == 1) = false := by simpa using h1
        have d2 : (o == 2) = false := by simpa using h2
        have b1 : (o != 1) = true := by simpa using h1
        have b2 : (o != 2) = true := by simpa using h2
        have ho : isOut o = false := by unfold isOut; rw [d1, d2]; rfl
        have HE := Lib.hid (show newE n s o now lasts = 4 by unfold newE actB; rw [ha, ho, Bool.and_false]; rfl)
        have HC := Lib.hid (show newC n s o now lasts = ctx0 by unfold newC; rw [HE.out]; exact if_neg (by decide))
        clear ha ho HD1 HD2 HP1 HP2 HM0
        go_enter Tryd.func9, Tryd.ntmps9
        go_wp2_with fail
        refine (HA.out _).mono ?_
        rintro e w' ⟨rfl, hb⟩
        have B' := Lib.hid (B.out.trans (hb.mono B.out.size))
        have N' := Lib.hid (N.out.below hb N.out.lt)
        have M' := Lib.hid (M.out.below hb M.out.lt)
        clear n0 n1 hb B N M
        have n0 := (N'.out.cell 0).trans rfl
        have n1 := (N'.out.cell 1).trans rfl
        have B := Lib.hid B'.out
        have N := Lib.hid N'.out
        have M := Lib.hid M'.out
        clear B' N' M'
        go_wp2_with (refine wpList_store (.tmp 8) (.tmp 30) 29 rfl rfl (w.heap.size + 1) 0 _ _ #[.int .i64 0, .int .i64 0, .int .i64 0, .int .i64 0, .float .f64 0] rfl rfl M.out (by kernel_rfl) (by simp [Value.oneCell']) (by simp) ?_)
        intro w7 hn7 ko7
        have h7 : Blk w7 (w.heap.size + 1) 29 #[.int .i64 0, .int .i64 0, .int .i64 0, .int .i64 0, .float .f64 0] := hn7
        have q0 := (h7.cell 0).trans rfl
        have q1 := (h7.cell 1).trans rfl
        have q2 := (h7.cell 2).trans rfl
        have q3 := (h7.cell 3).trans rfl
        have q4 := (h7.cell 4).trans rfl
        go_wp2_with fail
        refine bodyPost_ret (v := .tuple #[.agg #[.int .i64 0, .int .i64 0, .int .i64 0, .int .i64 0, .float .f64 0], .int .i64 4]) (by simp [results, Tryd.results9, go_sem, q0, q1, q2, q3, q4]) rfl ?_
        exact ⟨B.out.trans (ko7.below (Nat.le_succ _)), by rw [HC.out, HE.out]; rfl⟩
end Go.Proofs.YtejdnpbkljdahaaDoor
