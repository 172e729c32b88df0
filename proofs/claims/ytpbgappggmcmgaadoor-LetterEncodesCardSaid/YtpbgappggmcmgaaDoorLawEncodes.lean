/-
  LawEncodes: the walk of LetterEncodes.
-/
import Derived.Test.YtpbgappggmcmgaaDoorLetterE3
import Derived.Test.YtpbgappggmcmgaaDoorLetterH
namespace Go.Proofs.YtpbgappggmcmgaaDoor
open Go.RowKit Go.Extern.Stop Go.Stop Go.Extern
attribute [local go_sem] bs_toList

set_option maxRecDepth 20000 in
set_option maxHeartbeats 4000000 in
theorem encodes_law (m : Msg) (hm : m.wf) (w : World) (E : Nat → Addr) (h : IdsG w E) :
    Calls Tryd.prog 5 #[msgV m] w fun e w' => e = .returned (.bool true) ∧ Below w.heap.size w w' := by
  have HG := Lib.hid (fun w' (hb : Below w.heap.size w w') => h.below hb)
  have HAL := Lib.hid (fun w' h => lalive_any w' E h)
  have HEN := Lib.hid (fun w' h => encode_any m hm w' E h)
  have HRI := Lib.hid (fun w' h => lright_any m hm w' E h)
  have HRR := Lib.hid (fun w' => mright_any m w')
  have HNU := Lib.hid (fun w' h => num_any w' E 4 (by omega) h)
  have hself := fun w' => eqMsg m.k m.f m.t m.n m.s m.r m.p m.q m.c m.k m.f m.t m.n m.s m.r m.p m.q m.c w'
  simp only [beq_self_eq_true, Bool.and_self] at hself
  unfold GivesB at HEN
  cases hr : rightM m
  · rw [hr] at HRI HRR
    have he : encE m = 4 ∧ encL m = [] := by unfold encE encL; rw [hr]; exact ⟨rfl, rfl⟩
    simp only [he.1, he.2] at HEN
    clear he hr hm h hself
    unfold msgV at HEN HRI HRR ⊢
    obtain ⟨a0, a1, a2, a3, a4, a5, a6, a7, a8⟩ := m
    simp only at HEN HRI HRR ⊢
    generalize errV E 4 = ev at *
    have B := Lib.hid (below_alloc1 w (.cells #[.int .i64 a0, .int .i64 a1, .int .i64 a2, .int .i64 a3, .int .i64 a4, .int .i64 a5, .int .i64 a6, .int .i64 a7, .int .i64 a8] 25))
    have N := Lib.hid (Blk.new w 25 #[.int .i64 a0, .int .i64 a1, .int .i64 a2, .int .i64 a3, .int .i64 a4, .int .i64 a5, .int .i64 a6, .int .i64 a7, .int .i64 a8])
    have n0 := (N.out.cell 0).trans rfl
    have n1 := (N.out.cell 1).trans rfl
    have n2 := (N.out.cell 2).trans rfl
    have n3 := (N.out.cell 3).trans rfl
    have n4 := (N.out.cell 4).trans rfl
    have n5 := (N.out.cell 5).trans rfl
    have n6 := (N.out.cell 6).trans rfl
    have n7 := (N.out.cell 7).trans rfl
    have n8 := (N.out.cell 8).trans rfl
    go_enter Tryd.func5, Tryd.ntmps5
    go_wp2_with fail
    refine (HAL.out _ (HG.out _ B.out)).mono ?_
    rintro e w' ⟨rfl, hb⟩
    have B' := Lib.hid (B.out.trans (hb.mono B.out.size))
    have N' := Lib.hid (N.out.below hb N.out.lt)
    clear hb B N n0 n1 n2 n3 n4 n5 n6 n7 n8
    have n0 := (N'.out.cell 0).trans rfl
    have n1 := (N'.out.cell 1).trans rfl
    have n2 := (N'.out.cell 2).trans rfl
    have n3 := (N'.out.cell 3).trans rfl
    have n4 := (N'.out.cell 4).trans rfl
    have n5 := (N'.out.cell 5).trans rfl
    have n6 := (N'.out.cell 6).trans rfl
    have n7 := (N'.out.cell 7).trans rfl
    have n8 := (N'.out.cell 8).trans rfl
    have B := Lib.hid B'.out
    have N := Lib.hid N'.out
    clear B' N'
    go_wp2_with fail
    refine (HEN.out _ (HG.out _ B.out)).mono ?_
    rintro e w' ⟨v, rfl, ho, hb⟩
    have hyt := owns_byt ho
    obtain ⟨p, c, rfl, _, _, _⟩ := id hyt
    have Y := Lib.hid hyt
    clear ho hyt
    have B' := Lib.hid (B.out.trans (hb.mono B.out.size))
    have N' := Lib.hid (N.out.below hb N.out.lt)
    clear hb B N n0 n1 n2 n3 n4 n5 n6 n7 n8
    have n0 := (N'.out.cell 0).trans rfl
    have n1 := (N'.out.cell 1).trans rfl
    have n2 := (N'.out.cell 2).trans rfl
    have n3 := (N'.out.cell 3).trans rfl
    have n4 := (N'.out.cell 4).trans rfl
    have n5 := (N'.out.cell 5).trans rfl
    have n6 := (N'.out.cell 6).trans rfl
    have n7 := (N'.out.cell 7).trans rfl
    have n8 := (N'.out.cell 8).trans rfl
    have B := Lib.hid B'.out
    have N := Lib.hid N'.out
    clear B' N'
    go_wp2_with fail
    refine wp_phi (fun wq => Below w.heap.size w wq ∧ Blk wq w.heap.size 25 #[.int .i64 a0, .int .i64 a1, .int .i64 a2, .int .i64 a3, .int .i64 a4, .int .i64 a5, .int .i64 a6, .int .i64 a7, .int .i64 a8] ∧ Byt wq (.slice p ([] : List UInt8).length c) ([] : List UInt8)) [(1, PVal (.bool false)), (3, PVal (.bool false))] [] (by kernel_rfl) (by kernel_rfl) ?_ ?_ ⟨B.out.drew, N.out, Y.out.keep (fun _ _ h => h)⟩ ?_
    · rintro w1 w2 ⟨a1, a2, a3⟩ hb
      exact ⟨a1.trans (hb.mono a1.size), a2.below hb a2.lt, a3.keep (Below.keeps hb)⟩
    · simp only [List.mem_cons, List.not_mem_nil, or_false, forall_eq_or_imp, forall_eq]
      exact ⟨fun _ _ _ _ _ h => h, fun _ _ _ _ _ h => h⟩
    repeat (first | (refine phi_skipK rfl (fun K hK => ?_); simp only [Act.put, List.setIfInBounds_toArray, List.set_cons_succ, List.set_cons_zero]; (try simp only [List.cons_append]); (try simp only [List.nil_append]); apply hK; clear hK K) | (refine phi_pureK rfl rfl (fun K hK => ?_); apply Exists.intro; constructor; (focus (rintro w' ⟨h0, hN, hY⟩; (have k0 := (hN.cell 0).trans rfl; have k1 := (hN.cell 1).trans rfl; have k2 := (hN.cell 2).trans rfl; have k3 := (hN.cell 3).trans rfl; have k4 := (hN.cell 4).trans rfl; have k5 := (hN.cell 5).trans rfl; have k6 := (hN.cell 6).trans rfl; have k7 := (hN.cell 7).trans rfl; have k8 := (hN.cell 8).trans rfl; clear h0 hN hY); first | (go_simp; done) | (go_simp; (try go_bits); (try go_simp); rfl) | go_simp)); simp only [Act.put, List.setIfInBounds_toArray, List.set_cons_succ, List.set_cons_zero]; (try simp only [List.cons_append]); (try simp only [List.nil_append]); apply hK; clear hK K))
    refine phi_partK (PVal (.bool false)) rfl rfl ⟨_, rfl⟩ ?_ (fun K hK v hv => ?_)
    · rintro wq ⟨h0, hN, hY⟩ _
      unfold gives
      go_simp
      refine (HRI.out _ (HG.out _ h0)).mono ?_
      rintro e w'' ⟨rfl, hb⟩
      exact ⟨_, rfl, rfl, trivial, hb⟩
    obtain rfl : v = _ := hv
    simp only [Act.put, List.setIfInBounds_toArray, List.set_cons_succ, List.set_cons_zero]; (try simp only [List.cons_append]); (try simp only [List.nil_append])
    apply hK
    clear hK K
    repeat (first | (refine phi_skipK rfl (fun K hK => ?_); simp only [Act.put, List.setIfInBounds_toArray, List.set_cons_succ, List.set_cons_zero]; (try simp only [List.cons_append]); (try simp only [List.nil_append]); apply hK; clear hK K) | (refine phi_pureK rfl rfl (fun K hK => ?_); apply Exists.intro; constructor; (focus (rintro w' ⟨h0, hN, hY⟩; (have k0 := (hN.cell 0).trans rfl; have k1 := (hN.cell 1).trans rfl; have k2 := (hN.cell 2).trans rfl; have k3 := (hN.cell 3).trans rfl; have k4 := (hN.cell 4).trans rfl; have k5 := (hN.cell 5).trans rfl; have k6 := (hN.cell 6).trans rfl; have k7 := (hN.cell 7).trans rfl; have k8 := (hN.cell 8).trans rfl; clear h0 hN hY); first | (go_simp; done) | (go_simp; (try go_bits); (try go_simp); rfl) | go_simp)); simp only [Act.put, List.setIfInBounds_toArray, List.set_cons_succ, List.set_cons_zero]; (try simp only [List.cons_append]); (try simp only [List.nil_append]); apply hK; clear hK K))
    refine phi_partK (PVal (.bool false)) rfl rfl ⟨_, rfl⟩ ?_ (fun K hK v hv => ?_)
    · rintro wq ⟨h0, hN, hY⟩ _
      unfold gives
      go_simp
      refine (HRR.out _).mono ?_
      rintro e w'' ⟨rfl, hb⟩
      exact ⟨_, rfl, rfl, trivial, hb⟩
    obtain rfl : v = _ := hv
    simp only [Act.put, List.setIfInBounds_toArray, List.set_cons_succ, List.set_cons_zero]; (try simp only [List.cons_append]); (try simp only [List.nil_append])
    apply hK
    clear hK K
    repeat (first | (refine phi_skipK rfl (fun K hK => ?_); simp only [Act.put, List.setIfInBounds_toArray, List.set_cons_succ, List.set_cons_zero]; (try simp only [List.cons_append]); (try simp only [List.nil_append]); apply hK; clear hK K) | (refine phi_pureK rfl rfl (fun K hK => ?_); apply Exists.intro; constructor; (focus (rintro w' ⟨h0, hN, hY⟩; (have k0 := (hN.cell 0).trans rfl; have k1 := (hN.cell 1).trans rfl; have k2 := (hN.cell 2).trans rfl; have k3 := (hN.cell 3).trans rfl; have k4 := (hN.cell 4).trans rfl; have k5 := (hN.cell 5).trans rfl; have k6 := (hN.cell 6).trans rfl; have k7 := (hN.cell 7).trans rfl; have k8 := (hN.cell 8).trans rfl; clear h0 hN hY); first | (go_simp; done) | (go_simp; (try go_bits); (try go_simp); rfl) | go_simp)); simp only [Act.put, List.setIfInBounds_toArray, List.set_cons_succ, List.set_cons_zero]; (try simp only [List.cons_append]); (try simp only [List.nil_append]); apply hK; clear hK K))
    refine phi_done ?_
    rintro w' ⟨hb, hN, hY⟩ _
    have B' := Lib.hid hb
    have N' := Lib.hid hN
    have Y' := Lib.hid hY
    clear hb hN hY B N Y n0 n1 n2 n3 n4 n5 n6 n7 n8
    have B := Lib.hid B'.out
    have N := Lib.hid N'.out
    have Y := Lib.hid Y'.out
    clear B' N' Y'
    have n0 := (N.out.cell 0).trans rfl
    have n1 := (N.out.cell 1).trans rfl
    have n2 := (N.out.cell 2).trans rfl
    have n3 := (N.out.cell 3).trans rfl
    have n4 := (N.out.cell 4).trans rfl
    have n5 := (N.out.cell 5).trans rfl
    have n6 := (N.out.cell 6).trans rfl
    have n7 := (N.out.cell 7).trans rfl
    have n8 := (N.out.cell 8).trans rfl
    refine wpList_nil ?_
    go_wp2_with fail
    refine (HRR.out _).mono ?_
    rintro e w' ⟨rfl, hb⟩
    have Y' := Lib.hid (Y.out.keep (Below.keeps hb))
    have B' := Lib.hid (B.out.trans (hb.mono B.out.size))
    have N' := Lib.hid (N.out.below hb N.out.lt)
    clear hb B N n0 n1 n2 n3 n4 n5 n6 n7 n8
    have n0 := (N'.out.cell 0).trans rfl
    have n1 := (N'.out.cell 1).trans rfl
    have n2 := (N'.out.cell 2).trans rfl
    have n3 := (N'.out.cell 3).trans rfl
    have n4 := (N'.out.cell 4).trans rfl
    have n5 := (N'.out.cell 5).trans rfl
    have n6 := (N'.out.cell 6).trans rfl
    have n7 := (N'.out.cell 7).trans rfl
    have n8 := (N'.out.cell 8).trans rfl
    clear Y
    have Y := Lib.hid Y'.out
    clear Y'
    have B := Lib.hid B'.out
    have N := Lib.hid N'.out
    clear B' N'
    go_wp2_with fail
    refine (HNU.out _ (HG.out _ B.out).errs).mono ?_
    rintro e w' ⟨rfl, hb⟩
    have Y' := Lib.hid (Y.out.keep (Below.keeps hb))
    have B' := Lib.hid (B.out.trans (hb.mono B.out.size))
    have N' := Lib.hid (N.out.below hb N.out.lt)
    clear hb B N n0 n1 n2 n3 n4 n5 n6 n7 n8
    have n0 := (N'.out.cell 0).trans rfl
    have n1 := (N'.out.cell 1).trans rfl
    have n2 := (N'.out.cell 2).trans rfl
    have n3 := (N'.out.cell 3).trans rfl
    have n4 := (N'.out.cell 4).trans rfl
    have n5 := (N'.out.cell 5).trans rfl
    have n6 := (N'.out.cell 6).trans rfl
    have n7 := (N'.out.cell 7).trans rfl
    have n8 := (N'.out.cell 8).trans rfl
    clear Y
    have Y := Lib.hid Y'.out
    clear Y'
    have B := Lib.hid B'.out
    have N := Lib.hid N'.out
    clear B' N'
    go_wp2_with fail
    go_ret
    exact ⟨rfl, B.out⟩
  · have HDE := Lib.hid (dec_enc hr)
    have HRE := Lib.hid (fun w' => refencode_any m hr w')
    have HDC := Lib.hid (fun v w' h hy => decode_any (encL m) v w' E h hy)
    rw [hr] at HRI HRR
    have he : encE m = 0 := by unfold encE; rw [hr]; rfl
    rw [HDE.out.1, HDE.out.2] at HDC
    simp only [he] at HEN
    clear he hr hm h
    generalize encL m = l at *
    clear HDE
    unfold msgV at HEN HRI HRR HRE HDC ⊢
    obtain ⟨a0, a1, a2, a3, a4, a5, a6, a7, a8⟩ := m
    simp only [errV_zero] at HEN HRI HRR HRE HDC hself ⊢
    have B := Lib.hid (below_alloc1 w (.cells #[.int .i64 a0, .int .i64 a1, .int .i64 a2, .int .i64 a3, .int .i64 a4, .int .i64 a5, .int .i64 a6, .int .i64 a7, .int .i64 a8] 25))
    have N := Lib.hid (Blk.new w 25 #[.int .i64 a0, .int .i64 a1, .int .i64 a2, .int .i64 a3, .int .i64 a4, .int .i64 a5, .int .i64 a6, .int .i64 a7, .int .i64 a8])
    have n0 := (N.out.cell 0).trans rfl
    have n1 := (N.out.cell 1).trans rfl
    have n2 := (N.out.cell 2).trans rfl
    have n3 := (N.out.cell 3).trans rfl
    have n4 := (N.out.cell 4).trans rfl
    have n5 := (N.out.cell 5).trans rfl
    have n6 := (N.out.cell 6).trans rfl
    have n7 := (N.out.cell 7).trans rfl
    have n8 := (N.out.cell 8).trans rfl
    go_enter Tryd.func5, Tryd.ntmps5
    go_wp2_with fail
    refine (HAL.out _ (HG.out _ B.out)).mono ?_
    rintro e w' ⟨rfl, hb⟩
    have B' := Lib.hid (B.out.trans (hb.mono B.out.size))
    have N' := Lib.hid (N.out.below hb N.out.lt)
    clear hb B N n0 n1 n2 n3 n4 n5 n6 n7 n8
    have n0 := (N'.out.cell 0).trans rfl
    have n1 := (N'.out.cell 1).trans rfl
    have n2 := (N'.out.cell 2).trans rfl
    have n3 := (N'.out.cell 3).trans rfl
    have n4 := (N'.out.cell 4).trans rfl
    have n5 := (N'.out.cell 5).trans rfl
    have n6 := (N'.out.cell 6).trans rfl
    have n7 := (N'.out.cell 7).trans rfl
    have n8 := (N'.out.cell 8).trans rfl
    have B := Lib.hid B'.out
    have N := Lib.hid N'.out
    clear B' N'
    go_wp2_with fail
    refine (HEN.out _ (HG.out _ B.out)).mono ?_
    rintro e w' ⟨v, rfl, ho, hb⟩
    have hyt := owns_byt ho
    obtain ⟨p, c, rfl, _, _, _⟩ := id hyt
    have Y := Lib.hid hyt
    clear ho hyt
    have B' := Lib.hid (B.out.trans (hb.mono B.out.size))
    have N' := Lib.hid (N.out.below hb N.out.lt)
    clear hb B N n0 n1 n2 n3 n4 n5 n6 n7 n8
    have n0 := (N'.out.cell 0).trans rfl
    have n1 := (N'.out.cell 1).trans rfl
    have n2 := (N'.out.cell 2).trans rfl
    have n3 := (N'.out.cell 3).trans rfl
    have n4 := (N'.out.cell 4).trans rfl
    have n5 := (N'.out.cell 5).trans rfl
    have n6 := (N'.out.cell 6).trans rfl
    have n7 := (N'.out.cell 7).trans rfl
    have n8 := (N'.out.cell 8).trans rfl
    have B := Lib.hid B'.out
    have N := Lib.hid N'.out
    clear B' N'
    go_wp2_with fail
    refine wp_phi (fun wq => Below w.heap.size w wq ∧ Blk wq w.heap.size 25 #[.int .i64 a0, .int .i64 a1, .int .i64 a2, .int .i64 a3, .int .i64 a4, .int .i64 a5, .int .i64 a6, .int .i64 a7, .int .i64 a8] ∧ Byt wq (.slice p l.length c) l) [(1, PVal (.bool true)), (3, PVal (.bool true))] [] (by kernel_rfl) (by kernel_rfl) ?_ ?_ ⟨B.out.drew, N.out, Y.out.keep (fun _ _ h => h)⟩ ?_
    · rintro w1 w2 ⟨a1, a2, a3⟩ hb
      exact ⟨a1.trans (hb.mono a1.size), a2.below hb a2.lt, a3.keep (Below.keeps hb)⟩
    · simp only [List.mem_cons, List.not_mem_nil, or_false, forall_eq_or_imp, forall_eq]
      exact ⟨fun _ _ _ _ _ h => h, fun _ _ _ _ _ h => h⟩
    repeat (first | (refine phi_skipK rfl (fun K hK => ?_); simp only [Act.put, List.setIfInBounds_toArray, List.set_cons_succ, List.set_cons_zero]; (try simp only [List.cons_append]); (try simp only [List.nil_append]); apply hK; clear hK K) | (refine phi_pureK rfl rfl (fun K hK => ?_); apply Exists.intro; constructor; (focus (rintro w' ⟨h0, hN, hY⟩; (have k0 := (hN.cell 0).trans rfl; have k1 := (hN.cell 1).trans rfl; have k2 := (hN.cell 2).trans rfl; have k3 := (hN.cell 3).trans rfl; have k4 := (hN.cell 4).trans rfl; have k5 := (hN.cell 5).trans rfl; have k6 := (hN.cell 6).trans rfl; have k7 := (hN.cell 7).trans rfl; have k8 := (hN.cell 8).trans rfl; clear h0 hN hY); first | (go_simp; done) | (go_simp; (try go_bits); (try go_simp); rfl) | go_simp)); simp only [Act.put, List.setIfInBounds_toArray, List.set_cons_succ, List.set_cons_zero]; (try simp only [List.cons_append]); (try simp only [List.nil_append]); apply hK; clear hK K))
    refine phi_partK (PVal (.bool true)) rfl rfl ⟨_, rfl⟩ ?_ (fun K hK v hv => ?_)
    · rintro wq ⟨h0, hN, hY⟩ _
      unfold gives
      go_simp
      refine (HRI.out _ (HG.out _ h0)).mono ?_
      rintro e w'' ⟨rfl, hb⟩
      exact ⟨_, rfl, rfl, trivial, hb⟩
    obtain rfl : v = _ := hv
    simp only [Act.put, List.setIfInBounds_toArray, List.set_cons_succ, List.set_cons_zero]; (try simp only [List.cons_append]); (try simp only [List.nil_append])
    apply hK
    clear hK K
    repeat (first | (refine phi_skipK rfl (fun K hK => ?_); simp only [Act.put, List.setIfInBounds_toArray, List.set_cons_succ, List.set_cons_zero]; (try simp only [List.cons_append]); (try simp only [List.nil_append]); apply hK; clear hK K) | (refine phi_pureK rfl rfl (fun K hK => ?_); apply Exists.intro; constructor; (focus (rintro w' ⟨h0, hN, hY⟩; (have k0 := (hN.cell 0).trans rfl; have k1 := (hN.cell 1).trans rfl; have k2 := (hN.cell 2).trans rfl; have k3 := (hN.cell 3).trans rfl; have k4 := (hN.cell 4).trans rfl; have k5 := (hN.cell 5).trans rfl; have k6 := (hN.cell 6).trans rfl; have k7 := (hN.cell 7).trans rfl; have k8 := (hN.cell 8).trans rfl; clear h0 hN hY); first | (go_simp; done) | (go_simp; (try go_bits); (try go_simp); rfl) | go_simp)); simp only [Act.put, List.setIfInBounds_toArray, List.set_cons_succ, List.set_cons_zero]; (try simp only [List.cons_append]); (try simp only [List.nil_append]); apply hK; clear hK K))
    refine phi_partK (PVal (.bool true)) rfl rfl ⟨_, rfl⟩ ?_ (fun K hK v hv => ?_)
    · rintro wq ⟨h0, hN, hY⟩ _
      unfold gives
      go_simp
      refine (HRR.out _).mono ?_
      rintro e w'' ⟨rfl, hb⟩
      exact ⟨_, rfl, rfl, trivial, hb⟩
    obtain rfl : v = _ := hv
    simp only [Act.put, List.setIfInBounds_toArray, List.set_cons_succ, List.set_cons_zero]; (try simp only [List.cons_append]); (try simp only [List.nil_append])
    apply hK
    clear hK K
    repeat (first | (refine phi_skipK rfl (fun K hK => ?_); simp only [Act.put, List.setIfInBounds_toArray, List.set_cons_succ, List.set_cons_zero]; (try simp only [List.cons_append]); (try simp only [List.nil_append]); apply hK; clear hK K) | (refine phi_pureK rfl rfl (fun K hK => ?_); apply Exists.intro; constructor; (focus (rintro w' ⟨h0, hN, hY⟩; (have k0 := (hN.cell 0).trans rfl; have k1 := (hN.cell 1).trans rfl; have k2 := (hN.cell 2).trans rfl; have k3 := (hN.cell 3).trans rfl; have k4 := (hN.cell 4).trans rfl; have k5 := (hN.cell 5).trans rfl; have k6 := (hN.cell 6).trans rfl; have k7 := (hN.cell 7).trans rfl; have k8 := (hN.cell 8).trans rfl; clear h0 hN hY); first | (go_simp; done) | (go_simp; (try go_bits); (try go_simp); rfl) | go_simp)); simp only [Act.put, List.setIfInBounds_toArray, List.set_cons_succ, List.set_cons_zero]; (try simp only [List.cons_append]); (try simp only [List.nil_append]); apply hK; clear hK K))
    refine phi_done ?_
    rintro w' ⟨hb, hN, hY⟩ _
    have B' := Lib.hid hb
    have N' := Lib.hid hN
    have Y' := Lib.hid hY
    clear hb hN hY B N Y n0 n1 n2 n3 n4 n5 n6 n7 n8
    have B := Lib.hid B'.out
    have N := Lib.hid N'.out
    have Y := Lib.hid Y'.out
    clear B' N' Y'
    have n0 := (N.out.cell 0).trans rfl
    have n1 := (N.out.cell 1).trans rfl
    have n2 := (N.out.cell 2).trans rfl
    have n3 := (N.out.cell 3).trans rfl
    have n4 := (N.out.cell 4).trans rfl
    have n5 := (N.out.cell 5).trans rfl
    have n6 := (N.out.cell 6).trans rfl
    have n7 := (N.out.cell 7).trans rfl
    have n8 := (N.out.cell 8).trans rfl
    refine wpList_nil ?_
    go_wp2_with fail
    refine (HRR.out _).mono ?_
    rintro e w' ⟨rfl, hb⟩
    have Y' := Lib.hid (Y.out.keep (Below.keeps hb))
    have B' := Lib.hid (B.out.trans (hb.mono B.out.size))
    have N' := Lib.hid (N.out.below hb N.out.lt)
    clear hb B N n0 n1 n2 n3 n4 n5 n6 n7 n8
    have n0 := (N'.out.cell 0).trans rfl
    have n1 := (N'.out.cell 1).trans rfl
    have n2 := (N'.out.cell 2).trans rfl
    have n3 := (N'.out.cell 3).trans rfl
    have n4 := (N'.out.cell 4).trans rfl
    have n5 := (N'.out.cell 5).trans rfl
    have n6 := (N'.out.cell 6).trans rfl
    have n7 := (N'.out.cell 7).trans rfl
    have n8 := (N'.out.cell 8).trans rfl
    clear Y
    have Y := Lib.hid Y'.out
    clear Y'
    have B := Lib.hid B'.out
    have N := Lib.hid N'.out
    clear B' N'
    go_wp2_with fail
    refine (HDC.out _ _ (HG.out _ B.out) Y.out).mono ?_
    rintro e w' ⟨rfl, hb⟩
    have Y' := Lib.hid (Y.out.keep (Below.keeps hb))
    have B' := Lib.hid (B.out.trans (hb.mono B.out.size))
    have N' := Lib.hid (N.out.below hb N.out.lt)
    clear hb B N n0 n1 n2 n3 n4 n5 n6 n7 n8
    have n0 := (N'.out.cell 0).trans rfl
    have n1 := (N'.out.cell 1).trans rfl
    have n2 := (N'.out.cell 2).trans rfl
    have n3 := (N'.out.cell 3).trans rfl
    have n4 := (N'.out.cell 4).trans rfl
    have n5 := (N'.out.cell 5).trans rfl
    have n6 := (N'.out.cell 6).trans rfl
    have n7 := (N'.out.cell 7).trans rfl
    have n8 := (N'.out.cell 8).trans rfl
    clear Y
    have Y := Lib.hid Y'.out
    clear Y'
    have B := Lib.hid B'.out
    have N := Lib.hid N'.out
    clear B' N'
    have M := Lib.hid (Blk.new w' 25 #[.int .i64 0, .int .i64 0, .int .i64 0, .int .i64 0, .int .i64 0, .int .i64 0, .int .i64 0, .int .i64 0, .int .i64 0])
    have N' := Lib.hid (N.out.alloc (.cells #[.int .i64 0, .int .i64 0, .int .i64 0, .int .i64 0, .int .i64 0, .int .i64 0, .int .i64 0, .int .i64 0, .int .i64 0] 25))
    have B' := Lib.hid (below_alloc B.out (.cells #[.int .i64 0, .int .i64 0, .int .i64 0, .int .i64 0, .int .i64 0, .int .i64 0, .int .i64 0, .int .i64 0, .int .i64 0] 25))
    go_wp2_with (refine wpList_store (.tmp 5) (.tmp 33) 25 rfl rfl w'.heap.size 0 _ _ #[.int .i64 a0, .int .i64 a1, .int .i64 a2, .int .i64 a3, .int .i64 a4, .int .i64 a5, .int .i64 a6, .int .i64 a7, .int .i64 a8] rfl rfl M.out (by kernel_rfl) (by simp [Value.oneCell']) (by simp) ?_)
    intro w7 hn7 ko7
    have Y7 := Lib.hid (Y.out.keep (Below.keeps ((below_alloc1 w' (.cells #[.int .i64 0, .int .i64 0, .int .i64 0, .int .i64 0, .int .i64 0, .int .i64 0, .int .i64 0, .int .i64 0, .int .i64 0] 25)).trans (ko7.below (Nat.le_refl _)))))
    have h7 : Blk w7 w'.heap.size 25 #[.int .i64 a0, .int .i64 a1, .int .i64 a2, .int .i64 a3, .int .i64 a4, .int .i64 a5, .int .i64 a6, .int .i64 a7, .int .i64 a8] := hn7
    have B7 := Lib.hid (B'.out.trans (ko7.below B.out.size))
    have N7 := Lib.hid (ko7.blk N'.out (Nat.ne_of_lt N.out.lt))
    have H7 := Lib.hid h7
    clear hn7 ko7 h7 M Y B' B N' N n0 n1 n2 n3 n4 n5 n6 n7 n8
    generalize w'.heap.size = gc at *
    have n0 := (N7.out.cell 0).trans rfl
    have n1 := (N7.out.cell 1).trans rfl
    have n2 := (N7.out.cell 2).trans rfl
    have n3 := (N7.out.cell 3).trans rfl
    have n4 := (N7.out.cell 4).trans rfl
    have n5 := (N7.out.cell 5).trans rfl
    have n6 := (N7.out.cell 6).trans rfl
    have n7 := (N7.out.cell 7).trans rfl
    have n8 := (N7.out.cell 8).trans rfl
    have c0 := (H7.out.cell 0).trans rfl
    have c1 := (H7.out.cell 1).trans rfl
    have c2 := (H7.out.cell 2).trans rfl
    have c3 := (H7.out.cell 3).trans rfl
    have c4 := (H7.out.cell 4).trans rfl
    have c5 := (H7.out.cell 5).trans rfl
    have c6 := (H7.out.cell 6).trans rfl
    have c7 := (H7.out.cell 7).trans rfl
    have c8 := (H7.out.cell 8).trans rfl
    have Y := Lib.hid Y7.out
    clear Y7
    have B := Lib.hid B7.out
    have N := Lib.hid N7.out
    have C := Lib.hid H7.out
    clear B7 H7 N7
    go_wp2_with fail
    refine wp_phi (fun wq => Below w.heap.size w wq ∧ Blk wq w.heap.size 25 #[.int .i64 a0, .int .i64 a1, .int .i64 a2, .int .i64 a3, .int .i64 a4, .int .i64 a5, .int .i64 a6, .int .i64 a7, .int .i64 a8] ∧ Blk wq gc 25 #[.int .i64 a0, .int .i64 a1, .int .i64 a2, .int .i64 a3, .int .i64 a4, .int .i64 a5, .int .i64 a6, .int .i64 a7, .int .i64 a8] ∧ Byt wq (.slice p l.length c) l) [(6, PByt l), (7, PVal (.string (bs l)))] [(7, [6])] (by kernel_rfl) (by kernel_rfl) ?_ ?_ ⟨B.out.drew, N.out, C.out, Y.out.keep (fun _ _ h => h)⟩ ?_
    · rintro w1 w2 ⟨a1, a2, a3, a4⟩ hb
      exact ⟨a1.trans (hb.mono a1.size), a2.below hb a2.lt, a3.below hb a3.lt, a4.keep (Below.keeps hb)⟩
    · simp only [List.mem_cons, List.not_mem_nil, or_false, forall_eq_or_imp, forall_eq]
      exact ⟨fun w w' v _ hb h => PByt_stays _ w w' v hb h, fun _ _ _ _ _ h => h⟩
    repeat (first | (refine phi_skipK rfl (fun K hK => ?_); simp only [Act.put, List.setIfInBounds_toArray, List.set_cons_succ, List.set_cons_zero]; (try simp only [List.cons_append]); (try simp only [List.nil_append]); apply hK; clear hK K) | (refine phi_pureK rfl rfl (fun K hK => ?_); apply Exists.intro; constructor; (focus (rintro w' ⟨h0, hN, hC, hY⟩; (have k0 := (hN.cell 0).trans rfl; have l0 := (hC.cell 0).trans rfl; have k1 := (hN.cell 1).trans rfl; have l1 := (hC.cell 1).trans rfl; have k2 := (hN.cell 2).trans rfl; have l2 := (hC.cell 2).trans rfl; have k3 := (hN.cell 3).trans rfl; have l3 := (hC.cell 3).trans rfl; have k4 := (hN.cell 4).trans rfl; have l4 := (hC.cell 4).trans rfl; have k5 := (hN.cell 5).trans rfl; have l5 := (hC.cell 5).trans rfl; have k6 := (hN.cell 6).trans rfl; have l6 := (hC.cell 6).trans rfl; have k7 := (hN.cell 7).trans rfl; have l7 := (hC.cell 7).trans rfl; have k8 := (hN.cell 8).trans rfl; have l8 := (hC.cell 8).trans rfl; have s1 := str_of hY; clear h0 hN hC hY); first | (go_simp; done) | (go_simp; (try go_bits); (try go_simp); rfl) | go_simp)); simp only [Act.put, List.setIfInBounds_toArray, List.set_cons_succ, List.set_cons_zero]; (try simp only [List.cons_append]); (try simp only [List.nil_append]); apply hK; clear hK K))
    refine phi_partK (PByt l) rfl rfl ⟨_, none, 0, rfl⟩ ?_ (fun K hK v hv => ?_)
    · rintro wq ⟨h0, hN, hC, hY⟩ _
      unfold gives
      go_simp
      refine (HRE.out _).mono ?_
      rintro e w'' ⟨p', c', rfl, hy, hb⟩
      exact ⟨_, rfl, ⟨_, _, rfl⟩, hy, hb⟩
    obtain ⟨p', c', rfl⟩ := hv
    simp only [Act.put, List.setIfInBounds_toArray, List.set_cons_succ, List.set_cons_zero]; (try simp only [List.cons_append]); (try simp only [List.nil_append])
    apply hK
    clear hK K
    refine phi_partK (PVal (.string (bs l))) rfl rfl ⟨_, rfl⟩ ?_ (fun K hK v hv => ?_)
    · rintro wq ⟨h0, hN, hC, hY⟩ hf
      have hby : Byt wq _ l := hf (6, fun w => (PByt l).fact w (.slice p' l.length c')) (by simp) (List.contains_iff_mem.1 rfl)
      have hs := str_of hby
      clear hf hby
      unfold gives
      go_simp
      exact ⟨rfl, trivial, Below.refl _ _⟩
    obtain rfl : v = _ := hv
    simp only [Act.put, List.setIfInBounds_toArray, List.set_cons_succ, List.set_cons_zero]; (try simp only [List.cons_append]); (try simp only [List.nil_append])
    apply hK
    clear hK K
    repeat (first | (refine phi_skipK rfl (fun K hK => ?_); simp only [Act.put, List.setIfInBounds_toArray, List.set_cons_succ, List.set_cons_zero]; (try simp only [List.cons_append]); (try simp only [List.nil_append]); apply hK; clear hK K) | (refine phi_pureK rfl rfl (fun K hK => ?_); apply Exists.intro; constructor; (focus (rintro w' ⟨h0, hN, hC, hY⟩; (have k0 := (hN.cell 0).trans rfl; have l0 := (hC.cell 0).trans rfl; have k1 := (hN.cell 1).trans rfl; have l1 := (hC.cell 1).trans rfl; have k2 := (hN.cell 2).trans rfl; have l2 := (hC.cell 2).trans rfl; have k3 := (hN.cell 3).trans rfl; have l3 := (hC.cell 3).trans rfl; have k4 := (hN.cell 4).trans rfl; have l4 := (hC.cell 4).trans rfl; have k5 := (hN.cell 5).trans rfl; have l5 := (hC.cell 5).trans rfl; have k6 := (hN.cell 6).trans rfl; have l6 := (hC.cell 6).trans rfl; have k7 := (hN.cell 7).trans rfl; have l7 := (hC.cell 7).trans rfl; have k8 := (hN.cell 8).trans rfl; have l8 := (hC.cell 8).trans rfl; have s1 := str_of hY; clear h0 hN hC hY); first | (go_simp; done) | (go_simp; (try go_bits); (try go_simp); rfl) | go_simp)); simp only [Act.put, List.setIfInBounds_toArray, List.set_cons_succ, List.set_cons_zero]; (try simp only [List.cons_append]); (try simp only [List.nil_append]); apply hK; clear hK K))
    refine phi_done ?_
    rintro w' ⟨hb, _⟩ _
    have B' := Lib.hid hb
    clear hb
    refine wpList_nil ?_
    go_wp2_with fail
    go_ret
    exact ⟨rfl, B'.out⟩
end Go.Proofs.YtpbgappggmcmgaaDoor
