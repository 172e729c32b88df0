/-
  LawUnlikeL: the walk of LetterUnlike.
-/
import Derived.Test.YtpbgappggmcmgaaDoorLetterL
namespace Go.Proofs.YtpbgappggmcmgaaDoor
open Go.RowKit Go.Extern.Stop Go.Stop Go.Extern
attribute [local go_sem] bs_toList

def PNewM (B : Nat) : Part := ⟨fun v => ∃ g, v = .pointer (some ⟨g, 0, none⟩), fun w v => ∀ g, v = .pointer (some ⟨g, 0, none⟩) → B < g ∧ Blk w g 25 #[.int .i64 0, .int .i64 0, .int .i64 0, .int .i64 0, .int .i64 0, .int .i64 0, .int .i64 0, .int .i64 0, .int .i64 0]⟩
theorem errV_fours (E : Nat → Addr) : errV E 4 = .iface 128 (.pointer (some (E 3))) := rfl
set_option maxRecDepth 20000 in
set_option maxHeartbeats 4000000 in
theorem unlikel_law (a b : Msg) (ha : a.wf) (hb : b.wf) (w : World) (E : Nat → Addr) (h : IdsG w E) :
    Calls Tryd.prog 3 #[msgV a, msgV b] w fun e w' => e = .returned (.bool true) ∧ Below w.heap.size w w' := by
  have HG := Lib.hid (fun w' (hb : Below w.heap.size w w') => h.below hb)
  have HAL := Lib.hid (fun w' h => lalive_any w' E h)
  have HEA := Lib.hid (fun w' h => encode_any a ha w' E h)
  have HEB := Lib.hid (fun w' h => encode_any b hb w' E h)
  have HA1 := Lib.hid (fun w' => answer_any a 1 0 w')
  have HA2 := Lib.hid (fun w' => answer_any (answerM a 1 0) a.k a.c w')
  have hse : rightM a = true → rightM b = true → (encL a == encL b) = eqM a b := fun h1 h2 => by
    rw [Bool.eq_iff_iff, beq_iff_eq, eqM_iff]
    exact ⟨enc_inj h1 h2, fun h => by rw [h]⟩
  have hea : encE a = if rightM a then 0 else 4 := rfl
  have heb : encE b = if rightM b then 0 else 4 := rfl
  unfold eqM at hse
  unfold GivesB at HEA HEB
  unfold msgV answerM at HA1 HA2
  unfold msgV at HEA HEB ⊢
  generalize encL a = l1 at *
  generalize encL b = l2 at *
  simp only [hea] at HEA
  simp only [heb] at HEB
  clear ha hb h hea heb
  generalize rightM a = ra at *
  generalize rightM b = rb at *
  obtain ⟨a0, a1, a2, a3, a4, a5, a6, a7, a8⟩ := a
  obtain ⟨b0, b1, b2, b3, b4, b5, b6, b7, b8⟩ := b
  simp only at HA1 HA2 HEA HEB hse ⊢
  have heq := fun w' => eqMsg a0 a1 a2 a3 a4 a5 a6 a7 a8 b0 b1 b2 b3 b4 b5 b6 b7 b8 w'
  have hself := fun w' => eqMsg a0 a1 a2 a3 a4 a5 a6 a7 a8 a0 a1 a2 a3 a4 a5 a6 a7 a8 w'
  simp only [beq_self_eq_true, Bool.and_self] at hself
  have B := Lib.hid (below_alloc (below_alloc1 w (.cells #[.int .i64 a0, .int .i64 a1, .int .i64 a2, .int .i64 a3, .int .i64 a4, .int .i64 a5, .int .i64 a6, .int .i64 a7, .int .i64 a8] 25)) (.cells #[.int .i64 b0, .int .i64 b1, .int .i64 b2, .int .i64 b3, .int .i64 b4, .int .i64 b5, .int .i64 b6, .int .i64 b7, .int .i64 b8] 25))
  have N := Lib.hid ((Blk.new w 25 #[.int .i64 a0, .int .i64 a1, .int .i64 a2, .int .i64 a3, .int .i64 a4, .int .i64 a5, .int .i64 a6, .int .i64 a7, .int .i64 a8]).alloc (.cells #[.int .i64 b0, .int .i64 b1, .int .i64 b2, .int .i64 b3, .int .i64 b4, .int .i64 b5, .int .i64 b6, .int .i64 b7, .int .i64 b8] 25))
  have O := Lib.hid (show Blk ((w.alloc (.cells #[.int .i64 a0, .int .i64 a1, .int .i64 a2, .int .i64 a3, .int .i64 a4, .int .i64 a5, .int .i64 a6, .int .i64 a7, .int .i64 a8] 25)).alloc (.cells #[.int .i64 b0, .int .i64 b1, .int .i64 b2, .int .i64 b3, .int .i64 b4, .int .i64 b5, .int .i64 b6, .int .i64 b7, .int .i64 b8] 25)) (w.heap.size + 1) 25 #[.int .i64 b0, .int .i64 b1, .int .i64 b2, .int .i64 b3, .int .i64 b4, .int .i64 b5, .int .i64 b6, .int .i64 b7, .int .i64 b8] from by
    have := Blk.new (w.alloc (.cells #[.int .i64 a0, .int .i64 a1, .int .i64 a2, .int .i64 a3, .int .i64 a4, .int .i64 a5, .int .i64 a6, .int .i64 a7, .int .i64 a8] 25)) 25 #[.int .i64 b0, .int .i64 b1, .int .i64 b2, .int .i64 b3, .int .i64 b4, .int .i64 b5, .int .i64 b6, .int .i64 b7, .int .i64 b8]
    rwa [World.size_alloc] at this)
  have n0 := (N.out.cell 0).trans rfl
  have n1 := (N.out.cell 1).trans rfl
  have n2 := (N.out.cell 2).trans rfl
  have n3 := (N.out.cell 3).trans rfl
  have n4 := (N.out.cell 4).trans rfl
  have n5 := (N.out.cell 5).trans rfl
  have n6 := (N.out.cell 6).trans rfl
  have n7 := (N.out.cell 7).trans rfl
  have n8 := (N.out.cell 8).trans rfl
  have o0 := (O.out.cell 0).trans rfl
  have o1 := (O.out.cell 1).trans rfl
  have o2 := (O.out.cell 2).trans rfl
  have o3 := (O.out.cell 3).trans rfl
  have o4 := (O.out.cell 4).trans rfl
  have o5 := (O.out.cell 5).trans rfl
  have o6 := (O.out.cell 6).trans rfl
  have o7 := (O.out.cell 7).trans rfl
  have o8 := (O.out.cell 8).trans rfl
  cases ra
  · clear hse heq
    simp only [Bool.false_eq_true, if_false, errV_fours] at HEA
    generalize errV E (if rb = true then 0 else 4) = eb' at *
    go_enter Tryd.func3, Tryd.ntmps3
    go_wp2_with fail
    refine (HAL.out _ (HG.out _ B.out)).mono ?_
    rintro e w' ⟨rfl, hb⟩
    have B' := Lib.hid (B.out.trans (hb.mono B.out.size))
    have N' := Lib.hid (N.out.below hb N.out.lt)
    have O' := Lib.hid (O.out.below hb O.out.lt)
    clear hb B N O n0 n1 n2 n3 n4 n5 n6 n7 n8 o0 o1 o2 o3 o4 o5 o6 o7 o8
    have n0 := (N'.out.cell 0).trans rfl
    have n1 := (N'.out.cell 1).trans rfl
    have n2 := (N'.out.cell 2).trans rfl
    have n3 := (N'.out.cell 3).trans rfl
    have n4 := (N'.out.cell 4).trans rfl
    have n5 := (N'.out.cell 5).trans rfl
    have n6 := (N'.out.cell 6).trans rfl
    have n7 := (N'.out.cell 7).trans rfl
    have n8 := (N'.out.cell 8).trans rfl
    have o0 := (O'.out.cell 0).trans rfl
    have o1 := (O'.out.cell 1).trans rfl
    have o2 := (O'.out.cell 2).trans rfl
    have o3 := (O'.out.cell 3).trans rfl
    have o4 := (O'.out.cell 4).trans rfl
    have o5 := (O'.out.cell 5).trans rfl
    have o6 := (O'.out.cell 6).trans rfl
    have o7 := (O'.out.cell 7).trans rfl
    have o8 := (O'.out.cell 8).trans rfl
    have B := Lib.hid B'.out
    have N := Lib.hid N'.out
    have O := Lib.hid O'.out
    clear B' N' O'
    go_wp2_with fail
    refine (HEA.out _ (HG.out _ B.out)).mono ?_
    rintro e w' ⟨v, rfl, ho, hb⟩
    have hyt := owns_byt ho
    obtain ⟨p1, c1, rfl, _, _, _⟩ := id hyt
    skip
    have Y1' := Lib.hid hyt
    clear ho hyt
    have B' := Lib.hid (B.out.trans (hb.mono B.out.size))
    have N' := Lib.hid (N.out.below hb N.out.lt)
    have O' := Lib.hid (O.out.below hb O.out.lt)
    clear hb B N O n0 n1 n2 n3 n4 n5 n6 n7 n8 o0 o1 o2 o3 o4 o5 o6 o7 o8
    have n0 := (N'.out.cell 0).trans rfl
    have n1 := (N'.out.cell 1).trans rfl
    have n2 := (N'.out.cell 2).trans rfl
    have n3 := (N'.out.cell 3).trans rfl
    have n4 := (N'.out.cell 4).trans rfl
    have n5 := (N'.out.cell 5).trans rfl
    have n6 := (N'.out.cell 6).trans rfl
    have n7 := (N'.out.cell 7).trans rfl
    have n8 := (N'.out.cell 8).trans rfl
    have o0 := (O'.out.cell 0).trans rfl
    have o1 := (O'.out.cell 1).trans rfl
    have o2 := (O'.out.cell 2).trans rfl
    have o3 := (O'.out.cell 3).trans rfl
    have o4 := (O'.out.cell 4).trans rfl
    have o5 := (O'.out.cell 5).trans rfl
    have o6 := (O'.out.cell 6).trans rfl
    have o7 := (O'.out.cell 7).trans rfl
    have o8 := (O'.out.cell 8).trans rfl
    have B := Lib.hid B'.out
    have N := Lib.hid N'.out
    have O := Lib.hid O'.out
    clear B' N' O'
    have Y1 := Lib.hid Y1'.out
    clear Y1'
    go_wp2_with fail
    refine (HEB.out _ (HG.out _ B.out)).mono ?_
    rintro e w' ⟨v, rfl, ho, hb⟩
    have hyt := owns_byt ho
    obtain ⟨p2, c2, rfl, _, _, _⟩ := id hyt
    have Y1k := Lib.hid (Y1.out.keep (Below.keeps hb))
    have Y2' := Lib.hid hyt
    clear ho hyt
    have B' := Lib.hid (B.out.trans (hb.mono B.out.size))
    have N' := Lib.hid (N.out.below hb N.out.lt)
    have O' := Lib.hid (O.out.below hb O.out.lt)
    clear hb B N O n0 n1 n2 n3 n4 n5 n6 n7 n8 o0 o1 o2 o3 o4 o5 o6 o7 o8
    have n0 := (N'.out.cell 0).trans rfl
    have n1 := (N'.out.cell 1).trans rfl
    have n2 := (N'.out.cell 2).trans rfl
    have n3 := (N'.out.cell 3).trans rfl
    have n4 := (N'.out.cell 4).trans rfl
    have n5 := (N'.out.cell 5).trans rfl
    have n6 := (N'.out.cell 6).trans rfl
    have n7 := (N'.out.cell 7).trans rfl
    have n8 := (N'.out.cell 8).trans rfl
    have o0 := (O'.out.cell 0).trans rfl
    have o1 := (O'.out.cell 1).trans rfl
    have o2 := (O'.out.cell 2).trans rfl
    have o3 := (O'.out.cell 3).trans rfl
    have o4 := (O'.out.cell 4).trans rfl
    have o5 := (O'.out.cell 5).trans rfl
    have o6 := (O'.out.cell 6).trans rfl
    have o7 := (O'.out.cell 7).trans rfl
    have o8 := (O'.out.cell 8).trans rfl
    have B := Lib.hid B'.out
    have N := Lib.hid N'.out
    have O := Lib.hid O'.out
    clear B' N' O'
    have Y2 := Lib.hid Y2'.out
    clear Y2'
    clear Y1
    have Y1 := Lib.hid Y1k.out
    clear Y1k
    go_wp2_with fail
    refine wp_phi (fun w' => Below w.heap.size w w' ∧ Blk w' w.heap.size 25 #[.int .i64 a0, .int .i64 a1, .int .i64 a2, .int .i64 a3, .int .i64 a4, .int .i64 a5, .int .i64 a6, .int .i64 a7, .int .i64 a8] ∧ Blk w' (w.heap.size + 1) 25 #[.int .i64 b0, .int .i64 b1, .int .i64 b2, .int .i64 b3, .int .i64 b4, .int .i64 b5, .int .i64 b6, .int .i64 b7, .int .i64 b8] ∧ Byt w' (.slice p1 l1.length c1) l1 ∧ Byt w' (.slice p2 l2.length c2) l2) [] [] (by kernel_rfl) (by kernel_rfl) ?_ ?_ ⟨B.out.drew, N.out, O.out, Y1.out, Y2.out⟩ ?_
    · rintro w1 w2 ⟨a1, a2, a3, a4, a5⟩ hb
      exact ⟨a1.trans (hb.mono a1.size), a2.below hb a2.lt, a3.below hb a3.lt, a4.keep (Below.keeps hb), a5.keep (Below.keeps hb)⟩
    · intro p hp; cases hp
    repeat (first | (refine phi_skipK rfl (fun K hK => ?_); simp only [Act.put, List.setIfInBounds_toArray, List.set_cons_succ, List.set_cons_zero]; (try simp only [List.cons_append]); (try simp only [List.nil_append]); apply hK; clear hK K) | (refine phi_pureK rfl rfl (fun K hK => ?_); apply Exists.intro; constructor; (focus (rintro w' ⟨h0, hN, hO, hy1, hy2⟩; (have k0 := (hN.cell 0).trans rfl; have l0 := (hO.cell 0).trans rfl; have k1 := (hN.cell 1).trans rfl; have l1 := (hO.cell 1).trans rfl; have k2 := (hN.cell 2).trans rfl; have l2 := (hO.cell 2).trans rfl; have k3 := (hN.cell 3).trans rfl; have l3 := (hO.cell 3).trans rfl; have k4 := (hN.cell 4).trans rfl; have l4 := (hO.cell 4).trans rfl; have k5 := (hN.cell 5).trans rfl; have l5 := (hO.cell 5).trans rfl; have k6 := (hN.cell 6).trans rfl; have l6 := (hO.cell 6).trans rfl; have k7 := (hN.cell 7).trans rfl; have l7 := (hO.cell 7).trans rfl; have k8 := (hN.cell 8).trans rfl; have l8 := (hO.cell 8).trans rfl; have s1 := str_of hy1; have s2 := str_of hy2; clear h0 hN hO hy1 hy2); first | (go_simp; done) | (go_simp; (try go_bits); (try go_simp); rfl) | go_simp)); simp only [Act.put, List.setIfInBounds_toArray, List.set_cons_succ, List.set_cons_zero]; (try simp only [List.cons_append]); (try simp only [List.nil_append]); apply hK; clear hK K))
    refine phi_done ?_
    rintro w' ⟨hb, hN, hO, _, _⟩ _
    have B' := Lib.hid hb
    have N' := Lib.hid hN
    have O' := Lib.hid hO
    clear hb hN hO B N O Y1 Y2
    have B := Lib.hid B'.out
    have N := Lib.hid N'.out
    have O := Lib.hid O'.out
    clear B' N' O'
    refine wpList_nil ?_
    go_wp2_with fail
    refine wp_phi_tail (List.take 8 _) (List.drop 8 _) (List.take_append_drop 8 _).symm (fun w' => Below w.heap.size w w' ∧ Blk w' w.heap.size 25 #[.int .i64 a0, .int .i64 a1, .int .i64 a2, .int .i64 a3, .int .i64 a4, .int .i64 a5, .int .i64 a6, .int .i64 a7, .int .i64 a8]) [(1, PVal (.agg #[.int .i64 1, .int .i64 a2, .int .i64 a1, .int .i64 a3, .int .i64 a4, .int .i64 a5, .int .i64 a6, .int .i64 0, .int .i64 0])), (6, PVal (.agg #[.int .i64 a0, .int .i64 a1, .int .i64 a2, .int .i64 a3, .int .i64 a4, .int .i64 a5, .int .i64 a6, .int .i64 0, .int .i64 a8])), (7, PNewM w.heap.size)] [] (by kernel_rfl) (by kernel_rfl) ?_ ?_ ⟨B.out.drew, N.out⟩ ?_
    · rintro w1 w2 ⟨a1, a2⟩ hb
      exact ⟨a1.trans (hb.mono a1.size), a2.below hb a2.lt⟩
    · simp only [List.mem_cons, List.not_mem_nil, or_false, forall_eq_or_imp, forall_eq]
      exact ⟨fun _ _ _ _ _ h => h, fun _ _ _ _ _ h => h, fun _ _ _ _ hb h g hg => ⟨(h g hg).1, (h g hg).2.below hb (h g hg).2.lt⟩⟩
    simp only [List.take_succ_cons, List.take_zero, List.drop_succ_cons, List.drop_zero]
    repeat (first | (refine phi_skipK rfl (fun K hK => ?_); simp only [Act.put, List.setIfInBounds_toArray, List.set_cons_succ, List.set_cons_zero]; (try simp only [List.cons_append]); (try simp only [List.nil_append]); apply hK; clear hK K) | (refine phi_pureK rfl rfl (fun K hK => ?_); apply Exists.intro; constructor; (focus (rintro w' ⟨h0, hN⟩; (have k0 := (hN.cell 0).trans rfl; have k1 := (hN.cell 1).trans rfl; have k2 := (hN.cell 2).trans rfl; have k3 := (hN.cell 3).trans rfl; have k4 := (hN.cell 4).trans rfl; have k5 := (hN.cell 5).trans rfl; have k6 := (hN.cell 6).trans rfl; have k7 := (hN.cell 7).trans rfl; have k8 := (hN.cell 8).trans rfl; clear h0 hN); first | (go_simp; done) | (go_simp; (try go_bits); (try go_simp); rfl) | go_simp)); simp only [Act.put, List.setIfInBounds_toArray, List.set_cons_succ, List.set_cons_zero]; (try simp only [List.cons_append]); (try simp only [List.nil_append]); apply hK; clear hK K))
    refine phi_partK (PVal (.agg #[.int .i64 1, .int .i64 a2, .int .i64 a1, .int .i64 a3, .int .i64 a4, .int .i64 a5, .int .i64 a6, .int .i64 0, .int .i64 0])) rfl rfl ⟨_, rfl⟩ ?_ (fun K hK v hv => ?_)
    · rintro w' ⟨h0, hN⟩ _
      unfold gives
      go_simp
      refine (HA1.out w').mono ?_
      rintro e w'' ⟨rfl, hb⟩
      exact ⟨_, rfl, rfl, trivial, hb⟩
    obtain rfl : v = _ := hv
    simp only [Act.put, List.setIfInBounds_toArray, List.set_cons_succ, List.set_cons_zero]; (try simp only [List.cons_append]); (try simp only [List.nil_append])
    apply hK
    clear hK K
    repeat (first | (refine phi_skipK rfl (fun K hK => ?_); simp only [Act.put, List.setIfInBounds_toArray, List.set_cons_succ, List.set_cons_zero]; (try simp only [List.cons_append]); (try simp only [List.nil_append]); apply hK; clear hK K) | (refine phi_pureK rfl rfl (fun K hK => ?_); apply Exists.intro; constructor; (focus (rintro w' ⟨h0, hN⟩; (have k0 := (hN.cell 0).trans rfl; have k1 := (hN.cell 1).trans rfl; have k2 := (hN.cell 2).trans rfl; have k3 := (hN.cell 3).trans rfl; have k4 := (hN.cell 4).trans rfl; have k5 := (hN.cell 5).trans rfl; have k6 := (hN.cell 6).trans rfl; have k7 := (hN.cell 7).trans rfl; have k8 := (hN.cell 8).trans rfl; clear h0 hN); first | (go_simp; done) | (go_simp; (try go_bits); (try go_simp); rfl) | go_simp)); simp only [Act.put, List.setIfInBounds_toArray, List.set_cons_succ, List.set_cons_zero]; (try simp only [List.cons_append]); (try simp only [List.nil_append]); apply hK; clear hK K))
    refine phi_partK (PVal (.agg #[.int .i64 a0, .int .i64 a1, .int .i64 a2, .int .i64 a3, .int .i64 a4, .int .i64 a5, .int .i64 a6, .int .i64 0, .int .i64 a8])) rfl rfl ⟨_, rfl⟩ ?_ (fun K hK v hv => ?_)
    · rintro w' ⟨h0, hN⟩ _
      unfold gives
      go_simp
      refine (HA2.out w').mono ?_
      rintro e w'' ⟨rfl, hb⟩
      exact ⟨_, rfl, rfl, trivial, hb⟩
    obtain rfl : v = _ := hv
    simp only [Act.put, List.setIfInBounds_toArray, List.set_cons_succ, List.set_cons_zero]; (try simp only [List.cons_append]); (try simp only [List.nil_append])
    apply hK
    clear hK K
    refine phi_partK (PNewM w.heap.size) rfl rfl ⟨_, 0, rfl⟩ ?_ (fun K hK v hv => ?_)
    · rintro w' ⟨h0, hN⟩ _
      unfold gives
      go_simp
      exact ⟨⟨_, rfl⟩, fun g hg => by
        obtain rfl : w'.heap.size = g := by simpa using hg
        exact ⟨hN.lt, Blk.new _ _ _⟩, below_alloc1 _ _⟩
    obtain ⟨gc, rfl⟩ := hv
    simp only [Act.put, List.setIfInBounds_toArray, List.set_cons_succ, List.set_cons_zero]; (try simp only [List.cons_append]); (try simp only [List.nil_append])
    apply hK
    clear hK K
    refine phi_done ?_
    rintro w' ⟨hb, hN⟩ hf
    obtain ⟨hgb, hM⟩ := hf (7, fun wq => (PNewM w.heap.size).fact wq (.pointer (some ⟨gc, 0, none⟩))) (by simp) gc rfl
    clear hf
    have B' := Lib.hid hb
    have N' := Lib.hid hN
    clear hb hN B N O
    have B := Lib.hid B'.out
    have N := Lib.hid N'.out
    clear B' N'
    refine wpList_store (.tmp 9) (.tmp 45) 25 rfl rfl gc 0 _ _ #[.int .i64 a0, .int .i64 a1, .int .i64 a2, .int .i64 a3, .int .i64 a4, .int .i64 a5, .int .i64 a6, .int .i64 0, .int .i64 a8] rfl rfl hM (by kernel_rfl) (by simp [Value.oneCell']) (by simp) ?_
    intro w7 hn7 ko7
    have h7 : Blk w7 gc 25 #[.int .i64 a0, .int .i64 a1, .int .i64 a2, .int .i64 a3, .int .i64 a4, .int .i64 a5, .int .i64 a6, .int .i64 0, .int .i64 a8] := hn7
    have C := Lib.hid h7
    have B7 := Lib.hid (B.out.trans (ko7.below (Nat.le_of_lt hgb)))
    have N7 := Lib.hid (ko7.blk N.out (Nat.ne_of_lt hgb))
    clear hn7 ko7 h7 hM B N
    have B := Lib.hid B7.out
    have N := Lib.hid N7.out
    clear B7 N7
    have c7 := (C.out.cell 7).trans rfl
    have n0 := (N.out.cell 0).trans rfl
    have n1 := (N.out.cell 1).trans rfl
    have n2 := (N.out.cell 2).trans rfl
    have n3 := (N.out.cell 3).trans rfl
    have n4 := (N.out.cell 4).trans rfl
    have n5 := (N.out.cell 5).trans rfl
    have n6 := (N.out.cell 6).trans rfl
    have n7 := (N.out.cell 7).trans rfl
    have n8 := (N.out.cell 8).trans rfl
    have f7 := C.out.frozen 7
    have h8 : Blk (w7.setCell ⟨gc, 7, none⟩ (.int .i64 a7)) gc 25 #[.int .i64 a0, .int .i64 a1, .int .i64 a2, .int .i64 a3, .int .i64 a4, .int .i64 a5, .int .i64 a6, .int .i64 a7, .int .i64 a8] := C.out.set_ 7 (.int .i64 a7)
    have m8 := N.out.far (b := gc) (Nat.ne_of_lt hgb) 7 (.int .i64 a7)
    have H8 := Lib.hid h8
    have M8 := Lib.hid m8
    have q0 := (H8.out.cell 0).trans rfl
    have q1 := (H8.out.cell 1).trans rfl
    have q2 := (H8.out.cell 2).trans rfl
    have q3 := (H8.out.cell 3).trans rfl
    have q4 := (H8.out.cell 4).trans rfl
    have q5 := (H8.out.cell 5).trans rfl
    have q6 := (H8.out.cell 6).trans rfl
    have q7 := (H8.out.cell 7).trans rfl
    have q8 := (H8.out.cell 8).trans rfl
    have r0 := (M8.out.cell 0).trans rfl
    have r1 := (M8.out.cell 1).trans rfl
    have r2 := (M8.out.cell 2).trans rfl
    have r3 := (M8.out.cell 3).trans rfl
    have r4 := (M8.out.cell 4).trans rfl
    have r5 := (M8.out.cell 5).trans rfl
    have r6 := (M8.out.cell 6).trans rfl
    have r7 := (M8.out.cell 7).trans rfl
    have r8 := (M8.out.cell 8).trans rfl
    have B8 := Lib.hid (B.out.trans (((Only.refl gc w7).set_ 7 (.int .i64 a7)).below (Nat.le_of_lt hgb)))
    clear m8 h8 H8 M8
    go_wp2_with fail
    go_ret
    exact ⟨rfl, B8.out⟩
  · simp only [if_true, errV_zero] at HEA
    cases rb
    · clear hse heq
      simp only [Bool.false_eq_true, if_false, errV_fours] at HEB
      go_enter Tryd.func3, Tryd.ntmps3
      go_wp2_with fail
      refine (HAL.out _ (HG.out _ B.out)).mono ?_
      rintro e w' ⟨rfl, hb⟩
      have B' := Lib.hid (B.out.trans (hb.mono B.out.size))
      have N' := Lib.hid (N.out.below hb N.out.lt)
      have O' := Lib.hid (O.out.below hb O.out.lt)
      clear hb B N O n0 n1 n2 n3 n4 n5 n6 n7 n8 o0 o1 o2 o3 o4 o5 o6 o7 o8
      have n0 := (N'.out.cell 0).trans rfl
      have n1 := (N'.out.cell 1).trans rfl
      have n2 := (N'.out.cell 2).trans rfl
      have n3 := (N'.out.cell 3).trans rfl
      have n4 := (N'.out.cell 4).trans rfl
      have n5 := (N'.out.cell 5).trans rfl
      have n6 := (N'.out.cell 6).trans rfl
      have n7 := (N'.out.cell 7).trans rfl
      have n8 := (N'.out.cell 8).trans rfl
      have o0 := (O'.out.cell 0).trans rfl
      have o1 := (O'.out.cell 1).trans rfl
      have o2 := (O'.out.cell 2).trans rfl
      have o3 := (O'.out.cell 3).trans rfl
      have o4 := (O'.out.cell 4).trans rfl
      have o5 := (O'.out.cell 5).trans rfl
      have o6 := (O'.out.cell 6).trans rfl
      have o7 := (O'.out.cell 7).trans rfl
      have o8 := (O'.out.cell 8).trans rfl
      have B := Lib.hid B'.out
      have N := Lib.hid N'.out
      have O := Lib.hid O'.out
      clear B' N' O'
      go_wp2_with fail
      refine (HEA.out _ (HG.out _ B.out)).mono ?_
      rintro e w' ⟨v, rfl, ho, hb⟩
      have hyt := owns_byt ho
      obtain ⟨p1, c1, rfl, _, _, _⟩ := id hyt
      skip
      have Y1' := Lib.hid hyt
      clear ho hyt
      have B' := Lib.hid (B.out.trans (hb.mono B.out.size))
      have N' := Lib.hid (N.out.below hb N.out.lt)
      have O' := Lib.hid (O.out.below hb O.out.lt)
      clear hb B N O n0 n1 n2 n3 n4 n5 n6 n7 n8 o0 o1 o2 o3 o4 o5 o6 o7 o8
      have n0 := (N'.out.cell 0).trans rfl
      have n1 := (N'.out.cell 1).trans rfl
      have n2 := (N'.out.cell 2).trans rfl
      have n3 := (N'.out.cell 3).trans rfl
      have n4 := (N'.out.cell 4).trans rfl
      have n5 := (N'.out.cell 5).trans rfl
      have n6 := (N'.out.cell 6).trans rfl
      have n7 := (N'.out.cell 7).trans rfl
      have n8 := (N'.out.cell 8).trans rfl
      have o0 := (O'.out.cell 0).trans rfl
      have o1 := (O'.out.cell 1).trans rfl
      have o2 := (O'.out.cell 2).trans rfl
      have o3 := (O'.out.cell 3).trans rfl
      have o4 := (O'.out.cell 4).trans rfl
      have o5 := (O'.out.cell 5).trans rfl
      have o6 := (O'.out.cell 6).trans rfl
      have o7 := (O'.out.cell 7).trans rfl
      have o8 := (O'.out.cell 8).trans rfl
      have B := Lib.hid B'.out
      have N := Lib.hid N'.out
      have O := Lib.hid O'.out
      clear B' N' O'
      have Y1 := Lib.hid Y1'.out
      clear Y1'
      go_wp2_with fail
      refine (HEB.out _ (HG.out _ B.out)).mono ?_
      rintro e w' ⟨v, rfl, ho, hb⟩
      have hyt := owns_byt ho
      obtain ⟨p2, c2, rfl, _, _, _⟩ := id hyt
      have Y1k := Lib.hid (Y1.out.keep (Below.keeps hb))
      have Y2' := Lib.hid hyt
      clear ho hyt
      have B' := Lib.hid (B.out.trans (hb.mono B.out.size))
      have N' := Lib.hid (N.out.below hb N.out.lt)
      have O' := Lib.hid (O.out.below hb O.out.lt)
      clear hb B N O n0 n1 n2 n3 n4 n5 n6 n7 n8 o0 o1 o2 o3 o4 o5 o6 o7 o8
      have n0 := (N'.out.cell 0).trans rfl
      have n1 := (N'.out.cell 1).trans rfl
      have n2 := (N'.out.cell 2).trans rfl
      have n3 := (N'.out.cell 3).trans rfl
      have n4 := (N'.out.cell 4).trans rfl
      have n5 := (N'.out.cell 5).trans rfl
      have n6 := (N'.out.cell 6).trans rfl
      have n7 := (N'.out.cell 7).trans rfl
      have n8 := (N'.out.cell 8).trans rfl
      have o0 := (O'.out.cell 0).trans rfl
      have o1 := (O'.out.cell 1).trans rfl
      have o2 := (O'.out.cell 2).trans rfl
      have o3 := (O'.out.cell 3).trans rfl
      have o4 := (O'.out.cell 4).trans rfl
      have o5 := (O'.out.cell 5).trans rfl
      have o6 := (O'.out.cell 6).trans rfl
      have o7 := (O'.out.cell 7).trans rfl
      have o8 := (O'.out.cell 8).trans rfl
      have B := Lib.hid B'.out
      have N := Lib.hid N'.out
      have O := Lib.hid O'.out
      clear B' N' O'
      have Y2 := Lib.hid Y2'.out
      clear Y2'
      clear Y1
      have Y1 := Lib.hid Y1k.out
      clear Y1k
      go_wp2_with fail
      refine wp_phi (fun w' => Below w.heap.size w w' ∧ Blk w' w.heap.size 25 #[.int .i64 a0, .int .i64 a1, .int .i64 a2, .int .i64 a3, .int .i64 a4, .int .i64 a5, .int .i64 a6, .int .i64 a7, .int .i64 a8] ∧ Blk w' (w.heap.size + 1) 25 #[.int .i64 b0, .int .i64 b1, .int .i64 b2, .int .i64 b3, .int .i64 b4, .int .i64 b5, .int .i64 b6, .int .i64 b7, .int .i64 b8] ∧ Byt w' (.slice p1 l1.length c1) l1 ∧ Byt w' (.slice p2 l2.length c2) l2) [] [] (by kernel_rfl) (by kernel_rfl) ?_ ?_ ⟨B.out.drew, N.out, O.out, Y1.out, Y2.out⟩ ?_
      · rintro w1 w2 ⟨a1, a2, a3, a4, a5⟩ hb
        exact ⟨a1.trans (hb.mono a1.size), a2.below hb a2.lt, a3.below hb a3.lt, a4.keep (Below.keeps hb), a5.keep (Below.keeps hb)⟩
      · intro p hp; cases hp
      repeat (first | (refine phi_skipK rfl (fun K hK => ?_); simp only [Act.put, List.setIfInBounds_toArray, List.set_cons_succ, List.set_cons_zero]; (try simp only [List.cons_append]); (try simp only [List.nil_append]); apply hK; clear hK K) | (refine phi_pureK rfl rfl (fun K hK => ?_); apply Exists.intro; constructor; (focus (rintro w' ⟨h0, hN, hO, hy1, hy2⟩; (have k0 := (hN.cell 0).trans rfl; have l0 := (hO.cell 0).trans rfl; have k1 := (hN.cell 1).trans rfl; have l1 := (hO.cell 1).trans rfl; have k2 := (hN.cell 2).trans rfl; have l2 := (hO.cell 2).trans rfl; have k3 := (hN.cell 3).trans rfl; have l3 := (hO.cell 3).trans rfl; have k4 := (hN.cell 4).trans rfl; have l4 := (hO.cell 4).trans rfl; have k5 := (hN.cell 5).trans rfl; have l5 := (hO.cell 5).trans rfl; have k6 := (hN.cell 6).trans rfl; have l6 := (hO.cell 6).trans rfl; have k7 := (hN.cell 7).trans rfl; have l7 := (hO.cell 7).trans rfl; have k8 := (hN.cell 8).trans rfl; have l8 := (hO.cell 8).trans rfl; have s1 := str_of hy1; have s2 := str_of hy2; clear h0 hN hO hy1 hy2); first | (go_simp; done) | (go_simp; (try go_bits); (try go_simp); rfl) | go_simp)); simp only [Act.put, List.setIfInBounds_toArray, List.set_cons_succ, List.set_cons_zero]; (try simp only [List.cons_append]); (try simp only [List.nil_append]); apply hK; clear hK K))
      refine phi_done ?_
      rintro w' ⟨hb, hN, hO, _, _⟩ _
      have B' := Lib.hid hb
      have N' := Lib.hid hN
      have O' := Lib.hid hO
      clear hb hN hO B N O Y1 Y2
      have B := Lib.hid B'.out
      have N := Lib.hid N'.out
      have O := Lib.hid O'.out
      clear B' N' O'
      refine wpList_nil ?_
      go_wp2_with fail
      refine wp_phi_tail (List.take 8 _) (List.drop 8 _) (List.take_append_drop 8 _).symm (fun w' => Below w.heap.size w w' ∧ Blk w' w.heap.size 25 #[.int .i64 a0, .int .i64 a1, .int .i64 a2, .int .i64 a3, .int .i64 a4, .int .i64 a5, .int .i64 a6, .int .i64 a7, .int .i64 a8]) [(1, PVal (.agg #[.int .i64 1, .int .i64 a2, .int .i64 a1, .int .i64 a3, .int .i64 a4, .int .i64 a5, .int .i64 a6, .int .i64 0, .int .i64 0])), (6, PVal (.agg #[.int .i64 a0, .int .i64 a1, .int .i64 a2, .int .i64 a3, .int .i64 a4, .int .i64 a5, .int .i64 a6, .int .i64 0, .int .i64 a8])), (7, PNewM w.heap.size)] [] (by kernel_rfl) (by kernel_rfl) ?_ ?_ ⟨B.out.drew, N.out⟩ ?_
      · rintro w1 w2 ⟨a1, a2⟩ hb
        exact ⟨a1.trans (hb.mono a1.size), a2.below hb a2.lt⟩
      · simp only [List.mem_cons, List.not_mem_nil, or_false, forall_eq_or_imp, forall_eq]
        exact ⟨fun _ _ _ _ _ h => h, fun _ _ _ _ _ h => h, fun _ _ _ _ hb h g hg => ⟨(h g hg).1, (h g hg).2.below hb (h g hg).2.lt⟩⟩
      simp only [List.take_succ_cons, List.take_zero, List.drop_succ_cons, List.drop_zero]
      repeat (first | (refine phi_skipK rfl (fun K hK => ?_); simp only [Act.put, List.setIfInBounds_toArray, List.set_cons_succ, List.set_cons_zero]; (try simp only [List.cons_append]); (try simp only [List.nil_append]); apply hK; clear hK K) | (refine phi_pureK rfl rfl (fun K hK => ?_); apply Exists.intro; constructor; (focus (rintro w' ⟨h0, hN⟩; (have k0 := (hN.cell 0).trans rfl; have k1 := (hN.cell 1).trans rfl; have k2 := (hN.cell 2).trans rfl; have k3 := (hN.cell 3).trans rfl; have k4 := (hN.cell 4).trans rfl; have k5 := (hN.cell 5).trans rfl; have k6 := (hN.cell 6).trans rfl; have k7 := (hN.cell 7).trans rfl; have k8 := (hN.cell 8).trans rfl; clear h0 hN); first | (go_simp; done) | (go_simp; (try go_bits); (try go_simp); rfl) | go_simp)); simp only [Act.put, List.setIfInBounds_toArray, List.set_cons_succ, List.set_cons_zero]; (try simp only [List.cons_append]); (try simp only [List.nil_append]); apply hK; clear hK K))
      refine phi_partK (PVal (.agg #[.int .i64 1, .int .i64 a2, .int .i64 a1, .int .i64 a3, .int .i64 a4, .int .i64 a5, .int .i64 a6, .int .i64 0, .int .i64 0])) rfl rfl ⟨_, rfl⟩ ?_ (fun K hK v hv => ?_)
      · rintro w' ⟨h0, hN⟩ _
        unfold gives
        go_simp
        refine (HA1.out w').mono ?_
        rintro e w'' ⟨rfl, hb⟩
        exact ⟨_, rfl, rfl, trivial, hb⟩
      obtain rfl : v = _ := hv
      simp only [Act.put, List.setIfInBounds_toArray, List.set_cons_succ, List.set_cons_zero]; (try simp only [List.cons_append]); (try simp only [List.nil_append])
      apply hK
      clear hK K
      repeat (first | (refine phi_skipK rfl (fun K hK => ?_); simp only [Act.put, List.setIfInBounds_toArray, List.set_cons_succ, List.set_cons_zero]; (try simp only [List.cons_append]); (try simp only [List.nil_append]); apply hK; clear hK K) | (refine phi_pureK rfl rfl (fun K hK => ?_); apply Exists.intro; constructor; (focus (rintro w' ⟨h0, hN⟩; (have k0 := (hN.cell 0).trans rfl; have k1 := (hN.cell 1).trans rfl; have k2 := (hN.cell 2).trans rfl; have k3 := (hN.cell 3).trans rfl; have k4 := (hN.cell 4).trans rfl; have k5 := (hN.cell 5).trans rfl; have k6 := (hN.cell 6).trans rfl; have k7 := (hN.cell 7).trans rfl; have k8 := (hN.cell 8).trans rfl; clear h0 hN); first | (go_simp; done) | (go_simp; (try go_bits); (try go_simp); rfl) | go_simp)); simp only [Act.put, List.setIfInBounds_toArray, List.set_cons_succ, List.set_cons_zero]; (try simp only [List.cons_append]); (try simp only [List.nil_append]); apply hK; clear hK K))
      refine phi_partK (PVal (.agg #[.int .i64 a0, .int .i64 a1, .int .i64 a2, .int .i64 a3, .int .i64 a4, .int .i64 a5, .int .i64 a6, .int .i64 0, .int .i64 a8])) rfl rfl ⟨_, rfl⟩ ?_ (fun K hK v hv => ?_)
      · rintro w' ⟨h0, hN⟩ _
        unfold gives
        go_simp
        refine (HA2.out w').mono ?_
        rintro e w'' ⟨rfl, hb⟩
        exact ⟨_, rfl, rfl, trivial, hb⟩
      obtain rfl : v = _ := hv
      simp only [Act.put, List.setIfInBounds_toArray, List.set_cons_succ, List.set_cons_zero]; (try simp only [List.cons_append]); (try simp only [List.nil_append])
      apply hK
      clear hK K
      refine phi_partK (PNewM w.heap.size) rfl rfl ⟨_, 0, rfl⟩ ?_ (fun K hK v hv => ?_)
      · rintro w' ⟨h0, hN⟩ _
        unfold gives
        go_simp
        exact ⟨⟨_, rfl⟩, fun g hg => by
          obtain rfl : w'.heap.size = g := by simpa using hg
          exact ⟨hN.lt, Blk.new _ _ _⟩, below_alloc1 _ _⟩
      obtain ⟨gc, rfl⟩ := hv
      simp only [Act.put, List.setIfInBounds_toArray, List.set_cons_succ, List.set_cons_zero]; (try simp only [List.cons_append]); (try simp only [List.nil_append])
      apply hK
      clear hK K
      refine phi_done ?_
      rintro w' ⟨hb, hN⟩ hf
      obtain ⟨hgb, hM⟩ := hf (7, fun wq => (PNewM w.heap.size).fact wq (.pointer (some ⟨gc, 0, none⟩))) (by simp) gc rfl
      clear hf
      have B' := Lib.hid hb
      have N' := Lib.hid hN
      clear hb hN B N O
      have B := Lib.hid B'.out
      have N := Lib.hid N'.out
      clear B' N'
      refine wpList_store (.tmp 9) (.tmp 45) 25 rfl rfl gc 0 _ _ #[.int .i64 a0, .int .i64 a1, .int .i64 a2, .int .i64 a3, .int .i64 a4, .int .i64 a5, .int .i64 a6, .int .i64 0, .int .i64 a8] rfl rfl hM (by kernel_rfl) (by simp [Value.oneCell']) (by simp) ?_
      intro w7 hn7 ko7
      have h7 : Blk w7 gc 25 #[.int .i64 a0, .int .i64 a1, .int .i64 a2, .int .i64 a3, .int .i64 a4, .int .i64 a5, .int .i64 a6, .int .i64 0, .int .i64 a8] := hn7
      have C := Lib.hid h7
      have B7 := Lib.hid (B.out.trans (ko7.below (Nat.le_of_lt hgb)))
      have N7 := Lib.hid (ko7.blk N.out (Nat.ne_of_lt hgb))
      clear hn7 ko7 h7 hM B N
      have B := Lib.hid B7.out
      have N := Lib.hid N7.out
      clear B7 N7
      have c7 := (C.out.cell 7).trans rfl
      have n0 := (N.out.cell 0).trans rfl
      have n1 := (N.out.cell 1).trans rfl
      have n2 := (N.out.cell 2).trans rfl
      have n3 := (N.out.cell 3).trans rfl
      have n4 := (N.out.cell 4).trans rfl
      have n5 := (N.out.cell 5).trans rfl
      have n6 := (N.out.cell 6).trans rfl
      have n7 := (N.out.cell 7).trans rfl
      have n8 := (N.out.cell 8).trans rfl
      have f7 := C.out.frozen 7
      have h8 : Blk (w7.setCell ⟨gc, 7, none⟩ (.int .i64 a7)) gc 25 #[.int .i64 a0, .int .i64 a1, .int .i64 a2, .int .i64 a3, .int .i64 a4, .int .i64 a5, .int .i64 a6, .int .i64 a7, .int .i64 a8] := C.out.set_ 7 (.int .i64 a7)
      have m8 := N.out.far (b := gc) (Nat.ne_of_lt hgb) 7 (.int .i64 a7)
      have H8 := Lib.hid h8
      have M8 := Lib.hid m8
      have q0 := (H8.out.cell 0).trans rfl
      have q1 := (H8.out.cell 1).trans rfl
      have q2 := (H8.out.cell 2).trans rfl
      have q3 := (H8.out.cell 3).trans rfl
      have q4 := (H8.out.cell 4).trans rfl
      have q5 := (H8.out.cell 5).trans rfl
      have q6 := (H8.out.cell 6).trans rfl
      have q7 := (H8.out.cell 7).trans rfl
      have q8 := (H8.out.cell 8).trans rfl
      have r0 := (M8.out.cell 0).trans rfl
      have r1 := (M8.out.cell 1).trans rfl
      have r2 := (M8.out.cell 2).trans rfl
      have r3 := (M8.out.cell 3).trans rfl
      have r4 := (M8.out.cell 4).trans rfl
      have r5 := (M8.out.cell 5).trans rfl
      have r6 := (M8.out.cell 6).trans rfl
      have r7 := (M8.out.cell 7).trans rfl
      have r8 := (M8.out.cell 8).trans rfl
      have B8 := Lib.hid (B.out.trans (((Only.refl gc w7).set_ 7 (.int .i64 a7)).below (Nat.le_of_lt hgb)))
      clear m8 h8 H8 M8
      go_wp2_with fail
      go_ret
      exact ⟨rfl, B8.out⟩
    · simp only [if_true, errV_zero] at HEB
      have hs := hse rfl rfl
      rw [← hs] at heq
      clear hse hs
      generalize hr : (l1 == l2) = r at *
      go_enter Tryd.func3, Tryd.ntmps3
      go_wp2_with fail
      refine (HAL.out _ (HG.out _ B.out)).mono ?_
      rintro e w' ⟨rfl, hb⟩
      have B' := Lib.hid (B.out.trans (hb.mono B.out.size))
      have N' := Lib.hid (N.out.below hb N.out.lt)
      have O' := Lib.hid (O.out.below hb O.out.lt)
      clear hb B N O n0 n1 n2 n3 n4 n5 n6 n7 n8 o0 o1 o2 o3 o4 o5 o6 o7 o8
      have n0 := (N'.out.cell 0).trans rfl
      have n1 := (N'.out.cell 1).trans rfl
      have n2 := (N'.out.cell 2).trans rfl
      have n3 := (N'.out.cell 3).trans rfl
      have n4 := (N'.out.cell 4).trans rfl
      have n5 := (N'.out.cell 5).trans rfl
      have n6 := (N'.out.cell 6).trans rfl
      have n7 := (N'.out.cell 7).trans rfl
      have n8 := (N'.out.cell 8).trans rfl
      have o0 := (O'.out.cell 0).trans rfl
      have o1 := (O'.out.cell 1).trans rfl
      have o2 := (O'.out.cell 2).trans rfl
      have o3 := (O'.out.cell 3).trans rfl
      have o4 := (O'.out.cell 4).trans rfl
      have o5 := (O'.out.cell 5).trans rfl
      have o6 := (O'.out.cell 6).trans rfl
      have o7 := (O'.out.cell 7).trans rfl
      have o8 := (O'.out.cell 8).trans rfl
      have B := Lib.hid B'.out
      have N := Lib.hid N'.out
      have O := Lib.hid O'.out
      clear B' N' O'
      go_wp2_with fail
      refine (HEA.out _ (HG.out _ B.out)).mono ?_
      rintro e w' ⟨v, rfl, ho, hb⟩
      have hyt := owns_byt ho
      obtain ⟨p1, c1, rfl, _, _, _⟩ := id hyt
      skip
      have Y1' := Lib.hid hyt
      clear ho hyt
      have B' := Lib.hid (B.out.trans (hb.mono B.out.size))
      have N' := Lib.hid (N.out.below hb N.out.lt)
      have O' := Lib.hid (O.out.below hb O.out.lt)
      clear hb B N O n0 n1 n2 n3 n4 n5 n6 n7 n8 o0 o1 o2 o3 o4 o5 o6 o7 o8
      have n0 := (N'.out.cell 0).trans rfl
      have n1 := (N'.out.cell 1).trans rfl
      have n2 := (N'.out.cell 2).trans rfl
      have n3 := (N'.out.cell 3).trans rfl
      have n4 := (N'.out.cell 4).trans rfl
      have n5 := (N'.out.cell 5).trans rfl
      have n6 := (N'.out.cell 6).trans rfl
      have n7 := (N'.out.cell 7).trans rfl
      have n8 := (N'.out.cell 8).trans rfl
      have o0 := (O'.out.cell 0).trans rfl
      have o1 := (O'.out.cell 1).trans rfl
      have o2 := (O'.out.cell 2).trans rfl
      have o3 := (O'.out.cell 3).trans rfl
      have o4 := (O'.out.cell 4).trans rfl
      have o5 := (O'.out.cell 5).trans rfl
      have o6 := (O'.out.cell 6).trans rfl
      have o7 := (O'.out.cell 7).trans rfl
      have o8 := (O'.out.cell 8).trans rfl
      have B := Lib.hid B'.out
      have N := Lib.hid N'.out
      have O := Lib.hid O'.out
      clear B' N' O'
      have Y1 := Lib.hid Y1'.out
      clear Y1'
      go_wp2_with fail
      refine (HEB.out _ (HG.out _ B.out)).mono ?_
      rintro e w' ⟨v, rfl, ho, hb⟩
      have hyt := owns_byt ho
      obtain ⟨p2, c2, rfl, _, _, _⟩ := id hyt
      have Y1k := Lib.hid (Y1.out.keep (Below.keeps hb))
      have Y2' := Lib.hid hyt
      clear ho hyt
      have B' := Lib.hid (B.out.trans (hb.mono B.out.size))
      have N' := Lib.hid (N.out.below hb N.out.lt)
      have O' := Lib.hid (O.out.below hb O.out.lt)
      clear hb B N O n0 n1 n2 n3 n4 n5 n6 n7 n8 o0 o1 o2 o3 o4 o5 o6 o7 o8
      have n0 := (N'.out.cell 0).trans rfl
      have n1 := (N'.out.cell 1).trans rfl
      have n2 := (N'.out.cell 2).trans rfl
      have n3 := (N'.out.cell 3).trans rfl
      have n4 := (N'.out.cell 4).trans rfl
      have n5 := (N'.out.cell 5).trans rfl
      have n6 := (N'.out.cell 6).trans rfl
      have n7 := (N'.out.cell 7).trans rfl
      have n8 := (N'.out.cell 8).trans rfl
      have o0 := (O'.out.cell 0).trans rfl
      have o1 := (O'.out.cell 1).trans rfl
      have o2 := (O'.out.cell 2).trans rfl
      have o3 := (O'.out.cell 3).trans rfl
      have o4 := (O'.out.cell 4).trans rfl
      have o5 := (O'.out.cell 5).trans rfl
      have o6 := (O'.out.cell 6).trans rfl
      have o7 := (O'.out.cell 7).trans rfl
      have o8 := (O'.out.cell 8).trans rfl
      have B := Lib.hid B'.out
      have N := Lib.hid N'.out
      have O := Lib.hid O'.out
      clear B' N' O'
      have Y2 := Lib.hid Y2'.out
      clear Y2'
      clear Y1
      have Y1 := Lib.hid Y1k.out
      clear Y1k
      go_wp2_with fail
      refine wp_phi (fun w' => Below w.heap.size w w' ∧ Blk w' w.heap.size 25 #[.int .i64 a0, .int .i64 a1, .int .i64 a2, .int .i64 a3, .int .i64 a4, .int .i64 a5, .int .i64 a6, .int .i64 a7, .int .i64 a8] ∧ Blk w' (w.heap.size + 1) 25 #[.int .i64 b0, .int .i64 b1, .int .i64 b2, .int .i64 b3, .int .i64 b4, .int .i64 b5, .int .i64 b6, .int .i64 b7, .int .i64 b8] ∧ Byt w' (.slice p1 l1.length c1) l1 ∧ Byt w' (.slice p2 l2.length c2) l2) [] [] (by kernel_rfl) (by kernel_rfl) ?_ ?_ ⟨B.out.drew, N.out, O.out, Y1.out, Y2.out⟩ ?_
      · rintro w1 w2 ⟨a1, a2, a3, a4, a5⟩ hb
        exact ⟨a1.trans (hb.mono a1.size), a2.below hb a2.lt, a3.below hb a3.lt, a4.keep (Below.keeps hb), a5.keep (Below.keeps hb)⟩
      · intro p hp; cases hp
      repeat (first | (refine phi_skipK rfl (fun K hK => ?_); simp only [Act.put, List.setIfInBounds_toArray, List.set_cons_succ, List.set_cons_zero]; (try simp only [List.cons_append]); (try simp only [List.nil_append]); apply hK; clear hK K) | (refine phi_pureK rfl rfl (fun K hK => ?_); apply Exists.intro; constructor; (focus (rintro w' ⟨h0, hN, hO, hy1, hy2⟩; (have k0 := (hN.cell 0).trans rfl; have l0 := (hO.cell 0).trans rfl; have k1 := (hN.cell 1).trans rfl; have l1 := (hO.cell 1).trans rfl; have k2 := (hN.cell 2).trans rfl; have l2 := (hO.cell 2).trans rfl; have k3 := (hN.cell 3).trans rfl; have l3 := (hO.cell 3).trans rfl; have k4 := (hN.cell 4).trans rfl; have l4 := (hO.cell 4).trans rfl; have k5 := (hN.cell 5).trans rfl; have l5 := (hO.cell 5).trans rfl; have k6 := (hN.cell 6).trans rfl; have l6 := (hO.cell 6).trans rfl; have k7 := (hN.cell 7).trans rfl; have l7 := (hO.cell 7).trans rfl; have k8 := (hN.cell 8).trans rfl; have l8 := (hO.cell 8).trans rfl; have s1 := str_of hy1; have s2 := str_of hy2; clear h0 hN hO hy1 hy2); first | (go_simp; done) | (go_simp; (try go_bits); (try go_simp); rfl) | go_simp)); simp only [Act.put, List.setIfInBounds_toArray, List.set_cons_succ, List.set_cons_zero]; (try simp only [List.cons_append]); (try simp only [List.nil_append]); apply hK; clear hK K))
      refine phi_done ?_
      rintro w' ⟨hb, hN, hO, _, _⟩ _
      have B' := Lib.hid hb
      have N' := Lib.hid hN
      have O' := Lib.hid hO
      clear hb hN hO B N O Y1 Y2
      have B := Lib.hid B'.out
      have N := Lib.hid N'.out
      have O := Lib.hid O'.out
      clear B' N' O'
      refine wpList_nil ?_
      go_wp2_with fail
      refine wp_phi_tail (List.take 8 _) (List.drop 8 _) (List.take_append_drop 8 _).symm (fun w' => Below w.heap.size w w' ∧ Blk w' w.heap.size 25 #[.int .i64 a0, .int .i64 a1, .int .i64 a2, .int .i64 a3, .int .i64 a4, .int .i64 a5, .int .i64 a6, .int .i64 a7, .int .i64 a8]) [(1, PVal (.agg #[.int .i64 1, .int .i64 a2, .int .i64 a1, .int .i64 a3, .int .i64 a4, .int .i64 a5, .int .i64 a6, .int .i64 0, .int .i64 0])), (6, PVal (.agg #[.int .i64 a0, .int .i64 a1, .int .i64 a2, .int .i64 a3, .int .i64 a4, .int .i64 a5, .int .i64 a6, .int .i64 0, .int .i64 a8])), (7, PNewM w.heap.size)] [] (by kernel_rfl) (by kernel_rfl) ?_ ?_ ⟨B.out.drew, N.out⟩ ?_
      · rintro w1 w2 ⟨a1, a2⟩ hb
        exact ⟨a1.trans (hb.mono a1.size), a2.below hb a2.lt⟩
      · simp only [List.mem_cons, List.not_mem_nil, or_false, forall_eq_or_imp, forall_eq]
        exact ⟨fun _ _ _ _ _ h => h, fun _ _ _ _ _ h => h, fun _ _ _ _ hb h g hg => ⟨(h g hg).1, (h g hg).2.below hb (h g hg).2.lt⟩⟩
      simp only [List.take_succ_cons, List.take_zero, List.drop_succ_cons, List.drop_zero]
      repeat (first | (refine phi_skipK rfl (fun K hK => ?_); simp only [Act.put, List.setIfInBounds_toArray, List.set_cons_succ, List.set_cons_zero]; (try simp only [List.cons_append]); (try simp only [List.nil_append]); apply hK; clear hK K) | (refine phi_pureK rfl rfl (fun K hK => ?_); apply Exists.intro; constructor; (focus (rintro w' ⟨h0, hN⟩; (have k0 := (hN.cell 0).trans rfl; have k1 := (hN.cell 1).trans rfl; have k2 := (hN.cell 2).trans rfl; have k3 := (hN.cell 3).trans rfl; have k4 := (hN.cell 4).trans rfl; have k5 := (hN.cell 5).trans rfl; have k6 := (hN.cell 6).trans rfl; have k7 := (hN.cell 7).trans rfl; have k8 := (hN.cell 8).trans rfl; clear h0 hN); first | (go_simp; done) | (go_simp; (try go_bits); (try go_simp); rfl) | go_simp)); simp only [Act.put, List.setIfInBounds_toArray, List.set_cons_succ, List.set_cons_zero]; (try simp only [List.cons_append]); (try simp only [List.nil_append]); apply hK; clear hK K))
      refine phi_partK (PVal (.agg #[.int .i64 1, .int .i64 a2, .int .i64 a1, .int .i64 a3, .int .i64 a4, .int .i64 a5, .int .i64 a6, .int .i64 0, .int .i64 0])) rfl rfl ⟨_, rfl⟩ ?_ (fun K hK v hv => ?_)
      · rintro w' ⟨h0, hN⟩ _
        unfold gives
        go_simp
        refine (HA1.out w').mono ?_
        rintro e w'' ⟨rfl, hb⟩
        exact ⟨_, rfl, rfl, trivial, hb⟩
      obtain rfl : v = _ := hv
      simp only [Act.put, List.setIfInBounds_toArray, List.set_cons_succ, List.set_cons_zero]; (try simp only [List.cons_append]); (try simp only [List.nil_append])
      apply hK
      clear hK K
      repeat (first | (refine phi_skipK rfl (fun K hK => ?_); simp only [Act.put, List.setIfInBounds_toArray, List.set_cons_succ, List.set_cons_zero]; (try simp only [List.cons_append]); (try simp only [List.nil_append]); apply hK; clear hK K) | (refine phi_pureK rfl rfl (fun K hK => ?_); apply Exists.intro; constructor; (focus (rintro w' ⟨h0, hN⟩; (have k0 := (hN.cell 0).trans rfl; have k1 := (hN.cell 1).trans rfl; have k2 := (hN.cell 2).trans rfl; have k3 := (hN.cell 3).trans rfl; have k4 := (hN.cell 4).trans rfl; have k5 := (hN.cell 5).trans rfl; have k6 := (hN.cell 6).trans rfl; have k7 := (hN.cell 7).trans rfl; have k8 := (hN.cell 8).trans rfl; clear h0 hN); first | (go_simp; done) | (go_simp; (try go_bits); (try go_simp); rfl) | go_simp)); simp only [Act.put, List.setIfInBounds_toArray, List.set_cons_succ, List.set_cons_zero]; (try simp only [List.cons_append]); (try simp only [List.nil_append]); apply hK; clear hK K))
      refine phi_partK (PVal (.agg #[.int .i64 a0, .int .i64 a1, .int .i64 a2, .int .i64 a3, .int .i64 a4, .int .i64 a5, .int .i64 a6, .int .i64 0, .int .i64 a8])) rfl rfl ⟨_, rfl⟩ ?_ (fun K hK v hv => ?_)
      · rintro w' ⟨h0, hN⟩ _
        unfold gives
        go_simp
        refine (HA2.out w').mono ?_
        rintro e w'' ⟨rfl, hb⟩
        exact ⟨_, rfl, rfl, trivial, hb⟩
      obtain rfl : v = _ := hv
      simp only [Act.put, List.setIfInBounds_toArray, List.set_cons_succ, List.set_cons_zero]; (try simp only [List.cons_append]); (try simp only [List.nil_append])
      apply hK
      clear hK K
      refine phi_partK (PNewM w.heap.size) rfl rfl ⟨_, 0, rfl⟩ ?_ (fun K hK v hv => ?_)
      · rintro w' ⟨h0, hN⟩ _
        unfold gives
        go_simp
        exact ⟨⟨_, rfl⟩, fun g hg => by
          obtain rfl : w'.heap.size = g := by simpa using hg
          exact ⟨hN.lt, Blk.new _ _ _⟩, below_alloc1 _ _⟩
      obtain ⟨gc, rfl⟩ := hv
      simp only [Act.put, List.setIfInBounds_toArray, List.set_cons_succ, List.set_cons_zero]; (try simp only [List.cons_append]); (try simp only [List.nil_append])
      apply hK
      clear hK K
      refine phi_done ?_
      rintro w' ⟨hb, hN⟩ hf
      obtain ⟨hgb, hM⟩ := hf (7, fun wq => (PNewM w.heap.size).fact wq (.pointer (some ⟨gc, 0, none⟩))) (by simp) gc rfl
      clear hf
      have B' := Lib.hid hb
      have N' := Lib.hid hN
      clear hb hN B N O
      have B := Lib.hid B'.out
      have N := Lib.hid N'.out
      clear B' N'
      refine wpList_store (.tmp 9) (.tmp 45) 25 rfl rfl gc 0 _ _ #[.int .i64 a0, .int .i64 a1, .int .i64 a2, .int .i64 a3, .int .i64 a4, .int .i64 a5, .int .i64 a6, .int .i64 0, .int .i64 a8] rfl rfl hM (by kernel_rfl) (by simp [Value.oneCell']) (by simp) ?_
      intro w7 hn7 ko7
      have h7 : Blk w7 gc 25 #[.int .i64 a0, .int .i64 a1, .int .i64 a2, .int .i64 a3, .int .i64 a4, .int .i64 a5, .int .i64 a6, .int .i64 0, .int .i64 a8] := hn7
      have C := Lib.hid h7
      have B7 := Lib.hid (B.out.trans (ko7.below (Nat.le_of_lt hgb)))
      have N7 := Lib.hid (ko7.blk N.out (Nat.ne_of_lt hgb))
      clear hn7 ko7 h7 hM B N
      have B := Lib.hid B7.out
      have N := Lib.hid N7.out
      clear B7 N7
      have c7 := (C.out.cell 7).trans rfl
      have n0 := (N.out.cell 0).trans rfl
      have n1 := (N.out.cell 1).trans rfl
      have n2 := (N.out.cell 2).trans rfl
      have n3 := (N.out.cell 3).trans rfl
      have n4 := (N.out.cell 4).trans rfl
      have n5 := (N.out.cell 5).trans rfl
      have n6 := (N.out.cell 6).trans rfl
      have n7 := (N.out.cell 7).trans rfl
      have n8 := (N.out.cell 8).trans rfl
      have f7 := C.out.frozen 7
      have h8 : Blk (w7.setCell ⟨gc, 7, none⟩ (.int .i64 a7)) gc 25 #[.int .i64 a0, .int .i64 a1, .int .i64 a2, .int .i64 a3, .int .i64 a4, .int .i64 a5, .int .i64 a6, .int .i64 a7, .int .i64 a8] := C.out.set_ 7 (.int .i64 a7)
      have m8 := N.out.far (b := gc) (Nat.ne_of_lt hgb) 7 (.int .i64 a7)
      have H8 := Lib.hid h8
      have M8 := Lib.hid m8
      have q0 := (H8.out.cell 0).trans rfl
      have q1 := (H8.out.cell 1).trans rfl
      have q2 := (H8.out.cell 2).trans rfl
      have q3 := (H8.out.cell 3).trans rfl
      have q4 := (H8.out.cell 4).trans rfl
      have q5 := (H8.out.cell 5).trans rfl
      have q6 := (H8.out.cell 6).trans rfl
      have q7 := (H8.out.cell 7).trans rfl
      have q8 := (H8.out.cell 8).trans rfl
      have r0 := (M8.out.cell 0).trans rfl
      have r1 := (M8.out.cell 1).trans rfl
      have r2 := (M8.out.cell 2).trans rfl
      have r3 := (M8.out.cell 3).trans rfl
      have r4 := (M8.out.cell 4).trans rfl
      have r5 := (M8.out.cell 5).trans rfl
      have r6 := (M8.out.cell 6).trans rfl
      have r7 := (M8.out.cell 7).trans rfl
      have r8 := (M8.out.cell 8).trans rfl
      have B8 := Lib.hid (B.out.trans (((Only.refl gc w7).set_ 7 (.int .i64 a7)).below (Nat.le_of_lt hgb)))
      clear m8 h8 H8 M8
      go_wp2_with fail
      go_ret
      exact ⟨rfl, B8.out⟩
end Go.Proofs.YtpbgappggmcmgaaDoor
