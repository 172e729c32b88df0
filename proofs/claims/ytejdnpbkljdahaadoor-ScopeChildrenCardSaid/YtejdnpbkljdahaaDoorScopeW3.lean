/-
  ScopeW3: which contexts are open: the document's answer.
-/
import Derived.Test.YtejdnpbkljdahaaDoorScopeO
import Derived.Test.YtejdnpbkljdahaaDoorScopeW2
import Derived.Test.YtejdnpbkljdahaaDoorFltWalk
namespace Go.Proofs.YtejdnpbkljdahaaDoor
open Go.RowKit Go.Extern.Stop Go.Stop Go.Extern Ieee
attribute [local go_sem] flt_def fgt_def feq_def fne_def

theorem ref_ord {y x : Nat} (hy : y ≤ infR) (hx : x ≤ infR) : decide (cmpI (place y) (place x) < 0) = decide (y < x) := by
  rw [place_small hy, place_small hx]
  unfold cmpI
  by_cases h : y < x
  · rw [if_pos (by omega), decide_eq_true h]; rfl
  · rw [if_neg (by omega), decide_eq_false h]
    split <;> rfl
set_option maxRecDepth 20000 in
set_option maxHeartbeats 4000000 in
theorem ropen_any (n s o d : Int) (x now : Nat) (hx : x < 18446744073709551616) (ht : now < 18446744073709551616) (w : World) :
    Calls Tryd.prog 18 #[.agg #[.int .i64 n, .int .i64 s, .int .i64 o, .int .i64 d, .float .f64 x], .float .f64 now] w fun e w' => e = .returned (.bool (openC ⟨n, s, o, d, x⟩ now)) ∧ Below w.heap.size w w' := by
  have HA := Lib.hid (fun w' => rright_any n s o d x hx w')
  have HD := Lib.hid (fun w' => refdel_any now w')
  have HP := Lib.hid (fun w' => refplain_any now ht w')
  have HO := Lib.hid (show openC ⟨n, s, o, d, x⟩ now = (rightC ⟨n, s, o, d, x⟩ && (isDel now && decide (plainN now < x))) from rfl)
  have HX := Lib.hid (@right_x ⟨n, s, o, d, x⟩)
  have HL := Lib.hid (fun h1 h2 => @ref_ord (plainN now) x h1 h2)
  have HK := Lib.hid (fun h => @plain_le now h)
  have hp : isDel now = true → plainN now < 18446744073709551616 := fun h => by have := plain_le h; unfold infR at this; omega
  have HF := Lib.hid (fun h w' => reforder_any (plainN now) x (hp h) hx w')
  generalize openC ⟨n, s, o, d, x⟩ now = r at *
  generalize rightC ⟨n, s, o, d, x⟩ = q at *
  generalize cmpI (place (plainN now)) (place x) = z at *
  generalize plainN now = y at *
  have B := Lib.hid (below_alloc1 w (.cells #[.int .i64 n, .int .i64 s, .int .i64 o, .int .i64 d, .float .f64 x] 29))
  have N := Lib.hid (Blk.new w 29 #[.int .i64 n, .int .i64 s, .int .i64 o, .int .i64 d, .float .f64 x])
  clear hx ht hp
  cases q
  · clear HL HK HF HX
    go_enter Tryd.func18, Tryd.ntmps18
    go_wp2_with fail
    refine wp_phi (fun w' => Below w.heap.size w w' ∧ Blk w' w.heap.size 29 #[.int .i64 n, .int .i64 s, .int .i64 o, .int .i64 d, .float .f64 x]) [(1, PVal (.bool false)), (4, PVal (.bool true)), (8, PVal (.float .f64 y)), (11, PVal (.int .i64 z))] [] (by kernel_rfl) (by kernel_rfl) ?_ ?_ ⟨B.out.drew, N.out⟩ ?_
    · rintro w1 w2 ⟨a1, a2⟩ hb
      exact ⟨a1.trans (hb.mono a1.size), a2.below hb a2.lt⟩
    · simp only [List.mem_cons, List.not_mem_nil, or_false, forall_eq_or_imp, forall_eq]
      exact ⟨fun _ _ _ _ _ h => h, fun _ _ _ _ _ h => h, fun _ _ _ _ _ h => h, fun _ _ _ _ _ h => h⟩
    repeat (first | (refine phi_skipK rfl (fun K hK => ?_); simp only [Act.put, List.setIfInBounds_toArray, List.set_cons_succ, List.set_cons_zero]; (try simp only [List.cons_append]); (try simp only [List.nil_append]); apply hK; clear hK K) | (refine phi_pureK rfl rfl (fun K hK => ?_); apply Exists.intro; constructor; (focus (rintro w' ⟨h0, hN⟩; (have k0 := (hN.cell 0).trans rfl; have k1 := (hN.cell 1).trans rfl; have k2 := (hN.cell 2).trans rfl; have k3 := (hN.cell 3).trans rfl; have k4 := (hN.cell 4).trans rfl; clear h0 hN); first | (go_simp; done) | (go_simp; (try go_bits); (try go_simp); rfl) | go_simp)); simp only [Act.put, List.setIfInBounds_toArray, List.set_cons_succ, List.set_cons_zero]; (try simp only [List.cons_append]); (try simp only [List.nil_append]); apply hK; clear hK K))
    refine phi_partK (PVal (.bool false)) rfl rfl ⟨_, rfl⟩ ?_ (fun K hK v hv => ?_)
    · rintro w' ⟨h0, hN⟩ _
      unfold gives
      go_simp
      refine (HA.out w').mono ?_
      rintro e w'' ⟨rfl, hb⟩
      exact ⟨_, rfl, rfl, trivial, hb⟩
    obtain rfl : v = _ := hv
    simp only [Act.put, List.setIfInBounds_toArray, List.set_cons_succ, List.set_cons_zero]; (try simp only [List.cons_append]); (try simp only [List.nil_append])
    apply hK
    clear hK K
    repeat (first | (refine phi_skipK rfl (fun K hK => ?_); simp only [Act.put, List.setIfInBounds_toArray, List.set_cons_succ, List.set_cons_zero]; (try simp only [List.cons_append]); (try simp only [List.nil_append]); apply hK; clear hK K) | (refine phi_pureK rfl rfl (fun K hK => ?_); apply Exists.intro; constructor; (focus (rintro w' ⟨h0, hN⟩; (have k0 := (hN.cell 0).trans rfl; have k1 := (hN.cell 1).trans rfl; have k2 := (hN.cell 2).trans rfl; have k3 := (hN.cell 3).trans rfl; have k4 := (hN.cell 4).trans rfl; clear h0 hN); first | (go_simp; done) | (go_simp; (try go_bits); (try go_simp); rfl) | go_simp)); simp only [Act.put, List.setIfInBounds_toArray, List.set_cons_succ, List.set_cons_zero]; (try simp only [List.cons_append]); (try simp only [List.nil_append]); apply hK; clear hK K))
    refine phi_done ?_
    rintro w' ⟨hb, _⟩ _
    have B' := Lib.hid hb
    clear hb
    refine wpList_nil ?_
    go_wp2_with fail
    go_ret
    exact ⟨by rw [HO.out]; rfl, B'.out⟩
  · have hxi := HX.out rfl
    cases h1 : isDel now
    · rw [h1] at HD HO
      clear HL HK HF HX hxi
      go_enter Tryd.func18, Tryd.ntmps18
      go_wp2_with fail
      refine wp_phi (fun w' => Below w.heap.size w w' ∧ Blk w' w.heap.size 29 #[.int .i64 n, .int .i64 s, .int .i64 o, .int .i64 d, .float .f64 x]) [(1, PVal (.bool true)), (4, PVal (.bool false)), (8, PVal (.float .f64 y)), (11, PVal (.int .i64 z))] [] (by kernel_rfl) (by kernel_rfl) ?_ ?_ ⟨B.out.drew, N.out⟩ ?_
      · rintro w1 w2 ⟨a1, a2⟩ hb
        exact ⟨a1.trans (hb.mono a1.size), a2.below hb a2.lt⟩
      · simp only [List.mem_cons, List.not_mem_nil, or_false, forall_eq_or_imp, forall_eq]
        exact ⟨fun _ _ _ _ _ h => h, fun _ _ _ _ _ h => h, fun _ _ _ _ _ h => h, fun _ _ _ _ _ h => h⟩
      repeat (first | (refine phi_skipK rfl (fun K hK => ?_); simp only [Act.put, List.setIfInBounds_toArray, List.set_cons_succ, List.set_cons_zero]; (try simp only [List.cons_append]); (try simp only [List.nil_append]); apply hK; clear hK K) | (refine phi_pureK rfl rfl (fun K hK => ?_); apply Exists.intro; constructor; (focus (rintro w' ⟨h0, hN⟩; (have k0 := (hN.cell 0).trans rfl; have k1 := (hN.cell 1).trans rfl; have k2 := (hN.cell 2).trans rfl; have k3 := (hN.cell 3).trans rfl; have k4 := (hN.cell 4).trans rfl; clear h0 hN); first | (go_simp; done) | (go_simp; (try go_bits); (try go_simp); rfl) | go_simp)); simp only [Act.put, List.setIfInBounds_toArray, List.set_cons_succ, List.set_cons_zero]; (try simp only [List.cons_append]); (try simp only [List.nil_append]); apply hK; clear hK K))
      refine phi_partK (PVal (.bool true)) rfl rfl ⟨_, rfl⟩ ?_ (fun K hK v hv => ?_)
      · rintro w' ⟨h0, hN⟩ _
        unfold gives
        go_simp
        refine (HA.out w').mono ?_
        rintro e w'' ⟨rfl, hb⟩
        exact ⟨_, rfl, rfl, trivial, hb⟩
      obtain rfl : v = _ := hv
      simp only [Act.put, List.setIfInBounds_toArray, List.set_cons_succ, List.set_cons_zero]; (try simp only [List.cons_append]); (try simp only [List.nil_append])
      apply hK
      clear hK K
      repeat (first | (refine phi_skipK rfl (fun K hK => ?_); simp only [Act.put, List.setIfInBounds_toArray, List.set_cons_succ, List.set_cons_zero]; (try simp only [List.cons_append]); (try simp only [List.nil_append]); apply hK; clear hK K) | (refine phi_pureK rfl rfl (fun K hK => ?_); apply Exists.intro; constructor; (focus (rintro w' ⟨h0, hN⟩; (have k0 := (hN.cell 0).trans rfl; have k1 := (hN.cell 1).trans rfl; have k2 := (hN.cell 2).trans rfl; have k3 := (hN.cell 3).trans rfl; have k4 := (hN.cell 4).trans rfl; clear h0 hN); first | (go_simp; done) | (go_simp; (try go_bits); (try go_simp); rfl) | go_simp)); simp only [Act.put, List.setIfInBounds_toArray, List.set_cons_succ, List.set_cons_zero]; (try simp only [List.cons_append]); (try simp only [List.nil_append]); apply hK; clear hK K))
      refine phi_partK (PVal (.bool false)) rfl rfl ⟨_, rfl⟩ ?_ (fun K hK v hv => ?_)
      · rintro w' ⟨h0, hN⟩ _
        unfold gives
        go_simp
        refine (HD.out w').mono ?_
        rintro e w'' ⟨rfl, hb⟩
        exact ⟨_, rfl, rfl, trivial, hb⟩
      obtain rfl : v = _ := hv
      simp only [Act.put, List.setIfInBounds_toArray, List.set_cons_succ, List.set_cons_zero]; (try simp only [List.cons_append]); (try simp only [List.nil_append])
      apply hK
      clear hK K
      repeat (first | (refine phi_skipK rfl (fun K hK => ?_); simp only [Act.put, List.setIfInBounds_toArray, List.set_cons_succ, List.set_cons_zero]; (try simp only [List.cons_append]); (try simp only [List.nil_append]); apply hK; clear hK K) | (refine phi_pureK rfl rfl (fun K hK => ?_); apply Exists.intro; constructor; (focus (rintro w' ⟨h0, hN⟩; (have k0 := (hN.cell 0).trans rfl; have k1 := (hN.cell 1).trans rfl; have k2 := (hN.cell 2).trans rfl; have k3 := (hN.cell 3).trans rfl; have k4 := (hN.cell 4).trans rfl; clear h0 hN); first | (go_simp; done) | (go_simp; (try go_bits); (try go_simp); rfl) | go_simp)); simp only [Act.put, List.setIfInBounds_toArray, List.set_cons_succ, List.set_cons_zero]; (try simp only [List.cons_append]); (try simp only [List.nil_append]); apply hK; clear hK K))
      refine phi_done ?_
      rintro w' ⟨hb, _⟩ _
      have B' := Lib.hid hb
      clear hb
      refine wpList_nil ?_
      go_wp2_with fail
      go_ret
      exact ⟨by rw [HO.out]; rfl, B'.out⟩
    · have hl := HL.out (HK.out h1) hxi
      have HF' := Lib.hid (HF.out h1)
      rw [h1] at HD HO
      clear HL HK HF HX hxi
      cases h2 : decide (y < x)
      all_goals
        rw [h2] at hl HO
        clear h2
        go_enter Tryd.func18, Tryd.ntmps18
        go_wp2_with fail
        refine wp_phi (fun w' => Below w.heap.size w w' ∧ Blk w' w.heap.size 29 #[.int .i64 n, .int .i64 s, .int .i64 o, .int .i64 d, .float .f64 x]) [(1, PVal (.bool true)), (4, PVal (.bool true)), (8, PVal (.float .f64 y)), (11, PVal (.int .i64 z))] [] (by kernel_rfl) (by kernel_rfl) ?_ ?_ ⟨B.out.drew, N.out⟩ ?_
        · rintro w1 w2 ⟨a1, a2⟩ hb
          exact ⟨a1.trans (hb.mono a1.size), a2.below hb a2.lt⟩
        · simp only [List.mem_cons, List.not_mem_nil, or_false, forall_eq_or_imp, forall_eq]
          exact ⟨fun _ _ _ _ _ h => h, fun _ _ _ _ _ h => h, fun _ _ _ _ _ h => h, fun _ _ _ _ _ h => h⟩
        repeat (first | (refine phi_skipK rfl (fun K hK => ?_); simp only [Act.put, List.setIfInBounds_toArray, List.set_cons_succ, List.set_cons_zero]; (try simp only [List.cons_append]); (try simp only [List.nil_append]); apply hK; clear hK K) | (refine phi_pureK rfl rfl (fun K hK => ?_); apply Exists.intro; constructor; (focus (rintro w' ⟨h0, hN⟩; (have k0 := (hN.cell 0).trans rfl; have k1 := (hN.cell 1).trans rfl; have k2 := (hN.cell 2).trans rfl; have k3 := (hN.cell 3).trans rfl; have k4 := (hN.cell 4).trans rfl; clear h0 hN); first | (go_simp; done) | (go_simp; (try go_bits); (try go_simp); rfl) | go_simp)); simp only [Act.put, List.setIfInBounds_toArray, List.set_cons_succ, List.set_cons_zero]; (try simp only [List.cons_append]); (try simp only [List.nil_append]); apply hK; clear hK K))
        refine phi_partK (PVal (.bool true)) rfl rfl ⟨_, rfl⟩ ?_ (fun K hK v hv => ?_)
        · rintro w' ⟨h0, hN⟩ _
          unfold gives
          go_simp
          refine (HA.out w').mono ?_
          rintro e w'' ⟨rfl, hb⟩
          exact ⟨_, rfl, rfl, trivial, hb⟩
        obtain rfl : v = _ := hv
        simp only [Act.put, List.setIfInBounds_toArray, List.set_cons_succ, List.set_cons_zero]; (try simp only [List.cons_append]); (try simp only [List.nil_append])
        apply hK
        clear hK K
        repeat (first | (refine phi_skipK rfl (fun K hK => ?_); simp only [Act.put, List.setIfInBounds_toArray, List.set_cons_succ, List.set_cons_zero]; (try simp only [List.cons_append]); (try simp only [List.nil_append]); apply hK; clear hK K) | (refine phi_pureK rfl rfl (fun K hK => ?_); apply Exists.intro; constructor; (focus (rintro w' ⟨h0, hN⟩; (have k0 := (hN.cell 0).trans rfl; have k1 := (hN.cell 1).trans rfl; have k2 := (hN.cell 2).trans rfl; have k3 := (hN.cell 3).trans rfl; have k4 := (hN.cell 4).trans rfl; clear h0 hN); first | (go_simp; done) | (go_simp; (try go_bits); (try go_simp); rfl) | go_simp)); simp only [Act.put, List.setIfInBounds_toArray, List.set_cons_succ, List.set_cons_zero]; (try simp only [List.cons_append]); (try simp only [List.nil_append]); apply hK; clear hK K))
        refine phi_partK (PVal (.bool true)) rfl rfl ⟨_, rfl⟩ ?_ (fun K hK v hv => ?_)
        · rintro w' ⟨h0, hN⟩ _
          unfold gives
          go_simp
          refine (HD.out w').mono ?_
          rintro e w'' ⟨rfl, hb⟩
          exact ⟨_, rfl, rfl, trivial, hb⟩
        obtain rfl : v = _ := hv
        simp only [Act.put, List.setIfInBounds_toArray, List.set_cons_succ, List.set_cons_zero]; (try simp only [List.cons_append]); (try simp only [List.nil_append])
        apply hK
        clear hK K
        repeat (first | (refine phi_skipK rfl (fun K hK => ?_); simp only [Act.put, List.setIfInBounds_toArray, List.set_cons_succ, List.set_cons_zero]; (try simp only [List.cons_append]); (try simp only [List.nil_append]); apply hK; clear hK K) | (refine phi_pureK rfl rfl (fun K hK => ?_); apply Exists.intro; constructor; (focus (rintro w' ⟨h0, hN⟩; (have k0 := (hN.cell 0).trans rfl; have k1 := (hN.cell 1).trans rfl; have k2 := (hN.cell 2).trans rfl; have k3 := (hN.cell 3).trans rfl; have k4 := (hN.cell 4).trans rfl; clear h0 hN); first | (go_simp; done) | (go_simp; (try go_bits); (try go_simp); rfl) | go_simp)); simp only [Act.put, List.setIfInBounds_toArray, List.set_cons_succ, List.set_cons_zero]; (try simp only [List.cons_append]); (try simp only [List.nil_append]); apply hK; clear hK K))
        refine phi_partK (PVal (.float .f64 y)) rfl rfl ⟨_, rfl⟩ ?_ (fun K hK v hv => ?_)
        · rintro w' ⟨h0, hN⟩ _
          unfold gives
          go_simp
          refine (HP.out w').mono ?_
          rintro e w'' ⟨rfl, hb⟩
          exact ⟨_, rfl, rfl, trivial, hb⟩
        obtain rfl : v = _ := hv
        simp only [Act.put, List.setIfInBounds_toArray, List.set_cons_succ, List.set_cons_zero]; (try simp only [List.cons_append]); (try simp only [List.nil_append])
        apply hK
        clear hK K
        repeat (first | (refine phi_skipK rfl (fun K hK => ?_); simp only [Act.put, List.setIfInBounds_toArray, List.set_cons_succ, List.set_cons_zero]; (try simp only [List.cons_append]); (try simp only [List.nil_append]); apply hK; clear hK K) | (refine phi_pureK rfl rfl (fun K hK => ?_); apply Exists.intro; constructor; (focus (rintro w' ⟨h0, hN⟩; (have k0 := (hN.cell 0).trans rfl; have k1 := (hN.cell 1).trans rfl; have k2 := (hN.cell 2).trans rfl; have k3 := (hN.cell 3).trans rfl; have k4 := (hN.cell 4).trans rfl; clear h0 hN); first | (go_simp; done) | (go_simp; (try go_bits); (try go_simp); rfl) | go_simp)); simp only [Act.put, List.setIfInBounds_toArray, List.set_cons_succ, List.set_cons_zero]; (try simp only [List.cons_append]); (try simp only [List.nil_append]); apply hK; clear hK K))
        refine phi_partK (PVal (.int .i64 z)) rfl rfl ⟨_, rfl⟩ ?_ (fun K hK v hv => ?_)
        · rintro w' ⟨h0, hN⟩ _
          unfold gives
          go_simp
          refine (HF'.out w').mono ?_
          rintro e w'' ⟨rfl, hb⟩
          exact ⟨_, rfl, rfl, trivial, hb⟩
        obtain rfl : v = _ := hv
        simp only [Act.put, List.setIfInBounds_toArray, List.set_cons_succ, List.set_cons_zero]; (try simp only [List.cons_append]); (try simp only [List.nil_append])
        apply hK
        clear hK K
        repeat (first | (refine phi_skipK rfl (fun K hK => ?_); simp only [Act.put, List.setIfInBounds_toArray, List.set_cons_succ, List.set_cons_zero]; (try simp only [List.cons_append]); (try simp only [List.nil_append]); apply hK; clear hK K) | (refine phi_pureK rfl rfl (fun K hK => ?_); apply Exists.intro; constructor; (focus (rintro w' ⟨h0, hN⟩; (have k0 := (hN.cell 0).trans rfl; have k1 := (hN.cell 1).trans rfl; have k2 := (hN.cell 2).trans rfl; have k3 := (hN.cell 3).trans rfl; have k4 := (hN.cell 4).trans rfl; clear h0 hN); first | (go_simp; done) | (go_simp; (try go_bits); (try go_simp); rfl) | go_simp)); simp only [Act.put, List.setIfInBounds_toArray, List.set_cons_succ, List.set_cons_zero]; (try simp only [List.cons_append]); (try simp only [List.nil_append]); apply hK; clear hK K))
        refine phi_done ?_
        rintro w' ⟨hb, _⟩ _
        have B' := Lib.hid hb
        clear hb
        refine wpList_nil ?_
        go_wp2_with fail
        go_ret
        exact ⟨by rw [HO.out]; rfl, B'.out⟩
end Go.Proofs.YtejdnpbkljdahaaDoor
