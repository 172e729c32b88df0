/-
  ScopeW2: the document's answer which contexts are right.
  ScopeSA: the document's Same of contexts (of ScopeS).
-/
import Derived.Test.YtgmiockaecklaaaGreatDoorBF
namespace Go.Proofs.YtgmiockaecklaaaGreatDoor
open Go.RowKit Go.Extern.Stop Go.Stop Go.Extern Ieee
attribute [local go_sem] flt_def fgt_def feq_def fne_def

set_option maxRecDepth 20000 in
set_option maxHeartbeats 4000000 in
theorem rright_any (n s o d : Int) (x : Nat) (hx : x < 18446744073709551616) (w : World) :
    Calls Tryz.prog 6 #[.agg #[.int .i64 n, .int .i64 s, .int .i64 o, .int .i64 d, .float .f64 x]] w fun e w' => e = .returned (.bool (rightC ⟨n, s, o, d, x⟩)) ∧ Below w.heap.size w w' := by
  have HR0 : Value.bool (actB n s && ((o == 1) || (o == 2)) && decide (0 ≤ d) && decide (d ≤ 3) && isDel x && (x == plainN x)) = Value.bool (rightC ⟨n, s, o, d, x⟩) := by
    have h1 : (x == plainN x) = (plainN x == x) := by rw [Bool.eq_iff_iff, beq_iff_eq, beq_iff_eq]; exact eq_comm
    unfold rightC isOut
    rw [← okF_is hx, h1]
    generalize actB n s = a; generalize (o == 1) = b; generalize (o == 2) = c; generalize decide (0 ≤ d) = e; generalize decide (d ≤ 3) = f; generalize isDel x = g; generalize (plainN x == x) = k
    cases a <;> cases b <;> cases c <;> cases e <;> cases f <;> cases g <;> cases k <;> rfl
  have HA := Lib.hid (fun w' => refright_any n s w')
  have HD := Lib.hid (fun w' => refdel_any x w')
  have HW := Lib.hid (fun w' => raw_any x w')
  have HB := Lib.hid (fun w' => refbits_any x hx w')
  unfold actV at HA
  generalize rightC ⟨n, s, o, d, x⟩ = r at *
  have HR : RowKit.Hid (Ending.returned (Value.bool (actB n s && ((o == 1) || (o == 2)) && decide (0 ≤ d) && decide (d ≤ 3) && isDel x && (x == plainN x))) = Ending.returned (Value.bool r)) := Lib.hid (by rw [HR0])
  clear HR0
  generalize plainN x = y at *
  have B := Lib.hid (below_alloc1 w (.cells #[.int .i64 n, .int .i64 s, .int .i64 o, .int .i64 d, .float .f64 x] 26))
  have N := Lib.hid (Blk.new w 26 #[.int .i64 n, .int .i64 s, .int .i64 o, .int .i64 d, .float .f64 x])
  unfold actB at HR
  cases ha : (actT n s).isSome
  · rw [ha] at HA HR
    go_enter Tryz.func6, Tryz.ntmps6
    go_wp2_with fail
    refine wp_phi (fun w' => Below w.heap.size w w' ∧ Blk w' w.heap.size 26 #[.int .i64 n, .int .i64 s, .int .i64 o, .int .i64 d, .float .f64 x]) [(2, PVal (.bool false)), (26, PVal (.bool true)), (31, PVal (.int .u64 (x : Int))), (34, PVal (.int .u64 (y : Int)))] [] (by kernel_rfl) (by kernel_rfl) ?_ ?_ ⟨B.out.drew, N.out⟩ ?_
    · rintro w1 w2 ⟨a1, a2⟩ hb
      exact ⟨a1.trans (hb.mono a1.size), a2.below hb a2.lt⟩
    · simp only [List.mem_cons, List.not_mem_nil, or_false, forall_eq_or_imp, forall_eq]
      exact ⟨fun _ _ _ _ _ h => h, fun _ _ _ _ _ h => h, fun _ _ _ _ _ h => h, fun _ _ _ _ _ h => h⟩
    repeat (first | (refine phi_skipK rfl (fun K hK => ?_); simp only [Act.put, List.setIfInBounds_toArray, List.set_cons_succ, List.set_cons_zero]; (try simp only [List.cons_append]); (try simp only [List.nil_append]); apply hK; clear hK K) | (refine phi_pureK rfl rfl (fun K hK => ?_); apply Exists.intro; constructor; (focus (rintro w' ⟨h0, hN⟩; (have k0 := (hN.cell 0).trans rfl; have k1 := (hN.cell 1).trans rfl; have k2 := (hN.cell 2).trans rfl; have k3 := (hN.cell 3).trans rfl; have k4 := (hN.cell 4).trans rfl; clear h0 hN); first | (go_simp; done) | (go_simp; (try go_bits); (try go_simp); rfl) | go_simp)); simp only [Act.put, List.setIfInBounds_toArray, List.set_cons_succ, List.set_cons_zero]; (try simp only [List.cons_append]); (try simp only [List.nil_append]); apply hK; clear hK K))
    refine phi_partK (PVal (.bool false)) rfl rfl ⟨_, rfl⟩ ?_ (fun K hK v hv => ?_)
    · rintro w' ⟨h0, hN⟩ _
      unfold gives
      go_simp
      refine (HA.out w').mono ?_
      rintro e w'' ⟨rfl, hb⟩
      exact ⟨_, rfl, rfl, trivial, hb⟩
    obtain rfl : v = _ := hv
    simp only [Act.put, List.setIfInBounds_toArray, List.set_cons_succ, List.set_cons_zero]; (try simp only [List.cons_append]); (try simp only [List.nil_append])
    apply hK
    clear hK K
    repeat (first | (refine phi_skipK rfl (fun K hK => ?_); simp only [Act.put, List.setIfInBounds_toArray, List.set_cons_succ, List.set_cons_zero]; (try simp only [List.cons_append]); (try simp only [List.nil_append]); apply hK; clear hK K) | (refine phi_pureK rfl rfl (fun K hK => ?_); apply Exists.intro; constructor; (focus (rintro w' ⟨h0, hN⟩; (have k0 := (hN.cell 0).trans rfl; have k1 := (hN.cell 1).trans rfl; have k2 := (hN.cell 2).trans rfl; have k3 := (hN.cell 3).trans rfl; have k4 := (hN.cell 4).trans rfl; clear h0 hN); first | (go_simp; done) | (go_simp; (try go_bits); (try go_simp); rfl) | go_simp)); simp only [Act.put, List.setIfInBounds_toArray, List.set_cons_succ, List.set_cons_zero]; (try simp only [List.cons_append]); (try simp only [List.nil_append]); apply hK; clear hK K))
    refine phi_done ?_
    rintro w' ⟨hb, _⟩ _
    have B' := Lib.hid hb
    clear hb
    refine wpList_nil ?_
    go_wp2_with fail
    go_ret
    exact ⟨HR.out, B'.out⟩
  · rw [ha] at HA HR
    cases h1 : (o == 1)
    · cases h2 : (o == 2)
      · rw [h1, h2] at HR
        go_enter Tryz.func6, Tryz.ntmps6
        go_wp2_with fail
        refine wp_phi (fun w' => Below w.heap.size w w' ∧ Blk w' w.heap.size 26 #[.int .i64 n, .int .i64 s, .int .i64 o, .int .i64 d, .float .f64 x]) [(2, PVal (.bool true)), (26, PVal (.bool true)), (31, PVal (.int .u64 (x : Int))), (34, PVal (.int .u64 (y : Int)))] [] (by kernel_rfl) (by kernel_rfl) ?_ ?_ ⟨B.out.drew, N.out⟩ ?_
        · rintro w1 w2 ⟨a1, a2⟩ hb
          exact ⟨a1.trans (hb.mono a1.size), a2.below hb a2.lt⟩
        · simp only [List.mem_cons, List.not_mem_nil, or_false, forall_eq_or_imp, forall_eq]
          exact ⟨fun _ _ _ _ _ h => h, fun _ _ _ _ _ h => h, fun _ _ _ _ _ h => h, fun _ _ _ _ _ h => h⟩
        repeat (first | (refine phi_skipK rfl (fun K hK => ?_); simp only [Act.put, List.setIfInBounds_toArray, List.set_cons_succ, List.set_cons_zero]; (try simp only [List.cons_append]); (try simp only [List.nil_append]); apply hK; clear hK K) | (refine phi_pureK rfl rfl (fun K hK => ?_); apply Exists.intro; constructor; (focus (rintro w' ⟨h0, hN⟩; (have k0 := (hN.cell 0).trans rfl; have k1 := (hN.cell 1).trans rfl; have k2 := (hN.cell 2).trans rfl; have k3 := (hN.cell 3).trans rfl; have k4 := (hN.cell 4).trans rfl; clear h0 hN); first | (go_simp; done) | (go_simp; (try go_bits); (try go_simp); rfl) | go_simp)); simp only [Act.put, List.setIfInBounds_toArray, List.set_cons_succ, List.set_cons_zero]; (try simp only [List.cons_append]); (try simp only [List.nil_append]); apply hK; clear hK K))
        refine phi_partK (PVal (.bool true)) rfl rfl ⟨_, rfl⟩ ?_ (fun K hK v hv => ?_)
        · rintro w' ⟨h0, hN⟩ _
          unfold gives
          go_simp
          refine (HA.out w').mono ?_
          rintro e w'' ⟨rfl, hb⟩
          exact ⟨_, rfl, rfl, trivial, hb⟩
        obtain rfl : v = _ := hv
        simp only [Act.put, List.setIfInBounds_toArray, List.set_cons_succ, List.set_cons_zero]; (try simp only [List.cons_append]); (try simp only [List.nil_append])
        apply hK
        clear hK K
        repeat (first | (refine phi_skipK rfl (fun K hK => ?_); simp only [Act.put, List.setIfInBounds_toArray, List.set_cons_succ, List.set_cons_zero]; (try simp only [List.cons_append]); (try simp only [List.nil_append]); apply hK; clear hK K) | (refine phi_pureK rfl rfl (fun K hK => ?_); apply Exists.intro; constructor; (focus (rintro w' ⟨h0, hN⟩; (have k0 := (hN.cell 0).trans rfl; have k1 := (hN.cell 1).trans rfl; have k2 := (hN.cell 2).trans rfl; have k3 := (hN.cell 3).trans rfl; have k4 := (hN.cell 4).trans rfl; clear h0 hN); first | (go_simp; done) | (go_simp; (try go_bits); (try go_simp); rfl) | go_simp)); simp only [Act.put, List.setIfInBounds_toArray, List.set_cons_succ, List.set_cons_zero]; (try simp only [List.cons_append]); (try simp only [List.nil_append]); apply hK; clear hK K))
        refine phi_done ?_
        rintro w' ⟨hb, _⟩ _
        have B' := Lib.hid hb
        clear hb
        refine wpList_nil ?_
        go_wp2_with fail
        go_ret
        exact ⟨HR.out, B'.out⟩
      · rw [h1, h2] at HR
        cases h3 : decide (0 ≤ d)
        · rw [h3] at HR
          go_enter Tryz.func6, Tryz.ntmps6
          go_wp2_with fail
          refine wp_phi (fun w' => Below w.heap.size w w' ∧ Blk w' w.heap.size 26 #[.int .i64 n, .int .i64 s, .int .i64 o, .int .i64 d, .float .f64 x]) [(2, PVal (.bool true)), (26, PVal (.bool true)), (31, PVal (.int .u64 (x : Int))), (34, PVal (.int .u64 (y : Int)))] [] (by kernel_rfl) (by kernel_rfl) ?_ ?_ ⟨B.out.drew, N.out⟩ ?_
          · rintro w1 w2 ⟨a1, a2⟩ hb
            exact ⟨a1.trans (hb.mono a1.size), a2.below hb a2.lt⟩
          · simp only [List.mem_cons, List.not_mem_nil, or_false, forall_eq_or_imp, forall_eq]
            exact ⟨fun _ _ _ _ _ h => h, fun _ _ _ _ _ h => h, fun _ _ _ _ _ h => h, fun _ _ _ _ _ h => h⟩
          repeat (first | (refine phi_skipK rfl (fun K hK => ?_); simp only [Act.put, List.setIfInBounds_toArray, List.set_cons_succ, List.set_cons_zero]; (try simp only [List.cons_append]); (try simp only [List.nil_append]); apply hK; clear hK K) | (refine phi_pureK rfl rfl (fun K hK => ?_); apply Exists.intro; constructor; (focus (rintro w' ⟨h0, hN⟩; (have k0 := (hN.cell 0).trans rfl; have k1 := (hN.cell 1).trans rfl; have k2 := (hN.cell 2).trans rfl; have k3 := (hN.cell 3).trans rfl; have k4 := (hN.cell 4).trans rfl; clear h0 hN); first | (go_simp; done) | (go_simp; (try go_bits); (try go_simp); rfl) | go_simp)); simp only [Act.put, List.setIfInBounds_toArray, List.set_cons_succ, List.set_cons_zero]; (try simp only [List.cons_append]); (try simp only [List.nil_append]); apply hK; clear hK K))
          refine phi_partK (PVal (.bool true)) rfl rfl ⟨_, rfl⟩ ?_ (fun K hK v hv => ?_)
          · rintro w' ⟨h0, hN⟩ _
            unfold gives
            go_simp
            refine (HA.out w').mono ?_
            rintro e w'' ⟨rfl, hb⟩
            exact ⟨_, rfl, rfl, trivial, hb⟩
          obtain rfl : v = _ := hv
          simp only [Act.put, List.setIfInBounds_toArray, List.set_cons_succ, List.set_cons_zero]; (try simp only [List.cons_append]); (try simp only [List.nil_append])
          apply hK
          clear hK K
          repeat (first | (refine phi_skipK rfl (fun K hK => ?_); simp only [Act.put, List.setIfInBounds_toArray, List.set_cons_succ, List.set_cons_zero]; (try simp only [List.cons_append]); (try simp only [List.nil_append]); apply hK; clear hK K) | (refine phi_pureK rfl rfl (fun K hK => ?_); apply Exists.intro; constructor; (focus (rintro w' ⟨h0, hN⟩; (have k0 := (hN.cell 0).trans rfl; have k1 := (hN.cell 1).trans rfl; have k2 := (hN.cell 2).trans rfl; have k3 := (hN.cell 3).trans rfl; have k4 := (hN.cell 4).trans rfl; clear h0 hN); first | (go_simp; done) | (go_simp; (try go_bits); (try go_simp); rfl) | go_simp)); simp only [Act.put, List.setIfInBounds_toArray, List.set_cons_succ, List.set_cons_zero]; (try simp only [List.cons_append]); (try simp only [List.nil_append]); apply hK; clear hK K))
          refine phi_done ?_
          rintro w' ⟨hb, _⟩ _
          have B' := Lib.hid hb
          clear hb
          refine wpList_nil ?_
          go_wp2_with fail
          go_ret
          exact ⟨HR.out, B'.out⟩
        · cases h4 : decide (d ≤ 3)
          · rw [h3, h4] at HR
            go_enter Tryz.func6, Tryz.ntmps6
            go_wp2_with fail
            refine wp_phi (fun w' => Below w.heap.size w w' ∧ Blk w' w.heap.size 26 #[.int .i64 n, .int .i64 s, .int .i64 o, .int .i64 d, .float .f64 x]) [(2, PVal (.bool true)), (26, PVal (.bool true)), (31, PVal (.int .u64 (x : Int))), (34, PVal (.int .u64 (y : Int)))] [] (by kernel_rfl) (by kernel_rfl) ?_ ?_ ⟨B.out.drew, N.out⟩ ?_
            · rintro w1 w2 ⟨a1, a2⟩ hb
              exact ⟨a1.trans (hb.mono a1.size), a2.below hb a2.lt⟩
            · simp only [List.mem_cons, List.not_mem_nil, or_false, forall_eq_or_imp, forall_eq]
              exact ⟨fun _ _ _ _ _ h => h, fun _ _ _ _ _ h => h, fun _ _ _ _ _ h => h, fun _ _ _ _ _ h => h⟩
            repeat (first | (refine phi_skipK rfl (fun K hK => ?_); simp only [Act.put, List.setIfInBounds_toArray, List.set_cons_succ, List.set_cons_zero]; (try simp only [List.cons_append]); (try simp only [List.nil_append]); apply hK; clear hK K) | (refine phi_pureK rfl rfl (fun K hK => ?_); apply Exists.intro; constructor; (focus (rintro w' ⟨h0, hN⟩; (have k0 := (hN.cell 0).trans rfl; have k1 := (hN.cell 1).trans rfl; have k2 := (hN.cell 2).trans rfl; have k3 := (hN.cell 3).trans rfl; have k4 := (hN.cell 4).trans rfl; clear h0 hN); first | (go_simp; done) | (go_simp; (try go_bits); (try go_simp); rfl) | go_simp)); simp only [Act.put, List.setIfInBounds_toArray, List.set_cons_succ, List.set_cons_zero]; (try simp only [List.cons_append]); (try simp only [List.nil_append]); apply hK; clear hK K))
            refine phi_partK (PVal (.bool true)) rfl rfl ⟨_, rfl⟩ ?_ (fun K hK v hv => ?_)
            · rintro w' ⟨h0, hN⟩ _
              unfold gives
              go_simp
              refine (HA.out w').mono ?_
              rintro e w'' ⟨rfl, hb⟩
              exact ⟨_, rfl, rfl, trivial, hb⟩
            obtain rfl : v = _ := hv
            simp only [Act.put, List.setIfInBounds_toArray, List.set_cons_succ, List.set_cons_zero]; (try simp only [List.cons_append]); (try simp only [List.nil_append])
            apply hK
            clear hK K
            repeat (first | (refine phi_skipK rfl (fun K hK => ?_); simp only [Act.put, List.setIfInBounds_toArray, List.set_cons_succ, List.set_cons_zero]; (try simp only [List.cons_append]); (try simp only [List.nil_append]); apply hK; clear hK K) | (refine phi_pureK rfl rfl (fun K hK => ?_); apply Exists.intro; constructor; (focus (rintro w' ⟨h0, hN⟩; (have k0 := (hN.cell 0).trans rfl; have k1 := (hN.cell 1).trans rfl; have k2 := (hN.cell 2).trans rfl; have k3 := (hN.cell 3).trans rfl; have k4 := (hN.cell 4).trans rfl; clear h0 hN); first | (go_simp; done) | (go_simp; (try go_bits); (try go_simp); rfl) | go_simp)); simp only [Act.put, List.setIfInBounds_toArray, List.set_cons_succ, List.set_cons_zero]; (try simp only [List.cons_append]); (try simp only [List.nil_append]); apply hK; clear hK K))
            refine phi_done ?_
            rintro w' ⟨hb, _⟩ _
            have B' := Lib.hid hb
            clear hb
            refine wpList_nil ?_
            go_wp2_with fail
            go_ret
            exact ⟨HR.out, B'.out⟩
          · cases hd : isDel x
            · rw [h3, h4, hd] at HR
              rw [hd] at HD
              go_enter Tryz.func6, Tryz.ntmps6
              go_wp2_with fail
              refine wp_phi (fun w' => Below w.heap.size w w' ∧ Blk w' w.heap.size 26 #[.int .i64 n, .int .i64 s, .int .i64 o, .int .i64 d, .float .f64 x]) [(2, PVal (.bool true)), (26, PVal (.bool false)), (31, PVal (.int .u64 (x : Int))), (34, PVal (.int .u64 (y : Int)))] [] (by kernel_rfl) (by kernel_rfl) ?_ ?_ ⟨B.out.drew, N.out⟩ ?_
              · rintro w1 w2 ⟨a1, a2⟩ hb
                exact ⟨a1.trans (hb.mono a1.size), a2.below hb a2.lt⟩
              · simp only [List.mem_cons, List.not_mem_nil, or_false, forall_eq_or_imp, forall_eq]
                exact ⟨fun _ _ _ _ _ h => h, fun _ _ _ _ _ h => h, fun _ _ _ _ _ h => h, fun _ _ _ _ _ h => h⟩
              repeat (first | (refine phi_skipK rfl (fun K hK => ?_); simp only [Act.put, List.setIfInBounds_toArray, List.set_cons_succ, List.set_cons_zero]; (try simp only [List.cons_append]); (try simp only [List.nil_append]); apply hK; clear hK K) | (refine phi_pureK rfl rfl (fun K hK => ?_); apply Exists.intro; constructor; (focus (rintro w' ⟨h0, hN⟩; (have k0 := (hN.cell 0).trans rfl; have k1 := (hN.cell 1).trans rfl; have k2 := (hN.cell 2).trans rfl; have k3 := (hN.cell 3).trans rfl; have k4 := (hN.cell 4).trans rfl; clear h0 hN); first | (go_simp; done) | (go_simp; (try go_bits); (try go_simp); rfl) | go_simp)); simp only [Act.put, List.setIfInBounds_toArray, List.set_cons_succ, List.set_cons_zero]; (try simp only [List.cons_append]); (try simp only [List.nil_append]); apply hK; clear hK K))
              refine phi_partK (PVal (.bool true)) rfl rfl ⟨_, rfl⟩ ?_ (fun K hK v hv => ?_)
              · rintro w' ⟨h0, hN⟩ _
                unfold gives
                go_simp
                refine (HA.out w').mono ?_
                rintro e w'' ⟨rfl, hb⟩
                exact ⟨_, rfl, rfl, trivial, hb⟩
              obtain rfl : v = _ := hv
              simp only [Act.put, List.setIfInBounds_toArray, List.set_cons_succ, List.set_cons_zero]; (try simp only [List.cons_append]); (try simp only [List.nil_append])
              apply hK
              clear hK K
              repeat (first | (refine phi_skipK rfl (fun K hK => ?_); simp only [Act.put, List.setIfInBounds_toArray, List.set_cons_succ, List.set_cons_zero]; (try simp only [List.cons_append]); (try simp only [List.nil_append]); apply hK; clear hK K) | (refine phi_pureK rfl rfl (fun K hK => ?_); apply Exists.intro; constructor; (focus (rintro w' ⟨h0, hN⟩; (have k0 := (hN.cell 0).trans rfl; have k1 := (hN.cell 1).trans rfl; have k2 := (hN.cell 2).trans rfl; have k3 := (hN.cell 3).trans rfl; have k4 := (hN.cell 4).trans rfl; clear h0 hN); first | (go_simp; done) | (go_simp; (try go_bits); (try go_simp); rfl) | go_simp)); simp only [Act.put, List.setIfInBounds_toArray, List.set_cons_succ, List.set_cons_zero]; (try simp only [List.cons_append]); (try simp only [List.nil_append]); apply hK; clear hK K))
              refine phi_partK (PVal (.bool false)) rfl rfl ⟨_, rfl⟩ ?_ (fun K hK v hv => ?_)
              · rintro w' ⟨h0, hN⟩ _
                unfold gives
                go_simp
                refine (HD.out w').mono ?_
                rintro e w'' ⟨rfl, hb⟩
                exact ⟨_, rfl, rfl, trivial, hb⟩
              obtain rfl : v = _ := hv
              simp only [Act.put, List.setIfInBounds_toArray, List.set_cons_succ, List.set_cons_zero]; (try simp only [List.cons_append]); (try simp only [List.nil_append])
              apply hK
              clear hK K
              repeat (first | (refine phi_skipK rfl (fun K hK => ?_); simp only [Act.put, List.setIfInBounds_toArray, List.set_cons_succ, List.set_cons_zero]; (try simp only [List.cons_append]); (try simp only [List.nil_append]); apply hK; clear hK K) | (refine phi_pureK rfl rfl (fun K hK => ?_); apply Exists.intro; constructor; (focus (rintro w' ⟨h0, hN⟩; (have k0 := (hN.cell 0).trans rfl; have k1 := (hN.cell 1).trans rfl; have k2 := (hN.cell 2).trans rfl; have k3 := (hN.cell 3).trans rfl; have k4 := (hN.cell 4).trans rfl; clear h0 hN); first | (go_simp; done) | (go_simp; (try go_bits); (try go_simp); rfl) | go_simp)); simp only [Act.put, List.setIfInBounds_toArray, List.set_cons_succ, List.set_cons_zero]; (try simp only [List.cons_append]); (try simp only [List.nil_append]); apply hK; clear hK K))
              refine phi_done ?_
              rintro w' ⟨hb, _⟩ _
              have B' := Lib.hid hb
              clear hb
              refine wpList_nil ?_
              go_wp2_with fail
              go_ret
              exact ⟨HR.out, B'.out⟩
            · cases he : (x == y)
              all_goals
                have he' : ((x : Int) == (y : Int)) = (x == y) := by
                  rw [Bool.eq_iff_iff, beq_iff_eq, beq_iff_eq]; omega
                rw [he] at he'
                rw [h3, h4, hd, he] at HR
                rw [hd] at HD
                go_enter Tryz.func6, Tryz.ntmps6
                go_wp2_with fail
                refine wp_phi (fun w' => Below w.heap.size w w' ∧ Blk w' w.heap.size 26 #[.int .i64 n, .int .i64 s, .int .i64 o, .int .i64 d, .float .f64 x]) [(2, PVal (.bool true)), (26, PVal (.bool true)), (31, PVal (.int .u64 (x : Int))), (34, PVal (.int .u64 (y : Int)))] [] (by kernel_rfl) (by kernel_rfl) ?_ ?_ ⟨B.out.drew, N.out⟩ ?_
                · rintro w1 w2 ⟨a1, a2⟩ hb
                  exact ⟨a1.trans (hb.mono a1.size), a2.below hb a2.lt⟩
                · simp only [List.mem_cons, List.not_mem_nil, or_false, forall_eq_or_imp, forall_eq]
                  exact ⟨fun _ _ _ _ _ h => h, fun _ _ _ _ _ h => h, fun _ _ _ _ _ h => h, fun _ _ _ _ _ h => h⟩
                repeat (first | (refine phi_skipK rfl (fun K hK => ?_); simp only [Act.put, List.setIfInBounds_toArray, List.set_cons_succ, List.set_cons_zero]; (try simp only [List.cons_append]); (try simp only [List.nil_append]); apply hK; clear hK K) | (refine phi_pureK rfl rfl (fun K hK => ?_); apply Exists.intro; constructor; (focus (rintro w' ⟨h0, hN⟩; (have k0 := (hN.cell 0).trans rfl; have k1 := (hN.cell 1).trans rfl; have k2 := (hN.cell 2).trans rfl; have k3 := (hN.cell 3).trans rfl; have k4 := (hN.cell 4).trans rfl; clear h0 hN); first | (go_simp; done) | (go_simp; (try go_bits); (try go_simp); rfl) | go_simp)); simp only [Act.put, List.setIfInBounds_toArray, List.set_cons_succ, List.set_cons_zero]; (try simp only [List.cons_append]); (try simp only [List.nil_append]); apply hK; clear hK K))
                refine phi_partK (PVal (.bool true)) rfl rfl ⟨_, rfl⟩ ?_ (fun K hK v hv => ?_)
                · rintro w' ⟨h0, hN⟩ _
                  unfold gives
                  go_simp
                  refine (HA.out w').mono ?_
                  rintro e w'' ⟨rfl, hb⟩
                  exact ⟨_, rfl, rfl, trivial, hb⟩
                obtain rfl : v = _ := hv
                simp only [Act.put, List.setIfInBounds_toArray, List.set_cons_succ, List.set_cons_zero]; (try simp only [List.cons_append]); (try simp only [List.nil_append])
                apply hK
                clear hK K
                repeat (first | (refine phi_skipK rfl (fun K hK => ?_); simp only [Act.put, List.setIfInBounds_toArray, List.set_cons_succ, List.set_cons_zero]; (try simp only [List.cons_append]); (try simp only [List.nil_append]); apply hK; clear hK K) | (refine phi_pureK rfl rfl (fun K hK => ?_); apply Exists.intro; constructor; (focus (rintro w' ⟨h0, hN⟩; (have k0 := (hN.cell 0).trans rfl; have k1 := (hN.cell 1).trans rfl; have k2 := (hN.cell 2).trans rfl; have k3 := (hN.cell 3).trans rfl; have k4 := (hN.cell 4).trans rfl; clear h0 hN); first | (go_simp; done) | (go_simp; (try go_bits); (try go_simp); rfl) | go_simp)); simp only [Act.put, List.setIfInBounds_toArray, List.set_cons_succ, List.set_cons_zero]; (try simp only [List.cons_append]); (try simp only [List.nil_append]); apply hK; clear hK K))
                refine phi_partK (PVal (.bool true)) rfl rfl ⟨_, rfl⟩ ?_ (fun K hK v hv => ?_)
                · rintro w' ⟨h0, hN⟩ _
                  unfold gives
                  go_simp
                  refine (HD.out w').mono ?_
                  rintro e w'' ⟨rfl, hb⟩
                  exact ⟨_, rfl, rfl, trivial, hb⟩
                obtain rfl : v = _ := hv
                simp only [Act.put, List.setIfInBounds_toArray, List.set_cons_succ, List.set_cons_zero]; (try simp only [List.cons_append]); (try simp only [List.nil_append])
                apply hK
                clear hK K
                repeat (first | (refine phi_skipK rfl (fun K hK => ?_); simp only [Act.put, List.setIfInBounds_toArray, List.set_cons_succ, List.set_cons_zero]; (try simp only [List.cons_append]); (try simp only [List.nil_append]); apply hK; clear hK K) | (refine phi_pureK rfl rfl (fun K hK => ?_); apply Exists.intro; constructor; (focus (rintro w' ⟨h0, hN⟩; (have k0 := (hN.cell 0).trans rfl; have k1 := (hN.cell 1).trans rfl; have k2 := (hN.cell 2).trans rfl; have k3 := (hN.cell 3).trans rfl; have k4 := (hN.cell 4).trans rfl; clear h0 hN); first | (go_simp; done) | (go_simp; (try go_bits); (try go_simp); rfl) | go_simp)); simp only [Act.put, List.setIfInBounds_toArray, List.set_cons_succ, List.set_cons_zero]; (try simp only [List.cons_append]); (try simp only [List.nil_append]); apply hK; clear hK K))
                refine phi_partK (PVal (.int .u64 (x : Int))) rfl rfl ⟨_, rfl⟩ ?_ (fun K hK v hv => ?_)
                · rintro w' ⟨h0, hN⟩ _
                  unfold gives
                  go_simp
                  refine (HW.out w').mono ?_
                  rintro e w'' ⟨rfl, hb⟩
                  exact ⟨_, rfl, rfl, trivial, hb⟩
                obtain rfl : v = _ := hv
                simp only [Act.put, List.setIfInBounds_toArray, List.set_cons_succ, List.set_cons_zero]; (try simp only [List.cons_append]); (try simp only [List.nil_append])
                apply hK
                clear hK K
                repeat (first | (refine phi_skipK rfl (fun K hK => ?_); simp only [Act.put, List.setIfInBounds_toArray, List.set_cons_succ, List.set_cons_zero]; (try simp only [List.cons_append]); (try simp only [List.nil_append]); apply hK; clear hK K) | (refine phi_pureK rfl rfl (fun K hK => ?_); apply Exists.intro; constructor; (focus (rintro w' ⟨h0, hN⟩; (have k0 := (hN.cell 0).trans rfl; have k1 := (hN.cell 1).trans rfl; have k2 := (hN.cell 2).trans rfl; have k3 := (hN.cell 3).trans rfl; have k4 := (hN.cell 4).trans rfl; clear h0 hN); first | (go_simp; done) | (go_simp; (try go_bits); (try go_simp); rfl) | go_simp)); simp only [Act.put, List.setIfInBounds_toArray, List.set_cons_succ, List.set_cons_zero]; (try simp only [List.cons_append]); (try simp only [List.nil_append]); apply hK; clear hK K))
                refine phi_partK (PVal (.int .u64 (y : Int))) rfl rfl ⟨_, rfl⟩ ?_ (fun K hK v hv => ?_)
                · rintro w' ⟨h0, hN⟩ _
                  unfold gives
                  go_simp
                  refine (HB.out w').mono ?_
                  rintro e w'' ⟨rfl, hb⟩
                  exact ⟨_, rfl, rfl, trivial, hb⟩
                obtain rfl : v = _ := hv
                simp only [Act.put, List.setIfInBounds_toArray, List.set_cons_succ, List.set_cons_zero]; (try simp only [List.cons_append]); (try simp only [List.nil_append])
                apply hK
                clear hK K
                repeat (first | (refine phi_skipK rfl (fun K hK => ?_); simp only [Act.put, List.setIfInBounds_toArray, List.set_cons_succ, List.set_cons_zero]; (try simp only [List.cons_append]); (try simp only [List.nil_append]); apply hK; clear hK K) | (refine phi_pureK rfl rfl (fun K hK => ?_); apply Exists.intro; constructor; (focus (rintro w' ⟨h0, hN⟩; (have k0 := (hN.cell 0).trans rfl; have k1 := (hN.cell 1).trans rfl; have k2 := (hN.cell 2).trans rfl; have k3 := (hN.cell 3).trans rfl; have k4 := (hN.cell 4).trans rfl; clear h0 hN); first | (go_simp; done) | (go_simp; (try go_bits); (try go_simp); rfl) | go_simp)); simp only [Act.put, List.setIfInBounds_toArray, List.set_cons_succ, List.set_cons_zero]; (try simp only [List.cons_append]); (try simp only [List.nil_append]); apply hK; clear hK K))
                refine phi_done ?_
                rintro w' ⟨hb, _⟩ _
                have B' := Lib.hid hb
                clear hb
                refine wpList_nil ?_
                go_wp2_with fail
                go_ret
                exact ⟨HR.out, B'.out⟩
    · rw [h1] at HR
      cases h3 : decide (0 ≤ d)
      · rw [h3] at HR
        go_enter Tryz.func6, Tryz.ntmps6
        go_wp2_with fail
        refine wp_phi (fun w' => Below w.heap.size w w' ∧ Blk w' w.heap.size 26 #[.int .i64 n, .int .i64 s, .int .i64 o, .int .i64 d, .float .f64 x]) [(2, PVal (.bool true)), (26, PVal (.bool true)), (31, PVal (.int .u64 (x : Int))), (34, PVal (.int .u64 (y : Int)))] [] (by kernel_rfl) (by kernel_rfl) ?_ ?_ ⟨B.out.drew, N.out⟩ ?_
        · rintro w1 w2 ⟨a1, a2⟩ hb
          exact ⟨a1.trans (hb.mono a1.size), a2.below hb a2.lt⟩
        · simp only [List.mem_cons, List.not_mem_nil, or_false, forall_eq_or_imp, forall_eq]
          exact ⟨fun _ _ _ _ _ h => h, fun _ _ _ _ _ h => h, fun _ _ _ _ _ h => h, fun _ _ _ _ _ h => h⟩
        repeat (first | (refine phi_skipK rfl (fun K hK => ?_); simp only [Act.put, List.setIfInBounds_toArray, List.set_cons_succ, List.set_cons_zero]; (try simp only [List.cons_append]); (try simp only [List.nil_append]); apply hK; clear hK K) | (refine phi_pureK rfl rfl (fun K hK => ?_); apply Exists.intro; constructor; (focus (rintro w' ⟨h0, hN⟩; (have k0 := (hN.cell 0).trans rfl; have k1 := (hN.cell 1).trans rfl; have k2 := (hN.cell 2).trans rfl; have k3 := (hN.cell 3).trans rfl; have k4 := (hN.cell 4).trans rfl; clear h0 hN); first | (go_simp; done) | (go_simp; (try go_bits); (try go_simp); rfl) | go_simp)); simp only [Act.put, List.setIfInBounds_toArray, List.set_cons_succ, List.set_cons_zero]; (try simp only [List.cons_append]); (try simp only [List.nil_append]); apply hK; clear hK K))
        refine phi_partK (PVal (.bool true)) rfl rfl ⟨_, rfl⟩ ?_ (fun K hK v hv => ?_)
        · rintro w' ⟨h0, hN⟩ _
          unfold gives
          go_simp
          refine (HA.out w').mono ?_
          rintro e w'' ⟨rfl, hb⟩
          exact ⟨_, rfl, rfl, trivial, hb⟩
        obtain rfl : v = _ := hv
        simp only [Act.put, List.setIfInBounds_toArray, List.set_cons_succ, List.set_cons_zero]; (try simp only [List.cons_append]); (try simp only [List.nil_append])
        apply hK
        clear hK K
        repeat (first | (refine phi_skipK rfl (fun K hK => ?_); simp only [Act.put, List.setIfInBounds_toArray, List.set_cons_succ, List.set_cons_zero]; (try simp only [List.cons_append]); (try simp only [List.nil_append]); apply hK; clear hK K) | (refine phi_pureK rfl rfl (fun K hK => ?_); apply Exists.intro; constructor; (focus (rintro w' ⟨h0, hN⟩; (have k0 := (hN.cell 0).trans rfl; have k1 := (hN.cell 1).trans rfl; have k2 := (hN.cell 2).trans rfl; have k3 := (hN.cell 3).trans rfl; have k4 := (hN.cell 4).trans rfl; clear h0 hN); first | (go_simp; done) | (go_simp; (try go_bits); (try go_simp); rfl) | go_simp)); simp only [Act.put, List.setIfInBounds_toArray, List.set_cons_succ, List.set_cons_zero]; (try simp only [List.cons_append]); (try simp only [List.nil_append]); apply hK; clear hK K))
        refine phi_done ?_
        rintro w' ⟨hb, _⟩ _
        have B' := Lib.hid hb
        clear hb
        refine wpList_nil ?_
        go_wp2_with fail
        go_ret
        exact ⟨HR.out, B'.out⟩
      · cases h4 : decide (d ≤ 3)
        · rw [h3, h4] at HR
          go_enter Tryz.func6, Tryz.ntmps6
          go_wp2_with fail
          refine wp_phi (fun w' => Below w.heap.size w w' ∧ Blk w' w.heap.size 26 #[.int .i64 n, .int .i64 s, .int .i64 o, .int .i64 d, .float .f64 x]) [(2, PVal (.bool true)), (26, PVal (.bool true)), (31, PVal (.int .u64 (x : Int))), (34, PVal (.int .u64 (y : Int)))] [] (by kernel_rfl) (by kernel_rfl) ?_ ?_ ⟨B.out.drew, N.out⟩ ?_
          · rintro w1 w2 ⟨a1, a2⟩ hb
            exact ⟨a1.trans (hb.mono a1.size), a2.below hb a2.lt⟩
          · simp only [List.mem_cons, List.not_mem_nil, or_false, forall_eq_or_imp, forall_eq]
            exact ⟨fun _ _ _ _ _ h => h, fun _ _ _ _ _ h => h, fun _ _ _ _ _ h => h, fun _ _ _ _ _ h => h⟩
          repeat (first | (refine phi_skipK rfl (fun K hK => ?_); simp only [Act.put, List.setIfInBounds_toArray, List.set_cons_succ, List.set_cons_zero]; (try simp only [List.cons_append]); (try simp only [List.nil_append]); apply hK; clear hK K) | (refine phi_pureK rfl rfl (fun K hK => ?_); apply Exists.intro; constructor; (focus (rintro w' ⟨h0, hN⟩; (have k0 := (hN.cell 0).trans rfl; have k1 := (hN.cell 1).trans rfl; have k2 := (hN.cell 2).trans rfl; have k3 := (hN.cell 3).trans rfl; have k4 := (hN.cell 4).trans rfl; clear h0 hN); first | (go_simp; done) | (go_simp; (try go_bits); (try go_simp); rfl) | go_simp)); simp only [Act.put, List.setIfInBounds_toArray, List.set_cons_succ, List.set_cons_zero]; (try simp only [List.cons_append]); (try simp only [List.nil_append]); apply hK; clear hK K))
          refine phi_partK (PVal (.bool true)) rfl rfl ⟨_, rfl⟩ ?_ (fun K hK v hv => ?_)
          · rintro w' ⟨h0, hN⟩ _
            unfold gives
            go_simp
            refine (HA.out w').mono ?_
            rintro e w'' ⟨rfl, hb⟩
            exact ⟨_, rfl, rfl, trivial, hb⟩
          obtain rfl : v = _ := hv
          simp only [Act.put, List.setIfInBounds_toArray, List.set_cons_succ, List.set_cons_zero]; (try simp only [List.cons_append]); (try simp only [List.nil_append])
          apply hK
          clear hK K
          repeat (first | (refine phi_skipK rfl (fun K hK => ?_); simp only [Act.put, List.setIfInBounds_toArray, List.set_cons_succ, List.set_cons_zero]; (try simp only [List.cons_append]); (try simp only [List.nil_append]); apply hK; clear hK K) | (refine phi_pureK rfl rfl (fun K hK => ?_); apply Exists.intro; constructor; (focus (rintro w' ⟨h0, hN⟩; (have k0 := (hN.cell 0).trans rfl; have k1 := (hN.cell 1).trans rfl; have k2 := (hN.cell 2).trans rfl; have k3 := (hN.cell 3).trans rfl; have k4 := (hN.cell 4).trans rfl; clear h0 hN); first | (go_simp; done) | (go_simp; (try go_bits); (try go_simp); rfl) | go_simp)); simp only [Act.put, List.setIfInBounds_toArray, List.set_cons_succ, List.set_cons_zero]; (try simp only [List.cons_append]); (try simp only [List.nil_append]); apply hK; clear hK K))
          refine phi_done ?_
          rintro w' ⟨hb, _⟩ _
          have B' := Lib.hid hb
          clear hb
          refine wpList_nil ?_
          go_wp2_with fail
          go_ret
          exact ⟨HR.out, B'.out⟩
        · cases hd : isDel x
          · rw [h3, h4, hd] at HR
            rw [hd] at HD
            go_enter Tryz.func6, Tryz.ntmps6
            go_wp2_with fail
            refine wp_phi (fun w' => Below w.heap.size w w' ∧ Blk w' w.heap.size 26 #[.int .i64 n, .int .i64 s, .int .i64 o, .int .i64 d, .float .f64 x]) [(2, PVal (.bool true)), (26, PVal (.bool false)), (31, PVal (.int .u64 (x : Int))), (34, PVal (.int .u64 (y : Int)))] [] (by kernel_rfl) (by kernel_rfl) ?_ ?_ ⟨B.out.drew, N.out⟩ ?_
            · rintro w1 w2 ⟨a1, a2⟩ hb
              exact ⟨a1.trans (hb.mono a1.size), a2.below hb a2.lt⟩
            · simp only [List.mem_cons, List.not_mem_nil, or_false, forall_eq_or_imp, forall_eq]
              exact ⟨fun _ _ _ _ _ h => h, fun _ _ _ _ _ h => h, fun _ _ _ _ _ h => h, fun _ _ _ _ _ h => h⟩
            repeat (first | (refine phi_skipK rfl (fun K hK => ?_); simp only [Act.put, List.setIfInBounds_toArray, List.set_cons_succ, List.set_cons_zero]; (try simp only [List.cons_append]); (try simp only [List.nil_append]); apply hK; clear hK K) | (refine phi_pureK rfl rfl (fun K hK => ?_); apply Exists.intro; constructor; (focus (rintro w' ⟨h0, hN⟩; (have k0 := (hN.cell 0).trans rfl; have k1 := (hN.cell 1).trans rfl; have k2 := (hN.cell 2).trans rfl; have k3 := (hN.cell 3).trans rfl; have k4 := (hN.cell 4).trans rfl; clear h0 hN); first | (go_simp; done) | (go_simp; (try go_bits); (try go_simp); rfl) | go_simp)); simp only [Act.put, List.setIfInBounds_toArray, List.set_cons_succ, List.set_cons_zero]; (try simp only [List.cons_append]); (try simp only [List.nil_append]); apply hK; clear hK K))
            refine phi_partK (PVal (.bool true)) rfl rfl ⟨_, rfl⟩ ?_ (fun K hK v hv => ?_)
            · rintro w' ⟨h0, hN⟩ _
              unfold gives
              go_simp
              refine (HA.out w').mono ?_
              rintro e w'' ⟨rfl, hb⟩
              exact ⟨_, rfl, rfl, trivial, hb⟩
            obtain rfl : v = _ := hv
            simp only [Act.put, List.setIfInBounds_toArray, List.set_cons_succ, List.set_cons_zero]; (try simp only [List.cons_append]); (try simp only [List.nil_append])
            apply hK
            clear hK K
            repeat (first | (refine phi_skipK rfl (fun K hK => ?_); simp only [Act.put, List.setIfInBounds_toArray, List.set_cons_succ, List.set_cons_zero]; (try simp only [List.cons_append]); (try simp only [List.nil_append]); apply hK; clear hK K) | (refine phi_pureK rfl rfl (fun K hK => ?_); apply Exists.intro; constructor; (focus (rintro w' ⟨h0, hN⟩; (have k0 := (hN.cell 0).trans rfl; have k1 := (hN.cell 1).trans rfl; have k2 := (hN.cell 2).trans rfl; have k3 := (hN.cell 3).trans rfl; have k4 := (hN.cell 4).trans rfl; clear h0 hN); first | (go_simp; done) | (go_simp; (try go_bits); (try go_simp); rfl) | go_simp)); simp only [Act.put, List.setIfInBounds_toArray, List.set_cons_succ, List.set_cons_zero]; (try simp only [List.cons_append]); (try simp only [List.nil_append]); apply hK; clear hK K))
            refine phi_partK (PVal (.bool false)) rfl rfl ⟨_, rfl⟩ ?_ (fun K hK v hv => ?_)
            · rintro w' ⟨h0, hN⟩ _
              unfold gives
              go_simp
              refine (HD.out w').mono ?_
              rintro e w'' ⟨rfl, hb⟩
              exact ⟨_, rfl, rfl, trivial, hb⟩
            obtain rfl : v = _ := hv
            simp only [Act.put, List.setIfInBounds_toArray, List.set_cons_succ, List.set_cons_zero]; (try simp only [List.cons_append]); (try simp only [List.nil_append])
            apply hK
            clear hK K
            repeat (first | (refine phi_skipK rfl (fun K hK => ?_); simp only [Act.put, List.setIfInBounds_toArray, List.set_cons_succ, List.set_cons_zero]; (try simp only [List.cons_append]); (try simp only [List.nil_append]); apply hK; clear hK K) | (refine phi_pureK rfl rfl (fun K hK => ?_); apply Exists.intro; constructor; (focus (rintro w' ⟨h0, hN⟩; (have k0 := (hN.cell 0).trans rfl; have k1 := (hN.cell 1).trans rfl; have k2 := (hN.cell 2).trans rfl; have k3 := (hN.cell 3).trans rfl; have k4 := (hN.cell 4).trans rfl; clear h0 hN); first | (go_simp; done) | (go_simp; (try go_bits); (try go_simp); rfl) | go_simp)); simp only [Act.put, List.setIfInBounds_toArray, List.set_cons_succ, List.set_cons_zero]; (try simp only [List.cons_append]); (try simp only [List.nil_append]); apply hK; clear hK K))
            refine phi_done ?_
            rintro w' ⟨hb, _⟩ _
            have B' := Lib.hid hb
            clear hb
            refine wpList_nil ?_
            go_wp2_with fail
            go_ret
            exact ⟨HR.out, B'.out⟩
          · cases he : (x == y)
            all_goals
              have he' : ((x : Int) == (y : Int)) = (x == y) := by
                rw [Bool.eq_iff_iff, beq_iff_eq, beq_iff_eq]; omega
              rw [he] at he'
              rw [h3, h4, hd, he] at HR
              rw [hd] at HD
              go_enter Tryz.func6, Tryz.ntmps6
              go_wp2_with fail
              refine wp_phi (fun w' => Below w.heap.size w w' ∧ Blk w' w.heap.size 26 #[.int .i64 n, .int .i64 s, .int .i64 o, .int .i64 d, .float .f64 x]) [(2, PVal (.bool true)), (26, PVal (.bool true)), (31, PVal (.int .u64 (x : Int))), (34, PVal (.int .u64 (y : Int)))] [] (by kernel_rfl) (by kernel_rfl) ?_ ?_ ⟨B.out.drew, N.out⟩ ?_
              · rintro w1 w2 ⟨a1, a2⟩ hb
                exact ⟨a1.trans (hb.mono a1.size), a2.below hb a2.lt⟩
              · simp only [List.mem_cons, List.not_mem_nil, or_false, forall_eq_or_imp, forall_eq]
                exact ⟨fun _ _ _ _ _ h => h, fun _ _ _ _ _ h => h, fun _ _ _ _ _ h => h, fun _ _ _ _ _ h => h⟩
              repeat (first | (refine phi_skipK rfl (fun K hK => ?_); simp only [Act.put, List.setIfInBounds_toArray, List.set_cons_succ, List.set_cons_zero]; (try simp only [List.cons_append]); (try simp only [List.nil_append]); apply hK; clear hK K) | (refine phi_pureK rfl rfl (fun K hK => ?_); apply Exists.intro; constructor; (focus (rintro w' ⟨h0, hN⟩; (have k0 := (hN.cell 0).trans rfl; have k1 := (hN.cell 1).trans rfl; have k2 := (hN.cell 2).trans rfl; have k3 := (hN.cell 3).trans rfl; have k4 := (hN.cell 4).trans rfl; clear h0 hN); first | (go_simp; done) | (go_simp; (try go_bits); (try go_simp); rfl) | go_simp)); simp only [Act.put, List.setIfInBounds_toArray, List.set_cons_succ, List.set_cons_zero]; (try simp only [List.cons_append]); (try simp only [List.nil_append]); apply hK; clear hK K))
              refine phi_partK (PVal (.bool true)) rfl rfl ⟨_, rfl⟩ ?_ (fun K hK v hv => ?_)
              · rintro w' ⟨h0, hN⟩ _
                unfold gives
                go_simp
                refine (HA.out w').mono ?_
                rintro e w'' ⟨rfl, hb⟩
                exact ⟨_, rfl, rfl, trivial, hb⟩
              obtain rfl : v = _ := hv
              simp only [Act.put, List.setIfInBounds_toArray, List.set_cons_succ, List.set_cons_zero]; (try simp only [List.cons_append]); (try simp only [List.nil_append])
              apply hK
              clear hK K
              repeat (first | (refine phi_skipK rfl (fun K hK => ?_); simp only [Act.put, List.setIfInBounds_toArray, List.set_cons_succ, List.set_cons_zero]; (try simp only [List.cons_append]); (try simp only [List.nil_append]); apply hK; clear hK K) | (refine phi_pureK rfl rfl (fun K hK => ?_); apply Exists.intro; constructor; (focus (rintro w' ⟨h0, hN⟩; (have k0 := (hN.cell 0).trans rfl; have k1 := (hN.cell 1).trans rfl; have k2 := (hN.cell 2).trans rfl; have k3 := (hN.cell 3).trans rfl; have k4 := (hN.cell 4).trans rfl; clear h0 hN); first | (go_simp; done) | (go_simp; (try go_bits); (try go_simp); rfl) | go_simp)); simp only [Act.put, List.setIfInBounds_toArray, List.set_cons_succ, List.set_cons_zero]; (try simp only [List.cons_append]); (try simp only [List.nil_append]); apply hK; clear hK K))
              refine phi_partK (PVal (.bool true)) rfl rfl ⟨_, rfl⟩ ?_ (fun K hK v hv => ?_)
              · rintro w' ⟨h0, hN⟩ _
                unfold gives
                go_simp
                refine (HD.out w').mono ?_
                rintro e w'' ⟨rfl, hb⟩
                exact ⟨_, rfl, rfl, trivial, hb⟩
              obtain rfl : v = _ := hv
              simp only [Act.put, List.setIfInBounds_toArray, List.set_cons_succ, List.set_cons_zero]; (try simp only [List.cons_append]); (try simp only [List.nil_append])
              apply hK
              clear hK K
              repeat (first | (refine phi_skipK rfl (fun K hK => ?_); simp only [Act.put, List.setIfInBounds_toArray, List.set_cons_succ, List.set_cons_zero]; (try simp only [List.cons_append]); (try simp only [List.nil_append]); apply hK; clear hK K) | (refine phi_pureK rfl rfl (fun K hK => ?_); apply Exists.intro; constructor; (focus (rintro w' ⟨h0, hN⟩; (have k0 := (hN.cell 0).trans rfl; have k1 := (hN.cell 1).trans rfl; have k2 := (hN.cell 2).trans rfl; have k3 := (hN.cell 3).trans rfl; have k4 := (hN.cell 4).trans rfl; clear h0 hN); first | (go_simp; done) | (go_simp; (try go_bits); (try go_simp); rfl) | go_simp)); simp only [Act.put, List.setIfInBounds_toArray, List.set_cons_succ, List.set_cons_zero]; (try simp only [List.cons_append]); (try simp only [List.nil_append]); apply hK; clear hK K))
              refine phi_partK (PVal (.int .u64 (x : Int))) rfl rfl ⟨_, rfl⟩ ?_ (fun K hK v hv => ?_)
              · rintro w' ⟨h0, hN⟩ _
                unfold gives
                go_simp
                refine (HW.out w').mono ?_
                rintro e w'' ⟨rfl, hb⟩
                exact ⟨_, rfl, rfl, trivial, hb⟩
              obtain rfl : v = _ := hv
              simp only [Act.put, List.setIfInBounds_toArray, List.set_cons_succ, List.set_cons_zero]; (try simp only [List.cons_append]); (try simp only [List.nil_append])
              apply hK
              clear hK K
              repeat (first | (refine phi_skipK rfl (fun K hK => ?_); simp only [Act.put, List.setIfInBounds_toArray, List.set_cons_succ, List.set_cons_zero]; (try simp only [List.cons_append]); (try simp only [List.nil_append]); apply hK; clear hK K) | (refine phi_pureK rfl rfl (fun K hK => ?_); apply Exists.intro; constructor; (focus (rintro w' ⟨h0, hN⟩; (have k0 := (hN.cell 0).trans rfl; have k1 := (hN.cell 1).trans rfl; have k2 := (hN.cell 2).trans rfl; have k3 := (hN.cell 3).trans rfl; have k4 := (hN.cell 4).trans rfl; clear h0 hN); first | (go_simp; done) | (go_simp; (try go_bits); (try go_simp); rfl) | go_simp)); simp only [Act.put, List.setIfInBounds_toArray, List.set_cons_succ, List.set_cons_zero]; (try simp only [List.cons_append]); (try simp only [List.nil_append]); apply hK; clear hK K))
              refine phi_partK (PVal (.int .u64 (y : Int))) rfl rfl ⟨_, rfl⟩ ?_ (fun K hK v hv => ?_)
              · rintro w' ⟨h0, hN⟩ _
                unfold gives
                go_simp
                refine (HB.out w').mono ?_
                rintro e w'' ⟨rfl, hb⟩
                exact ⟨_, rfl, rfl, trivial, hb⟩
              obtain rfl : v = _ := hv
              simp only [Act.put, List.setIfInBounds_toArray, List.set_cons_succ, List.set_cons_zero]; (try simp only [List.cons_append]); (try simp only [List.nil_append])
              apply hK
              clear hK K
              repeat (first | (refine phi_skipK rfl (fun K hK => ?_); simp only [Act.put, List.setIfInBounds_toArray, List.set_cons_succ, List.set_cons_zero]; (try simp only [List.cons_append]); (try simp only [List.nil_append]); apply hK; clear hK K) | (refine phi_pureK rfl rfl (fun K hK => ?_); apply Exists.intro; constructor; (focus (rintro w' ⟨h0, hN⟩; (have k0 := (hN.cell 0).trans rfl; have k1 := (hN.cell 1).trans rfl; have k2 := (hN.cell 2).trans rfl; have k3 := (hN.cell 3).trans rfl; have k4 := (hN.cell 4).trans rfl; clear h0 hN); first | (go_simp; done) | (go_simp; (try go_bits); (try go_simp); rfl) | go_simp)); simp only [Act.put, List.setIfInBounds_toArray, List.set_cons_succ, List.set_cons_zero]; (try simp only [List.cons_append]); (try simp only [List.nil_append]); apply hK; clear hK K))
              refine phi_done ?_
              rintro w' ⟨hb, _⟩ _
              have B' := Lib.hid hb
              clear hb
              refine wpList_nil ?_
              go_wp2_with fail
              go_ret
              exact ⟨HR.out, B'.out⟩
end Go.Proofs.YtgmiockaecklaaaGreatDoor

namespace Go.Proofs.YtgmiockaecklaaaGreatDoor
open Go.RowKit

attribute [local go_sem] flt_def fgt_def feq_def fne_def

def sameC (a b : Ctx) : Bool := (a.n == b.n) && (a.s == b.s) && (a.o == b.o) && (a.d == b.d) && (plainN a.x == plainN b.x)
theorem eqAct9 (a b c d : Int) (w : World) : (binOp .eql 23 (.agg #[.int .i64 a, .int .i64 b]) (.agg #[.int .i64 c, .int .i64 d])).run Tryz.prog w = .ok (.bool ((a == c) && (b == d))) w := by
  cases h1 : (a == c) <;> cases h2 : (b == d) <;> go_simp
set_option maxRecDepth 20000 in
set_option maxHeartbeats 4000000 in
theorem rsame_any (n s o d n' s' o' d' : Int) (x x' : Nat) (hx : x < 18446744073709551616) (hx' : x' < 18446744073709551616) (w : World) :
    Calls Tryz.prog 13 #[.agg #[.int .i64 n, .int .i64 s, .int .i64 o, .int .i64 d, .float .f64 x], .agg #[.int .i64 n', .int .i64 s', .int .i64 o', .int .i64 d', .float .f64 x']] w fun e w' => e = .returned (.bool (sameC ⟨n, s, o, d, x⟩ ⟨n', s', o', d', x'⟩)) ∧ Below w.heap.size w w' := by
  have HB := Lib.hid (fun w' => refbits_any x hx w')
  have HB' := Lib.hid (fun w' => refbits_any x' hx' w')
  obtain ⟨r, hr⟩ : ∃ r, r = sameC ⟨n, s, o, d, x⟩ ⟨n', s', o', d', x'⟩ := ⟨_, rfl⟩
  have HR : RowKit.Hid (Ending.returned (Value.bool ((n == n') && (s == s') && (o == o') && (d == d') && (plainN x == plainN x'))) = Ending.returned (Value.bool r)) := Lib.hid (by rw [hr]; rfl)
  rw [← hr]
  clear hr hx hx'
  generalize plainN x = y at *
  generalize plainN x' = y' at *
  have B := Lib.hid (below_alloc (below_alloc1 w (.cells #[.int .i64 n, .int .i64 s, .int .i64 o, .int .i64 d, .float .f64 x] 26)) (.cells #[.int .i64 n', .int .i64 s', .int .i64 o', .int .i64 d', .float .f64 x'] 26))
  have N := Lib.hid ((Blk.new w 26 #[.int .i64 n, .int .i64 s, .int .i64 o, .int .i64 d, .float .f64 x]).alloc (.cells #[.int .i64 n', .int .i64 s', .int .i64 o', .int .i64 d', .float .f64 x'] 26))
  have M := Lib.hid (show Blk ((w.alloc (.cells #[.int .i64 n, .int .i64 s, .int .i64 o, .int .i64 d, .float .f64 x] 26)).alloc (.cells #[.int .i64 n', .int .i64 s', .int .i64 o', .int .i64 d', .float .f64 x'] 26)) (w.heap.size + 1) 26 #[.int .i64 n', .int .i64 s', .int .i64 o', .int .i64 d', .float .f64 x'] from by
    have := Blk.new (w.alloc (.cells #[.int .i64 n, .int .i64 s, .int .i64 o, .int .i64 d, .float .f64 x] 26)) 26 #[.int .i64 n', .int .i64 s', .int .i64 o', .int .i64 d', .float .f64 x']
    rwa [World.size_alloc] at this)
  cases h1 : (n == n')
  · rw [h1] at HR
    go_enter Tryz.func13, Tryz.ntmps13
    go_wp2_with fail
    refine wp_phi (fun w' => Below w.heap.size w w' ∧ Blk w' w.heap.size 26 #[.int .i64 n, .int .i64 s, .int .i64 o, .int .i64 d, .float .f64 x] ∧ Blk w' (w.heap.size + 1) 26 #[.int .i64 n', .int .i64 s', .int .i64 o', .int .i64 d', .float .f64 x']) [(33, PVal (.int .u64 (y : Int))), (36, PVal (.int .u64 (y' : Int)))] [] (by kernel_rfl) (by kernel_rfl) ?_ ?_ ⟨B.out.drew, N.out, M.out⟩ ?_
    · rintro w1 w2 ⟨a1, a2, a3⟩ hb
      exact ⟨a1.trans (hb.mono a1.size), a2.below hb a2.lt, a3.below hb a3.lt⟩
    · simp only [List.mem_cons, List.not_mem_nil, or_false, forall_eq_or_imp, forall_eq]
      exact ⟨fun _ _ _ _ _ h => h, fun _ _ _ _ _ h => h⟩
    repeat (first | (refine phi_skipK rfl (fun K hK => ?_); simp only [Act.put, List.setIfInBounds_toArray, List.set_cons_succ, List.set_cons_zero]; (try simp only [List.cons_append]); (try simp only [List.nil_append]); apply hK; clear hK K) | (refine phi_pureK rfl rfl (fun K hK => ?_); apply Exists.intro; constructor; (focus (rintro w' ⟨h0, hN, hM⟩; (have k0 := (hN.cell 0).trans rfl; have k1 := (hN.cell 1).trans rfl; have k2 := (hN.cell 2).trans rfl; have k3 := (hN.cell 3).trans rfl; have k4 := (hN.cell 4).trans rfl; have l0 := (hM.cell 0).trans rfl; have l1 := (hM.cell 1).trans rfl; have l2 := (hM.cell 2).trans rfl; have l3 := (hM.cell 3).trans rfl; have l4 := (hM.cell 4).trans rfl; clear h0 hN hM); first | (go_simp; done) | (go_simp; (try go_bits); (try go_simp); rfl) | go_simp)); simp only [Act.put, List.setIfInBounds_toArray, List.set_cons_succ, List.set_cons_zero]; (try simp only [List.cons_append]); (try simp only [List.nil_append]); apply hK; clear hK K))
    refine phi_done ?_
    rintro w' ⟨hb, _⟩ _
    have B' := Lib.hid hb
    clear hb
    refine wpList_nil ?_
    go_wp2_with fail
    go_ret
    exact ⟨HR.out, B'.out⟩
  · cases h2 : (s == s')
    · rw [h1, h2] at HR
      go_enter Tryz.func13, Tryz.ntmps13
      go_wp2_with fail
      refine wp_phi (fun w' => Below w.heap.size w w' ∧ Blk w' w.heap.size 26 #[.int .i64 n, .int .i64 s, .int .i64 o, .int .i64 d, .float .f64 x] ∧ Blk w' (w.heap.size + 1) 26 #[.int .i64 n', .int .i64 s', .int .i64 o', .int .i64 d', .float .f64 x']) [(33, PVal (.int .u64 (y : Int))), (36, PVal (.int .u64 (y' : Int)))] [] (by kernel_rfl) (by kernel_rfl) ?_ ?_ ⟨B.out.drew, N.out, M.out⟩ ?_
      · rintro w1 w2 ⟨a1, a2, a3⟩ hb
        exact ⟨a1.trans (hb.mono a1.size), a2.below hb a2.lt, a3.below hb a3.lt⟩
      · simp only [List.mem_cons, List.not_mem_nil, or_false, forall_eq_or_imp, forall_eq]
        exact ⟨fun _ _ _ _ _ h => h, fun _ _ _ _ _ h => h⟩
      repeat (first | (refine phi_skipK rfl (fun K hK => ?_); simp only [Act.put, List.setIfInBounds_toArray, List.set_cons_succ, List.set_cons_zero]; (try simp only [List.cons_append]); (try simp only [List.nil_append]); apply hK; clear hK K) | (refine phi_pureK rfl rfl (fun K hK => ?_); apply Exists.intro; constructor; (focus (rintro w' ⟨h0, hN, hM⟩; (have k0 := (hN.cell 0).trans rfl; have k1 := (hN.cell 1).trans rfl; have k2 := (hN.cell 2).trans rfl; have k3 := (hN.cell 3).trans rfl; have k4 := (hN.cell 4).trans rfl; have l0 := (hM.cell 0).trans rfl; have l1 := (hM.cell 1).trans rfl; have l2 := (hM.cell 2).trans rfl; have l3 := (hM.cell 3).trans rfl; have l4 := (hM.cell 4).trans rfl; clear h0 hN hM); first | (go_simp; done) | (go_simp; (try go_bits); (try go_simp); rfl) | go_simp)); simp only [Act.put, List.setIfInBounds_toArray, List.set_cons_succ, List.set_cons_zero]; (try simp only [List.cons_append]); (try simp only [List.nil_append]); apply hK; clear hK K))
      refine phi_done ?_
      rintro w' ⟨hb, _⟩ _
      have B' := Lib.hid hb
      clear hb
      refine wpList_nil ?_
      go_wp2_with fail
      go_ret
      exact ⟨HR.out, B'.out⟩
    · cases h3 : (o == o')
      · rw [h1, h2, h3] at HR
        go_enter Tryz.func13, Tryz.ntmps13
        go_wp2_with fail
        refine wp_phi (fun w' => Below w.heap.size w w' ∧ Blk w' w.heap.size 26 #[.int .i64 n, .int .i64 s, .int .i64 o, .int .i64 d, .float .f64 x] ∧ Blk w' (w.heap.size + 1) 26 #[.int .i64 n', .int .i64 s', .int .i64 o', .int .i64 d', .float .f64 x']) [(33, PVal (.int .u64 (y : Int))), (36, PVal (.int .u64 (y' : Int)))] [] (by kernel_rfl) (by kernel_rfl) ?_ ?_ ⟨B.out.drew, N.out, M.out⟩ ?_
        · rintro w1 w2 ⟨a1, a2, a3⟩ hb
          exact ⟨a1.trans (hb.mono a1.size), a2.below hb a2.lt, a3.below hb a3.lt⟩
        · simp only [List.mem_cons, List.not_mem_nil, or_false, forall_eq_or_imp, forall_eq]
          exact ⟨fun _ _ _ _ _ h => h, fun _ _ _ _ _ h => h⟩
        repeat (first | (refine phi_skipK rfl (fun K hK => ?_); simp only [Act.put, List.setIfInBounds_toArray, List.set_cons_succ, List.set_cons_zero]; (try simp only [List.cons_append]); (try simp only [List.nil_append]); apply hK; clear hK K) | (refine phi_pureK rfl rfl (fun K hK => ?_); apply Exists.intro; constructor; (focus (rintro w' ⟨h0, hN, hM⟩; (have k0 := (hN.cell 0).trans rfl; have k1 := (hN.cell 1).trans rfl; have k2 := (hN.cell 2).trans rfl; have k3 := (hN.cell 3).trans rfl; have k4 := (hN.cell 4).trans rfl; have l0 := (hM.cell 0).trans rfl; have l1 := (hM.cell 1).trans rfl; have l2 := (hM.cell 2).trans rfl; have l3 := (hM.cell 3).trans rfl; have l4 := (hM.cell 4).trans rfl; clear h0 hN hM); first | (go_simp; done) | (go_simp; (try go_bits); (try go_simp); rfl) | go_simp)); simp only [Act.put, List.setIfInBounds_toArray, List.set_cons_succ, List.set_cons_zero]; (try simp only [List.cons_append]); (try simp only [List.nil_append]); apply hK; clear hK K))
        refine phi_done ?_
        rintro w' ⟨hb, _⟩ _
        have B' := Lib.hid hb
        clear hb
        refine wpList_nil ?_
        go_wp2_with fail
        go_ret
        exact ⟨HR.out, B'.out⟩
      · cases h4 : (d == d')
        · rw [h1, h2, h3, h4] at HR
          go_enter Tryz.func13, Tryz.ntmps13
          go_wp2_with fail
          refine wp_phi (fun w' => Below w.heap.size w w' ∧ Blk w' w.heap.size 26 #[.int .i64 n, .int .i64 s, .int .i64 o, .int .i64 d, .float .f64 x] ∧ Blk w' (w.heap.size + 1) 26 #[.int .i64 n', .int .i64 s', .int .i64 o', .int .i64 d', .float .f64 x']) [(33, PVal (.int .u64 (y : Int))), (36, PVal (.int .u64 (y' : Int)))] [] (by kernel_rfl) (by kernel_rfl) ?_ ?_ ⟨B.out.drew, N.out, M.out⟩ ?_
          · rintro w1 w2 ⟨a1, a2, a3⟩ hb
            exact ⟨a1.trans (hb.mono a1.size), a2.below hb a2.lt, a3.below hb a3.lt⟩
          · simp only [List.mem_cons, List.not_mem_nil, or_false, forall_eq_or_imp, forall_eq]
            exact ⟨fun _ _ _ _ _ h => h, fun _ _ _ _ _ h => h⟩
          repeat (first | (refine phi_skipK rfl (fun K hK => ?_); simp only [Act.put, List.setIfInBounds_toArray, List.set_cons_succ, List.set_cons_zero]; (try simp only [List.cons_append]); (try simp only [List.nil_append]); apply hK; clear hK K) | (refine phi_pureK rfl rfl (fun K hK => ?_); apply Exists.intro; constructor; (focus (rintro w' ⟨h0, hN, hM⟩; (have k0 := (hN.cell 0).trans rfl; have k1 := (hN.cell 1).trans rfl; have k2 := (hN.cell 2).trans rfl; have k3 := (hN.cell 3).trans rfl; have k4 := (hN.cell 4).trans rfl; have l0 := (hM.cell 0).trans rfl; have l1 := (hM.cell 1).trans rfl; have l2 := (hM.cell 2).trans rfl; have l3 := (hM.cell 3).trans rfl; have l4 := (hM.cell 4).trans rfl; clear h0 hN hM); first | (go_simp; done) | (go_simp; (try go_bits); (try go_simp); rfl) | go_simp)); simp only [Act.put, List.setIfInBounds_toArray, List.set_cons_succ, List.set_cons_zero]; (try simp only [List.cons_append]); (try simp only [List.nil_append]); apply hK; clear hK K))
          refine phi_done ?_
          rintro w' ⟨hb, _⟩ _
          have B' := Lib.hid hb
          clear hb
          refine wpList_nil ?_
          go_wp2_with fail
          go_ret
          exact ⟨HR.out, B'.out⟩
        · have he' : ((y : Int) == (y' : Int)) = (y == y') := by
            rw [Bool.eq_iff_iff, beq_iff_eq, beq_iff_eq]; omega
          cases he : (y == y')
          all_goals
            rw [he] at he'
            rw [h1, h2, h3, h4, he] at HR
            go_enter Tryz.func13, Tryz.ntmps13
            go_wp2_with fail
            refine wp_phi (fun w' => Below w.heap.size w w' ∧ Blk w' w.heap.size 26 #[.int .i64 n, .int .i64 s, .int .i64 o, .int .i64 d, .float .f64 x] ∧ Blk w' (w.heap.size + 1) 26 #[.int .i64 n', .int .i64 s', .int .i64 o', .int .i64 d', .float .f64 x']) [(33, PVal (.int .u64 (y : Int))), (36, PVal (.int .u64 (y' : Int)))] [] (by kernel_rfl) (by kernel_rfl) ?_ ?_ ⟨B.out.drew, N.out, M.out⟩ ?_
            · rintro w1 w2 ⟨a1, a2, a3⟩ hb
              exact ⟨a1.trans (hb.mono a1.size), a2.below hb a2.lt, a3.below hb a3.lt⟩
            · simp only [List.mem_cons, List.not_mem_nil, or_false, forall_eq_or_imp, forall_eq]
              exact ⟨fun _ _ _ _ _ h => h, fun _ _ _ _ _ h => h⟩
            repeat (first | (refine phi_skipK rfl (fun K hK => ?_); simp only [Act.put, List.setIfInBounds_toArray, List.set_cons_succ, List.set_cons_zero]; (try simp only [List.cons_append]); (try simp only [List.nil_append]); apply hK; clear hK K) | (refine phi_pureK rfl rfl (fun K hK => ?_); apply Exists.intro; constructor; (focus (rintro w' ⟨h0, hN, hM⟩; (have k0 := (hN.cell 0).trans rfl; have k1 := (hN.cell 1).trans rfl; have k2 := (hN.cell 2).trans rfl; have k3 := (hN.cell 3).trans rfl; have k4 := (hN.cell 4).trans rfl; have l0 := (hM.cell 0).trans rfl; have l1 := (hM.cell 1).trans rfl; have l2 := (hM.cell 2).trans rfl; have l3 := (hM.cell 3).trans rfl; have l4 := (hM.cell 4).trans rfl; clear h0 hN hM); first | (go_simp; done) | (go_simp; (try go_bits); (try go_simp); rfl) | go_simp)); simp only [Act.put, List.setIfInBounds_toArray, List.set_cons_succ, List.set_cons_zero]; (try simp only [List.cons_append]); (try simp only [List.nil_append]); apply hK; clear hK K))
            refine phi_partK (PVal (.int .u64 (y : Int))) rfl rfl ⟨_, rfl⟩ ?_ (fun K hK v hv => ?_)
            · rintro w' ⟨h0, hN, hM⟩ _
              unfold gives
              go_simp
              refine (HB.out w').mono ?_
              rintro e w'' ⟨rfl, hb⟩
              exact ⟨_, rfl, rfl, trivial, hb⟩
            obtain rfl : v = _ := hv
            simp only [Act.put, List.setIfInBounds_toArray, List.set_cons_succ, List.set_cons_zero]; (try simp only [List.cons_append]); (try simp only [List.nil_append])
            apply hK
            clear hK K
            repeat (first | (refine phi_skipK rfl (fun K hK => ?_); simp only [Act.put, List.setIfInBounds_toArray, List.set_cons_succ, List.set_cons_zero]; (try simp only [List.cons_append]); (try simp only [List.nil_append]); apply hK; clear hK K) | (refine phi_pureK rfl rfl (fun K hK => ?_); apply Exists.intro; constructor; (focus (rintro w' ⟨h0, hN, hM⟩; (have k0 := (hN.cell 0).trans rfl; have k1 := (hN.cell 1).trans rfl; have k2 := (hN.cell 2).trans rfl; have k3 := (hN.cell 3).trans rfl; have k4 := (hN.cell 4).trans rfl; have l0 := (hM.cell 0).trans rfl; have l1 := (hM.cell 1).trans rfl; have l2 := (hM.cell 2).trans rfl; have l3 := (hM.cell 3).trans rfl; have l4 := (hM.cell 4).trans rfl; clear h0 hN hM); first | (go_simp; done) | (go_simp; (try go_bits); (try go_simp); rfl) | go_simp)); simp only [Act.put, List.setIfInBounds_toArray, List.set_cons_succ, List.set_cons_zero]; (try simp only [List.cons_append]); (try simp only [List.nil_append]); apply hK; clear hK K))
            refine phi_partK (PVal (.int .u64 (y' : Int))) rfl rfl ⟨_, rfl⟩ ?_ (fun K hK v hv => ?_)
            · rintro w' ⟨h0, hN, hM⟩ _
              unfold gives
              go_simp
              refine (HB'.out w').mono ?_
              rintro e w'' ⟨rfl, hb⟩
              exact ⟨_, rfl, rfl, trivial, hb⟩
            obtain rfl : v = _ := hv
            simp only [Act.put, List.setIfInBounds_toArray, List.set_cons_succ, List.set_cons_zero]; (try simp only [List.cons_append]); (try simp only [List.nil_append])
            apply hK
            clear hK K
            repeat (first | (refine phi_skipK rfl (fun K hK => ?_); simp only [Act.put, List.setIfInBounds_toArray, List.set_cons_succ, List.set_cons_zero]; (try simp only [List.cons_append]); (try simp only [List.nil_append]); apply hK; clear hK K) | (refine phi_pureK rfl rfl (fun K hK => ?_); apply Exists.intro; constructor; (focus (rintro w' ⟨h0, hN, hM⟩; (have k0 := (hN.cell 0).trans rfl; have k1 := (hN.cell 1).trans rfl; have k2 := (hN.cell 2).trans rfl; have k3 := (hN.cell 3).trans rfl; have k4 := (hN.cell 4).trans rfl; have l0 := (hM.cell 0).trans rfl; have l1 := (hM.cell 1).trans rfl; have l2 := (hM.cell 2).trans rfl; have l3 := (hM.cell 3).trans rfl; have l4 := (hM.cell 4).trans rfl; clear h0 hN hM); first | (go_simp; done) | (go_simp; (try go_bits); (try go_simp); rfl) | go_simp)); simp only [Act.put, List.setIfInBounds_toArray, List.set_cons_succ, List.set_cons_zero]; (try simp only [List.cons_append]); (try simp only [List.nil_append]); apply hK; clear hK K))
            refine phi_done ?_
            rintro w' ⟨hb, _⟩ _
            have B' := Lib.hid hb
            clear hb
            refine wpList_nil ?_
            go_wp2_with fail
            go_ret
            exact ⟨HR.out, B'.out⟩
end Go.Proofs.YtgmiockaecklaaaGreatDoor
