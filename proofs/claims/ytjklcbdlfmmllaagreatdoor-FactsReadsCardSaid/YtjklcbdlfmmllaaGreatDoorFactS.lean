/-
  FactS: which facts are the same, which are right.
-/
import Derived.Test.YtjklcbdlfmmllaaGreatDoorFactW0
namespace Go.Proofs.YtjklcbdlfmmllaaGreatDoor
open Go.RowKit Go.Extern.Stop Go.Stop Go.Extern Ieee
attribute [local go_sem] flt_def fgt_def feq_def fne_def
attribute [local go_sem] run_store_flt

theorem eqFlt0 (w : World) : (Op.equalIn 9999 24 (.float .f64 0) (.float .f64 0)).run Tryz.prog w = .ok true w := by kernel_rfl
set_option maxHeartbeats 4000000 in
theorem eqFct (a0 a1 a2 a3 a4 a5 a6 a7 a8 a9 a10 a11 a12 b0 b1 b2 b3 b4 b5 b6 b7 b8 b9 b10 b11 b12 : Int) (w : World) : (binOp .eql 26 (.agg #[.int .i64 a0, .int .i64 a1, .int .i64 a2, .int .i64 a3, .int .i64 a4, .int .i64 a5, .int .i64 a6, .int .i64 a7, .int .i64 a8, .int .i64 a9, .int .i64 a10, .int .i64 a11, .int .i64 a12, .float .f64 0]) (.agg #[.int .i64 b0, .int .i64 b1, .int .i64 b2, .int .i64 b3, .int .i64 b4, .int .i64 b5, .int .i64 b6, .int .i64 b7, .int .i64 b8, .int .i64 b9, .int .i64 b10, .int .i64 b11, .int .i64 b12, .float .f64 0])).run Tryz.prog w = .ok (.bool ((a0 == b0) && (a1 == b1) && (a2 == b2) && (a3 == b3) && (a4 == b4) && (a5 == b5) && (a6 == b6) && (a7 == b7) && (a8 == b8) && (a9 == b9) && (a10 == b10) && (a11 == b11) && (a12 == b12))) w := by
  have hf := eqFlt0
  cases h0 : (a0 == b0)
  · go_simp
  · cases h1 : (a1 == b1)
    · go_simp
    · cases h2 : (a2 == b2)
      · go_simp
      · cases h3 : (a3 == b3)
        · go_simp
        · cases h4 : (a4 == b4)
          · go_simp
          · cases h5 : (a5 == b5)
            · go_simp
            · cases h6 : (a6 == b6)
              · go_simp
              · cases h7 : (a7 == b7)
                · go_simp
                · cases h8 : (a8 == b8)
                  · go_simp
                  · cases h9 : (a9 == b9)
                    · go_simp
                    · cases h10 : (a10 == b10)
                      · go_simp
                      · cases h11 : (a11 == b11)
                        · go_simp
                        · cases h12 : (a12 == b12) <;> go_simp
theorem cons_dec (a b : Int) (l m : List Int) : decide (a :: l = b :: m) = ((a == b) && decide (l = m)) := by
  rw [Bool.eq_iff_iff, decide_eq_true_iff, Bool.and_eq_true, beq_iff_eq, decide_eq_true_iff, List.cons.injEq]
theorem eq_chain (a0 a1 a2 a3 a4 a5 a6 a7 a8 a9 a10 a11 a12 b0 b1 b2 b3 b4 b5 b6 b7 b8 b9 b10 b11 b12 : Int) (x y : Nat) : ((a0 == b0) && (a1 == b1) && (a2 == b2) && (a3 == b3) && (a4 == b4) && (a5 == b5) && (a6 == b6) && (a7 == b7) && (a8 == b8) && (a9 == b9) && (a10 == b10) && (a11 == b11) && (a12 == b12)) = eqF ⟨a0, a1, a2, a3, a4, a5, a6, a7, a8, a9, a10, a11, a12, x⟩ ⟨b0, b1, b2, b3, b4, b5, b6, b7, b8, b9, b10, b11, b12, y⟩ := by
  unfold eqF Fct.l
  simp only [cons_dec, decide_true, Bool.and_assoc, Bool.and_true]
set_option maxRecDepth 20000 in
set_option maxHeartbeats 4000000 in
theorem fsame_any (a b : Fct) (ha : a.x < 18446744073709551616) (hb : b.x < 18446744073709551616) (w : World) :
    Calls Tryz.prog 24 #[fctV a, fctV b] w fun e w' => e = .returned (.bool (sameF a b)) ∧ Below w.heap.size w w' := by
  obtain ⟨a0, a1, a2, a3, a4, a5, a6, a7, a8, a9, a10, a11, a12, x⟩ := a
  obtain ⟨b0, b1, b2, b3, b4, b5, b6, b7, b8, b9, b10, b11, b12, y⟩ := b
  simp only at ha hb
  have HB1 := Lib.hid (fun w' => bits_any x ha w')
  have HB2 := Lib.hid (fun w' => bits_any y hb w')
  have heq := fun w' => eqFct a0 a1 a2 a3 a4 a5 a6 a7 a8 a9 a10 a11 a12 b0 b1 b2 b3 b4 b5 b6 b7 b8 b9 b10 b11 b12 w'
  have HS := Lib.hid (show sameF ⟨a0, a1, a2, a3, a4, a5, a6, a7, a8, a9, a10, a11, a12, x⟩ ⟨b0, b1, b2, b3, b4, b5, b6, b7, b8, b9, b10, b11, b12, y⟩ = ((plainN x == plainN y) && ((a0 == b0) && (a1 == b1) && (a2 == b2) && (a3 == b3) && (a4 == b4) && (a5 == b5) && (a6 == b6) && (a7 == b7) && (a8 == b8) && (a9 == b9) && (a10 == b10) && (a11 == b11) && (a12 == b12))) by rw [eq_chain _ _ _ _ _ _ _ _ _ _ _ _ _ _ _ _ _ _ _ _ _ _ _ _ _ _ x y]; rfl)
  generalize sameF ⟨a0, a1, a2, a3, a4, a5, a6, a7, a8, a9, a10, a11, a12, x⟩ ⟨b0, b1, b2, b3, b4, b5, b6, b7, b8, b9, b10, b11, b12, y⟩ = z at *
  generalize hc : ((a0 == b0) && (a1 == b1) && (a2 == b2) && (a3 == b3) && (a4 == b4) && (a5 == b5) && (a6 == b6) && (a7 == b7) && (a8 == b8) && (a9 == b9) && (a10 == b10) && (a11 == b11) && (a12 == b12)) = c at *
  clear hc ha hb
  unfold fctV fctA
  simp only
  have B := Lib.hid (below_alloc (below_alloc1 w (.cells #[.int .i64 a0, .int .i64 a1, .int .i64 a2, .int .i64 a3, .int .i64 a4, .int .i64 a5, .int .i64 a6, .int .i64 a7, .int .i64 a8, .int .i64 a9, .int .i64 a10, .int .i64 a11, .int .i64 a12, .float .f64 x] 26)) (.cells #[.int .i64 b0, .int .i64 b1, .int .i64 b2, .int .i64 b3, .int .i64 b4, .int .i64 b5, .int .i64 b6, .int .i64 b7, .int .i64 b8, .int .i64 b9, .int .i64 b10, .int .i64 b11, .int .i64 b12, .float .f64 y] 26))
  have N := Lib.hid ((Blk.new w 26 #[.int .i64 a0, .int .i64 a1, .int .i64 a2, .int .i64 a3, .int .i64 a4, .int .i64 a5, .int .i64 a6, .int .i64 a7, .int .i64 a8, .int .i64 a9, .int .i64 a10, .int .i64 a11, .int .i64 a12, .float .f64 x]).alloc (.cells #[.int .i64 b0, .int .i64 b1, .int .i64 b2, .int .i64 b3, .int .i64 b4, .int .i64 b5, .int .i64 b6, .int .i64 b7, .int .i64 b8, .int .i64 b9, .int .i64 b10, .int .i64 b11, .int .i64 b12, .float .f64 y] 26))
  have M := Lib.hid (show Blk ((w.alloc (.cells #[.int .i64 a0, .int .i64 a1, .int .i64 a2, .int .i64 a3, .int .i64 a4, .int .i64 a5, .int .i64 a6, .int .i64 a7, .int .i64 a8, .int .i64 a9, .int .i64 a10, .int .i64 a11, .int .i64 a12, .float .f64 x] 26)).alloc (.cells #[.int .i64 b0, .int .i64 b1, .int .i64 b2, .int .i64 b3, .int .i64 b4, .int .i64 b5, .int .i64 b6, .int .i64 b7, .int .i64 b8, .int .i64 b9, .int .i64 b10, .int .i64 b11, .int .i64 b12, .float .f64 y] 26)) (w.heap.size + 1) 26 #[.int .i64 b0, .int .i64 b1, .int .i64 b2, .int .i64 b3, .int .i64 b4, .int .i64 b5, .int .i64 b6, .int .i64 b7, .int .i64 b8, .int .i64 b9, .int .i64 b10, .int .i64 b11, .int .i64 b12, .float .f64 y] from by
    have := Blk.new (w.alloc (.cells #[.int .i64 a0, .int .i64 a1, .int .i64 a2, .int .i64 a3, .int .i64 a4, .int .i64 a5, .int .i64 a6, .int .i64 a7, .int .i64 a8, .int .i64 a9, .int .i64 a10, .int .i64 a11, .int .i64 a12, .float .f64 x] 26)) 26 #[.int .i64 b0, .int .i64 b1, .int .i64 b2, .int .i64 b3, .int .i64 b4, .int .i64 b5, .int .i64 b6, .int .i64 b7, .int .i64 b8, .int .i64 b9, .int .i64 b10, .int .i64 b11, .int .i64 b12, .float .f64 y]
    rwa [World.size_alloc] at this)
  generalize plainN x = px at *
  generalize plainN y = py at *
  have he' : ((px : Int) == (py : Int)) = (px == py) := by
    rw [Bool.eq_iff_iff, beq_iff_eq, beq_iff_eq]; omega
  cases he : (px == py)
  · rw [he] at he' HS
    go_enter Tryz.func24, Tryz.ntmps24
    go_wp2_with fail
    refine wp_phi (fun wq => Below w.heap.size w wq ∧ Blk wq w.heap.size 26 #[.int .i64 a0, .int .i64 a1, .int .i64 a2, .int .i64 a3, .int .i64 a4, .int .i64 a5, .int .i64 a6, .int .i64 a7, .int .i64 a8, .int .i64 a9, .int .i64 a10, .int .i64 a11, .int .i64 a12, .float .f64 x] ∧ Blk wq (w.heap.size + 1) 26 #[.int .i64 b0, .int .i64 b1, .int .i64 b2, .int .i64 b3, .int .i64 b4, .int .i64 b5, .int .i64 b6, .int .i64 b7, .int .i64 b8, .int .i64 b9, .int .i64 b10, .int .i64 b11, .int .i64 b12, .float .f64 y]) [(2, PVal (.int .u64 (px : Int))), (5, PVal (.int .u64 (py : Int)))] [] (by kernel_rfl) (by kernel_rfl) ?_ ?_ ⟨B.out.drew, N.out, M.out⟩ ?_
    · rintro w1 w2 ⟨a1, a2, a3⟩ hb
      exact ⟨a1.trans (hb.mono a1.size), a2.below hb a2.lt, a3.below hb a3.lt⟩
    · simp only [List.mem_cons, List.not_mem_nil, or_false, forall_eq_or_imp, forall_eq]
      exact ⟨fun _ _ _ _ _ h => h, fun _ _ _ _ _ h => h⟩
    repeat (first | (refine phi_skipK rfl (fun K hK => ?_); simp only [Act.put, List.setIfInBounds_toArray, List.set_cons_succ, List.set_cons_zero]; (try simp only [List.cons_append]); (try simp only [List.nil_append]); apply hK; clear hK K) | (refine phi_pureK rfl rfl (fun K hK => ?_); apply Exists.intro; constructor; (focus (rintro w' ⟨h0, hN, hM⟩; (have k13 := (hN.cell 13).trans rfl; have l13 := (hM.cell 13).trans rfl; clear h0 hN hM); first | (go_simp; done) | (go_simp; (try go_bits); (try go_simp); rfl) | go_simp)); simp only [Act.put, List.setIfInBounds_toArray, List.set_cons_succ, List.set_cons_zero]; (try simp only [List.cons_append]); (try simp only [List.nil_append]); apply hK; clear hK K))
    refine phi_partK (PVal (.int .u64 (px : Int))) rfl rfl ⟨_, rfl⟩ ?_ (fun K hK v hv => ?_)
    · rintro wq ⟨h0, hN, hM⟩ _
      unfold gives
      go_simp
      refine (HB1.out _).mono ?_
      rintro e w'' ⟨rfl, hb⟩
      exact ⟨_, rfl, rfl, trivial, hb⟩
    obtain rfl : v = _ := hv
    simp only [Act.put, List.setIfInBounds_toArray, List.set_cons_succ, List.set_cons_zero]; (try simp only [List.cons_append]); (try simp only [List.nil_append])
    apply hK
    clear hK K
    repeat (first | (refine phi_skipK rfl (fun K hK => ?_); simp only [Act.put, List.setIfInBounds_toArray, List.set_cons_succ, List.set_cons_zero]; (try simp only [List.cons_append]); (try simp only [List.nil_append]); apply hK; clear hK K) | (refine phi_pureK rfl rfl (fun K hK => ?_); apply Exists.intro; constructor; (focus (rintro w' ⟨h0, hN, hM⟩; (have k13 := (hN.cell 13).trans rfl; have l13 := (hM.cell 13).trans rfl; clear h0 hN hM); first | (go_simp; done) | (go_simp; (try go_bits); (try go_simp); rfl) | go_simp)); simp only [Act.put, List.setIfInBounds_toArray, List.set_cons_succ, List.set_cons_zero]; (try simp only [List.cons_append]); (try simp only [List.nil_append]); apply hK; clear hK K))
    refine phi_partK (PVal (.int .u64 (py : Int))) rfl rfl ⟨_, rfl⟩ ?_ (fun K hK v hv => ?_)
    · rintro wq ⟨h0, hN, hM⟩ _
      unfold gives
      go_simp
      refine (HB2.out _).mono ?_
      rintro e w'' ⟨rfl, hb⟩
      exact ⟨_, rfl, rfl, trivial, hb⟩
    obtain rfl : v = _ := hv
    simp only [Act.put, List.setIfInBounds_toArray, List.set_cons_succ, List.set_cons_zero]; (try simp only [List.cons_append]); (try simp only [List.nil_append])
    apply hK
    clear hK K
    repeat (first | (refine phi_skipK rfl (fun K hK => ?_); simp only [Act.put, List.setIfInBounds_toArray, List.set_cons_succ, List.set_cons_zero]; (try simp only [List.cons_append]); (try simp only [List.nil_append]); apply hK; clear hK K) | (refine phi_pureK rfl rfl (fun K hK => ?_); apply Exists.intro; constructor; (focus (rintro w' ⟨h0, hN, hM⟩; (have k13 := (hN.cell 13).trans rfl; have l13 := (hM.cell 13).trans rfl; clear h0 hN hM); first | (go_simp; done) | (go_simp; (try go_bits); (try go_simp); rfl) | go_simp)); simp only [Act.put, List.setIfInBounds_toArray, List.set_cons_succ, List.set_cons_zero]; (try simp only [List.cons_append]); (try simp only [List.nil_append]); apply hK; clear hK K))
    refine phi_done ?_
    rintro w7 ⟨hB, hN, hM⟩ _
    have c1 := (hN.cell 13).trans rfl
    have f1 := hN.frozen 13
    have h8 : Blk (w7.setCell ⟨w.heap.size, 13, none⟩ (.float .f64 0)) w.heap.size 26 #[.int .i64 a0, .int .i64 a1, .int .i64 a2, .int .i64 a3, .int .i64 a4, .int .i64 a5, .int .i64 a6, .int .i64 a7, .int .i64 a8, .int .i64 a9, .int .i64 a10, .int .i64 a11, .int .i64 a12, .float .f64 0] := hN.set_ 13 (.float .f64 0)
    have m8 := hM.far (b := w.heap.size) (by omega) 13 (.float .f64 0)
    have c2 := (m8.cell 13).trans rfl
    have f2 := m8.frozen 13
    have m9 : Blk ((w7.setCell ⟨w.heap.size, 13, none⟩ (.float .f64 0)).setCell ⟨w.heap.size + 1, 13, none⟩ (.float .f64 0)) (w.heap.size + 1) 26 #[.int .i64 b0, .int .i64 b1, .int .i64 b2, .int .i64 b3, .int .i64 b4, .int .i64 b5, .int .i64 b6, .int .i64 b7, .int .i64 b8, .int .i64 b9, .int .i64 b10, .int .i64 b11, .int .i64 b12, .float .f64 0] := m8.set_ 13 (.float .f64 0)
    have h9 := h8.far (b := w.heap.size + 1) (by omega) 13 (.float .f64 0)
    have r0 := (h9.cell 0).trans rfl
    have s0 := (m9.cell 0).trans rfl
    have r1 := (h9.cell 1).trans rfl
    have s1 := (m9.cell 1).trans rfl
    have r2 := (h9.cell 2).trans rfl
    have s2 := (m9.cell 2).trans rfl
    have r3 := (h9.cell 3).trans rfl
    have s3 := (m9.cell 3).trans rfl
    have r4 := (h9.cell 4).trans rfl
    have s4 := (m9.cell 4).trans rfl
    have r5 := (h9.cell 5).trans rfl
    have s5 := (m9.cell 5).trans rfl
    have r6 := (h9.cell 6).trans rfl
    have s6 := (m9.cell 6).trans rfl
    have r7 := (h9.cell 7).trans rfl
    have s7 := (m9.cell 7).trans rfl
    have r8 := (h9.cell 8).trans rfl
    have s8 := (m9.cell 8).trans rfl
    have r9 := (h9.cell 9).trans rfl
    have s9 := (m9.cell 9).trans rfl
    have r10 := (h9.cell 10).trans rfl
    have s10 := (m9.cell 10).trans rfl
    have r11 := (h9.cell 11).trans rfl
    have s11 := (m9.cell 11).trans rfl
    have r12 := (h9.cell 12).trans rfl
    have s12 := (m9.cell 12).trans rfl
    have r13 := (h9.cell 13).trans rfl
    have s13 := (m9.cell 13).trans rfl
    have B9 : RowKit.Hid (Below w.heap.size w ((w7.setCell ⟨w.heap.size, 13, none⟩ (.float .f64 0)).setCell ⟨w.heap.size + 1, 13, none⟩ (.float .f64 0))) := Lib.hid ((hB.trans (((Only.refl w.heap.size w7).set_ 13 _).below (Nat.le_refl _))).trans (((Only.refl (w.heap.size + 1) _).set_ 13 _).below (Nat.le_succ _)))
    clear hB hN hM h8 m8 h9 m9 B N M
    refine wpList_nil ?_
    go_wp2_with fail
    go_ret
    exact ⟨by rw [HS.out]; rfl, B9.out⟩
  · rw [he] at he' HS
    go_enter Tryz.func24, Tryz.ntmps24
    go_wp2_with fail
    refine wp_phi (fun wq => Below w.heap.size w wq ∧ Blk wq w.heap.size 26 #[.int .i64 a0, .int .i64 a1, .int .i64 a2, .int .i64 a3, .int .i64 a4, .int .i64 a5, .int .i64 a6, .int .i64 a7, .int .i64 a8, .int .i64 a9, .int .i64 a10, .int .i64 a11, .int .i64 a12, .float .f64 x] ∧ Blk wq (w.heap.size + 1) 26 #[.int .i64 b0, .int .i64 b1, .int .i64 b2, .int .i64 b3, .int .i64 b4, .int .i64 b5, .int .i64 b6, .int .i64 b7, .int .i64 b8, .int .i64 b9, .int .i64 b10, .int .i64 b11, .int .i64 b12, .float .f64 y]) [(2, PVal (.int .u64 (px : Int))), (5, PVal (.int .u64 (py : Int)))] [] (by kernel_rfl) (by kernel_rfl) ?_ ?_ ⟨B.out.drew, N.out, M.out⟩ ?_
    · rintro w1 w2 ⟨a1, a2, a3⟩ hb
      exact ⟨a1.trans (hb.mono a1.size), a2.below hb a2.lt, a3.below hb a3.lt⟩
    · simp only [List.mem_cons, List.not_mem_nil, or_false, forall_eq_or_imp, forall_eq]
      exact ⟨fun _ _ _ _ _ h => h, fun _ _ _ _ _ h => h⟩
    repeat (first | (refine phi_skipK rfl (fun K hK => ?_); simp only [Act.put, List.setIfInBounds_toArray, List.set_cons_succ, List.set_cons_zero]; (try simp only [List.cons_append]); (try simp only [List.nil_append]); apply hK; clear hK K) | (refine phi_pureK rfl rfl (fun K hK => ?_); apply Exists.intro; constructor; (focus (rintro w' ⟨h0, hN, hM⟩; (have k13 := (hN.cell 13).trans rfl; have l13 := (hM.cell 13).trans rfl; clear h0 hN hM); first | (go_simp; done) | (go_simp; (try go_bits); (try go_simp); rfl) | go_simp)); simp only [Act.put, List.setIfInBounds_toArray, List.set_cons_succ, List.set_cons_zero]; (try simp only [List.cons_append]); (try simp only [List.nil_append]); apply hK; clear hK K))
    refine phi_partK (PVal (.int .u64 (px : Int))) rfl rfl ⟨_, rfl⟩ ?_ (fun K hK v hv => ?_)
    · rintro wq ⟨h0, hN, hM⟩ _
      unfold gives
      go_simp
      refine (HB1.out _).mono ?_
      rintro e w'' ⟨rfl, hb⟩
      exact ⟨_, rfl, rfl, trivial, hb⟩
    obtain rfl : v = _ := hv
    simp only [Act.put, List.setIfInBounds_toArray, List.set_cons_succ, List.set_cons_zero]; (try simp only [List.cons_append]); (try simp only [List.nil_append])
    apply hK
    clear hK K
    repeat (first | (refine phi_skipK rfl (fun K hK => ?_); simp only [Act.put, List.setIfInBounds_toArray, List.set_cons_succ, List.set_cons_zero]; (try simp only [List.cons_append]); (try simp only [List.nil_append]); apply hK; clear hK K) | (refine phi_pureK rfl rfl (fun K hK => ?_); apply Exists.intro; constructor; (focus (rintro w' ⟨h0, hN, hM⟩; (have k13 := (hN.cell 13).trans rfl; have l13 := (hM.cell 13).trans rfl; clear h0 hN hM); first | (go_simp; done) | (go_simp; (try go_bits); (try go_simp); rfl) | go_simp)); simp only [Act.put, List.setIfInBounds_toArray, List.set_cons_succ, List.set_cons_zero]; (try simp only [List.cons_append]); (try simp only [List.nil_append]); apply hK; clear hK K))
    refine phi_partK (PVal (.int .u64 (py : Int))) rfl rfl ⟨_, rfl⟩ ?_ (fun K hK v hv => ?_)
    · rintro wq ⟨h0, hN, hM⟩ _
      unfold gives
      go_simp
      refine (HB2.out _).mono ?_
      rintro e w'' ⟨rfl, hb⟩
      exact ⟨_, rfl, rfl, trivial, hb⟩
    obtain rfl : v = _ := hv
    simp only [Act.put, List.setIfInBounds_toArray, List.set_cons_succ, List.set_cons_zero]; (try simp only [List.cons_append]); (try simp only [List.nil_append])
    apply hK
    clear hK K
    repeat (first | (refine phi_skipK rfl (fun K hK => ?_); simp only [Act.put, List.setIfInBounds_toArray, List.set_cons_succ, List.set_cons_zero]; (try simp only [List.cons_append]); (try simp only [List.nil_append]); apply hK; clear hK K) | (refine phi_pureK rfl rfl (fun K hK => ?_); apply Exists.intro; constructor; (focus (rintro w' ⟨h0, hN, hM⟩; (have k13 := (hN.cell 13).trans rfl; have l13 := (hM.cell 13).trans rfl; clear h0 hN hM); first | (go_simp; done) | (go_simp; (try go_bits); (try go_simp); rfl) | go_simp)); simp only [Act.put, List.setIfInBounds_toArray, List.set_cons_succ, List.set_cons_zero]; (try simp only [List.cons_append]); (try simp only [List.nil_append]); apply hK; clear hK K))
    refine phi_done ?_
    rintro w7 ⟨hB, hN, hM⟩ _
    have c1 := (hN.cell 13).trans rfl
    have f1 := hN.frozen 13
    have h8 : Blk (w7.setCell ⟨w.heap.size, 13, none⟩ (.float .f64 0)) w.heap.size 26 #[.int .i64 a0, .int .i64 a1, .int .i64 a2, .int .i64 a3, .int .i64 a4, .int .i64 a5, .int .i64 a6, .int .i64 a7, .int .i64 a8, .int .i64 a9, .int .i64 a10, .int .i64 a11, .int .i64 a12, .float .f64 0] := hN.set_ 13 (.float .f64 0)
    have m8 := hM.far (b := w.heap.size) (by omega) 13 (.float .f64 0)
    have c2 := (m8.cell 13).trans rfl
    have f2 := m8.frozen 13
    have m9 : Blk ((w7.setCell ⟨w.heap.size, 13, none⟩ (.float .f64 0)).setCell ⟨w.heap.size + 1, 13, none⟩ (.float .f64 0)) (w.heap.size + 1) 26 #[.int .i64 b0, .int .i64 b1, .int .i64 b2, .int .i64 b3, .int .i64 b4, .int .i64 b5, .int .i64 b6, .int .i64 b7, .int .i64 b8, .int .i64 b9, .int .i64 b10, .int .i64 b11, .int .i64 b12, .float .f64 0] := m8.set_ 13 (.float .f64 0)
    have h9 := h8.far (b := w.heap.size + 1) (by omega) 13 (.float .f64 0)
    have r0 := (h9.cell 0).trans rfl
    have s0 := (m9.cell 0).trans rfl
    have r1 := (h9.cell 1).trans rfl
    have s1 := (m9.cell 1).trans rfl
    have r2 := (h9.cell 2).trans rfl
    have s2 := (m9.cell 2).trans rfl
    have r3 := (h9.cell 3).trans rfl
    have s3 := (m9.cell 3).trans rfl
    have r4 := (h9.cell 4).trans rfl
    have s4 := (m9.cell 4).trans rfl
    have r5 := (h9.cell 5).trans rfl
    have s5 := (m9.cell 5).trans rfl
    have r6 := (h9.cell 6).trans rfl
    have s6 := (m9.cell 6).trans rfl
    have r7 := (h9.cell 7).trans rfl
    have s7 := (m9.cell 7).trans rfl
    have r8 := (h9.cell 8).trans rfl
    have s8 := (m9.cell 8).trans rfl
    have r9 := (h9.cell 9).trans rfl
    have s9 := (m9.cell 9).trans rfl
    have r10 := (h9.cell 10).trans rfl
    have s10 := (m9.cell 10).trans rfl
    have r11 := (h9.cell 11).trans rfl
    have s11 := (m9.cell 11).trans rfl
    have r12 := (h9.cell 12).trans rfl
    have s12 := (m9.cell 12).trans rfl
    have r13 := (h9.cell 13).trans rfl
    have s13 := (m9.cell 13).trans rfl
    have B9 : RowKit.Hid (Below w.heap.size w ((w7.setCell ⟨w.heap.size, 13, none⟩ (.float .f64 0)).setCell ⟨w.heap.size + 1, 13, none⟩ (.float .f64 0))) := Lib.hid ((hB.trans (((Only.refl w.heap.size w7).set_ 13 _).below (Nat.le_refl _))).trans (((Only.refl (w.heap.size + 1) _).set_ 13 _).below (Nat.le_succ _)))
    clear hB hN hM h8 m8 h9 m9 B N M
    refine wpList_nil ?_
    go_wp2_with fail
    go_ret
    exact ⟨by rw [HS.out]; rfl, B9.out⟩
theorem plainP_x (f : Fct) (h : f.x < 18446744073709551616) : (plainP f).x < 18446744073709551616 := by
  unfold plainP
  repeat' split
  all_goals first | exact h | (show 0 < _; omega)
set_option maxRecDepth 20000 in
set_option maxHeartbeats 4000000 in
theorem fright_any (f : Fct) (hf : f.wf) (w : World) (E : Nat → Addr) (h : IdsG w E) :
    Calls Tryz.prog 7 #[fctV f] w fun e w' => e = .returned (.bool (rightF f)) ∧ Below w.heap.size w w' := by
  have HG := Lib.hid (fun w' (hb : Below w.heap.size w w') => h.below hb)
  have HPL := Lib.hid (fun w' h => factplain_any f hf w' E h)
  have hpx := plainP_x f hf.2
  have HSA := Lib.hid (fun w' => fsame_any (plainP f) f hpx hf.2 w')
  have HOR := Lib.hid (fun w' => order_any (plainP f).x f.x hpx hf.2 w')
  have HR := Lib.hid (show rightF f = (plainO f && sameF (plainP f) f && (cmpI (place (plainP f).x) (place f.x) == 0)) from rfl)
  generalize rightF f = z at *
  generalize plainO f = ok at *
  generalize sameF (plainP f) f = sm at *
  generalize cmpI (place (plainP f).x) (place f.x) = q at *
  clear hpx hf h
  generalize plainP f = g at *
  obtain ⟨a0, a1, a2, a3, a4, a5, a6, a7, a8, a9, a10, a11, a12, x⟩ := f
  obtain ⟨b0, b1, b2, b3, b4, b5, b6, b7, b8, b9, b10, b11, b12, y⟩ := g
  unfold fctV fctA at *
  simp only at HPL HSA HOR ⊢
  have B := Lib.hid (below_alloc1 w (.cells #[.int .i64 a0, .int .i64 a1, .int .i64 a2, .int .i64 a3, .int .i64 a4, .int .i64 a5, .int .i64 a6, .int .i64 a7, .int .i64 a8, .int .i64 a9, .int .i64 a10, .int .i64 a11, .int .i64 a12, .float .f64 x] 26))
  have N := Lib.hid (Blk.new w 26 #[.int .i64 a0, .int .i64 a1, .int .i64 a2, .int .i64 a3, .int .i64 a4, .int .i64 a5, .int .i64 a6, .int .i64 a7, .int .i64 a8, .int .i64 a9, .int .i64 a10, .int .i64 a11, .int .i64 a12, .float .f64 x])
  have n0 := (N.out.cell 0).trans rfl
  have n1 := (N.out.cell 1).trans rfl
  have n2 := (N.out.cell 2).trans rfl
  have n3 := (N.out.cell 3).trans rfl
  have n4 := (N.out.cell 4).trans rfl
  have n5 := (N.out.cell 5).trans rfl
  have n6 := (N.out.cell 6).trans rfl
  have n7 := (N.out.cell 7).trans rfl
  have n8 := (N.out.cell 8).trans rfl
  have n9 := (N.out.cell 9).trans rfl
  have n10 := (N.out.cell 10).trans rfl
  have n11 := (N.out.cell 11).trans rfl
  have n12 := (N.out.cell 12).trans rfl
  have n13 := (N.out.cell 13).trans rfl
  cases ok
  · have HP := HR.out
    go_enter Tryz.func7, Tryz.ntmps7
    go_wp2_with fail
    refine (HPL.out _ (HG.out _ B.out)).mono ?_
    rintro e w' ⟨rfl, hb⟩
    have B' := Lib.hid (B.out.trans (hb.mono B.out.size))
    have N' := Lib.hid (N.out.below hb N.out.lt)
    clear hb B N n0 n1 n2 n3 n4 n5 n6 n7 n8 n9 n10 n11 n12 n13 
    have n0 := (N'.out.cell 0).trans rfl
    have n1 := (N'.out.cell 1).trans rfl
    have n2 := (N'.out.cell 2).trans rfl
    have n3 := (N'.out.cell 3).trans rfl
    have n4 := (N'.out.cell 4).trans rfl
    have n5 := (N'.out.cell 5).trans rfl
    have n6 := (N'.out.cell 6).trans rfl
    have n7 := (N'.out.cell 7).trans rfl
    have n8 := (N'.out.cell 8).trans rfl
    have n9 := (N'.out.cell 9).trans rfl
    have n10 := (N'.out.cell 10).trans rfl
    have n11 := (N'.out.cell 11).trans rfl
    have n12 := (N'.out.cell 12).trans rfl
    have n13 := (N'.out.cell 13).trans rfl
    have B := Lib.hid B'.out
    have N := Lib.hid N'.out
    clear B' N'
    have M := Lib.hid (Blk.new w' 26 #[.int .i64 0, .int .i64 0, .int .i64 0, .int .i64 0, .int .i64 0, .int .i64 0, .int .i64 0, .int .i64 0, .int .i64 0, .int .i64 0, .int .i64 0, .int .i64 0, .int .i64 0, .float .f64 0])
    have N' := Lib.hid (N.out.alloc (.cells #[.int .i64 0, .int .i64 0, .int .i64 0, .int .i64 0, .int .i64 0, .int .i64 0, .int .i64 0, .int .i64 0, .int .i64 0, .int .i64 0, .int .i64 0, .int .i64 0, .int .i64 0, .float .f64 0] 26))
    have B' := Lib.hid (below_alloc B.out (.cells #[.int .i64 0, .int .i64 0, .int .i64 0, .int .i64 0, .int .i64 0, .int .i64 0, .int .i64 0, .int .i64 0, .int .i64 0, .int .i64 0, .int .i64 0, .int .i64 0, .int .i64 0, .float .f64 0] 26))
    go_wp2_with (refine wpList_store (.tmp 3) (.tmp 8) 26 rfl rfl w'.heap.size 0 _ _ #[.int .i64 b0, .int .i64 b1, .int .i64 b2, .int .i64 b3, .int .i64 b4, .int .i64 b5, .int .i64 b6, .int .i64 b7, .int .i64 b8, .int .i64 b9, .int .i64 b10, .int .i64 b11, .int .i64 b12, .float .f64 y] rfl rfl M.out (by kernel_rfl) (by simp [Value.oneCell']) (by simp) ?_)
    intro w7 hn7 ko7
    have h7 : Blk w7 w'.heap.size 26 #[.int .i64 b0, .int .i64 b1, .int .i64 b2, .int .i64 b3, .int .i64 b4, .int .i64 b5, .int .i64 b6, .int .i64 b7, .int .i64 b8, .int .i64 b9, .int .i64 b10, .int .i64 b11, .int .i64 b12, .float .f64 y] := hn7
    have B7 := Lib.hid (B'.out.trans (ko7.below B.out.size))
    have N7 := Lib.hid (ko7.blk N'.out (Nat.ne_of_lt N.out.lt))
    have C7 := Lib.hid h7
    clear hn7 ko7 h7 M B' B N' N n0 n1 n2 n3 n4 n5 n6 n7 n8 n9 n10 n11 n12 n13
    generalize w'.heap.size = gc at *
    have n0 := (N7.out.cell 0).trans rfl
    have n1 := (N7.out.cell 1).trans rfl
    have n2 := (N7.out.cell 2).trans rfl
    have n3 := (N7.out.cell 3).trans rfl
    have n4 := (N7.out.cell 4).trans rfl
    have n5 := (N7.out.cell 5).trans rfl
    have n6 := (N7.out.cell 6).trans rfl
    have n7 := (N7.out.cell 7).trans rfl
    have n8 := (N7.out.cell 8).trans rfl
    have n9 := (N7.out.cell 9).trans rfl
    have n10 := (N7.out.cell 10).trans rfl
    have n11 := (N7.out.cell 11).trans rfl
    have n12 := (N7.out.cell 12).trans rfl
    have n13 := (N7.out.cell 13).trans rfl
    have c0 := (C7.out.cell 0).trans rfl
    have c1 := (C7.out.cell 1).trans rfl
    have c2 := (C7.out.cell 2).trans rfl
    have c3 := (C7.out.cell 3).trans rfl
    have c4 := (C7.out.cell 4).trans rfl
    have c5 := (C7.out.cell 5).trans rfl
    have c6 := (C7.out.cell 6).trans rfl
    have c7 := (C7.out.cell 7).trans rfl
    have c8 := (C7.out.cell 8).trans rfl
    have c9 := (C7.out.cell 9).trans rfl
    have c10 := (C7.out.cell 10).trans rfl
    have c11 := (C7.out.cell 11).trans rfl
    have c12 := (C7.out.cell 12).trans rfl
    have c13 := (C7.out.cell 13).trans rfl
    have B := Lib.hid B7.out
    have N := Lib.hid N7.out
    have C := Lib.hid C7.out
    clear B7 N7 C7
    go_wp2_with fail
    go_ret
    exact ⟨by rw [HR.out]; rfl, B.out⟩
  · cases sm
    · go_enter Tryz.func7, Tryz.ntmps7
      go_wp2_with fail
      refine (HPL.out _ (HG.out _ B.out)).mono ?_
      rintro e w' ⟨rfl, hb⟩
      have B' := Lib.hid (B.out.trans (hb.mono B.out.size))
      have N' := Lib.hid (N.out.below hb N.out.lt)
      clear hb B N n0 n1 n2 n3 n4 n5 n6 n7 n8 n9 n10 n11 n12 n13 
      have n0 := (N'.out.cell 0).trans rfl
      have n1 := (N'.out.cell 1).trans rfl
      have n2 := (N'.out.cell 2).trans rfl
      have n3 := (N'.out.cell 3).trans rfl
      have n4 := (N'.out.cell 4).trans rfl
      have n5 := (N'.out.cell 5).trans rfl
      have n6 := (N'.out.cell 6).trans rfl
      have n7 := (N'.out.cell 7).trans rfl
      have n8 := (N'.out.cell 8).trans rfl
      have n9 := (N'.out.cell 9).trans rfl
      have n10 := (N'.out.cell 10).trans rfl
      have n11 := (N'.out.cell 11).trans rfl
      have n12 := (N'.out.cell 12).trans rfl
      have n13 := (N'.out.cell 13).trans rfl
      have B := Lib.hid B'.out
      have N := Lib.hid N'.out
      clear B' N'
      have M := Lib.hid (Blk.new w' 26 #[.int .i64 0, .int .i64 0, .int .i64 0, .int .i64 0, .int .i64 0, .int .i64 0, .int .i64 0, .int .i64 0, .int .i64 0, .int .i64 0, .int .i64 0, .int .i64 0, .int .i64 0, .float .f64 0])
      have N' := Lib.hid (N.out.alloc (.cells #[.int .i64 0, .int .i64 0, .int .i64 0, .int .i64 0, .int .i64 0, .int .i64 0, .int .i64 0, .int .i64 0, .int .i64 0, .int .i64 0, .int .i64 0, .int .i64 0, .int .i64 0, .float .f64 0] 26))
      have B' := Lib.hid (below_alloc B.out (.cells #[.int .i64 0, .int .i64 0, .int .i64 0, .int .i64 0, .int .i64 0, .int .i64 0, .int .i64 0, .int .i64 0, .int .i64 0, .int .i64 0, .int .i64 0, .int .i64 0, .int .i64 0, .float .f64 0] 26))
      go_wp2_with (refine wpList_store (.tmp 3) (.tmp 8) 26 rfl rfl w'.heap.size 0 _ _ #[.int .i64 b0, .int .i64 b1, .int .i64 b2, .int .i64 b3, .int .i64 b4, .int .i64 b5, .int .i64 b6, .int .i64 b7, .int .i64 b8, .int .i64 b9, .int .i64 b10, .int .i64 b11, .int .i64 b12, .float .f64 y] rfl rfl M.out (by kernel_rfl) (by simp [Value.oneCell']) (by simp) ?_)
      intro w7 hn7 ko7
      have h7 : Blk w7 w'.heap.size 26 #[.int .i64 b0, .int .i64 b1, .int .i64 b2, .int .i64 b3, .int .i64 b4, .int .i64 b5, .int .i64 b6, .int .i64 b7, .int .i64 b8, .int .i64 b9, .int .i64 b10, .int .i64 b11, .int .i64 b12, .float .f64 y] := hn7
      have B7 := Lib.hid (B'.out.trans (ko7.below B.out.size))
      have N7 := Lib.hid (ko7.blk N'.out (Nat.ne_of_lt N.out.lt))
      have C7 := Lib.hid h7
      clear hn7 ko7 h7 M B' B N' N n0 n1 n2 n3 n4 n5 n6 n7 n8 n9 n10 n11 n12 n13
      generalize w'.heap.size = gc at *
      have n0 := (N7.out.cell 0).trans rfl
      have n1 := (N7.out.cell 1).trans rfl
      have n2 := (N7.out.cell 2).trans rfl
      have n3 := (N7.out.cell 3).trans rfl
      have n4 := (N7.out.cell 4).trans rfl
      have n5 := (N7.out.cell 5).trans rfl
      have n6 := (N7.out.cell 6).trans rfl
      have n7 := (N7.out.cell 7).trans rfl
      have n8 := (N7.out.cell 8).trans rfl
      have n9 := (N7.out.cell 9).trans rfl
      have n10 := (N7.out.cell 10).trans rfl
      have n11 := (N7.out.cell 11).trans rfl
      have n12 := (N7.out.cell 12).trans rfl
      have n13 := (N7.out.cell 13).trans rfl
      have c0 := (C7.out.cell 0).trans rfl
      have c1 := (C7.out.cell 1).trans rfl
      have c2 := (C7.out.cell 2).trans rfl
      have c3 := (C7.out.cell 3).trans rfl
      have c4 := (C7.out.cell 4).trans rfl
      have c5 := (C7.out.cell 5).trans rfl
      have c6 := (C7.out.cell 6).trans rfl
      have c7 := (C7.out.cell 7).trans rfl
      have c8 := (C7.out.cell 8).trans rfl
      have c9 := (C7.out.cell 9).trans rfl
      have c10 := (C7.out.cell 10).trans rfl
      have c11 := (C7.out.cell 11).trans rfl
      have c12 := (C7.out.cell 12).trans rfl
      have c13 := (C7.out.cell 13).trans rfl
      have B := Lib.hid B7.out
      have N := Lib.hid N7.out
      have C := Lib.hid C7.out
      clear B7 N7 C7
      go_wp2_with fail
      refine (HSA.out _).mono ?_
      rintro e w' ⟨rfl, hb⟩
      have B' := Lib.hid (B.out.trans (hb.mono B.out.size))
      have N' := Lib.hid (N.out.below hb N.out.lt)
      have C' := Lib.hid (C.out.below hb C.out.lt)
      clear hb B N C n0 n1 n2 n3 n4 n5 n6 n7 n8 n9 n10 n11 n12 n13 c0 c1 c2 c3 c4 c5 c6 c7 c8 c9 c10 c11 c12 c13
      have n0 := (N'.out.cell 0).trans rfl
      have n1 := (N'.out.cell 1).trans rfl
      have n2 := (N'.out.cell 2).trans rfl
      have n3 := (N'.out.cell 3).trans rfl
      have n4 := (N'.out.cell 4).trans rfl
      have n5 := (N'.out.cell 5).trans rfl
      have n6 := (N'.out.cell 6).trans rfl
      have n7 := (N'.out.cell 7).trans rfl
      have n8 := (N'.out.cell 8).trans rfl
      have n9 := (N'.out.cell 9).trans rfl
      have n10 := (N'.out.cell 10).trans rfl
      have n11 := (N'.out.cell 11).trans rfl
      have n12 := (N'.out.cell 12).trans rfl
      have n13 := (N'.out.cell 13).trans rfl
      have c0 := (C'.out.cell 0).trans rfl
      have c1 := (C'.out.cell 1).trans rfl
      have c2 := (C'.out.cell 2).trans rfl
      have c3 := (C'.out.cell 3).trans rfl
      have c4 := (C'.out.cell 4).trans rfl
      have c5 := (C'.out.cell 5).trans rfl
      have c6 := (C'.out.cell 6).trans rfl
      have c7 := (C'.out.cell 7).trans rfl
      have c8 := (C'.out.cell 8).trans rfl
      have c9 := (C'.out.cell 9).trans rfl
      have c10 := (C'.out.cell 10).trans rfl
      have c11 := (C'.out.cell 11).trans rfl
      have c12 := (C'.out.cell 12).trans rfl
      have c13 := (C'.out.cell 13).trans rfl
      have B := Lib.hid B'.out
      have N := Lib.hid N'.out
      have C := Lib.hid C'.out
      clear B' N' C'
      go_wp2_with fail
      go_ret
      exact ⟨by rw [HR.out]; rfl, B.out⟩
    · cases hq : (q == 0)
      all_goals
        rw [hq] at HR
        go_enter Tryz.func7, Tryz.ntmps7
        go_wp2_with fail
        refine (HPL.out _ (HG.out _ B.out)).mono ?_
        rintro e w' ⟨rfl, hb⟩
        have B' := Lib.hid (B.out.trans (hb.mono B.out.size))
        have N' := Lib.hid (N.out.below hb N.out.lt)
        clear hb B N n0 n1 n2 n3 n4 n5 n6 n7 n8 n9 n10 n11 n12 n13 
        have n0 := (N'.out.cell 0).trans rfl
        have n1 := (N'.out.cell 1).trans rfl
        have n2 := (N'.out.cell 2).trans rfl
        have n3 := (N'.out.cell 3).trans rfl
        have n4 := (N'.out.cell 4).trans rfl
        have n5 := (N'.out.cell 5).trans rfl
        have n6 := (N'.out.cell 6).trans rfl
        have n7 := (N'.out.cell 7).trans rfl
        have n8 := (N'.out.cell 8).trans rfl
        have n9 := (N'.out.cell 9).trans rfl
        have n10 := (N'.out.cell 10).trans rfl
        have n11 := (N'.out.cell 11).trans rfl
        have n12 := (N'.out.cell 12).trans rfl
        have n13 := (N'.out.cell 13).trans rfl
        have B := Lib.hid B'.out
        have N := Lib.hid N'.out
        clear B' N'
        have M := Lib.hid (Blk.new w' 26 #[.int .i64 0, .int .i64 0, .int .i64 0, .int .i64 0, .int .i64 0, .int .i64 0, .int .i64 0, .int .i64 0, .int .i64 0, .int .i64 0, .int .i64 0, .int .i64 0, .int .i64 0, .float .f64 0])
        have N' := Lib.hid (N.out.alloc (.cells #[.int .i64 0, .int .i64 0, .int .i64 0, .int .i64 0, .int .i64 0, .int .i64 0, .int .i64 0, .int .i64 0, .int .i64 0, .int .i64 0, .int .i64 0, .int .i64 0, .int .i64 0, .float .f64 0] 26))
        have B' := Lib.hid (below_alloc B.out (.cells #[.int .i64 0, .int .i64 0, .int .i64 0, .int .i64 0, .int .i64 0, .int .i64 0, .int .i64 0, .int .i64 0, .int .i64 0, .int .i64 0, .int .i64 0, .int .i64 0, .int .i64 0, .float .f64 0] 26))
        go_wp2_with (refine wpList_store (.tmp 3) (.tmp 8) 26 rfl rfl w'.heap.size 0 _ _ #[.int .i64 b0, .int .i64 b1, .int .i64 b2, .int .i64 b3, .int .i64 b4, .int .i64 b5, .int .i64 b6, .int .i64 b7, .int .i64 b8, .int .i64 b9, .int .i64 b10, .int .i64 b11, .int .i64 b12, .float .f64 y] rfl rfl M.out (by kernel_rfl) (by simp [Value.oneCell']) (by simp) ?_)
        intro w7 hn7 ko7
        have h7 : Blk w7 w'.heap.size 26 #[.int .i64 b0, .int .i64 b1, .int .i64 b2, .int .i64 b3, .int .i64 b4, .int .i64 b5, .int .i64 b6, .int .i64 b7, .int .i64 b8, .int .i64 b9, .int .i64 b10, .int .i64 b11, .int .i64 b12, .float .f64 y] := hn7
        have B7 := Lib.hid (B'.out.trans (ko7.below B.out.size))
        have N7 := Lib.hid (ko7.blk N'.out (Nat.ne_of_lt N.out.lt))
        have C7 := Lib.hid h7
        clear hn7 ko7 h7 M B' B N' N n0 n1 n2 n3 n4 n5 n6 n7 n8 n9 n10 n11 n12 n13
        generalize w'.heap.size = gc at *
        have n0 := (N7.out.cell 0).trans rfl
        have n1 := (N7.out.cell 1).trans rfl
        have n2 := (N7.out.cell 2).trans rfl
        have n3 := (N7.out.cell 3).trans rfl
        have n4 := (N7.out.cell 4).trans rfl
        have n5 := (N7.out.cell 5).trans rfl
        have n6 := (N7.out.cell 6).trans rfl
        have n7 := (N7.out.cell 7).trans rfl
        have n8 := (N7.out.cell 8).trans rfl
        have n9 := (N7.out.cell 9).trans rfl
        have n10 := (N7.out.cell 10).trans rfl
        have n11 := (N7.out.cell 11).trans rfl
        have n12 := (N7.out.cell 12).trans rfl
        have n13 := (N7.out.cell 13).trans rfl
        have c0 := (C7.out.cell 0).trans rfl
        have c1 := (C7.out.cell 1).trans rfl
        have c2 := (C7.out.cell 2).trans rfl
        have c3 := (C7.out.cell 3).trans rfl
        have c4 := (C7.out.cell 4).trans rfl
        have c5 := (C7.out.cell 5).trans rfl
        have c6 := (C7.out.cell 6).trans rfl
        have c7 := (C7.out.cell 7).trans rfl
        have c8 := (C7.out.cell 8).trans rfl
        have c9 := (C7.out.cell 9).trans rfl
        have c10 := (C7.out.cell 10).trans rfl
        have c11 := (C7.out.cell 11).trans rfl
        have c12 := (C7.out.cell 12).trans rfl
        have c13 := (C7.out.cell 13).trans rfl
        have B := Lib.hid B7.out
        have N := Lib.hid N7.out
        have C := Lib.hid C7.out
        clear B7 N7 C7
        go_wp2_with fail
        refine (HSA.out _).mono ?_
        rintro e w' ⟨rfl, hb⟩
        have B' := Lib.hid (B.out.trans (hb.mono B.out.size))
        have N' := Lib.hid (N.out.below hb N.out.lt)
        have C' := Lib.hid (C.out.below hb C.out.lt)
        clear hb B N C n0 n1 n2 n3 n4 n5 n6 n7 n8 n9 n10 n11 n12 n13 c0 c1 c2 c3 c4 c5 c6 c7 c8 c9 c10 c11 c12 c13
        have n0 := (N'.out.cell 0).trans rfl
        have n1 := (N'.out.cell 1).trans rfl
        have n2 := (N'.out.cell 2).trans rfl
        have n3 := (N'.out.cell 3).trans rfl
        have n4 := (N'.out.cell 4).trans rfl
        have n5 := (N'.out.cell 5).trans rfl
        have n6 := (N'.out.cell 6).trans rfl
        have n7 := (N'.out.cell 7).trans rfl
        have n8 := (N'.out.cell 8).trans rfl
        have n9 := (N'.out.cell 9).trans rfl
        have n10 := (N'.out.cell 10).trans rfl
        have n11 := (N'.out.cell 11).trans rfl
        have n12 := (N'.out.cell 12).trans rfl
        have n13 := (N'.out.cell 13).trans rfl
        have c0 := (C'.out.cell 0).trans rfl
        have c1 := (C'.out.cell 1).trans rfl
        have c2 := (C'.out.cell 2).trans rfl
        have c3 := (C'.out.cell 3).trans rfl
        have c4 := (C'.out.cell 4).trans rfl
        have c5 := (C'.out.cell 5).trans rfl
        have c6 := (C'.out.cell 6).trans rfl
        have c7 := (C'.out.cell 7).trans rfl
        have c8 := (C'.out.cell 8).trans rfl
        have c9 := (C'.out.cell 9).trans rfl
        have c10 := (C'.out.cell 10).trans rfl
        have c11 := (C'.out.cell 11).trans rfl
        have c12 := (C'.out.cell 12).trans rfl
        have c13 := (C'.out.cell 13).trans rfl
        have B := Lib.hid B'.out
        have N := Lib.hid N'.out
        have C := Lib.hid C'.out
        clear B' N' C'
        go_wp2_with fail
        refine (HOR.out _).mono ?_
        rintro e w' ⟨rfl, hb⟩
        have B' := Lib.hid (B.out.trans (hb.mono B.out.size))
        have N' := Lib.hid (N.out.below hb N.out.lt)
        have C' := Lib.hid (C.out.below hb C.out.lt)
        clear hb B N C n0 n1 n2 n3 n4 n5 n6 n7 n8 n9 n10 n11 n12 n13 c0 c1 c2 c3 c4 c5 c6 c7 c8 c9 c10 c11 c12 c13
        have n0 := (N'.out.cell 0).trans rfl
        have n1 := (N'.out.cell 1).trans rfl
        have n2 := (N'.out.cell 2).trans rfl
        have n3 := (N'.out.cell 3).trans rfl
        have n4 := (N'.out.cell 4).trans rfl
        have n5 := (N'.out.cell 5).trans rfl
        have n6 := (N'.out.cell 6).trans rfl
        have n7 := (N'.out.cell 7).trans rfl
        have n8 := (N'.out.cell 8).trans rfl
        have n9 := (N'.out.cell 9).trans rfl
        have n10 := (N'.out.cell 10).trans rfl
        have n11 := (N'.out.cell 11).trans rfl
        have n12 := (N'.out.cell 12).trans rfl
        have n13 := (N'.out.cell 13).trans rfl
        have c0 := (C'.out.cell 0).trans rfl
        have c1 := (C'.out.cell 1).trans rfl
        have c2 := (C'.out.cell 2).trans rfl
        have c3 := (C'.out.cell 3).trans rfl
        have c4 := (C'.out.cell 4).trans rfl
        have c5 := (C'.out.cell 5).trans rfl
        have c6 := (C'.out.cell 6).trans rfl
        have c7 := (C'.out.cell 7).trans rfl
        have c8 := (C'.out.cell 8).trans rfl
        have c9 := (C'.out.cell 9).trans rfl
        have c10 := (C'.out.cell 10).trans rfl
        have c11 := (C'.out.cell 11).trans rfl
        have c12 := (C'.out.cell 12).trans rfl
        have c13 := (C'.out.cell 13).trans rfl
        have B := Lib.hid B'.out
        have N := Lib.hid N'.out
        have C := Lib.hid C'.out
        clear B' N' C'
        go_wp2_with fail
        go_ret
        exact ⟨by rw [HR.out]; rfl, B.out⟩
end Go.Proofs.YtjklcbdlfmmllaaGreatDoor
