/-
  FactR4: the document's Same.
-/
import Derived.Test.YtjklcbdlfmmllaaGreatDoorFactR2
namespace Go.Proofs.YtjklcbdlfmmllaaGreatDoor
open Go.RowKit Go.Extern.Stop Go.Stop Go.Extern Ieee
attribute [local go_sem] flt_def fgt_def feq_def fne_def

def PInts (l : List Int) : Part := ⟨fun v => ∃ g, v = .slice (some ⟨g, 0, none⟩) 13 13, fun w v => ∀ g, v = .slice (some ⟨g, 0, none⟩) 13 13 → Blk w g 3 (ivL l)⟩
theorem PInts_stays (l : List Int) : Stays (PInts l) := fun _ _ _ hb h g hg => (h g hg).below hb (h g hg).lt
set_option maxRecDepth 20000 in
set_option maxHeartbeats 8000000 in
theorem refsame14_any (a b : Fct) (ha : a.x < 18446744073709551616) (hb : b.x < 18446744073709551616) (w : World) :
    Calls Tryz.prog 12 #[fctV a, fctV b] w fun e w' => e = .returned (.bool (sameF a b)) ∧ Below w.heap.size w w' := by
  have HNA := Lib.hid (fun w' => numbers_any a w')
  have HNB := Lib.hid (fun w' => numbers_any b w')
  have HLA := Lib.hid (show a.l.length = 13 from rfl)
  have HLB := Lib.hid (show b.l.length = 13 from rfl)
  have HS := Lib.hid (show sameF a b = ((plainN a.x == plainN b.x) && decide (a.l = b.l)) from rfl)
  obtain ⟨a0, a1, a2, a3, a4, a5, a6, a7, a8, a9, a10, a11, a12, x⟩ := a
  obtain ⟨b0, b1, b2, b3, b4, b5, b6, b7, b8, b9, b10, b11, b12, y⟩ := b
  simp only at ha hb HS
  unfold fctV fctA at *
  simp only at *
  have HB1 := Lib.hid (fun w' => refbits_any x ha w')
  have HB2 := Lib.hid (fun w' => refbits_any y hb w')
  generalize sameF ⟨a0, a1, a2, a3, a4, a5, a6, a7, a8, a9, a10, a11, a12, x⟩ ⟨b0, b1, b2, b3, b4, b5, b6, b7, b8, b9, b10, b11, b12, y⟩ = z at *
  generalize Fct.l ⟨a0, a1, a2, a3, a4, a5, a6, a7, a8, a9, a10, a11, a12, x⟩ = la at *
  generalize Fct.l ⟨b0, b1, b2, b3, b4, b5, b6, b7, b8, b9, b10, b11, b12, y⟩ = lb at *
  clear ha hb
  have HSI := Lib.hid (fun (g g2 : Nat) w' (h1 : Blk w' g 3 (ivL la)) (h2 : Blk w' g2 3 (ivL lb)) => sameints_any la lb g g2 w' (HLA.out.trans HLB.out.symm) (by rw [HLA.out]; omega) h1 h2)
  rw [HLA.out, HLB.out] at HSI
  have B := Lib.hid (below_alloc (below_alloc1 w (.cells #[.int .i64 a0, .int .i64 a1, .int .i64 a2, .int .i64 a3, .int .i64 a4, .int .i64 a5, .int .i64 a6, .int .i64 a7, .int .i64 a8, .int .i64 a9, .int .i64 a10, .int .i64 a11, .int .i64 a12, .float .f64 x] 28)) (.cells #[.int .i64 b0, .int .i64 b1, .int .i64 b2, .int .i64 b3, .int .i64 b4, .int .i64 b5, .int .i64 b6, .int .i64 b7, .int .i64 b8, .int .i64 b9, .int .i64 b10, .int .i64 b11, .int .i64 b12, .float .f64 y] 28))
  have N := Lib.hid ((Blk.new w 28 #[.int .i64 a0, .int .i64 a1, .int .i64 a2, .int .i64 a3, .int .i64 a4, .int .i64 a5, .int .i64 a6, .int .i64 a7, .int .i64 a8, .int .i64 a9, .int .i64 a10, .int .i64 a11, .int .i64 a12, .float .f64 x]).alloc (.cells #[.int .i64 b0, .int .i64 b1, .int .i64 b2, .int .i64 b3, .int .i64 b4, .int .i64 b5, .int .i64 b6, .int .i64 b7, .int .i64 b8, .int .i64 b9, .int .i64 b10, .int .i64 b11, .int .i64 b12, .float .f64 y] 28))
  have M := Lib.hid (show Blk ((w.alloc (.cells #[.int .i64 a0, .int .i64 a1, .int .i64 a2, .int .i64 a3, .int .i64 a4, .int .i64 a5, .int .i64 a6, .int .i64 a7, .int .i64 a8, .int .i64 a9, .int .i64 a10, .int .i64 a11, .int .i64 a12, .float .f64 x] 28)).alloc (.cells #[.int .i64 b0, .int .i64 b1, .int .i64 b2, .int .i64 b3, .int .i64 b4, .int .i64 b5, .int .i64 b6, .int .i64 b7, .int .i64 b8, .int .i64 b9, .int .i64 b10, .int .i64 b11, .int .i64 b12, .float .f64 y] 28)) (w.heap.size + 1) 28 #[.int .i64 b0, .int .i64 b1, .int .i64 b2, .int .i64 b3, .int .i64 b4, .int .i64 b5, .int .i64 b6, .int .i64 b7, .int .i64 b8, .int .i64 b9, .int .i64 b10, .int .i64 b11, .int .i64 b12, .float .f64 y] from by
    have := Blk.new (w.alloc (.cells #[.int .i64 a0, .int .i64 a1, .int .i64 a2, .int .i64 a3, .int .i64 a4, .int .i64 a5, .int .i64 a6, .int .i64 a7, .int .i64 a8, .int .i64 a9, .int .i64 a10, .int .i64 a11, .int .i64 a12, .float .f64 x] 28)) 28 #[.int .i64 b0, .int .i64 b1, .int .i64 b2, .int .i64 b3, .int .i64 b4, .int .i64 b5, .int .i64 b6, .int .i64 b7, .int .i64 b8, .int .i64 b9, .int .i64 b10, .int .i64 b11, .int .i64 b12, .float .f64 y]
    rwa [World.size_alloc] at this)
  generalize plainN x = px at *
  generalize plainN y = py at *
  have he' : ((px : Int) == (py : Int)) = (px == py) := by
    rw [Bool.eq_iff_iff, beq_iff_eq, beq_iff_eq]; omega
  generalize hsi : decide (la = lb) = si at *
  clear hsi
  cases si
  · rw [Bool.and_false] at HS
    go_enter Tryz.func12, Tryz.ntmps12
    go_wp2_with fail
    refine wp_phi (fun wq => Below w.heap.size w wq ∧ Blk wq w.heap.size 28 #[.int .i64 a0, .int .i64 a1, .int .i64 a2, .int .i64 a3, .int .i64 a4, .int .i64 a5, .int .i64 a6, .int .i64 a7, .int .i64 a8, .int .i64 a9, .int .i64 a10, .int .i64 a11, .int .i64 a12, .float .f64 x] ∧ Blk wq (w.heap.size + 1) 28 #[.int .i64 b0, .int .i64 b1, .int .i64 b2, .int .i64 b3, .int .i64 b4, .int .i64 b5, .int .i64 b6, .int .i64 b7, .int .i64 b8, .int .i64 b9, .int .i64 b10, .int .i64 b11, .int .i64 b12, .float .f64 y]) [(1, PInts la), (3, PInts lb), (4, PVal (.bool false))] [(4, [1, 3])] (by kernel_rfl) (by kernel_rfl) ?_ ?_ ⟨B.out.drew, N.out, M.out⟩ ?_
    · rintro w1 w2 ⟨a1, a2, a3⟩ hb
      exact ⟨a1.trans (hb.mono a1.size), a2.below hb a2.lt, a3.below hb a3.lt⟩
    · simp only [List.mem_cons, List.not_mem_nil, or_false, forall_eq_or_imp, forall_eq]
      exact ⟨fun w w' v _ hb h => PInts_stays _ w w' v hb h, fun w w' v _ hb h => PInts_stays _ w w' v hb h, fun _ _ _ _ _ h => h⟩
    repeat (first | (refine phi_skipK rfl (fun K hK => ?_); simp only [Act.put, List.setIfInBounds_toArray, List.set_cons_succ, List.set_cons_zero]; (try simp only [List.cons_append]); (try simp only [List.nil_append]); apply hK; clear hK K) | (refine phi_pureK rfl rfl (fun K hK => ?_); apply Exists.intro; constructor; (focus (rintro w' ⟨h0, hN, hM⟩; (have k0 := (hN.cell 0).trans rfl; have l0 := (hM.cell 0).trans rfl; have k1 := (hN.cell 1).trans rfl; have l1 := (hM.cell 1).trans rfl; have k2 := (hN.cell 2).trans rfl; have l2 := (hM.cell 2).trans rfl; have k3 := (hN.cell 3).trans rfl; have l3 := (hM.cell 3).trans rfl; have k4 := (hN.cell 4).trans rfl; have l4 := (hM.cell 4).trans rfl; have k5 := (hN.cell 5).trans rfl; have l5 := (hM.cell 5).trans rfl; have k6 := (hN.cell 6).trans rfl; have l6 := (hM.cell 6).trans rfl; have k7 := (hN.cell 7).trans rfl; have l7 := (hM.cell 7).trans rfl; have k8 := (hN.cell 8).trans rfl; have l8 := (hM.cell 8).trans rfl; have k9 := (hN.cell 9).trans rfl; have l9 := (hM.cell 9).trans rfl; have k10 := (hN.cell 10).trans rfl; have l10 := (hM.cell 10).trans rfl; have k11 := (hN.cell 11).trans rfl; have l11 := (hM.cell 11).trans rfl; have k12 := (hN.cell 12).trans rfl; have l12 := (hM.cell 12).trans rfl; have k13 := (hN.cell 13).trans rfl; have l13 := (hM.cell 13).trans rfl; clear h0 hN hM); first | (go_simp; done) | (go_simp; (try go_bits); (try go_simp); rfl) | go_simp)); simp only [Act.put, List.setIfInBounds_toArray, List.set_cons_succ, List.set_cons_zero]; (try simp only [List.cons_append]); (try simp only [List.nil_append]); apply hK; clear hK K))
    refine phi_partK (PInts la) rfl rfl ⟨_, 0, rfl⟩ ?_ (fun K hK v hv => ?_)
    · rintro wq ⟨h0, hN, hM⟩ _
      unfold gives
      go_simp
      refine (HNA.out _).mono ?_
      rintro e w'' ⟨g, rfl, hL, hb⟩
      exact ⟨_, rfl, ⟨_, rfl⟩, fun g' hg' => by
        obtain rfl : g = g' := by simpa using hg'
        exact hL, hb⟩
    obtain ⟨ga, rfl⟩ := hv
    simp only [Act.put, List.setIfInBounds_toArray, List.set_cons_succ, List.set_cons_zero]; (try simp only [List.cons_append]); (try simp only [List.nil_append])
    apply hK
    clear hK K
    repeat (first | (refine phi_skipK rfl (fun K hK => ?_); simp only [Act.put, List.setIfInBounds_toArray, List.set_cons_succ, List.set_cons_zero]; (try simp only [List.cons_append]); (try simp only [List.nil_append]); apply hK; clear hK K) | (refine phi_pureK rfl rfl (fun K hK => ?_); apply Exists.intro; constructor; (focus (rintro w' ⟨h0, hN, hM⟩; (have k0 := (hN.cell 0).trans rfl; have l0 := (hM.cell 0).trans rfl; have k1 := (hN.cell 1).trans rfl; have l1 := (hM.cell 1).trans rfl; have k2 := (hN.cell 2).trans rfl; have l2 := (hM.cell 2).trans rfl; have k3 := (hN.cell 3).trans rfl; have l3 := (hM.cell 3).trans rfl; have k4 := (hN.cell 4).trans rfl; have l4 := (hM.cell 4).trans rfl; have k5 := (hN.cell 5).trans rfl; have l5 := (hM.cell 5).trans rfl; have k6 := (hN.cell 6).trans rfl; have l6 := (hM.cell 6).trans rfl; have k7 := (hN.cell 7).trans rfl; have l7 := (hM.cell 7).trans rfl; have k8 := (hN.cell 8).trans rfl; have l8 := (hM.cell 8).trans rfl; have k9 := (hN.cell 9).trans rfl; have l9 := (hM.cell 9).trans rfl; have k10 := (hN.cell 10).trans rfl; have l10 := (hM.cell 10).trans rfl; have k11 := (hN.cell 11).trans rfl; have l11 := (hM.cell 11).trans rfl; have k12 := (hN.cell 12).trans rfl; have l12 := (hM.cell 12).trans rfl; have k13 := (hN.cell 13).trans rfl; have l13 := (hM.cell 13).trans rfl; clear h0 hN hM); first | (go_simp; done) | (go_simp; (try go_bits); (try go_simp); rfl) | go_simp)); simp only [Act.put, List.setIfInBounds_toArray, List.set_cons_succ, List.set_cons_zero]; (try simp only [List.cons_append]); (try simp only [List.nil_append]); apply hK; clear hK K))
    refine phi_partK (PInts lb) rfl rfl ⟨_, 0, rfl⟩ ?_ (fun K hK v hv => ?_)
    · rintro wq ⟨h0, hN, hM⟩ _
      unfold gives
      go_simp
      refine (HNB.out _).mono ?_
      rintro e w'' ⟨g, rfl, hL, hb⟩
      exact ⟨_, rfl, ⟨_, rfl⟩, fun g' hg' => by
        obtain rfl : g = g' := by simpa using hg'
        exact hL, hb⟩
    obtain ⟨gb, rfl⟩ := hv
    simp only [Act.put, List.setIfInBounds_toArray, List.set_cons_succ, List.set_cons_zero]; (try simp only [List.cons_append]); (try simp only [List.nil_append])
    apply hK
    clear hK K
    repeat (first | (refine phi_skipK rfl (fun K hK => ?_); simp only [Act.put, List.setIfInBounds_toArray, List.set_cons_succ, List.set_cons_zero]; (try simp only [List.cons_append]); (try simp only [List.nil_append]); apply hK; clear hK K) | (refine phi_pureK rfl rfl (fun K hK => ?_); apply Exists.intro; constructor; (focus (rintro w' ⟨h0, hN, hM⟩; (have k0 := (hN.cell 0).trans rfl; have l0 := (hM.cell 0).trans rfl; have k1 := (hN.cell 1).trans rfl; have l1 := (hM.cell 1).trans rfl; have k2 := (hN.cell 2).trans rfl; have l2 := (hM.cell 2).trans rfl; have k3 := (hN.cell 3).trans rfl; have l3 := (hM.cell 3).trans rfl; have k4 := (hN.cell 4).trans rfl; have l4 := (hM.cell 4).trans rfl; have k5 := (hN.cell 5).trans rfl; have l5 := (hM.cell 5).trans rfl; have k6 := (hN.cell 6).trans rfl; have l6 := (hM.cell 6).trans rfl; have k7 := (hN.cell 7).trans rfl; have l7 := (hM.cell 7).trans rfl; have k8 := (hN.cell 8).trans rfl; have l8 := (hM.cell 8).trans rfl; have k9 := (hN.cell 9).trans rfl; have l9 := (hM.cell 9).trans rfl; have k10 := (hN.cell 10).trans rfl; have l10 := (hM.cell 10).trans rfl; have k11 := (hN.cell 11).trans rfl; have l11 := (hM.cell 11).trans rfl; have k12 := (hN.cell 12).trans rfl; have l12 := (hM.cell 12).trans rfl; have k13 := (hN.cell 13).trans rfl; have l13 := (hM.cell 13).trans rfl; clear h0 hN hM); first | (go_simp; done) | (go_simp; (try go_bits); (try go_simp); rfl) | go_simp)); simp only [Act.put, List.setIfInBounds_toArray, List.set_cons_succ, List.set_cons_zero]; (try simp only [List.cons_append]); (try simp only [List.nil_append]); apply hK; clear hK K))
    refine phi_partK (PVal (.bool false)) rfl rfl ⟨_, rfl⟩ ?_ (fun K hK v hv => ?_)
    · rintro wq ⟨h0, hN, hM⟩ hf
      have hA : Blk wq ga 3 (ivL la) := hf (1, fun w => (PInts la).fact w (.slice (some ⟨ga, 0, none⟩) 13 13)) (by simp) (List.contains_iff_mem.1 rfl) ga rfl
      have hB : Blk wq gb 3 (ivL lb) := hf (3, fun w => (PInts lb).fact w (.slice (some ⟨gb, 0, none⟩) 13 13)) (by simp) (List.contains_iff_mem.1 rfl) gb rfl
      clear hf
      unfold gives
      go_simp
      refine (HSI.out _ _ _ hA hB).mono ?_
      rintro e w'' ⟨rfl, hb⟩
      exact ⟨_, rfl, rfl, trivial, hb⟩
    obtain rfl : v = _ := hv
    simp only [Act.put, List.setIfInBounds_toArray, List.set_cons_succ, List.set_cons_zero]; (try simp only [List.cons_append]); (try simp only [List.nil_append])
    apply hK
    clear hK K
    repeat (first | (refine phi_skipK rfl (fun K hK => ?_); simp only [Act.put, List.setIfInBounds_toArray, List.set_cons_succ, List.set_cons_zero]; (try simp only [List.cons_append]); (try simp only [List.nil_append]); apply hK; clear hK K) | (refine phi_pureK rfl rfl (fun K hK => ?_); apply Exists.intro; constructor; (focus (rintro w' ⟨h0, hN, hM⟩; (have k0 := (hN.cell 0).trans rfl; have l0 := (hM.cell 0).trans rfl; have k1 := (hN.cell 1).trans rfl; have l1 := (hM.cell 1).trans rfl; have k2 := (hN.cell 2).trans rfl; have l2 := (hM.cell 2).trans rfl; have k3 := (hN.cell 3).trans rfl; have l3 := (hM.cell 3).trans rfl; have k4 := (hN.cell 4).trans rfl; have l4 := (hM.cell 4).trans rfl; have k5 := (hN.cell 5).trans rfl; have l5 := (hM.cell 5).trans rfl; have k6 := (hN.cell 6).trans rfl; have l6 := (hM.cell 6).trans rfl; have k7 := (hN.cell 7).trans rfl; have l7 := (hM.cell 7).trans rfl; have k8 := (hN.cell 8).trans rfl; have l8 := (hM.cell 8).trans rfl; have k9 := (hN.cell 9).trans rfl; have l9 := (hM.cell 9).trans rfl; have k10 := (hN.cell 10).trans rfl; have l10 := (hM.cell 10).trans rfl; have k11 := (hN.cell 11).trans rfl; have l11 := (hM.cell 11).trans rfl; have k12 := (hN.cell 12).trans rfl; have l12 := (hM.cell 12).trans rfl; have k13 := (hN.cell 13).trans rfl; have l13 := (hM.cell 13).trans rfl; clear h0 hN hM); first | (go_simp; done) | (go_simp; (try go_bits); (try go_simp); rfl) | go_simp)); simp only [Act.put, List.setIfInBounds_toArray, List.set_cons_succ, List.set_cons_zero]; (try simp only [List.cons_append]); (try simp only [List.nil_append]); apply hK; clear hK K))
    refine phi_done ?_
    rintro w7 ⟨hB, _, _⟩ _
    have B7 := Lib.hid hB
    clear hB B N M
    refine wpList_nil ?_
    go_wp2_with fail
    go_ret
    exact ⟨by rw [HS.out] <;> rfl, B7.out⟩
  · rw [Bool.and_true] at HS
    go_enter Tryz.func12, Tryz.ntmps12
    go_wp2_with fail
    refine wp_phi (fun wq => Below w.heap.size w wq ∧ Blk wq w.heap.size 28 #[.int .i64 a0, .int .i64 a1, .int .i64 a2, .int .i64 a3, .int .i64 a4, .int .i64 a5, .int .i64 a6, .int .i64 a7, .int .i64 a8, .int .i64 a9, .int .i64 a10, .int .i64 a11, .int .i64 a12, .float .f64 x] ∧ Blk wq (w.heap.size + 1) 28 #[.int .i64 b0, .int .i64 b1, .int .i64 b2, .int .i64 b3, .int .i64 b4, .int .i64 b5, .int .i64 b6, .int .i64 b7, .int .i64 b8, .int .i64 b9, .int .i64 b10, .int .i64 b11, .int .i64 b12, .float .f64 y]) [(1, PInts la), (3, PInts lb), (4, PVal (.bool true)), (8, PVal (.int .u64 (px : Int))), (11, PVal (.int .u64 (py : Int)))] [(4, [1, 3])] (by kernel_rfl) (by kernel_rfl) ?_ ?_ ⟨B.out.drew, N.out, M.out⟩ ?_
    · rintro w1 w2 ⟨a1, a2, a3⟩ hb
      exact ⟨a1.trans (hb.mono a1.size), a2.below hb a2.lt, a3.below hb a3.lt⟩
    · simp only [List.mem_cons, List.not_mem_nil, or_false, forall_eq_or_imp, forall_eq]
      exact ⟨fun w w' v _ hb h => PInts_stays _ w w' v hb h, fun w w' v _ hb h => PInts_stays _ w w' v hb h, fun _ _ _ _ _ h => h, fun _ _ _ _ _ h => h, fun _ _ _ _ _ h => h⟩
    repeat (first | (refine phi_skipK rfl (fun K hK => ?_); simp only [Act.put, List.setIfInBounds_toArray, List.set_cons_succ, List.set_cons_zero]; (try simp only [List.cons_append]); (try simp only [List.nil_append]); apply hK; clear hK K) | (refine phi_pureK rfl rfl (fun K hK => ?_); apply Exists.intro; constructor; (focus (rintro w' ⟨h0, hN, hM⟩; (have k0 := (hN.cell 0).trans rfl; have l0 := (hM.cell 0).trans rfl; have k1 := (hN.cell 1).trans rfl; have l1 := (hM.cell 1).trans rfl; have k2 := (hN.cell 2).trans rfl; have l2 := (hM.cell 2).trans rfl; have k3 := (hN.cell 3).trans rfl; have l3 := (hM.cell 3).trans rfl; have k4 := (hN.cell 4).trans rfl; have l4 := (hM.cell 4).trans rfl; have k5 := (hN.cell 5).trans rfl; have l5 := (hM.cell 5).trans rfl; have k6 := (hN.cell 6).trans rfl; have l6 := (hM.cell 6).trans rfl; have k7 := (hN.cell 7).trans rfl; have l7 := (hM.cell 7).trans rfl; have k8 := (hN.cell 8).trans rfl; have l8 := (hM.cell 8).trans rfl; have k9 := (hN.cell 9).trans rfl; have l9 := (hM.cell 9).trans rfl; have k10 := (hN.cell 10).trans rfl; have l10 := (hM.cell 10).trans rfl; have k11 := (hN.cell 11).trans rfl; have l11 := (hM.cell 11).trans rfl; have k12 := (hN.cell 12).trans rfl; have l12 := (hM.cell 12).trans rfl; have k13 := (hN.cell 13).trans rfl; have l13 := (hM.cell 13).trans rfl; clear h0 hN hM); first | (go_simp; done) | (go_simp; (try go_bits); (try go_simp); rfl) | go_simp)); simp only [Act.put, List.setIfInBounds_toArray, List.set_cons_succ, List.set_cons_zero]; (try simp only [List.cons_append]); (try simp only [List.nil_append]); apply hK; clear hK K))
    refine phi_partK (PInts la) rfl rfl ⟨_, 0, rfl⟩ ?_ (fun K hK v hv => ?_)
    · rintro wq ⟨h0, hN, hM⟩ _
      unfold gives
      go_simp
      refine (HNA.out _).mono ?_
      rintro e w'' ⟨g, rfl, hL, hb⟩
      exact ⟨_, rfl, ⟨_, rfl⟩, fun g' hg' => by
        obtain rfl : g = g' := by simpa using hg'
        exact hL, hb⟩
    obtain ⟨ga, rfl⟩ := hv
    simp only [Act.put, List.setIfInBounds_toArray, List.set_cons_succ, List.set_cons_zero]; (try simp only [List.cons_append]); (try simp only [List.nil_append])
    apply hK
    clear hK K
    repeat (first | (refine phi_skipK rfl (fun K hK => ?_); simp only [Act.put, List.setIfInBounds_toArray, List.set_cons_succ, List.set_cons_zero]; (try simp only [List.cons_append]); (try simp only [List.nil_append]); apply hK; clear hK K) | (refine phi_pureK rfl rfl (fun K hK => ?_); apply Exists.intro; constructor; (focus (rintro w' ⟨h0, hN, hM⟩; (have k0 := (hN.cell 0).trans rfl; have l0 := (hM.cell 0).trans rfl; have k1 := (hN.cell 1).trans rfl; have l1 := (hM.cell 1).trans rfl; have k2 := (hN.cell 2).trans rfl; have l2 := (hM.cell 2).trans rfl; have k3 := (hN.cell 3).trans rfl; have l3 := (hM.cell 3).trans rfl; have k4 := (hN.cell 4).trans rfl; have l4 := (hM.cell 4).trans rfl; have k5 := (hN.cell 5).trans rfl; have l5 := (hM.cell 5).trans rfl; have k6 := (hN.cell 6).trans rfl; have l6 := (hM.cell 6).trans rfl; have k7 := (hN.cell 7).trans rfl; have l7 := (hM.cell 7).trans rfl; have k8 := (hN.cell 8).trans rfl; have l8 := (hM.cell 8).trans rfl; have k9 := (hN.cell 9).trans rfl; have l9 := (hM.cell 9).trans rfl; have k10 := (hN.cell 10).trans rfl; have l10 := (hM.cell 10).trans rfl; have k11 := (hN.cell 11).trans rfl; have l11 := (hM.cell 11).trans rfl; have k12 := (hN.cell 12).trans rfl; have l12 := (hM.cell 12).trans rfl; have k13 := (hN.cell 13).trans rfl; have l13 := (hM.cell 13).trans rfl; clear h0 hN hM); first | (go_simp; done) | (go_simp; (try go_bits); (try go_simp); rfl) | go_simp)); simp only [Act.put, List.setIfInBounds_toArray, List.set_cons_succ, List.set_cons_zero]; (try simp only [List.cons_append]); (try simp only [List.nil_append]); apply hK; clear hK K))
    refine phi_partK (PInts lb) rfl rfl ⟨_, 0, rfl⟩ ?_ (fun K hK v hv => ?_)
    · rintro wq ⟨h0, hN, hM⟩ _
      unfold gives
      go_simp
      refine (HNB.out _).mono ?_
      rintro e w'' ⟨g, rfl, hL, hb⟩
      exact ⟨_, rfl, ⟨_, rfl⟩, fun g' hg' => by
        obtain rfl : g = g' := by simpa using hg'
        exact hL, hb⟩
    obtain ⟨gb, rfl⟩ := hv
    simp only [Act.put, List.setIfInBounds_toArray, List.set_cons_succ, List.set_cons_zero]; (try simp only [List.cons_append]); (try simp only [List.nil_append])
    apply hK
    clear hK K
    repeat (first | (refine phi_skipK rfl (fun K hK => ?_); simp only [Act.put, List.setIfInBounds_toArray, List.set_cons_succ, List.set_cons_zero]; (try simp only [List.cons_append]); (try simp only [List.nil_append]); apply hK; clear hK K) | (refine phi_pureK rfl rfl (fun K hK => ?_); apply Exists.intro; constructor; (focus (rintro w' ⟨h0, hN, hM⟩; (have k0 := (hN.cell 0).trans rfl; have l0 := (hM.cell 0).trans rfl; have k1 := (hN.cell 1).trans rfl; have l1 := (hM.cell 1).trans rfl; have k2 := (hN.cell 2).trans rfl; have l2 := (hM.cell 2).trans rfl; have k3 := (hN.cell 3).trans rfl; have l3 := (hM.cell 3).trans rfl; have k4 := (hN.cell 4).trans rfl; have l4 := (hM.cell 4).trans rfl; have k5 := (hN.cell 5).trans rfl; have l5 := (hM.cell 5).trans rfl; have k6 := (hN.cell 6).trans rfl; have l6 := (hM.cell 6).trans rfl; have k7 := (hN.cell 7).trans rfl; have l7 := (hM.cell 7).trans rfl; have k8 := (hN.cell 8).trans rfl; have l8 := (hM.cell 8).trans rfl; have k9 := (hN.cell 9).trans rfl; have l9 := (hM.cell 9).trans rfl; have k10 := (hN.cell 10).trans rfl; have l10 := (hM.cell 10).trans rfl; have k11 := (hN.cell 11).trans rfl; have l11 := (hM.cell 11).trans rfl; have k12 := (hN.cell 12).trans rfl; have l12 := (hM.cell 12).trans rfl; have k13 := (hN.cell 13).trans rfl; have l13 := (hM.cell 13).trans rfl; clear h0 hN hM); first | (go_simp; done) | (go_simp; (try go_bits); (try go_simp); rfl) | go_simp)); simp only [Act.put, List.setIfInBounds_toArray, List.set_cons_succ, List.set_cons_zero]; (try simp only [List.cons_append]); (try simp only [List.nil_append]); apply hK; clear hK K))
    refine phi_partK (PVal (.bool true)) rfl rfl ⟨_, rfl⟩ ?_ (fun K hK v hv => ?_)
    · rintro wq ⟨h0, hN, hM⟩ hf
      have hA : Blk wq ga 3 (ivL la) := hf (1, fun w => (PInts la).fact w (.slice (some ⟨ga, 0, none⟩) 13 13)) (by simp) (List.contains_iff_mem.1 rfl) ga rfl
      have hB : Blk wq gb 3 (ivL lb) := hf (3, fun w => (PInts lb).fact w (.slice (some ⟨gb, 0, none⟩) 13 13)) (by simp) (List.contains_iff_mem.1 rfl) gb rfl
      clear hf
      unfold gives
      go_simp
      refine (HSI.out _ _ _ hA hB).mono ?_
      rintro e w'' ⟨rfl, hb⟩
      exact ⟨_, rfl, rfl, trivial, hb⟩
    obtain rfl : v = _ := hv
    simp only [Act.put, List.setIfInBounds_toArray, List.set_cons_succ, List.set_cons_zero]; (try simp only [List.cons_append]); (try simp only [List.nil_append])
    apply hK
    clear hK K
    repeat (first | (refine phi_skipK rfl (fun K hK => ?_); simp only [Act.put, List.setIfInBounds_toArray, List.set_cons_succ, List.set_cons_zero]; (try simp only [List.cons_append]); (try simp only [List.nil_append]); apply hK; clear hK K) | (refine phi_pureK rfl rfl (fun K hK => ?_); apply Exists.intro; constructor; (focus (rintro w' ⟨h0, hN, hM⟩; (have k0 := (hN.cell 0).trans rfl; have l0 := (hM.cell 0).trans rfl; have k1 := (hN.cell 1).trans rfl; have l1 := (hM.cell 1).trans rfl; have k2 := (hN.cell 2).trans rfl; have l2 := (hM.cell 2).trans rfl; have k3 := (hN.cell 3).trans rfl; have l3 := (hM.cell 3).trans rfl; have k4 := (hN.cell 4).trans rfl; have l4 := (hM.cell 4).trans rfl; have k5 := (hN.cell 5).trans rfl; have l5 := (hM.cell 5).trans rfl; have k6 := (hN.cell 6).trans rfl; have l6 := (hM.cell 6).trans rfl; have k7 := (hN.cell 7).trans rfl; have l7 := (hM.cell 7).trans rfl; have k8 := (hN.cell 8).trans rfl; have l8 := (hM.cell 8).trans rfl; have k9 := (hN.cell 9).trans rfl; have l9 := (hM.cell 9).trans rfl; have k10 := (hN.cell 10).trans rfl; have l10 := (hM.cell 10).trans rfl; have k11 := (hN.cell 11).trans rfl; have l11 := (hM.cell 11).trans rfl; have k12 := (hN.cell 12).trans rfl; have l12 := (hM.cell 12).trans rfl; have k13 := (hN.cell 13).trans rfl; have l13 := (hM.cell 13).trans rfl; clear h0 hN hM); first | (go_simp; done) | (go_simp; (try go_bits); (try go_simp); rfl) | go_simp)); simp only [Act.put, List.setIfInBounds_toArray, List.set_cons_succ, List.set_cons_zero]; (try simp only [List.cons_append]); (try simp only [List.nil_append]); apply hK; clear hK K))
    refine phi_partK (PVal (.int .u64 (px : Int))) rfl rfl ⟨_, rfl⟩ ?_ (fun K hK v hv => ?_)
    · rintro wq ⟨h0, hN, hM⟩ _
      unfold gives
      go_simp
      refine (HB1.out _).mono ?_
      rintro e w'' ⟨rfl, hb⟩
      exact ⟨_, rfl, rfl, trivial, hb⟩
    obtain rfl : v = _ := hv
    simp only [Act.put, List.setIfInBounds_toArray, List.set_cons_succ, List.set_cons_zero]; (try simp only [List.cons_append]); (try simp only [List.nil_append])
    apply hK
    clear hK K
    repeat (first | (refine phi_skipK rfl (fun K hK => ?_); simp only [Act.put, List.setIfInBounds_toArray, List.set_cons_succ, List.set_cons_zero]; (try simp only [List.cons_append]); (try simp only [List.nil_append]); apply hK; clear hK K) | (refine phi_pureK rfl rfl (fun K hK => ?_); apply Exists.intro; constructor; (focus (rintro w' ⟨h0, hN, hM⟩; (have k0 := (hN.cell 0).trans rfl; have l0 := (hM.cell 0).trans rfl; have k1 := (hN.cell 1).trans rfl; have l1 := (hM.cell 1).trans rfl; have k2 := (hN.cell 2).trans rfl; have l2 := (hM.cell 2).trans rfl; have k3 := (hN.cell 3).trans rfl; have l3 := (hM.cell 3).trans rfl; have k4 := (hN.cell 4).trans rfl; have l4 := (hM.cell 4).trans rfl; have k5 := (hN.cell 5).trans rfl; have l5 := (hM.cell 5).trans rfl; have k6 := (hN.cell 6).trans rfl; have l6 := (hM.cell 6).trans rfl; have k7 := (hN.cell 7).trans rfl; have l7 := (hM.cell 7).trans rfl; have k8 := (hN.cell 8).trans rfl; have l8 := (hM.cell 8).trans rfl; have k9 := (hN.cell 9).trans rfl; have l9 := (hM.cell 9).trans rfl; have k10 := (hN.cell 10).trans rfl; have l10 := (hM.cell 10).trans rfl; have k11 := (hN.cell 11).trans rfl; have l11 := (hM.cell 11).trans rfl; have k12 := (hN.cell 12).trans rfl; have l12 := (hM.cell 12).trans rfl; have k13 := (hN.cell 13).trans rfl; have l13 := (hM.cell 13).trans rfl; clear h0 hN hM); first | (go_simp; done) | (go_simp; (try go_bits); (try go_simp); rfl) | go_simp)); simp only [Act.put, List.setIfInBounds_toArray, List.set_cons_succ, List.set_cons_zero]; (try simp only [List.cons_append]); (try simp only [List.nil_append]); apply hK; clear hK K))
    refine phi_partK (PVal (.int .u64 (py : Int))) rfl rfl ⟨_, rfl⟩ ?_ (fun K hK v hv => ?_)
    · rintro wq ⟨h0, hN, hM⟩ _
      unfold gives
      go_simp
      refine (HB2.out _).mono ?_
      rintro e w'' ⟨rfl, hb⟩
      exact ⟨_, rfl, rfl, trivial, hb⟩
    obtain rfl : v = _ := hv
    simp only [Act.put, List.setIfInBounds_toArray, List.set_cons_succ, List.set_cons_zero]; (try simp only [List.cons_append]); (try simp only [List.nil_append])
    apply hK
    clear hK K
    repeat (first | (refine phi_skipK rfl (fun K hK => ?_); simp only [Act.put, List.setIfInBounds_toArray, List.set_cons_succ, List.set_cons_zero]; (try simp only [List.cons_append]); (try simp only [List.nil_append]); apply hK; clear hK K) | (refine phi_pureK rfl rfl (fun K hK => ?_); apply Exists.intro; constructor; (focus (rintro w' ⟨h0, hN, hM⟩; (have k0 := (hN.cell 0).trans rfl; have l0 := (hM.cell 0).trans rfl; have k1 := (hN.cell 1).trans rfl; have l1 := (hM.cell 1).trans rfl; have k2 := (hN.cell 2).trans rfl; have l2 := (hM.cell 2).trans rfl; have k3 := (hN.cell 3).trans rfl; have l3 := (hM.cell 3).trans rfl; have k4 := (hN.cell 4).trans rfl; have l4 := (hM.cell 4).trans rfl; have k5 := (hN.cell 5).trans rfl; have l5 := (hM.cell 5).trans rfl; have k6 := (hN.cell 6).trans rfl; have l6 := (hM.cell 6).trans rfl; have k7 := (hN.cell 7).trans rfl; have l7 := (hM.cell 7).trans rfl; have k8 := (hN.cell 8).trans rfl; have l8 := (hM.cell 8).trans rfl; have k9 := (hN.cell 9).trans rfl; have l9 := (hM.cell 9).trans rfl; have k10 := (hN.cell 10).trans rfl; have l10 := (hM.cell 10).trans rfl; have k11 := (hN.cell 11).trans rfl; have l11 := (hM.cell 11).trans rfl; have k12 := (hN.cell 12).trans rfl; have l12 := (hM.cell 12).trans rfl; have k13 := (hN.cell 13).trans rfl; have l13 := (hM.cell 13).trans rfl; clear h0 hN hM); first | (go_simp; done) | (go_simp; (try go_bits); (try go_simp); rfl) | go_simp)); simp only [Act.put, List.setIfInBounds_toArray, List.set_cons_succ, List.set_cons_zero]; (try simp only [List.cons_append]); (try simp only [List.nil_append]); apply hK; clear hK K))
    refine phi_done ?_
    rintro w7 ⟨hB, _, _⟩ _
    have B7 := Lib.hid hB
    clear hB B N M
    refine wpList_nil ?_
    go_wp2_with fail
    go_ret
    exact ⟨by rw [HS.out] <;> rfl, B7.out⟩
end Go.Proofs.YtjklcbdlfmmllaaGreatDoor
