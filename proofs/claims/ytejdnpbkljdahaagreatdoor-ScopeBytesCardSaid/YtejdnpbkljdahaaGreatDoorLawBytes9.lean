/-
  LawBytes9: the walk of ScopeBytes.
-/
import Derived.Test.YtejdnpbkljdahaaGreatDoorScopeB6
namespace Go.Proofs.YtejdnpbkljdahaaGreatDoor
open Go.RowKit Go.Extern.Stop Go.Stop Go.Extern Ieee
attribute [local go_sem] bs_toList
attribute [local go_sem] flt_def fgt_def feq_def fne_def
attribute [local go_sem] run_store_flt

theorem sameC_refl (c : Ctx) : sameC c c = true := by unfold sameC; simp
theorem decC_x (b : List UInt8) : (decCC b).x < 18446744073709551616 := by
  by_cases h : decCE b = 0
  · have := (rightC_nums (encC_decC h).1).2
    unfold infR at this
    omega
  · have : decCC b = ctx0 := by
      unfold decCE at h
      unfold decCC
      split at h
      · rename_i h0
        rw [if_pos h0]
        split at h
        · exact absurd rfl h
        · rename_i h1
          cases hr : rowCtx (splitL b) with
          | none => rfl
          | some m => rw [hr] at h1; exact absurd rfl h1
      · rename_i h0
        rw [if_neg h0]
    rw [this]
    show 0 < _
    omega
theorem decC_wf {b : List UInt8} (h : decCE b = 0) : (decCC b).wf := by
  have h1 := (rightC_nums (encC_decC h).1).1
  have hx := decC_x b
  have a1 := h1 (decCC b).n (by unfold ctxL; simp)
  have a2 := h1 (decCC b).s (by unfold ctxL; simp)
  have a3 := h1 (decCC b).o (by unfold ctxL; simp)
  have a4 := h1 (decCC b).d (by unfold ctxL; simp)
  unfold Ctx.wf
  omega
set_option maxRecDepth 20000 in
set_option maxHeartbeats 4000000 in
theorem bytes_law (a : Ctx) (b : List UInt8) (v : Value) (ha : a.wf) (w : World) (E : Nat → Addr) (h : IdsG w E) (hy : Byt w v b) :
    Calls Tryz.prog 3 #[ctxV a, v] w fun e w' => e = .returned (.bool true) ∧ Below w.heap.size w w' := by
  have HG := Lib.hid (fun w' (hb : Below w.heap.size w w') => h.below hb)
  have HAL := Lib.hid (fun w' h => alive9_any w' E h)
  have HYR := Lib.hid hy
  obtain ⟨pr, cr, rfl, _, _, _⟩ := id hy
  clear hy h
  by_cases hlen : 1000 < b.length
  · have d1 : decide (1000 < (b.length : Int)) = true := by simp; omega
    have d1' : decide (1000 < b.length) = true := by simp; omega
    clear hlen
    obtain ⟨a1, a2, a3, a4, a5⟩ := a
    unfold ctxV ctxA
    simp only
    have B := Lib.hid (below_alloc1 w (.cells #[.int .i64 a1, .int .i64 a2, .int .i64 a3, .int .i64 a4, .float .f64 a5] 26))
    have N := Lib.hid (Blk.new w 26 #[.int .i64 a1, .int .i64 a2, .int .i64 a3, .int .i64 a4, .float .f64 a5])
    have n0 := (N.out.cell 0).trans rfl
    have n1 := (N.out.cell 1).trans rfl
    have n2 := (N.out.cell 2).trans rfl
    have n3 := (N.out.cell 3).trans rfl
    have n4 := (N.out.cell 4).trans rfl
    go_enter Tryz.func3, Tryz.ntmps3
    go_wp2_with fail
    refine (HAL.out _ (HG.out _ B.out)).mono ?_
    rintro e w' ⟨rfl, hb⟩
    have B' := Lib.hid (B.out.trans (hb.mono B.out.size))
    have N' := Lib.hid (N.out.below hb N.out.lt)
    clear hb B N n0 n1 n2 n3 n4
    have n0 := (N'.out.cell 0).trans rfl
    have n1 := (N'.out.cell 1).trans rfl
    have n2 := (N'.out.cell 2).trans rfl
    have n3 := (N'.out.cell 3).trans rfl
    have n4 := (N'.out.cell 4).trans rfl
    have B := Lib.hid B'.out
    have N := Lib.hid N'.out
    clear B' N'
    go_wp2_with fail
    go_ret
    exact ⟨rfl, B.out⟩
  · have d1 : decide (1000 < (b.length : Int)) = false := by simp; omega
    have d1' : decide (1000 < b.length) = false := by simp; omega
    have HDR := Lib.hid (fun v w' h hy => decode_any b v w' E h hy)
    have HRR := Lib.hid (fun w' hy => refdecode_any b (.slice pr b.length cr) w' hy (by omega))
    have HNU := Lib.hid (fun w' h => num_any w' E (decCE b) (decCE_le b) h)
    have hrf := sameC_refl (decCC b)
    have hx := decC_x b
    have HENB := Lib.hid (fun (h0 : decCE b = 0) w' h => encode_any (decCC b) (decC_wf h0) w' E h)
    have HEQB := Lib.hid (fun (h0 : decCE b = 0) => encC_decC h0)
    have HENQ := Lib.hid (fun (h0 : decCE b = 0) => (show encCE (decCC b) = 0 by unfold encCE; rw [if_pos (HEQB.out h0).1]))
    clear hlen
    have HEN := Lib.hid (fun w' h => encode_any a ha w' E h)
    have HRI := Lib.hid (fun w' => rright_any a.n a.s a.o a.d a.x ha.2.2.2.2 w')
    have HN4 := Lib.hid (fun w' h => num_any w' E 4 (by omega) h)
    unfold GivesB at HEN HENB
    cases hr : rightC a
    · have he4 : encCE a = 4 ∧ encCL a = [] := by unfold encCE encCL; rw [hr]; exact ⟨rfl, rfl⟩
      rw [show rightC ⟨a.n, a.s, a.o, a.d, a.x⟩ = false from hr] at HRI
      simp only [he4.1, he4.2] at HEN
      clear he4 hr ha
      unfold ctxV ctxA at HEN ⊢
      obtain ⟨a1, a2, a3, a4, a5⟩ := a
      simp only at HEN HRI ⊢
      generalize errV E 4 = ev4 at *
      by_cases he : decCE b = 0
      · have HEN0 := Lib.hid (HENB.out he)
        rw [HENQ.out he, (HEQB.out he).2] at HEN0
        rw [he] at HDR HRR HNU
        simp only [errV_zero] at HEN0 HDR HNU
        clear HENB HEQB HENQ he
        generalize decCC b = m at *
        obtain ⟨z1, z2, z3, z4, z5⟩ := m
        have HSX := Lib.hid (fun w' => rsame_any z1 z2 z3 z4 z1 z2 z3 z4 z5 z5 hx hx w')
        rw [hrf] at HSX
        unfold ctxV ctxA at HDR HRR HEN0
        simp only at HDR HRR HEN0
        clear hrf hx
        have B := Lib.hid (below_alloc1 w (.cells #[.int .i64 a1, .int .i64 a2, .int .i64 a3, .int .i64 a4, .float .f64 a5] 26))
        have N := Lib.hid (Blk.new w 26 #[.int .i64 a1, .int .i64 a2, .int .i64 a3, .int .i64 a4, .float .f64 a5])
        have n0 := (N.out.cell 0).trans rfl
        have n1 := (N.out.cell 1).trans rfl
        have n2 := (N.out.cell 2).trans rfl
        have n3 := (N.out.cell 3).trans rfl
        have n4 := (N.out.cell 4).trans rfl
        go_enter Tryz.func3, Tryz.ntmps3
        go_wp2_with fail
        refine (HAL.out _ (HG.out _ B.out)).mono ?_
        rintro e w' ⟨rfl, hb⟩
        have B' := Lib.hid (B.out.trans (hb.mono B.out.size))
        have N' := Lib.hid (N.out.below hb N.out.lt)
        clear hb B N n0 n1 n2 n3 n4
        have n0 := (N'.out.cell 0).trans rfl
        have n1 := (N'.out.cell 1).trans rfl
        have n2 := (N'.out.cell 2).trans rfl
        have n3 := (N'.out.cell 3).trans rfl
        have n4 := (N'.out.cell 4).trans rfl
        have B := Lib.hid B'.out
        have N := Lib.hid N'.out
        clear B' N'
        go_wp2_with fail
        refine (HEN.out _ (HG.out _ B.out)).mono ?_
        rintro e w' ⟨v, rfl, ho, hb⟩
        have hyt := owns_byt ho
        obtain ⟨p, c, rfl, _, _, _⟩ := id hyt
        have Y := Lib.hid hyt
        clear ho hyt
        have B' := Lib.hid (B.out.trans (hb.mono B.out.size))
        have N' := Lib.hid (N.out.below hb N.out.lt)
        clear hb B N n0 n1 n2 n3 n4
        have n0 := (N'.out.cell 0).trans rfl
        have n1 := (N'.out.cell 1).trans rfl
        have n2 := (N'.out.cell 2).trans rfl
        have n3 := (N'.out.cell 3).trans rfl
        have n4 := (N'.out.cell 4).trans rfl
        have B := Lib.hid B'.out
        have N := Lib.hid N'.out
        clear B' N'
        go_wp2_with fail
        refine (HRI.out _).mono ?_
        rintro e w' ⟨rfl, hb⟩
        have B' := Lib.hid (B.out.trans (hb.mono B.out.size))
        have N' := Lib.hid (N.out.below hb N.out.lt)
        clear hb B N n0 n1 n2 n3 n4
        have n0 := (N'.out.cell 0).trans rfl
        have n1 := (N'.out.cell 1).trans rfl
        have n2 := (N'.out.cell 2).trans rfl
        have n3 := (N'.out.cell 3).trans rfl
        have n4 := (N'.out.cell 4).trans rfl
        have B := Lib.hid B'.out
        have N := Lib.hid N'.out
        clear B' N'
        go_wp2_with fail
        refine (HN4.out _ (HG.out _ B.out).errs).mono ?_
        rintro e w' ⟨rfl, hb⟩
        have B' := Lib.hid (B.out.trans (hb.mono B.out.size))
        have N' := Lib.hid (N.out.below hb N.out.lt)
        clear hb B N n0 n1 n2 n3 n4
        have n0 := (N'.out.cell 0).trans rfl
        have n1 := (N'.out.cell 1).trans rfl
        have n2 := (N'.out.cell 2).trans rfl
        have n3 := (N'.out.cell 3).trans rfl
        have n4 := (N'.out.cell 4).trans rfl
        have B := Lib.hid B'.out
        have N := Lib.hid N'.out
        clear B' N'
        go_wp2_with fail
        refine (HDR.out _ _ (HG.out _ B.out) (HYR.out.keep (Below.keeps B.out))).mono ?_
        rintro e w' ⟨rfl, hb⟩
        have B' := Lib.hid (B.out.trans (hb.mono B.out.size))
        have N' := Lib.hid (N.out.below hb N.out.lt)
        clear hb B N n0 n1 n2 n3 n4
        have n0 := (N'.out.cell 0).trans rfl
        have n1 := (N'.out.cell 1).trans rfl
        have n2 := (N'.out.cell 2).trans rfl
        have n3 := (N'.out.cell 3).trans rfl
        have n4 := (N'.out.cell 4).trans rfl
        have B := Lib.hid B'.out
        have N := Lib.hid N'.out
        clear B' N'
        have M := Lib.hid (Blk.new w' 26 #[.int .i64 0, .int .i64 0, .int .i64 0, .int .i64 0, .float .f64 0])
        have N' := Lib.hid (N.out.alloc (.cells #[.int .i64 0, .int .i64 0, .int .i64 0, .int .i64 0, .float .f64 0] 26))
        have B' := Lib.hid (below_alloc B.out (.cells #[.int .i64 0, .int .i64 0, .int .i64 0, .int .i64 0, .float .f64 0] 26))
        go_wp2_with (refine wpList_store (.tmp 9) (.tmp 62) 26 rfl rfl w'.heap.size 0 _ _ #[.int .i64 z1, .int .i64 z2, .int .i64 z3, .int .i64 z4, .float .f64 z5] rfl rfl M.out (by kernel_rfl) (by simp [Value.oneCell']) (by simp) ?_)
        intro w7 hn7 ko7
        have h7 : Blk w7 w'.heap.size 26 #[.int .i64 z1, .int .i64 z2, .int .i64 z3, .int .i64 z4, .float .f64 z5] := hn7
        have B7 := Lib.hid (B'.out.trans (ko7.below B.out.size))
        have N7 := Lib.hid (ko7.blk N'.out (Nat.ne_of_lt N.out.lt))
        have H7 := Lib.hid h7
        clear hn7 ko7 h7 M B' B N' N n0 n1 n2 n3 n4
        generalize w'.heap.size = gc at *
        have n0 := (N7.out.cell 0).trans rfl
        have n1 := (N7.out.cell 1).trans rfl
        have n2 := (N7.out.cell 2).trans rfl
        have n3 := (N7.out.cell 3).trans rfl
        have n4 := (N7.out.cell 4).trans rfl
        have c0 := (H7.out.cell 0).trans rfl
        have c1 := (H7.out.cell 1).trans rfl
        have c2 := (H7.out.cell 2).trans rfl
        have c3 := (H7.out.cell 3).trans rfl
        have c4 := (H7.out.cell 4).trans rfl
        have B := Lib.hid B7.out
        have N := Lib.hid N7.out
        have C := Lib.hid H7.out
        clear B7 H7 N7
        go_wp2_with fail
        refine (HRR.out _ (HYR.out.keep (Below.keeps B.out))).mono ?_
        rintro e w' ⟨rfl, hb⟩
        have B' := Lib.hid (B.out.trans (hb.mono B.out.size))
        have N' := Lib.hid (N.out.below hb N.out.lt)
        have C' := Lib.hid (C.out.below hb C.out.lt)
        clear hb B N C n0 n1 n2 n3 n4 c0 c1 c2 c3 c4
        have n0 := (N'.out.cell 0).trans rfl
        have n1 := (N'.out.cell 1).trans rfl
        have n2 := (N'.out.cell 2).trans rfl
        have n3 := (N'.out.cell 3).trans rfl
        have n4 := (N'.out.cell 4).trans rfl
        have c0 := (C'.out.cell 0).trans rfl
        have c1 := (C'.out.cell 1).trans rfl
        have c2 := (C'.out.cell 2).trans rfl
        have c3 := (C'.out.cell 3).trans rfl
        have c4 := (C'.out.cell 4).trans rfl
        have B := Lib.hid B'.out
        have N := Lib.hid N'.out
        have C := Lib.hid C'.out
        clear B' N' C'
        have M := Lib.hid (Blk.new w' 26 #[.int .i64 0, .int .i64 0, .int .i64 0, .int .i64 0, .float .f64 0])
        have N' := Lib.hid (N.out.alloc (.cells #[.int .i64 0, .int .i64 0, .int .i64 0, .int .i64 0, .float .f64 0] 26))
        have C' := Lib.hid (C.out.alloc (.cells #[.int .i64 0, .int .i64 0, .int .i64 0, .int .i64 0, .float .f64 0] 26))
        have B' := Lib.hid (below_alloc B.out (.cells #[.int .i64 0, .int .i64 0, .int .i64 0, .int .i64 0, .float .f64 0] 26))
        go_wp2_with (refine wpList_store (.tmp 10) (.tmp 67) 26 rfl rfl w'.heap.size 0 _ _ #[.int .i64 z1, .int .i64 z2, .int .i64 z3, .int .i64 z4, .float .f64 z5] rfl rfl M.out (by kernel_rfl) (by simp [Value.oneCell']) (by simp) ?_)
        intro w7 hn7 ko7
        have h7 : Blk w7 w'.heap.size 26 #[.int .i64 z1, .int .i64 z2, .int .i64 z3, .int .i64 z4, .float .f64 z5] := hn7
        have B7 := Lib.hid (B'.out.trans (ko7.below B.out.size))
        have N7 := Lib.hid (ko7.blk N'.out (Nat.ne_of_lt N.out.lt))
        have C7 := Lib.hid (ko7.blk C'.out (Nat.ne_of_lt C.out.lt))
        have H7 := Lib.hid h7
        clear hn7 ko7 h7 M B' B N' C' N C n0 n1 n2 n3 n4 c0 c1 c2 c3 c4
        generalize w'.heap.size = gd at *
        have n0 := (N7.out.cell 0).trans rfl
        have n1 := (N7.out.cell 1).trans rfl
        have n2 := (N7.out.cell 2).trans rfl
        have n3 := (N7.out.cell 3).trans rfl
        have n4 := (N7.out.cell 4).trans rfl
        have c0 := (C7.out.cell 0).trans rfl
        have c1 := (C7.out.cell 1).trans rfl
        have c2 := (C7.out.cell 2).trans rfl
        have c3 := (C7.out.cell 3).trans rfl
        have c4 := (C7.out.cell 4).trans rfl
        have d0 := (H7.out.cell 0).trans rfl
        have d1 := (H7.out.cell 1).trans rfl
        have d2 := (H7.out.cell 2).trans rfl
        have d3 := (H7.out.cell 3).trans rfl
        have d4 := (H7.out.cell 4).trans rfl
        have B := Lib.hid B7.out
        have N := Lib.hid N7.out
        have C := Lib.hid C7.out
        have D := Lib.hid H7.out
        clear B7 H7 N7 C7
        go_wp2_with fail
        refine (HSX.out _).mono ?_
        rintro e w' ⟨rfl, hb⟩
        have B' := Lib.hid (B.out.trans (hb.mono B.out.size))
        have N' := Lib.hid (N.out.below hb N.out.lt)
        have C' := Lib.hid (C.out.below hb C.out.lt)
        have D' := Lib.hid (D.out.below hb D.out.lt)
        clear hb B N C D n0 n1 n2 n3 n4 c0 c1 c2 c3 c4 d0 d1 d2 d3 d4
        have n0 := (N'.out.cell 0).trans rfl
        have n1 := (N'.out.cell 1).trans rfl
        have n2 := (N'.out.cell 2).trans rfl
        have n3 := (N'.out.cell 3).trans rfl
        have n4 := (N'.out.cell 4).trans rfl
        have c0 := (C'.out.cell 0).trans rfl
        have c1 := (C'.out.cell 1).trans rfl
        have c2 := (C'.out.cell 2).trans rfl
        have c3 := (C'.out.cell 3).trans rfl
        have c4 := (C'.out.cell 4).trans rfl
        have d0 := (D'.out.cell 0).trans rfl
        have d1 := (D'.out.cell 1).trans rfl
        have d2 := (D'.out.cell 2).trans rfl
        have d3 := (D'.out.cell 3).trans rfl
        have d4 := (D'.out.cell 4).trans rfl
        have B := Lib.hid B'.out
        have N := Lib.hid N'.out
        have C := Lib.hid C'.out
        have D := Lib.hid D'.out
        clear B' N' C' D'
        go_wp2_with fail
        refine (HNU.out _ (HG.out _ B.out).errs).mono ?_
        rintro e w' ⟨rfl, hb⟩
        have B' := Lib.hid (B.out.trans (hb.mono B.out.size))
        have N' := Lib.hid (N.out.below hb N.out.lt)
        have C' := Lib.hid (C.out.below hb C.out.lt)
        have D' := Lib.hid (D.out.below hb D.out.lt)
        clear hb B N C D n0 n1 n2 n3 n4 c0 c1 c2 c3 c4 d0 d1 d2 d3 d4
        have n0 := (N'.out.cell 0).trans rfl
        have n1 := (N'.out.cell 1).trans rfl
        have n2 := (N'.out.cell 2).trans rfl
        have n3 := (N'.out.cell 3).trans rfl
        have n4 := (N'.out.cell 4).trans rfl
        have c0 := (C'.out.cell 0).trans rfl
        have c1 := (C'.out.cell 1).trans rfl
        have c2 := (C'.out.cell 2).trans rfl
        have c3 := (C'.out.cell 3).trans rfl
        have c4 := (C'.out.cell 4).trans rfl
        have d0 := (D'.out.cell 0).trans rfl
        have d1 := (D'.out.cell 1).trans rfl
        have d2 := (D'.out.cell 2).trans rfl
        have d3 := (D'.out.cell 3).trans rfl
        have d4 := (D'.out.cell 4).trans rfl
        have B := Lib.hid B'.out
        have N := Lib.hid N'.out
        have C := Lib.hid C'.out
        have D := Lib.hid D'.out
        clear B' N' C' D'
        go_wp2_with fail
        refine (HEN0.out _ (HG.out _ B.out)).mono ?_
        rintro e w' ⟨v9, rfl, ho, hb⟩
        have hyt := owns_byt ho
        obtain ⟨p9, c9, rfl, _, _, _⟩ := id hyt
        have s1 := str_of hyt
        have B' := Lib.hid (B.out.trans (hb.mono B.out.size))
        have s2 := str_of (HYR.out.keep (Below.keeps B'.out))
        clear hb B ho hyt
        go_wp2_with fail
        go_ret
        exact ⟨rfl, B'.out⟩
      · have k1 : ((decCE b : Int) == 0) = false := by rw [beq_eq_false_iff_ne]; omega
        have k2 : ((decCE b : Int) != 0) = true := by rw [bne_iff_ne]; omega
        clear HENB HEQB HENQ he
        generalize decCE b = q at *
        generalize errV E q = evq at *
        generalize decCC b = m at *
        obtain ⟨z1, z2, z3, z4, z5⟩ := m
        have HSX := Lib.hid (fun w' => rsame_any z1 z2 z3 z4 z1 z2 z3 z4 z5 z5 hx hx w')
        rw [hrf] at HSX
        unfold ctxV ctxA at HDR HRR
        simp only at HDR HRR
        clear hrf hx
        have B := Lib.hid (below_alloc1 w (.cells #[.int .i64 a1, .int .i64 a2, .int .i64 a3, .int .i64 a4, .float .f64 a5] 26))
        have N := Lib.hid (Blk.new w 26 #[.int .i64 a1, .int .i64 a2, .int .i64 a3, .int .i64 a4, .float .f64 a5])
        have n0 := (N.out.cell 0).trans rfl
        have n1 := (N.out.cell 1).trans rfl
        have n2 := (N.out.cell 2).trans rfl
        have n3 := (N.out.cell 3).trans rfl
        have n4 := (N.out.cell 4).trans rfl
        go_enter Tryz.func3, Tryz.ntmps3
        go_wp2_with fail
        refine (HAL.out _ (HG.out _ B.out)).mono ?_
        rintro e w' ⟨rfl, hb⟩
        have B' := Lib.hid (B.out.trans (hb.mono B.out.size))
        have N' := Lib.hid (N.out.below hb N.out.lt)
        clear hb B N n0 n1 n2 n3 n4
        have n0 := (N'.out.cell 0).trans rfl
        have n1 := (N'.out.cell 1).trans rfl
        have n2 := (N'.out.cell 2).trans rfl
        have n3 := (N'.out.cell 3).trans rfl
        have n4 := (N'.out.cell 4).trans rfl
        have B := Lib.hid B'.out
        have N := Lib.hid N'.out
        clear B' N'
        go_wp2_with fail
        refine (HEN.out _ (HG.out _ B.out)).mono ?_
        rintro e w' ⟨v, rfl, ho, hb⟩
        have hyt := owns_byt ho
        obtain ⟨p, c, rfl, _, _, _⟩ := id hyt
        have Y := Lib.hid hyt
        clear ho hyt
        have B' := Lib.hid (B.out.trans (hb.mono B.out.size))
        have N' := Lib.hid (N.out.below hb N.out.lt)
        clear hb B N n0 n1 n2 n3 n4
        have n0 := (N'.out.cell 0).trans rfl
        have n1 := (N'.out.cell 1).trans rfl
        have n2 := (N'.out.cell 2).trans rfl
        have n3 := (N'.out.cell 3).trans rfl
        have n4 := (N'.out.cell 4).trans rfl
        have B := Lib.hid B'.out
        have N := Lib.hid N'.out
        clear B' N'
        go_wp2_with fail
        refine (HRI.out _).mono ?_
        rintro e w' ⟨rfl, hb⟩
        have B' := Lib.hid (B.out.trans (hb.mono B.out.size))
        have N' := Lib.hid (N.out.below hb N.out.lt)
        clear hb B N n0 n1 n2 n3 n4
        have n0 := (N'.out.cell 0).trans rfl
        have n1 := (N'.out.cell 1).trans rfl
        have n2 := (N'.out.cell 2).trans rfl
        have n3 := (N'.out.cell 3).trans rfl
        have n4 := (N'.out.cell 4).trans rfl
        have B := Lib.hid B'.out
        have N := Lib.hid N'.out
        clear B' N'
        go_wp2_with fail
        refine (HN4.out _ (HG.out _ B.out).errs).mono ?_
        rintro e w' ⟨rfl, hb⟩
        have B' := Lib.hid (B.out.trans (hb.mono B.out.size))
        have N' := Lib.hid (N.out.below hb N.out.lt)
        clear hb B N n0 n1 n2 n3 n4
        have n0 := (N'.out.cell 0).trans rfl
        have n1 := (N'.out.cell 1).trans rfl
        have n2 := (N'.out.cell 2).trans rfl
        have n3 := (N'.out.cell 3).trans rfl
        have n4 := (N'.out.cell 4).trans rfl
        have B := Lib.hid B'.out
        have N := Lib.hid N'.out
        clear B' N'
        go_wp2_with fail
        refine (HDR.out _ _ (HG.out _ B.out) (HYR.out.keep (Below.keeps B.out))).mono ?_
        rintro e w' ⟨rfl, hb⟩
        have B' := Lib.hid (B.out.trans (hb.mono B.out.size))
        have N' := Lib.hid (N.out.below hb N.out.lt)
        clear hb B N n0 n1 n2 n3 n4
        have n0 := (N'.out.cell 0).trans rfl
        have n1 := (N'.out.cell 1).trans rfl
        have n2 := (N'.out.cell 2).trans rfl
        have n3 := (N'.out.cell 3).trans rfl
        have n4 := (N'.out.cell 4).trans rfl
        have B := Lib.hid B'.out
        have N := Lib.hid N'.out
        clear B' N'
        have M := Lib.hid (Blk.new w' 26 #[.int .i64 0, .int .i64 0, .int .i64 0, .int .i64 0, .float .f64 0])
        have N' := Lib.hid (N.out.alloc (.cells #[.int .i64 0, .int .i64 0, .int .i64 0, .int .i64 0, .float .f64 0] 26))
        have B' := Lib.hid (below_alloc B.out (.cells #[.int .i64 0, .int .i64 0, .int .i64 0, .int .i64 0, .float .f64 0] 26))
        go_wp2_with (refine wpList_store (.tmp 9) (.tmp 62) 26 rfl rfl w'.heap.size 0 _ _ #[.int .i64 z1, .int .i64 z2, .int .i64 z3, .int .i64 z4, .float .f64 z5] rfl rfl M.out (by kernel_rfl) (by simp [Value.oneCell']) (by simp) ?_)
        intro w7 hn7 ko7
        have h7 : Blk w7 w'.heap.size 26 #[.int .i64 z1, .int .i64 z2, .int .i64 z3, .int .i64 z4, .float .f64 z5] := hn7
        have B7 := Lib.hid (B'.out.trans (ko7.below B.out.size))
        have N7 := Lib.hid (ko7.blk N'.out (Nat.ne_of_lt N.out.lt))
        have H7 := Lib.hid h7
        clear hn7 ko7 h7 M B' B N' N n0 n1 n2 n3 n4
        generalize w'.heap.size = gc at *
        have n0 := (N7.out.cell 0).trans rfl
        have n1 := (N7.out.cell 1).trans rfl
        have n2 := (N7.out.cell 2).trans rfl
        have n3 := (N7.out.cell 3).trans rfl
        have n4 := (N7.out.cell 4).trans rfl
        have c0 := (H7.out.cell 0).trans rfl
        have c1 := (H7.out.cell 1).trans rfl
        have c2 := (H7.out.cell 2).trans rfl
        have c3 := (H7.out.cell 3).trans rfl
        have c4 := (H7.out.cell 4).trans rfl
        have B := Lib.hid B7.out
        have N := Lib.hid N7.out
        have C := Lib.hid H7.out
        clear B7 H7 N7
        go_wp2_with fail
        refine (HRR.out _ (HYR.out.keep (Below.keeps B.out))).mono ?_
        rintro e w' ⟨rfl, hb⟩
        have B' := Lib.hid (B.out.trans (hb.mono B.out.size))
        have N' := Lib.hid (N.out.below hb N.out.lt)
        have C' := Lib.hid (C.out.below hb C.out.lt)
        clear hb B N C n0 n1 n2 n3 n4 c0 c1 c2 c3 c4
        have n0 := (N'.out.cell 0).trans rfl
        have n1 := (N'.out.cell 1).trans rfl
        have n2 := (N'.out.cell 2).trans rfl
        have n3 := (N'.out.cell 3).trans rfl
        have n4 := (N'.out.cell 4).trans rfl
        have c0 := (C'.out.cell 0).trans rfl
        have c1 := (C'.out.cell 1).trans rfl
        have c2 := (C'.out.cell 2).trans rfl
        have c3 := (C'.out.cell 3).trans rfl
        have c4 := (C'.out.cell 4).trans rfl
        have B := Lib.hid B'.out
        have N := Lib.hid N'.out
        have C := Lib.hid C'.out
        clear B' N' C'
        have M := Lib.hid (Blk.new w' 26 #[.int .i64 0, .int .i64 0, .int .i64 0, .int .i64 0, .float .f64 0])
        have N' := Lib.hid (N.out.alloc (.cells #[.int .i64 0, .int .i64 0, .int .i64 0, .int .i64 0, .float .f64 0] 26))
        have C' := Lib.hid (C.out.alloc (.cells #[.int .i64 0, .int .i64 0, .int .i64 0, .int .i64 0, .float .f64 0] 26))
        have B' := Lib.hid (below_alloc B.out (.cells #[.int .i64 0, .int .i64 0, .int .i64 0, .int .i64 0, .float .f64 0] 26))
        go_wp2_with (refine wpList_store (.tmp 10) (.tmp 67) 26 rfl rfl w'.heap.size 0 _ _ #[.int .i64 z1, .int .i64 z2, .int .i64 z3, .int .i64 z4, .float .f64 z5] rfl rfl M.out (by kernel_rfl) (by simp [Value.oneCell']) (by simp) ?_)
        intro w7 hn7 ko7
        have h7 : Blk w7 w'.heap.size 26 #[.int .i64 z1, .int .i64 z2, .int .i64 z3, .int .i64 z4, .float .f64 z5] := hn7
        have B7 := Lib.hid (B'.out.trans (ko7.below B.out.size))
        have N7 := Lib.hid (ko7.blk N'.out (Nat.ne_of_lt N.out.lt))
        have C7 := Lib.hid (ko7.blk C'.out (Nat.ne_of_lt C.out.lt))
        have H7 := Lib.hid h7
        clear hn7 ko7 h7 M B' B N' C' N C n0 n1 n2 n3 n4 c0 c1 c2 c3 c4
        generalize w'.heap.size = gd at *
        have n0 := (N7.out.cell 0).trans rfl
        have n1 := (N7.out.cell 1).trans rfl
        have n2 := (N7.out.cell 2).trans rfl
        have n3 := (N7.out.cell 3).trans rfl
        have n4 := (N7.out.cell 4).trans rfl
        have c0 := (C7.out.cell 0).trans rfl
        have c1 := (C7.out.cell 1).trans rfl
        have c2 := (C7.out.cell 2).trans rfl
        have c3 := (C7.out.cell 3).trans rfl
        have c4 := (C7.out.cell 4).trans rfl
        have d0 := (H7.out.cell 0).trans rfl
        have d1 := (H7.out.cell 1).trans rfl
        have d2 := (H7.out.cell 2).trans rfl
        have d3 := (H7.out.cell 3).trans rfl
        have d4 := (H7.out.cell 4).trans rfl
        have B := Lib.hid B7.out
        have N := Lib.hid N7.out
        have C := Lib.hid C7.out
        have D := Lib.hid H7.out
        clear B7 H7 N7 C7
        go_wp2_with fail
        refine (HSX.out _).mono ?_
        rintro e w' ⟨rfl, hb⟩
        have B' := Lib.hid (B.out.trans (hb.mono B.out.size))
        have N' := Lib.hid (N.out.below hb N.out.lt)
        have C' := Lib.hid (C.out.below hb C.out.lt)
        have D' := Lib.hid (D.out.below hb D.out.lt)
        clear hb B N C D n0 n1 n2 n3 n4 c0 c1 c2 c3 c4 d0 d1 d2 d3 d4
        have n0 := (N'.out.cell 0).trans rfl
        have n1 := (N'.out.cell 1).trans rfl
        have n2 := (N'.out.cell 2).trans rfl
        have n3 := (N'.out.cell 3).trans rfl
        have n4 := (N'.out.cell 4).trans rfl
        have c0 := (C'.out.cell 0).trans rfl
        have c1 := (C'.out.cell 1).trans rfl
        have c2 := (C'.out.cell 2).trans rfl
        have c3 := (C'.out.cell 3).trans rfl
        have c4 := (C'.out.cell 4).trans rfl
        have d0 := (D'.out.cell 0).trans rfl
        have d1 := (D'.out.cell 1).trans rfl
        have d2 := (D'.out.cell 2).trans rfl
        have d3 := (D'.out.cell 3).trans rfl
        have d4 := (D'.out.cell 4).trans rfl
        have B := Lib.hid B'.out
        have N := Lib.hid N'.out
        have C := Lib.hid C'.out
        have D := Lib.hid D'.out
        clear B' N' C' D'
        go_wp2_with fail
        refine (HNU.out _ (HG.out _ B.out).errs).mono ?_
        rintro e w' ⟨rfl, hb⟩
        have B' := Lib.hid (B.out.trans (hb.mono B.out.size))
        have N' := Lib.hid (N.out.below hb N.out.lt)
        have C' := Lib.hid (C.out.below hb C.out.lt)
        have D' := Lib.hid (D.out.below hb D.out.lt)
        clear hb B N C D n0 n1 n2 n3 n4 c0 c1 c2 c3 c4 d0 d1 d2 d3 d4
        have n0 := (N'.out.cell 0).trans rfl
        have n1 := (N'.out.cell 1).trans rfl
        have n2 := (N'.out.cell 2).trans rfl
        have n3 := (N'.out.cell 3).trans rfl
        have n4 := (N'.out.cell 4).trans rfl
        have c0 := (C'.out.cell 0).trans rfl
        have c1 := (C'.out.cell 1).trans rfl
        have c2 := (C'.out.cell 2).trans rfl
        have c3 := (C'.out.cell 3).trans rfl
        have c4 := (C'.out.cell 4).trans rfl
        have d0 := (D'.out.cell 0).trans rfl
        have d1 := (D'.out.cell 1).trans rfl
        have d2 := (D'.out.cell 2).trans rfl
        have d3 := (D'.out.cell 3).trans rfl
        have d4 := (D'.out.cell 4).trans rfl
        have B := Lib.hid B'.out
        have N := Lib.hid N'.out
        have C := Lib.hid C'.out
        have D := Lib.hid D'.out
        clear B' N' C' D'
        go_wp2_with fail
        go_ret
        exact ⟨rfl, B.out⟩
    · have HDE := Lib.hid (decC_encC hr)
      have HRE := Lib.hid (fun w' => refencode_any a hr w')
      have HDC := Lib.hid (fun v w' h hy => decode_any (encCL a) v w' E h hy)
      have HSS := Lib.hid (fun w' => ssame_any a.n a.s a.o a.d a.n a.s a.o a.d a.x a.x ha.2.2.2.2 ha.2.2.2.2 w')
      rw [show sameC ⟨a.n, a.s, a.o, a.d, a.x⟩ ⟨a.n, a.s, a.o, a.d, a.x⟩ = true from sameC_refl a] at HSS
      have he0 : encCE a = 0 := by unfold encCE; rw [hr]; rfl
      rw [show rightC ⟨a.n, a.s, a.o, a.d, a.x⟩ = true from hr] at HRI
      rw [HDE.out.1, HDE.out.2] at HDC
      simp only [he0, errV_zero] at HEN HDC
      clear he0 hr ha HDE HN4
      generalize encCL a = l at *
      unfold ctxV ctxA at HEN HRE HDC ⊢
      obtain ⟨a1, a2, a3, a4, a5⟩ := a
      simp only at HEN HRI HRE HDC HSS ⊢
      by_cases he : decCE b = 0
      · have HEN0 := Lib.hid (HENB.out he)
        rw [HENQ.out he, (HEQB.out he).2] at HEN0
        rw [he] at HDR HRR HNU
        simp only [errV_zero] at HEN0 HDR HNU
        clear HENB HEQB HENQ he
        generalize decCC b = m at *
        obtain ⟨z1, z2, z3, z4, z5⟩ := m
        have HSX := Lib.hid (fun w' => rsame_any z1 z2 z3 z4 z1 z2 z3 z4 z5 z5 hx hx w')
        rw [hrf] at HSX
        unfold ctxV ctxA at HDR HRR HEN0
        simp only at HDR HRR HEN0
        clear hrf hx
        have B := Lib.hid (below_alloc1 w (.cells #[.int .i64 a1, .int .i64 a2, .int .i64 a3, .int .i64 a4, .float .f64 a5] 26))
        have N := Lib.hid (Blk.new w 26 #[.int .i64 a1, .int .i64 a2, .int .i64 a3, .int .i64 a4, .float .f64 a5])
        have n0 := (N.out.cell 0).trans rfl
        have n1 := (N.out.cell 1).trans rfl
        have n2 := (N.out.cell 2).trans rfl
        have n3 := (N.out.cell 3).trans rfl
        have n4 := (N.out.cell 4).trans rfl
        go_enter Tryz.func3, Tryz.ntmps3
        go_wp2_with fail
        refine (HAL.out _ (HG.out _ B.out)).mono ?_
        rintro e w' ⟨rfl, hb⟩
        have B' := Lib.hid (B.out.trans (hb.mono B.out.size))
        have N' := Lib.hid (N.out.below hb N.out.lt)
        clear hb B N n0 n1 n2 n3 n4
        have n0 := (N'.out.cell 0).trans rfl
        have n1 := (N'.out.cell 1).trans rfl
        have n2 := (N'.out.cell 2).trans rfl
        have n3 := (N'.out.cell 3).trans rfl
        have n4 := (N'.out.cell 4).trans rfl
        have B := Lib.hid B'.out
        have N := Lib.hid N'.out
        clear B' N'
        go_wp2_with fail
        refine (HEN.out _ (HG.out _ B.out)).mono ?_
        rintro e w' ⟨v, rfl, ho, hb⟩
        have hyt := owns_byt ho
        obtain ⟨p, c, rfl, _, _, _⟩ := id hyt
        have Y := Lib.hid hyt
        clear ho hyt
        have B' := Lib.hid (B.out.trans (hb.mono B.out.size))
        have N' := Lib.hid (N.out.below hb N.out.lt)
        clear hb B N n0 n1 n2 n3 n4
        have n0 := (N'.out.cell 0).trans rfl
        have n1 := (N'.out.cell 1).trans rfl
        have n2 := (N'.out.cell 2).trans rfl
        have n3 := (N'.out.cell 3).trans rfl
        have n4 := (N'.out.cell 4).trans rfl
        have B := Lib.hid B'.out
        have N := Lib.hid N'.out
        clear B' N'
        go_wp2_with fail
        refine (HRI.out _).mono ?_
        rintro e w' ⟨rfl, hb⟩
        have B' := Lib.hid (B.out.trans (hb.mono B.out.size))
        have N' := Lib.hid (N.out.below hb N.out.lt)
        have Y' := Lib.hid (Y.out.keep (Below.keeps hb))
        clear hb B N Y n0 n1 n2 n3 n4
        have n0 := (N'.out.cell 0).trans rfl
        have n1 := (N'.out.cell 1).trans rfl
        have n2 := (N'.out.cell 2).trans rfl
        have n3 := (N'.out.cell 3).trans rfl
        have n4 := (N'.out.cell 4).trans rfl
        have B := Lib.hid B'.out
        have N := Lib.hid N'.out
        have Y := Lib.hid Y'.out
        clear B' N' Y'
        go_wp2_with fail
        refine (HDC.out _ _ (HG.out _ B.out) Y.out).mono ?_
        rintro e w' ⟨rfl, hb⟩
        have B' := Lib.hid (B.out.trans (hb.mono B.out.size))
        have N' := Lib.hid (N.out.below hb N.out.lt)
        have Y' := Lib.hid (Y.out.keep (Below.keeps hb))
        clear hb B N Y n0 n1 n2 n3 n4
        have n0 := (N'.out.cell 0).trans rfl
        have n1 := (N'.out.cell 1).trans rfl
        have n2 := (N'.out.cell 2).trans rfl
        have n3 := (N'.out.cell 3).trans rfl
        have n4 := (N'.out.cell 4).trans rfl
        have B := Lib.hid B'.out
        have N := Lib.hid N'.out
        have Y := Lib.hid Y'.out
        clear B' N' Y'
        have M := Lib.hid (Blk.new w' 26 #[.int .i64 0, .int .i64 0, .int .i64 0, .int .i64 0, .float .f64 0])
        have N' := Lib.hid (N.out.alloc (.cells #[.int .i64 0, .int .i64 0, .int .i64 0, .int .i64 0, .float .f64 0] 26))
        have B' := Lib.hid (below_alloc B.out (.cells #[.int .i64 0, .int .i64 0, .int .i64 0, .int .i64 0, .float .f64 0] 26))
        go_wp2_with (refine wpList_store (.tmp 7) (.tmp 37) 26 rfl rfl w'.heap.size 0 _ _ #[.int .i64 a1, .int .i64 a2, .int .i64 a3, .int .i64 a4, .float .f64 a5] rfl rfl M.out (by kernel_rfl) (by simp [Value.oneCell']) (by simp) ?_)
        intro w7 hn7 ko7
        have h7 : Blk w7 w'.heap.size 26 #[.int .i64 a1, .int .i64 a2, .int .i64 a3, .int .i64 a4, .float .f64 a5] := hn7
        have B7 := Lib.hid (B'.out.trans (ko7.below B.out.size))
        have N7 := Lib.hid (ko7.blk N'.out (Nat.ne_of_lt N.out.lt))
        have Y7 := Lib.hid (Y.out.keep (Below.keeps ((below_alloc1 w' (.cells #[.int .i64 0, .int .i64 0, .int .i64 0, .int .i64 0, .float .f64 0] 26)).trans (ko7.below (Nat.le_refl _)))))
        have H7 := Lib.hid h7
        clear hn7 ko7 h7 M B' B N' N Y n0 n1 n2 n3 n4
        generalize w'.heap.size = gp at *
        have n0 := (N7.out.cell 0).trans rfl
        have n1 := (N7.out.cell 1).trans rfl
        have n2 := (N7.out.cell 2).trans rfl
        have n3 := (N7.out.cell 3).trans rfl
        have n4 := (N7.out.cell 4).trans rfl
        have p0 := (H7.out.cell 0).trans rfl
        have p1 := (H7.out.cell 1).trans rfl
        have p2 := (H7.out.cell 2).trans rfl
        have p3 := (H7.out.cell 3).trans rfl
        have p4 := (H7.out.cell 4).trans rfl
        have B := Lib.hid B7.out
        have N := Lib.hid N7.out
        have Y := Lib.hid Y7.out
        have P := Lib.hid H7.out
        clear B7 H7 N7 Y7
        go_wp2_with fail
        refine wp_phi (fun wq => Below w.heap.size w wq ∧ Blk wq w.heap.size 26 #[.int .i64 a1, .int .i64 a2, .int .i64 a3, .int .i64 a4, .float .f64 a5] ∧ Blk wq gp 26 #[.int .i64 a1, .int .i64 a2, .int .i64 a3, .int .i64 a4, .float .f64 a5] ∧ Byt wq (.slice p l.length c) l) [(6, PByt l), (7, PVal (.string (bs l))), (17, PVal (.bool true))] [(7, [6])] (by kernel_rfl) (by kernel_rfl) ?_ ?_ ⟨B.out.drew, N.out, P.out, Y.out.keep (fun _ _ h => h)⟩ ?_
        · rintro w1 w2 ⟨a1, a2, a3, a4⟩ hb
          exact ⟨a1.trans (hb.mono a1.size), a2.below hb a2.lt, a3.below hb a3.lt, a4.keep (Below.keeps hb)⟩
        · simp only [List.mem_cons, List.not_mem_nil, or_false, forall_eq_or_imp, forall_eq]
          exact ⟨fun w w' v _ hb h => PByt_stays _ w w' v hb h, fun _ _ _ _ _ h => h, fun _ _ _ _ _ h => h⟩
        repeat (first | (refine phi_skipK rfl (fun K hK => ?_); simp only [Act.put, List.setIfInBounds_toArray, List.set_cons_succ, List.set_cons_zero]; (try simp only [List.cons_append]); (try simp only [List.nil_append]); apply hK; clear hK K) | (refine phi_pureK rfl rfl (fun K hK => ?_); apply Exists.intro; constructor; (focus (rintro w' ⟨h0, hN, hC, hY⟩; (have k0 := (hN.cell 0).trans rfl; have l0 := (hC.cell 0).trans rfl; have k1 := (hN.cell 1).trans rfl; have l1 := (hC.cell 1).trans rfl; have k2 := (hN.cell 2).trans rfl; have l2 := (hC.cell 2).trans rfl; have k3 := (hN.cell 3).trans rfl; have l3 := (hC.cell 3).trans rfl; have k4 := (hN.cell 4).trans rfl; have l4 := (hC.cell 4).trans rfl; have s1 := str_of hY; clear h0 hN hC hY); first | (go_simp; done) | (go_simp; (try go_bits); (try go_simp); rfl) | go_simp)); simp only [Act.put, List.setIfInBounds_toArray, List.set_cons_succ, List.set_cons_zero]; (try simp only [List.cons_append]); (try simp only [List.nil_append]); apply hK; clear hK K))
        refine phi_partK (PByt l) rfl rfl ⟨_, none, 0, rfl⟩ ?_ (fun K hK v hv => ?_)
        · rintro wq ⟨h0, hN, hC, hY⟩ _
          unfold gives
          go_simp
          refine (HRE.out _).mono ?_
          rintro e w'' ⟨p', c', rfl, hy, hb⟩
          exact ⟨_, rfl, ⟨_, _, rfl⟩, hy, hb⟩
        obtain ⟨p', c', rfl⟩ := hv
        simp only [Act.put, List.setIfInBounds_toArray, List.set_cons_succ, List.set_cons_zero]; (try simp only [List.cons_append]); (try simp only [List.nil_append])
        apply hK
        clear hK K
        refine phi_partK (PVal (.string (bs l))) rfl rfl ⟨_, rfl⟩ ?_ (fun K hK v hv => ?_)
        · rintro wq ⟨h0, hN, hC, hY⟩ hf
          have hby : Byt wq _ l := hf (6, fun w => (PByt l).fact w (.slice p' l.length c')) (by simp) (List.contains_iff_mem.1 rfl)
          have hs := str_of hby
          clear hf hby
          unfold gives
          go_simp
          exact ⟨rfl, trivial, Below.refl _ _⟩
        obtain rfl : v = _ := hv
        simp only [Act.put, List.setIfInBounds_toArray, List.set_cons_succ, List.set_cons_zero]; (try simp only [List.cons_append]); (try simp only [List.nil_append])
        apply hK
        clear hK K
        repeat (first | (refine phi_skipK rfl (fun K hK => ?_); simp only [Act.put, List.setIfInBounds_toArray, List.set_cons_succ, List.set_cons_zero]; (try simp only [List.cons_append]); (try simp only [List.nil_append]); apply hK; clear hK K) | (refine phi_pureK rfl rfl (fun K hK => ?_); apply Exists.intro; constructor; (focus (rintro w' ⟨h0, hN, hC, hY⟩; (have k0 := (hN.cell 0).trans rfl; have l0 := (hC.cell 0).trans rfl; have k1 := (hN.cell 1).trans rfl; have l1 := (hC.cell 1).trans rfl; have k2 := (hN.cell 2).trans rfl; have l2 := (hC.cell 2).trans rfl; have k3 := (hN.cell 3).trans rfl; have l3 := (hC.cell 3).trans rfl; have k4 := (hN.cell 4).trans rfl; have l4 := (hC.cell 4).trans rfl; have s1 := str_of hY; clear h0 hN hC hY); first | (go_simp; done) | (go_simp; (try go_bits); (try go_simp); rfl) | go_simp)); simp only [Act.put, List.setIfInBounds_toArray, List.set_cons_succ, List.set_cons_zero]; (try simp only [List.cons_append]); (try simp only [List.nil_append]); apply hK; clear hK K))
        refine phi_partK (PVal (.bool true)) rfl rfl ⟨_, rfl⟩ ?_ (fun K hK v hv => ?_)
        · rintro wq ⟨h0, hN, hC, hY⟩ _
          unfold gives
          go_simp
          refine (HSS.out _).mono ?_
          rintro e w'' ⟨rfl, hb⟩
          exact ⟨_, rfl, rfl, trivial, hb⟩
        obtain rfl : v = _ := hv
        simp only [Act.put, List.setIfInBounds_toArray, List.set_cons_succ, List.set_cons_zero]; (try simp only [List.cons_append]); (try simp only [List.nil_append])
        apply hK
        clear hK K
        repeat (first | (refine phi_skipK rfl (fun K hK => ?_); simp only [Act.put, List.setIfInBounds_toArray, List.set_cons_succ, List.set_cons_zero]; (try simp only [List.cons_append]); (try simp only [List.nil_append]); apply hK; clear hK K) | (refine phi_pureK rfl rfl (fun K hK => ?_); apply Exists.intro; constructor; (focus (rintro w' ⟨h0, hN, hC, hY⟩; (have k0 := (hN.cell 0).trans rfl; have l0 := (hC.cell 0).trans rfl; have k1 := (hN.cell 1).trans rfl; have l1 := (hC.cell 1).trans rfl; have k2 := (hN.cell 2).trans rfl; have l2 := (hC.cell 2).trans rfl; have k3 := (hN.cell 3).trans rfl; have l3 := (hC.cell 3).trans rfl; have k4 := (hN.cell 4).trans rfl; have l4 := (hC.cell 4).trans rfl; have s1 := str_of hY; clear h0 hN hC hY); first | (go_simp; done) | (go_simp; (try go_bits); (try go_simp); rfl) | go_simp)); simp only [Act.put, List.setIfInBounds_toArray, List.set_cons_succ, List.set_cons_zero]; (try simp only [List.cons_append]); (try simp only [List.nil_append]); apply hK; clear hK K))
        refine phi_done ?_
        rintro w' ⟨hb, hN, _⟩ _
        have B' := Lib.hid hb
        have N' := Lib.hid hN
        clear hb hN B N P Y n0 n1 n2 n3 n4 p0 p1 p2 p3 p4
        have B := Lib.hid B'.out
        have N := Lib.hid N'.out
        clear B' N'
        have n0 := (N.out.cell 0).trans rfl
        have n1 := (N.out.cell 1).trans rfl
        have n2 := (N.out.cell 2).trans rfl
        have n3 := (N.out.cell 3).trans rfl
        have n4 := (N.out.cell 4).trans rfl
        refine wpList_nil ?_
        go_wp2_with fail
        refine (HDR.out _ _ (HG.out _ B.out) (HYR.out.keep (Below.keeps B.out))).mono ?_
        rintro e w' ⟨rfl, hb⟩
        have B' := Lib.hid (B.out.trans (hb.mono B.out.size))
        have N' := Lib.hid (N.out.below hb N.out.lt)
        clear hb B N n0 n1 n2 n3 n4
        have n0 := (N'.out.cell 0).trans rfl
        have n1 := (N'.out.cell 1).trans rfl
        have n2 := (N'.out.cell 2).trans rfl
        have n3 := (N'.out.cell 3).trans rfl
        have n4 := (N'.out.cell 4).trans rfl
        have B := Lib.hid B'.out
        have N := Lib.hid N'.out
        clear B' N'
        have M := Lib.hid (Blk.new w' 26 #[.int .i64 0, .int .i64 0, .int .i64 0, .int .i64 0, .float .f64 0])
        have N' := Lib.hid (N.out.alloc (.cells #[.int .i64 0, .int .i64 0, .int .i64 0, .int .i64 0, .float .f64 0] 26))
        have B' := Lib.hid (below_alloc B.out (.cells #[.int .i64 0, .int .i64 0, .int .i64 0, .int .i64 0, .float .f64 0] 26))
        go_wp2_with (refine wpList_store (.tmp 9) (.tmp 62) 26 rfl rfl w'.heap.size 0 _ _ #[.int .i64 z1, .int .i64 z2, .int .i64 z3, .int .i64 z4, .float .f64 z5] rfl rfl M.out (by kernel_rfl) (by simp [Value.oneCell']) (by simp) ?_)
        intro w7 hn7 ko7
        have h7 : Blk w7 w'.heap.size 26 #[.int .i64 z1, .int .i64 z2, .int .i64 z3, .int .i64 z4, .float .f64 z5] := hn7
        have B7 := Lib.hid (B'.out.trans (ko7.below B.out.size))
        have N7 := Lib.hid (ko7.blk N'.out (Nat.ne_of_lt N.out.lt))
        have H7 := Lib.hid h7
        clear hn7 ko7 h7 M B' B N' N n0 n1 n2 n3 n4
        generalize w'.heap.size = gc at *
        have n0 := (N7.out.cell 0).trans rfl
        have n1 := (N7.out.cell 1).trans rfl
        have n2 := (N7.out.cell 2).trans rfl
        have n3 := (N7.out.cell 3).trans rfl
        have n4 := (N7.out.cell 4).trans rfl
        have c0 := (H7.out.cell 0).trans rfl
        have c1 := (H7.out.cell 1).trans rfl
        have c2 := (H7.out.cell 2).trans rfl
        have c3 := (H7.out.cell 3).trans rfl
        have c4 := (H7.out.cell 4).trans rfl
        have B := Lib.hid B7.out
        have N := Lib.hid N7.out
        have C := Lib.hid H7.out
        clear B7 H7 N7
        go_wp2_with fail
        refine (HRR.out _ (HYR.out.keep (Below.keeps B.out))).mono ?_
        rintro e w' ⟨rfl, hb⟩
        have B' := Lib.hid (B.out.trans (hb.mono B.out.size))
        have N' := Lib.hid (N.out.below hb N.out.lt)
        have C' := Lib.hid (C.out.below hb C.out.lt)
        clear hb B N C n0 n1 n2 n3 n4 c0 c1 c2 c3 c4
        have n0 := (N'.out.cell 0).trans rfl
        have n1 := (N'.out.cell 1).trans rfl
        have n2 := (N'.out.cell 2).trans rfl
        have n3 := (N'.out.cell 3).trans rfl
        have n4 := (N'.out.cell 4).trans rfl
        have c0 := (C'.out.cell 0).trans rfl
        have c1 := (C'.out.cell 1).trans rfl
        have c2 := (C'.out.cell 2).trans rfl
        have c3 := (C'.out.cell 3).trans rfl
        have c4 := (C'.out.cell 4).trans rfl
        have B := Lib.hid B'.out
        have N := Lib.hid N'.out
        have C := Lib.hid C'.out
        clear B' N' C'
        have M := Lib.hid (Blk.new w' 26 #[.int .i64 0, .int .i64 0, .int .i64 0, .int .i64 0, .float .f64 0])
        have N' := Lib.hid (N.out.alloc (.cells #[.int .i64 0, .int .i64 0, .int .i64 0, .int .i64 0, .float .f64 0] 26))
        have C' := Lib.hid (C.out.alloc (.cells #[.int .i64 0, .int .i64 0, .int .i64 0, .int .i64 0, .float .f64 0] 26))
        have B' := Lib.hid (below_alloc B.out (.cells #[.int .i64 0, .int .i64 0, .int .i64 0, .int .i64 0, .float .f64 0] 26))
        go_wp2_with (refine wpList_store (.tmp 10) (.tmp 67) 26 rfl rfl w'.heap.size 0 _ _ #[.int .i64 z1, .int .i64 z2, .int .i64 z3, .int .i64 z4, .float .f64 z5] rfl rfl M.out (by kernel_rfl) (by simp [Value.oneCell']) (by simp) ?_)
        intro w7 hn7 ko7
        have h7 : Blk w7 w'.heap.size 26 #[.int .i64 z1, .int .i64 z2, .int .i64 z3, .int .i64 z4, .float .f64 z5] := hn7
        have B7 := Lib.hid (B'.out.trans (ko7.below B.out.size))
        have N7 := Lib.hid (ko7.blk N'.out (Nat.ne_of_lt N.out.lt))
        have C7 := Lib.hid (ko7.blk C'.out (Nat.ne_of_lt C.out.lt))
        have H7 := Lib.hid h7
        clear hn7 ko7 h7 M B' B N' C' N C n0 n1 n2 n3 n4 c0 c1 c2 c3 c4
        generalize w'.heap.size = gd at *
        have n0 := (N7.out.cell 0).trans rfl
        have n1 := (N7.out.cell 1).trans rfl
        have n2 := (N7.out.cell 2).trans rfl
        have n3 := (N7.out.cell 3).trans rfl
        have n4 := (N7.out.cell 4).trans rfl
        have c0 := (C7.out.cell 0).trans rfl
        have c1 := (C7.out.cell 1).trans rfl
        have c2 := (C7.out.cell 2).trans rfl
        have c3 := (C7.out.cell 3).trans rfl
        have c4 := (C7.out.cell 4).trans rfl
        have d0 := (H7.out.cell 0).trans rfl
        have d1 := (H7.out.cell 1).trans rfl
        have d2 := (H7.out.cell 2).trans rfl
        have d3 := (H7.out.cell 3).trans rfl
        have d4 := (H7.out.cell 4).trans rfl
        have B := Lib.hid B7.out
        have N := Lib.hid N7.out
        have C := Lib.hid C7.out
        have D := Lib.hid H7.out
        clear B7 H7 N7 C7
        go_wp2_with fail
        refine (HSX.out _).mono ?_
        rintro e w' ⟨rfl, hb⟩
        have B' := Lib.hid (B.out.trans (hb.mono B.out.size))
        have N' := Lib.hid (N.out.below hb N.out.lt)
        have C' := Lib.hid (C.out.below hb C.out.lt)
        have D' := Lib.hid (D.out.below hb D.out.lt)
        clear hb B N C D n0 n1 n2 n3 n4 c0 c1 c2 c3 c4 d0 d1 d2 d3 d4
        have n0 := (N'.out.cell 0).trans rfl
        have n1 := (N'.out.cell 1).trans rfl
        have n2 := (N'.out.cell 2).trans rfl
        have n3 := (N'.out.cell 3).trans rfl
        have n4 := (N'.out.cell 4).trans rfl
        have c0 := (C'.out.cell 0).trans rfl
        have c1 := (C'.out.cell 1).trans rfl
        have c2 := (C'.out.cell 2).trans rfl
        have c3 := (C'.out.cell 3).trans rfl
        have c4 := (C'.out.cell 4).trans rfl
        have d0 := (D'.out.cell 0).trans rfl
        have d1 := (D'.out.cell 1).trans rfl
        have d2 := (D'.out.cell 2).trans rfl
        have d3 := (D'.out.cell 3).trans rfl
        have d4 := (D'.out.cell 4).trans rfl
        have B := Lib.hid B'.out
        have N := Lib.hid N'.out
        have C := Lib.hid C'.out
        have D := Lib.hid D'.out
        clear B' N' C' D'
        go_wp2_with fail
        refine (HNU.out _ (HG.out _ B.out).errs).mono ?_
        rintro e w' ⟨rfl, hb⟩
        have B' := Lib.hid (B.out.trans (hb.mono B.out.size))
        have N' := Lib.hid (N.out.below hb N.out.lt)
        have C' := Lib.hid (C.out.below hb C.out.lt)
        have D' := Lib.hid (D.out.below hb D.out.lt)
        clear hb B N C D n0 n1 n2 n3 n4 c0 c1 c2 c3 c4 d0 d1 d2 d3 d4
        have n0 := (N'.out.cell 0).trans rfl
        have n1 := (N'.out.cell 1).trans rfl
        have n2 := (N'.out.cell 2).trans rfl
        have n3 := (N'.out.cell 3).trans rfl
        have n4 := (N'.out.cell 4).trans rfl
        have c0 := (C'.out.cell 0).trans rfl
        have c1 := (C'.out.cell 1).trans rfl
        have c2 := (C'.out.cell 2).trans rfl
        have c3 := (C'.out.cell 3).trans rfl
        have c4 := (C'.out.cell 4).trans rfl
        have d0 := (D'.out.cell 0).trans rfl
        have d1 := (D'.out.cell 1).trans rfl
        have d2 := (D'.out.cell 2).trans rfl
        have d3 := (D'.out.cell 3).trans rfl
        have d4 := (D'.out.cell 4).trans rfl
        have B := Lib.hid B'.out
        have N := Lib.hid N'.out
        have C := Lib.hid C'.out
        have D := Lib.hid D'.out
        clear B' N' C' D'
        go_wp2_with fail
        refine (HEN0.out _ (HG.out _ B.out)).mono ?_
        rintro e w' ⟨v9, rfl, ho, hb⟩
        have hyt := owns_byt ho
        obtain ⟨p9, c9, rfl, _, _, _⟩ := id hyt
        have s1 := str_of hyt
        have B' := Lib.hid (B.out.trans (hb.mono B.out.size))
        have s2 := str_of (HYR.out.keep (Below.keeps B'.out))
        clear hb B ho hyt
        go_wp2_with fail
        go_ret
        exact ⟨rfl, B'.out⟩
      · have k1 : ((decCE b : Int) == 0) = false := by rw [beq_eq_false_iff_ne]; omega
        have k2 : ((decCE b : Int) != 0) = true := by rw [bne_iff_ne]; omega
        clear HENB HEQB HENQ he
        generalize decCE b = q at *
        generalize errV E q = evq at *
        generalize decCC b = m at *
        obtain ⟨z1, z2, z3, z4, z5⟩ := m
        have HSX := Lib.hid (fun w' => rsame_any z1 z2 z3 z4 z1 z2 z3 z4 z5 z5 hx hx w')
        rw [hrf] at HSX
        unfold ctxV ctxA at HDR HRR
        simp only at HDR HRR
        clear hrf hx
        have B := Lib.hid (below_alloc1 w (.cells #[.int .i64 a1, .int .i64 a2, .int .i64 a3, .int .i64 a4, .float .f64 a5] 26))
        have N := Lib.hid (Blk.new w 26 #[.int .i64 a1, .int .i64 a2, .int .i64 a3, .int .i64 a4, .float .f64 a5])
        have n0 := (N.out.cell 0).trans rfl
        have n1 := (N.out.cell 1).trans rfl
        have n2 := (N.out.cell 2).trans rfl
        have n3 := (N.out.cell 3).trans rfl
        have n4 := (N.out.cell 4).trans rfl
        go_enter Tryz.func3, Tryz.ntmps3
        go_wp2_with fail
        refine (HAL.out _ (HG.out _ B.out)).mono ?_
        rintro e w' ⟨rfl, hb⟩
        have B' := Lib.hid (B.out.trans (hb.mono B.out.size))
        have N' := Lib.hid (N.out.below hb N.out.lt)
        clear hb B N n0 n1 n2 n3 n4
        have n0 := (N'.out.cell 0).trans rfl
        have n1 := (N'.out.cell 1).trans rfl
        have n2 := (N'.out.cell 2).trans rfl
        have n3 := (N'.out.cell 3).trans rfl
        have n4 := (N'.out.cell 4).trans rfl
        have B := Lib.hid B'.out
        have N := Lib.hid N'.out
        clear B' N'
        go_wp2_with fail
        refine (HEN.out _ (HG.out _ B.out)).mono ?_
        rintro e w' ⟨v, rfl, ho, hb⟩
        have hyt := owns_byt ho
        obtain ⟨p, c, rfl, _, _, _⟩ := id hyt
        have Y := Lib.hid hyt
        clear ho hyt
        have B' := Lib.hid (B.out.trans (hb.mono B.out.size))
        have N' := Lib.hid (N.out.below hb N.out.lt)
        clear hb B N n0 n1 n2 n3 n4
        have n0 := (N'.out.cell 0).trans rfl
        have n1 := (N'.out.cell 1).trans rfl
        have n2 := (N'.out.cell 2).trans rfl
        have n3 := (N'.out.cell 3).trans rfl
        have n4 := (N'.out.cell 4).trans rfl
        have B := Lib.hid B'.out
        have N := Lib.hid N'.out
        clear B' N'
        go_wp2_with fail
        refine (HRI.out _).mono ?_
        rintro e w' ⟨rfl, hb⟩
        have B' := Lib.hid (B.out.trans (hb.mono B.out.size))
        have N' := Lib.hid (N.out.below hb N.out.lt)
        have Y' := Lib.hid (Y.out.keep (Below.keeps hb))
        clear hb B N Y n0 n1 n2 n3 n4
        have n0 := (N'.out.cell 0).trans rfl
        have n1 := (N'.out.cell 1).trans rfl
        have n2 := (N'.out.cell 2).trans rfl
        have n3 := (N'.out.cell 3).trans rfl
        have n4 := (N'.out.cell 4).trans rfl
        have B := Lib.hid B'.out
        have N := Lib.hid N'.out
        have Y := Lib.hid Y'.out
        clear B' N' Y'
        go_wp2_with fail
        refine (HDC.out _ _ (HG.out _ B.out) Y.out).mono ?_
        rintro e w' ⟨rfl, hb⟩
        have B' := Lib.hid (B.out.trans (hb.mono B.out.size))
        have N' := Lib.hid (N.out.below hb N.out.lt)
        have Y' := Lib.hid (Y.out.keep (Below.keeps hb))
        clear hb B N Y n0 n1 n2 n3 n4
        have n0 := (N'.out.cell 0).trans rfl
        have n1 := (N'.out.cell 1).trans rfl
        have n2 := (N'.out.cell 2).trans rfl
        have n3 := (N'.out.cell 3).trans rfl
        have n4 := (N'.out.cell 4).trans rfl
        have B := Lib.hid B'.out
        have N := Lib.hid N'.out
        have Y := Lib.hid Y'.out
        clear B' N' Y'
        have M := Lib.hid (Blk.new w' 26 #[.int .i64 0, .int .i64 0, .int .i64 0, .int .i64 0, .float .f64 0])
        have N' := Lib.hid (N.out.alloc (.cells #[.int .i64 0, .int .i64 0, .int .i64 0, .int .i64 0, .float .f64 0] 26))
        have B' := Lib.hid (below_alloc B.out (.cells #[.int .i64 0, .int .i64 0, .int .i64 0, .int .i64 0, .float .f64 0] 26))
        go_wp2_with (refine wpList_store (.tmp 7) (.tmp 37) 26 rfl rfl w'.heap.size 0 _ _ #[.int .i64 a1, .int .i64 a2, .int .i64 a3, .int .i64 a4, .float .f64 a5] rfl rfl M.out (by kernel_rfl) (by simp [Value.oneCell']) (by simp) ?_)
        intro w7 hn7 ko7
        have h7 : Blk w7 w'.heap.size 26 #[.int .i64 a1, .int .i64 a2, .int .i64 a3, .int .i64 a4, .float .f64 a5] := hn7
        have B7 := Lib.hid (B'.out.trans (ko7.below B.out.size))
        have N7 := Lib.hid (ko7.blk N'.out (Nat.ne_of_lt N.out.lt))
        have Y7 := Lib.hid (Y.out.keep (Below.keeps ((below_alloc1 w' (.cells #[.int .i64 0, .int .i64 0, .int .i64 0, .int .i64 0, .float .f64 0] 26)).trans (ko7.below (Nat.le_refl _)))))
        have H7 := Lib.hid h7
        clear hn7 ko7 h7 M B' B N' N Y n0 n1 n2 n3 n4
        generalize w'.heap.size = gp at *
        have n0 := (N7.out.cell 0).trans rfl
        have n1 := (N7.out.cell 1).trans rfl
        have n2 := (N7.out.cell 2).trans rfl
        have n3 := (N7.out.cell 3).trans rfl
        have n4 := (N7.out.cell 4).trans rfl
        have p0 := (H7.out.cell 0).trans rfl
        have p1 := (H7.out.cell 1).trans rfl
        have p2 := (H7.out.cell 2).trans rfl
        have p3 := (H7.out.cell 3).trans rfl
        have p4 := (H7.out.cell 4).trans rfl
        have B := Lib.hid B7.out
        have N := Lib.hid N7.out
        have Y := Lib.hid Y7.out
        have P := Lib.hid H7.out
        clear B7 H7 N7 Y7
        go_wp2_with fail
        refine wp_phi (fun wq => Below w.heap.size w wq ∧ Blk wq w.heap.size 26 #[.int .i64 a1, .int .i64 a2, .int .i64 a3, .int .i64 a4, .float .f64 a5] ∧ Blk wq gp 26 #[.int .i64 a1, .int .i64 a2, .int .i64 a3, .int .i64 a4, .float .f64 a5] ∧ Byt wq (.slice p l.length c) l) [(6, PByt l), (7, PVal (.string (bs l))), (17, PVal (.bool true))] [(7, [6])] (by kernel_rfl) (by kernel_rfl) ?_ ?_ ⟨B.out.drew, N.out, P.out, Y.out.keep (fun _ _ h => h)⟩ ?_
        · rintro w1 w2 ⟨a1, a2, a3, a4⟩ hb
          exact ⟨a1.trans (hb.mono a1.size), a2.below hb a2.lt, a3.below hb a3.lt, a4.keep (Below.keeps hb)⟩
        · simp only [List.mem_cons, List.not_mem_nil, or_false, forall_eq_or_imp, forall_eq]
          exact ⟨fun w w' v _ hb h => PByt_stays _ w w' v hb h, fun _ _ _ _ _ h => h, fun _ _ _ _ _ h => h⟩
        repeat (first | (refine phi_skipK rfl (fun K hK => ?_); simp only [Act.put, List.setIfInBounds_toArray, List.set_cons_succ, List.set_cons_zero]; (try simp only [List.cons_append]); (try simp only [List.nil_append]); apply hK; clear hK K) | (refine phi_pureK rfl rfl (fun K hK => ?_); apply Exists.intro; constructor; (focus (rintro w' ⟨h0, hN, hC, hY⟩; (have k0 := (hN.cell 0).trans rfl; have l0 := (hC.cell 0).trans rfl; have k1 := (hN.cell 1).trans rfl; have l1 := (hC.cell 1).trans rfl; have k2 := (hN.cell 2).trans rfl; have l2 := (hC.cell 2).trans rfl; have k3 := (hN.cell 3).trans rfl; have l3 := (hC.cell 3).trans rfl; have k4 := (hN.cell 4).trans rfl; have l4 := (hC.cell 4).trans rfl; have s1 := str_of hY; clear h0 hN hC hY); first | (go_simp; done) | (go_simp; (try go_bits); (try go_simp); rfl) | go_simp)); simp only [Act.put, List.setIfInBounds_toArray, List.set_cons_succ, List.set_cons_zero]; (try simp only [List.cons_append]); (try simp only [List.nil_append]); apply hK; clear hK K))
        refine phi_partK (PByt l) rfl rfl ⟨_, none, 0, rfl⟩ ?_ (fun K hK v hv => ?_)
        · rintro wq ⟨h0, hN, hC, hY⟩ _
          unfold gives
          go_simp
          refine (HRE.out _).mono ?_
          rintro e w'' ⟨p', c', rfl, hy, hb⟩
          exact ⟨_, rfl, ⟨_, _, rfl⟩, hy, hb⟩
        obtain ⟨p', c', rfl⟩ := hv
        simp only [Act.put, List.setIfInBounds_toArray, List.set_cons_succ, List.set_cons_zero]; (try simp only [List.cons_append]); (try simp only [List.nil_append])
        apply hK
        clear hK K
        refine phi_partK (PVal (.string (bs l))) rfl rfl ⟨_, rfl⟩ ?_ (fun K hK v hv => ?_)
        · rintro wq ⟨h0, hN, hC, hY⟩ hf
          have hby : Byt wq _ l := hf (6, fun w => (PByt l).fact w (.slice p' l.length c')) (by simp) (List.contains_iff_mem.1 rfl)
          have hs := str_of hby
          clear hf hby
          unfold gives
          go_simp
          exact ⟨rfl, trivial, Below.refl _ _⟩
        obtain rfl : v = _ := hv
        simp only [Act.put, List.setIfInBounds_toArray, List.set_cons_succ, List.set_cons_zero]; (try simp only [List.cons_append]); (try simp only [List.nil_append])
        apply hK
        clear hK K
        repeat (first | (refine phi_skipK rfl (fun K hK => ?_); simp only [Act.put, List.setIfInBounds_toArray, List.set_cons_succ, List.set_cons_zero]; (try simp only [List.cons_append]); (try simp only [List.nil_append]); apply hK; clear hK K) | (refine phi_pureK rfl rfl (fun K hK => ?_); apply Exists.intro; constructor; (focus (rintro w' ⟨h0, hN, hC, hY⟩; (have k0 := (hN.cell 0).trans rfl; have l0 := (hC.cell 0).trans rfl; have k1 := (hN.cell 1).trans rfl; have l1 := (hC.cell 1).trans rfl; have k2 := (hN.cell 2).trans rfl; have l2 := (hC.cell 2).trans rfl; have k3 := (hN.cell 3).trans rfl; have l3 := (hC.cell 3).trans rfl; have k4 := (hN.cell 4).trans rfl; have l4 := (hC.cell 4).trans rfl; have s1 := str_of hY; clear h0 hN hC hY); first | (go_simp; done) | (go_simp; (try go_bits); (try go_simp); rfl) | go_simp)); simp only [Act.put, List.setIfInBounds_toArray, List.set_cons_succ, List.set_cons_zero]; (try simp only [List.cons_append]); (try simp only [List.nil_append]); apply hK; clear hK K))
        refine phi_partK (PVal (.bool true)) rfl rfl ⟨_, rfl⟩ ?_ (fun K hK v hv => ?_)
        · rintro wq ⟨h0, hN, hC, hY⟩ _
          unfold gives
          go_simp
          refine (HSS.out _).mono ?_
          rintro e w'' ⟨rfl, hb⟩
          exact ⟨_, rfl, rfl, trivial, hb⟩
        obtain rfl : v = _ := hv
        simp only [Act.put, List.setIfInBounds_toArray, List.set_cons_succ, List.set_cons_zero]; (try simp only [List.cons_append]); (try simp only [List.nil_append])
        apply hK
        clear hK K
        repeat (first | (refine phi_skipK rfl (fun K hK => ?_); simp only [Act.put, List.setIfInBounds_toArray, List.set_cons_succ, List.set_cons_zero]; (try simp only [List.cons_append]); (try simp only [List.nil_append]); apply hK; clear hK K) | (refine phi_pureK rfl rfl (fun K hK => ?_); apply Exists.intro; constructor; (focus (rintro w' ⟨h0, hN, hC, hY⟩; (have k0 := (hN.cell 0).trans rfl; have l0 := (hC.cell 0).trans rfl; have k1 := (hN.cell 1).trans rfl; have l1 := (hC.cell 1).trans rfl; have k2 := (hN.cell 2).trans rfl; have l2 := (hC.cell 2).trans rfl; have k3 := (hN.cell 3).trans rfl; have l3 := (hC.cell 3).trans rfl; have k4 := (hN.cell 4).trans rfl; have l4 := (hC.cell 4).trans rfl; have s1 := str_of hY; clear h0 hN hC hY); first | (go_simp; done) | (go_simp; (try go_bits); (try go_simp); rfl) | go_simp)); simp only [Act.put, List.setIfInBounds_toArray, List.set_cons_succ, List.set_cons_zero]; (try simp only [List.cons_append]); (try simp only [List.nil_append]); apply hK; clear hK K))
        refine phi_done ?_
        rintro w' ⟨hb, hN, _⟩ _
        have B' := Lib.hid hb
        have N' := Lib.hid hN
        clear hb hN B N P Y n0 n1 n2 n3 n4 p0 p1 p2 p3 p4
        have B := Lib.hid B'.out
        have N := Lib.hid N'.out
        clear B' N'
        have n0 := (N.out.cell 0).trans rfl
        have n1 := (N.out.cell 1).trans rfl
        have n2 := (N.out.cell 2).trans rfl
        have n3 := (N.out.cell 3).trans rfl
        have n4 := (N.out.cell 4).trans rfl
        refine wpList_nil ?_
        go_wp2_with fail
        refine (HDR.out _ _ (HG.out _ B.out) (HYR.out.keep (Below.keeps B.out))).mono ?_
        rintro e w' ⟨rfl, hb⟩
        have B' := Lib.hid (B.out.trans (hb.mono B.out.size))
        have N' := Lib.hid (N.out.below hb N.out.lt)
        clear hb B N n0 n1 n2 n3 n4
        have n0 := (N'.out.cell 0).trans rfl
        have n1 := (N'.out.cell 1).trans rfl
        have n2 := (N'.out.cell 2).trans rfl
        have n3 := (N'.out.cell 3).trans rfl
        have n4 := (N'.out.cell 4).trans rfl
        have B := Lib.hid B'.out
        have N := Lib.hid N'.out
        clear B' N'
        have M := Lib.hid (Blk.new w' 26 #[.int .i64 0, .int .i64 0, .int .i64 0, .int .i64 0, .float .f64 0])
        have N' := Lib.hid (N.out.alloc (.cells #[.int .i64 0, .int .i64 0, .int .i64 0, .int .i64 0, .float .f64 0] 26))
        have B' := Lib.hid (below_alloc B.out (.cells #[.int .i64 0, .int .i64 0, .int .i64 0, .int .i64 0, .float .f64 0] 26))
        go_wp2_with (refine wpList_store (.tmp 9) (.tmp 62) 26 rfl rfl w'.heap.size 0 _ _ #[.int .i64 z1, .int .i64 z2, .int .i64 z3, .int .i64 z4, .float .f64 z5] rfl rfl M.out (by kernel_rfl) (by simp [Value.oneCell']) (by simp) ?_)
        intro w7 hn7 ko7
        have h7 : Blk w7 w'.heap.size 26 #[.int .i64 z1, .int .i64 z2, .int .i64 z3, .int .i64 z4, .float .f64 z5] := hn7
        have B7 := Lib.hid (B'.out.trans (ko7.below B.out.size))
        have N7 := Lib.hid (ko7.blk N'.out (Nat.ne_of_lt N.out.lt))
        have H7 := Lib.hid h7
        clear hn7 ko7 h7 M B' B N' N n0 n1 n2 n3 n4
        generalize w'.heap.size = gc at *
        have n0 := (N7.out.cell 0).trans rfl
        have n1 := (N7.out.cell 1).trans rfl
        have n2 := (N7.out.cell 2).trans rfl
        have n3 := (N7.out.cell 3).trans rfl
        have n4 := (N7.out.cell 4).trans rfl
        have c0 := (H7.out.cell 0).trans rfl
        have c1 := (H7.out.cell 1).trans rfl
        have c2 := (H7.out.cell 2).trans rfl
        have c3 := (H7.out.cell 3).trans rfl
        have c4 := (H7.out.cell 4).trans rfl
        have B := Lib.hid B7.out
        have N := Lib.hid N7.out
        have C := Lib.hid H7.out
        clear B7 H7 N7
        go_wp2_with fail
        refine (HRR.out _ (HYR.out.keep (Below.keeps B.out))).mono ?_
        rintro e w' ⟨rfl, hb⟩
        have B' := Lib.hid (B.out.trans (hb.mono B.out.size))
        have N' := Lib.hid (N.out.below hb N.out.lt)
        have C' := Lib.hid (C.out.below hb C.out.lt)
        clear hb B N C n0 n1 n2 n3 n4 c0 c1 c2 c3 c4
        have n0 := (N'.out.cell 0).trans rfl
        have n1 := (N'.out.cell 1).trans rfl
        have n2 := (N'.out.cell 2).trans rfl
        have n3 := (N'.out.cell 3).trans rfl
        have n4 := (N'.out.cell 4).trans rfl
        have c0 := (C'.out.cell 0).trans rfl
        have c1 := (C'.out.cell 1).trans rfl
        have c2 := (C'.out.cell 2).trans rfl
        have c3 := (C'.out.cell 3).trans rfl
        have c4 := (C'.out.cell 4).trans rfl
        have B := Lib.hid B'.out
        have N := Lib.hid N'.out
        have C := Lib.hid C'.out
        clear B' N' C'
        have M := Lib.hid (Blk.new w' 26 #[.int .i64 0, .int .i64 0, .int .i64 0, .int .i64 0, .float .f64 0])
        have N' := Lib.hid (N.out.alloc (.cells #[.int .i64 0, .int .i64 0, .int .i64 0, .int .i64 0, .float .f64 0] 26))
        have C' := Lib.hid (C.out.alloc (.cells #[.int .i64 0, .int .i64 0, .int .i64 0, .int .i64 0, .float .f64 0] 26))
        have B' := Lib.hid (below_alloc B.out (.cells #[.int .i64 0, .int .i64 0, .int .i64 0, .int .i64 0, .float .f64 0] 26))
        go_wp2_with (refine wpList_store (.tmp 10) (.tmp 67) 26 rfl rfl w'.heap.size 0 _ _ #[.int .i64 z1, .int .i64 z2, .int .i64 z3, .int .i64 z4, .float .f64 z5] rfl rfl M.out (by kernel_rfl) (by simp [Value.oneCell']) (by simp) ?_)
        intro w7 hn7 ko7
        have h7 : Blk w7 w'.heap.size 26 #[.int .i64 z1, .int .i64 z2, .int .i64 z3, .int .i64 z4, .float .f64 z5] := hn7
        have B7 := Lib.hid (B'.out.trans (ko7.below B.out.size))
        have N7 := Lib.hid (ko7.blk N'.out (Nat.ne_of_lt N.out.lt))
        have C7 := Lib.hid (ko7.blk C'.out (Nat.ne_of_lt C.out.lt))
        have H7 := Lib.hid h7
        clear hn7 ko7 h7 M B' B N' C' N C n0 n1 n2 n3 n4 c0 c1 c2 c3 c4
        generalize w'.heap.size = gd at *
        have n0 := (N7.out.cell 0).trans rfl
        have n1 := (N7.out.cell 1).trans rfl
        have n2 := (N7.out.cell 2).trans rfl
        have n3 := (N7.out.cell 3).trans rfl
        have n4 := (N7.out.cell 4).trans rfl
        have c0 := (C7.out.cell 0).trans rfl
        have c1 := (C7.out.cell 1).trans rfl
        have c2 := (C7.out.cell 2).trans rfl
        have c3 := (C7.out.cell 3).trans rfl
        have c4 := (C7.out.cell 4).trans rfl
        have d0 := (H7.out.cell 0).trans rfl
        have d1 := (H7.out.cell 1).trans rfl
        have d2 := (H7.out.cell 2).trans rfl
        have d3 := (H7.out.cell 3).trans rfl
        have d4 := (H7.out.cell 4).trans rfl
        have B := Lib.hid B7.out
        have N := Lib.hid N7.out
        have C := Lib.hid C7.out
        have D := Lib.hid H7.out
        clear B7 H7 N7 C7
        go_wp2_with fail
        refine (HSX.out _).mono ?_
        rintro e w' ⟨rfl, hb⟩
        have B' := Lib.hid (B.out.trans (hb.mono B.out.size))
        have N' := Lib.hid (N.out.below hb N.out.lt)
        have C' := Lib.hid (C.out.below hb C.out.lt)
        have D' := Lib.hid (D.out.below hb D.out.lt)
        clear hb B N C D n0 n1 n2 n3 n4 c0 c1 c2 c3 c4 d0 d1 d2 d3 d4
        have n0 := (N'.out.cell 0).trans rfl
        have n1 := (N'.out.cell 1).trans rfl
        have n2 := (N'.out.cell 2).trans rfl
        have n3 := (N'.out.cell 3).trans rfl
        have n4 := (N'.out.cell 4).trans rfl
        have c0 := (C'.out.cell 0).trans rfl
        have c1 := (C'.out.cell 1).trans rfl
        have c2 := (C'.out.cell 2).trans rfl
        have c3 := (C'.out.cell 3).trans rfl
        have c4 := (C'.out.cell 4).trans rfl
        have d0 := (D'.out.cell 0).trans rfl
        have d1 := (D'.out.cell 1).trans rfl
        have d2 := (D'.out.cell 2).trans rfl
        have d3 := (D'.out.cell 3).trans rfl
        have d4 := (D'.out.cell 4).trans rfl
        have B := Lib.hid B'.out
        have N := Lib.hid N'.out
        have C := Lib.hid C'.out
        have D := Lib.hid D'.out
        clear B' N' C' D'
        go_wp2_with fail
        refine (HNU.out _ (HG.out _ B.out).errs).mono ?_
        rintro e w' ⟨rfl, hb⟩
        have B' := Lib.hid (B.out.trans (hb.mono B.out.size))
        have N' := Lib.hid (N.out.below hb N.out.lt)
        have C' := Lib.hid (C.out.below hb C.out.lt)
        have D' := Lib.hid (D.out.below hb D.out.lt)
        clear hb B N C D n0 n1 n2 n3 n4 c0 c1 c2 c3 c4 d0 d1 d2 d3 d4
        have n0 := (N'.out.cell 0).trans rfl
        have n1 := (N'.out.cell 1).trans rfl
        have n2 := (N'.out.cell 2).trans rfl
        have n3 := (N'.out.cell 3).trans rfl
        have n4 := (N'.out.cell 4).trans rfl
        have c0 := (C'.out.cell 0).trans rfl
        have c1 := (C'.out.cell 1).trans rfl
        have c2 := (C'.out.cell 2).trans rfl
        have c3 := (C'.out.cell 3).trans rfl
        have c4 := (C'.out.cell 4).trans rfl
        have d0 := (D'.out.cell 0).trans rfl
        have d1 := (D'.out.cell 1).trans rfl
        have d2 := (D'.out.cell 2).trans rfl
        have d3 := (D'.out.cell 3).trans rfl
        have d4 := (D'.out.cell 4).trans rfl
        have B := Lib.hid B'.out
        have N := Lib.hid N'.out
        have C := Lib.hid C'.out
        have D := Lib.hid D'.out
        clear B' N' C' D'
        go_wp2_with fail
        go_ret
        exact ⟨rfl, B.out⟩
end Go.Proofs.YtejdnpbkljdahaaGreatDoor
