/-
  LawReadsF: the walk of FactsReads.
-/
import Derived.Test.YtjklcbdlfmmllaaGreatDoorFactA
import Derived.Test.YtjklcbdlfmmllaaGreatDoorFactD
import Derived.Test.YtjklcbdlfmmllaaGreatDoorFactR3
import Derived.Test.YtjklcbdlfmmllaaGreatDoorFactR4
import Derived.Test.YtjklcbdlfmmllaaGreatDoorYK
namespace Go.Proofs.YtjklcbdlfmmllaaGreatDoor
open Go.RowKit Go.Extern.Stop Go.Stop Go.Extern Ieee
attribute [local go_sem] bs_toList
attribute [local go_sem] flt_def fgt_def feq_def fne_def
attribute [local go_sem] run_store_flt

set_option maxRecDepth 20000 in
set_option maxHeartbeats 8000000 in
theorem freads_law (b : List UInt8) (v : Value) (w : World) (E : Nat → Addr) (h : IdsG w E) (hy : Byt w v b) :
    Calls Tryz.prog 4 #[v] w fun e w' => e = .returned (.bool true) ∧ Below w.heap.size w w' := by
  have HG := Lib.hid (fun w' (hb : Below w.heap.size w w') => h.below hb)
  have HAL := Lib.hid (fun w' h => falive_any w' E h)
  have HY := Lib.hid hy
  obtain ⟨p, c, rfl, _, _, _⟩ := id hy
  clear hy
  by_cases hlen : 1000 < b.length
  · have d1 : decide (1000 < (b.length : Int)) = true := by simp; omega
    have d1' : decide (1000 < b.length) = true := by simp; omega
    clear hlen
    go_enter Tryz.func4, Tryz.ntmps4
    go_wp2_with fail
    refine (HAL.out _ h).mono ?_
    rintro e w' ⟨rfl, hb⟩
    have B := Lib.hid hb
    clear hb
    go_wp2_with fail
    go_ret
    exact ⟨rfl, B.out⟩
  · have d1 : decide (1000 < (b.length : Int)) = false := by simp; omega
    have d1' : decide (1000 < b.length) = false := by simp; omega
    have HBY := Lib.hid (fun w' (hy : Byt w' (.slice p b.length c) b) => bytes_any (.slice p b.length c) b w' (by omega) hy)
    have HDC := Lib.hid (fun v w' h hy => fread_any v b w' E h hy)
    have HRD := Lib.hid (fun w' hy => refread14_any b (.slice p b.length c) w' hy (by omega))
    have HKE := Lib.hid (fun v w' h1 h2 => kept_any v (.slice p b.length c) b w' h1 h2)
    have HNU := Lib.hid (fun w' h => num_any w' E (decE b) (decE_le b) h)
    have HSX := Lib.hid (fun w' => refsame14_any (decF b) (decF b) (decF_wf b).2 (decF_wf b).2 w')
    rw [sameF_self] at HSX
    have HEN := Lib.hid (fun w' h => fbytes_any (decF b) (decF_wf b) w' E h)
    have HEQ := Lib.hid (fun (h0 : decE b = 0) => enc_dec h0)
    clear hlen
    by_cases he : decE b = 0
    · have hen : encE (decF b) = 0 := by unfold encE; rw [if_pos (HEQ.out he).1]
      rw [hen, (HEQ.out he).2] at HEN
      rw [he] at HDC HRD HNU
      unfold GivesB at HEN
      simp only [errV_zero] at HEN HDC HNU
      clear HEQ hen he
      generalize decF b = m at *
      obtain ⟨k, n, s, r, nd, p, q, o, d, pa, st, hw, dc, x⟩ := m
      unfold fctV fctA at HDC HRD HEN HSX
      simp only at HDC HRD HEN HSX
      go_enter Tryz.func4, Tryz.ntmps4
      go_wp2_with fail
      refine (HAL.out _ h).mono ?_
      rintro e w' ⟨rfl, hb⟩
      have B := Lib.hid hb
      clear hb
      go_wp2_with fail
      refine (HBY.out _ (HY.out.keep (Below.keeps B.out))).mono ?_
      rintro e w' ⟨v1, rfl, hmk, hb⟩
      have MK := Lib.hid hmk
      clear hmk
      have B' := Lib.hid (B.out.trans (hb.mono B.out.size))
      clear hb B
      have B := Lib.hid B'.out
      clear B'
      obtain ⟨p1, c1, rfl, _, _, _⟩ := id MK.out.byt
      go_wp2_with fail
      refine (HDC.out _ _ (HG.out _ B.out) MK.out.byt).mono ?_
      rintro e w' ⟨rfl, hb⟩
      have B' := Lib.hid (B.out.trans (hb.mono B.out.size))
      have MK' := Lib.hid (MK.out.keep (Below.keeps hb))
      clear hb B MK
      have B := Lib.hid B'.out
      have MK := Lib.hid MK'.out
      clear B' MK'
      have M := Lib.hid (Blk.new w' 26 #[.int .i64 0, .int .i64 0, .int .i64 0, .int .i64 0, .int .i64 0, .int .i64 0, .int .i64 0, .int .i64 0, .int .i64 0, .int .i64 0, .int .i64 0, .int .i64 0, .int .i64 0, .float .f64 0])
      have B' := Lib.hid (below_alloc B.out (.cells #[.int .i64 0, .int .i64 0, .int .i64 0, .int .i64 0, .int .i64 0, .int .i64 0, .int .i64 0, .int .i64 0, .int .i64 0, .int .i64 0, .int .i64 0, .int .i64 0, .int .i64 0, .float .f64 0] 26))
      go_wp2_with (refine wpList_store (.tmp 4) (.tmp 19) 26 rfl rfl w'.heap.size 0 _ _ #[.int .i64 k, .int .i64 n, .int .i64 s, .int .i64 r, .int .i64 nd, .int .i64 p, .int .i64 q, .int .i64 o, .int .i64 d, .int .i64 pa, .int .i64 st, .int .i64 hw, .int .i64 dc, .float .f64 x] rfl rfl M.out (by kernel_rfl) (by simp [Value.oneCell']) (by simp) ?_)
      intro w7 hn7 ko7
      have h7 : Blk w7 w'.heap.size 26 #[.int .i64 k, .int .i64 n, .int .i64 s, .int .i64 r, .int .i64 nd, .int .i64 p, .int .i64 q, .int .i64 o, .int .i64 d, .int .i64 pa, .int .i64 st, .int .i64 hw, .int .i64 dc, .float .f64 x] := hn7
      have B7 := Lib.hid (B'.out.trans (ko7.below B.out.size))
      have MK7 := Lib.hid (MK.out.keep (Below.keeps ((below_alloc1 w' (.cells #[.int .i64 0, .int .i64 0, .int .i64 0, .int .i64 0, .int .i64 0, .int .i64 0, .int .i64 0, .int .i64 0, .int .i64 0, .int .i64 0, .int .i64 0, .int .i64 0, .int .i64 0, .float .f64 0] 26)).trans (ko7.below (Nat.le_refl _)))))
      have H7 := Lib.hid h7
      clear hn7 ko7 h7 M B' B  MK
      generalize w'.heap.size = gc at *
      have c0 := (H7.out.cell 0).trans rfl
      have c1 := (H7.out.cell 1).trans rfl
      have c2 := (H7.out.cell 2).trans rfl
      have c3 := (H7.out.cell 3).trans rfl
      have c4 := (H7.out.cell 4).trans rfl
      have c5 := (H7.out.cell 5).trans rfl
      have c6 := (H7.out.cell 6).trans rfl
      have c7 := (H7.out.cell 7).trans rfl
      have c8 := (H7.out.cell 8).trans rfl
      have c9 := (H7.out.cell 9).trans rfl
      have c10 := (H7.out.cell 10).trans rfl
      have c11 := (H7.out.cell 11).trans rfl
      have c12 := (H7.out.cell 12).trans rfl
      have c13 := (H7.out.cell 13).trans rfl
      have B := Lib.hid B7.out
      have MK := Lib.hid MK7.out
      have C := Lib.hid H7.out
      clear B7 H7 MK7
      go_wp2_with fail
      refine (HRD.out _ (HY.out.keep (Below.keeps B.out))).mono ?_
      rintro e w' ⟨rfl, hb⟩
      have B' := Lib.hid (B.out.trans (hb.mono B.out.size))
      have C' := Lib.hid (C.out.below hb C.out.lt)
      have MK' := Lib.hid (MK.out.keep (Below.keeps hb))
      clear hb B C MK c0 c1 c2 c3 c4 c5 c6 c7 c8 c9 c10 c11 c12 c13
      have c0 := (C'.out.cell 0).trans rfl
      have c1 := (C'.out.cell 1).trans rfl
      have c2 := (C'.out.cell 2).trans rfl
      have c3 := (C'.out.cell 3).trans rfl
      have c4 := (C'.out.cell 4).trans rfl
      have c5 := (C'.out.cell 5).trans rfl
      have c6 := (C'.out.cell 6).trans rfl
      have c7 := (C'.out.cell 7).trans rfl
      have c8 := (C'.out.cell 8).trans rfl
      have c9 := (C'.out.cell 9).trans rfl
      have c10 := (C'.out.cell 10).trans rfl
      have c11 := (C'.out.cell 11).trans rfl
      have c12 := (C'.out.cell 12).trans rfl
      have c13 := (C'.out.cell 13).trans rfl
      have B := Lib.hid B'.out
      have C := Lib.hid C'.out
      have MK := Lib.hid MK'.out
      clear B' C' MK'
      have M := Lib.hid (Blk.new w' 28 #[.int .i64 0, .int .i64 0, .int .i64 0, .int .i64 0, .int .i64 0, .int .i64 0, .int .i64 0, .int .i64 0, .int .i64 0, .int .i64 0, .int .i64 0, .int .i64 0, .int .i64 0, .float .f64 0])
      have C' := Lib.hid (C.out.alloc (.cells #[.int .i64 0, .int .i64 0, .int .i64 0, .int .i64 0, .int .i64 0, .int .i64 0, .int .i64 0, .int .i64 0, .int .i64 0, .int .i64 0, .int .i64 0, .int .i64 0, .int .i64 0, .float .f64 0] 28))
      have B' := Lib.hid (below_alloc B.out (.cells #[.int .i64 0, .int .i64 0, .int .i64 0, .int .i64 0, .int .i64 0, .int .i64 0, .int .i64 0, .int .i64 0, .int .i64 0, .int .i64 0, .int .i64 0, .int .i64 0, .int .i64 0, .float .f64 0] 28))
      go_wp2_with (refine wpList_store (.tmp 6) (.tmp 24) 28 rfl rfl w'.heap.size 0 _ _ #[.int .i64 k, .int .i64 n, .int .i64 s, .int .i64 r, .int .i64 nd, .int .i64 p, .int .i64 q, .int .i64 o, .int .i64 d, .int .i64 pa, .int .i64 st, .int .i64 hw, .int .i64 dc, .float .f64 x] rfl rfl M.out (by kernel_rfl) (by simp [Value.oneCell']) (by simp) ?_)
      intro w7 hn7 ko7
      have h7 : Blk w7 w'.heap.size 28 #[.int .i64 k, .int .i64 n, .int .i64 s, .int .i64 r, .int .i64 nd, .int .i64 p, .int .i64 q, .int .i64 o, .int .i64 d, .int .i64 pa, .int .i64 st, .int .i64 hw, .int .i64 dc, .float .f64 x] := hn7
      have B7 := Lib.hid (B'.out.trans (ko7.below B.out.size))
      have C7 := Lib.hid (ko7.blk C'.out (Nat.ne_of_lt C.out.lt))
      have MK7 := Lib.hid (MK.out.keep (Below.keeps ((below_alloc1 w' (.cells #[.int .i64 0, .int .i64 0, .int .i64 0, .int .i64 0, .int .i64 0, .int .i64 0, .int .i64 0, .int .i64 0, .int .i64 0, .int .i64 0, .int .i64 0, .int .i64 0, .int .i64 0, .float .f64 0] 28)).trans (ko7.below (Nat.le_refl _)))))
      have H7 := Lib.hid h7
      clear hn7 ko7 h7 M B' B C' C MK c0 c1 c2 c3 c4 c5 c6 c7 c8 c9 c10 c11 c12 c13
      generalize w'.heap.size = gd at *
      have c0 := (C7.out.cell 0).trans rfl
      have c1 := (C7.out.cell 1).trans rfl
      have c2 := (C7.out.cell 2).trans rfl
      have c3 := (C7.out.cell 3).trans rfl
      have c4 := (C7.out.cell 4).trans rfl
      have c5 := (C7.out.cell 5).trans rfl
      have c6 := (C7.out.cell 6).trans rfl
      have c7 := (C7.out.cell 7).trans rfl
      have c8 := (C7.out.cell 8).trans rfl
      have c9 := (C7.out.cell 9).trans rfl
      have c10 := (C7.out.cell 10).trans rfl
      have c11 := (C7.out.cell 11).trans rfl
      have c12 := (C7.out.cell 12).trans rfl
      have c13 := (C7.out.cell 13).trans rfl
      have d0 := (H7.out.cell 0).trans rfl
      have d1 := (H7.out.cell 1).trans rfl
      have d2 := (H7.out.cell 2).trans rfl
      have d3 := (H7.out.cell 3).trans rfl
      have d4 := (H7.out.cell 4).trans rfl
      have d5 := (H7.out.cell 5).trans rfl
      have d6 := (H7.out.cell 6).trans rfl
      have d7 := (H7.out.cell 7).trans rfl
      have d8 := (H7.out.cell 8).trans rfl
      have d9 := (H7.out.cell 9).trans rfl
      have d10 := (H7.out.cell 10).trans rfl
      have d11 := (H7.out.cell 11).trans rfl
      have d12 := (H7.out.cell 12).trans rfl
      have d13 := (H7.out.cell 13).trans rfl
      have B := Lib.hid B7.out
      have C := Lib.hid C7.out
      have MK := Lib.hid MK7.out
      have D := Lib.hid H7.out
      clear B7 H7 C7 MK7
      go_wp2_with fail
      refine (HSX.out _).mono ?_
      rintro e w' ⟨rfl, hb⟩
      have B' := Lib.hid (B.out.trans (hb.mono B.out.size))
      have C' := Lib.hid (C.out.below hb C.out.lt)
      have D' := Lib.hid (D.out.below hb D.out.lt)
      have MK' := Lib.hid (MK.out.keep (Below.keeps hb))
      clear hb B C D MK c0 c1 c2 c3 c4 c5 c6 c7 c8 c9 c10 c11 c12 c13 d0 d1 d2 d3 d4 d5 d6 d7 d8 d9 d10 d11 d12 d13
      have c0 := (C'.out.cell 0).trans rfl
      have c1 := (C'.out.cell 1).trans rfl
      have c2 := (C'.out.cell 2).trans rfl
      have c3 := (C'.out.cell 3).trans rfl
      have c4 := (C'.out.cell 4).trans rfl
      have c5 := (C'.out.cell 5).trans rfl
      have c6 := (C'.out.cell 6).trans rfl
      have c7 := (C'.out.cell 7).trans rfl
      have c8 := (C'.out.cell 8).trans rfl
      have c9 := (C'.out.cell 9).trans rfl
      have c10 := (C'.out.cell 10).trans rfl
      have c11 := (C'.out.cell 11).trans rfl
      have c12 := (C'.out.cell 12).trans rfl
      have c13 := (C'.out.cell 13).trans rfl
      have d0 := (D'.out.cell 0).trans rfl
      have d1 := (D'.out.cell 1).trans rfl
      have d2 := (D'.out.cell 2).trans rfl
      have d3 := (D'.out.cell 3).trans rfl
      have d4 := (D'.out.cell 4).trans rfl
      have d5 := (D'.out.cell 5).trans rfl
      have d6 := (D'.out.cell 6).trans rfl
      have d7 := (D'.out.cell 7).trans rfl
      have d8 := (D'.out.cell 8).trans rfl
      have d9 := (D'.out.cell 9).trans rfl
      have d10 := (D'.out.cell 10).trans rfl
      have d11 := (D'.out.cell 11).trans rfl
      have d12 := (D'.out.cell 12).trans rfl
      have d13 := (D'.out.cell 13).trans rfl
      have B := Lib.hid B'.out
      have C := Lib.hid C'.out
      have D := Lib.hid D'.out
      have MK := Lib.hid MK'.out
      clear B' C' D' MK'
      go_wp2_with fail
      refine (HNU.out _ (HG.out _ B.out).errs).mono ?_
      rintro e w' ⟨rfl, hb⟩
      have B' := Lib.hid (B.out.trans (hb.mono B.out.size))
      have C' := Lib.hid (C.out.below hb C.out.lt)
      have D' := Lib.hid (D.out.below hb D.out.lt)
      have MK' := Lib.hid (MK.out.keep (Below.keeps hb))
      clear hb B C D MK c0 c1 c2 c3 c4 c5 c6 c7 c8 c9 c10 c11 c12 c13 d0 d1 d2 d3 d4 d5 d6 d7 d8 d9 d10 d11 d12 d13
      have c0 := (C'.out.cell 0).trans rfl
      have c1 := (C'.out.cell 1).trans rfl
      have c2 := (C'.out.cell 2).trans rfl
      have c3 := (C'.out.cell 3).trans rfl
      have c4 := (C'.out.cell 4).trans rfl
      have c5 := (C'.out.cell 5).trans rfl
      have c6 := (C'.out.cell 6).trans rfl
      have c7 := (C'.out.cell 7).trans rfl
      have c8 := (C'.out.cell 8).trans rfl
      have c9 := (C'.out.cell 9).trans rfl
      have c10 := (C'.out.cell 10).trans rfl
      have c11 := (C'.out.cell 11).trans rfl
      have c12 := (C'.out.cell 12).trans rfl
      have c13 := (C'.out.cell 13).trans rfl
      have d0 := (D'.out.cell 0).trans rfl
      have d1 := (D'.out.cell 1).trans rfl
      have d2 := (D'.out.cell 2).trans rfl
      have d3 := (D'.out.cell 3).trans rfl
      have d4 := (D'.out.cell 4).trans rfl
      have d5 := (D'.out.cell 5).trans rfl
      have d6 := (D'.out.cell 6).trans rfl
      have d7 := (D'.out.cell 7).trans rfl
      have d8 := (D'.out.cell 8).trans rfl
      have d9 := (D'.out.cell 9).trans rfl
      have d10 := (D'.out.cell 10).trans rfl
      have d11 := (D'.out.cell 11).trans rfl
      have d12 := (D'.out.cell 12).trans rfl
      have d13 := (D'.out.cell 13).trans rfl
      have B := Lib.hid B'.out
      have C := Lib.hid C'.out
      have D := Lib.hid D'.out
      have MK := Lib.hid MK'.out
      clear B' C' D' MK'
      go_wp2_with fail
      refine (HKE.out _ _ MK.out (HY.out.keep (Below.keeps B.out))).mono ?_
      rintro e w' ⟨rfl, hb⟩
      have B' := Lib.hid (B.out.trans (hb.mono B.out.size))
      have C' := Lib.hid (C.out.below hb C.out.lt)
      have D' := Lib.hid (D.out.below hb D.out.lt)
      have MK' := Lib.hid (MK.out.keep (Below.keeps hb))
      clear hb B C D MK c0 c1 c2 c3 c4 c5 c6 c7 c8 c9 c10 c11 c12 c13 d0 d1 d2 d3 d4 d5 d6 d7 d8 d9 d10 d11 d12 d13
      have c0 := (C'.out.cell 0).trans rfl
      have c1 := (C'.out.cell 1).trans rfl
      have c2 := (C'.out.cell 2).trans rfl
      have c3 := (C'.out.cell 3).trans rfl
      have c4 := (C'.out.cell 4).trans rfl
      have c5 := (C'.out.cell 5).trans rfl
      have c6 := (C'.out.cell 6).trans rfl
      have c7 := (C'.out.cell 7).trans rfl
      have c8 := (C'.out.cell 8).trans rfl
      have c9 := (C'.out.cell 9).trans rfl
      have c10 := (C'.out.cell 10).trans rfl
      have c11 := (C'.out.cell 11).trans rfl
      have c12 := (C'.out.cell 12).trans rfl
      have c13 := (C'.out.cell 13).trans rfl
      have d0 := (D'.out.cell 0).trans rfl
      have d1 := (D'.out.cell 1).trans rfl
      have d2 := (D'.out.cell 2).trans rfl
      have d3 := (D'.out.cell 3).trans rfl
      have d4 := (D'.out.cell 4).trans rfl
      have d5 := (D'.out.cell 5).trans rfl
      have d6 := (D'.out.cell 6).trans rfl
      have d7 := (D'.out.cell 7).trans rfl
      have d8 := (D'.out.cell 8).trans rfl
      have d9 := (D'.out.cell 9).trans rfl
      have d10 := (D'.out.cell 10).trans rfl
      have d11 := (D'.out.cell 11).trans rfl
      have d12 := (D'.out.cell 12).trans rfl
      have d13 := (D'.out.cell 13).trans rfl
      have B := Lib.hid B'.out
      have C := Lib.hid C'.out
      have D := Lib.hid D'.out
      have MK := Lib.hid MK'.out
      clear B' C' D' MK'
      go_wp2_with fail
      refine (HEN.out _ (HG.out _ B.out)).mono ?_
      rintro e w' ⟨v9, rfl, ho, hb⟩
      have hyt := owns_byt ho
      obtain ⟨p9, c9, rfl, _, _, _⟩ := id hyt
      have s1 := str_of hyt
      have B' := Lib.hid (B.out.trans (hb.mono B.out.size))
      have s2 := str_of (HY.out.keep (Below.keeps B'.out))
      clear hb B ho hyt
      go_wp2_with fail
      go_ret
      exact ⟨rfl, B'.out⟩
    · have k1 : ((decE b : Int) == 0) = false := by rw [beq_eq_false_iff_ne]; omega
      have k2 : ((decE b : Int) != 0) = true := by rw [bne_iff_ne]; omega
      clear HEQ he HEN
      generalize decE b = q at *
      generalize errV E q = ev at *
      generalize decF b = m at *
      obtain ⟨k, n, s, r, nd, p, q, o, d, pa, st, hw, dc, x⟩ := m
      unfold fctV fctA at HDC HRD HSX
      simp only at HDC HRD HSX
      go_enter Tryz.func4, Tryz.ntmps4
      go_wp2_with fail
      refine (HAL.out _ h).mono ?_
      rintro e w' ⟨rfl, hb⟩
      have B := Lib.hid hb
      clear hb
      go_wp2_with fail
      refine (HBY.out _ (HY.out.keep (Below.keeps B.out))).mono ?_
      rintro e w' ⟨v1, rfl, hmk, hb⟩
      have MK := Lib.hid hmk
      clear hmk
      have B' := Lib.hid (B.out.trans (hb.mono B.out.size))
      clear hb B
      have B := Lib.hid B'.out
      clear B'
      obtain ⟨p1, c1, rfl, _, _, _⟩ := id MK.out.byt
      go_wp2_with fail
      refine (HDC.out _ _ (HG.out _ B.out) MK.out.byt).mono ?_
      rintro e w' ⟨rfl, hb⟩
      have B' := Lib.hid (B.out.trans (hb.mono B.out.size))
      have MK' := Lib.hid (MK.out.keep (Below.keeps hb))
      clear hb B MK
      have B := Lib.hid B'.out
      have MK := Lib.hid MK'.out
      clear B' MK'
      have M := Lib.hid (Blk.new w' 26 #[.int .i64 0, .int .i64 0, .int .i64 0, .int .i64 0, .int .i64 0, .int .i64 0, .int .i64 0, .int .i64 0, .int .i64 0, .int .i64 0, .int .i64 0, .int .i64 0, .int .i64 0, .float .f64 0])
      have B' := Lib.hid (below_alloc B.out (.cells #[.int .i64 0, .int .i64 0, .int .i64 0, .int .i64 0, .int .i64 0, .int .i64 0, .int .i64 0, .int .i64 0, .int .i64 0, .int .i64 0, .int .i64 0, .int .i64 0, .int .i64 0, .float .f64 0] 26))
      go_wp2_with (refine wpList_store (.tmp 4) (.tmp 19) 26 rfl rfl w'.heap.size 0 _ _ #[.int .i64 k, .int .i64 n, .int .i64 s, .int .i64 r, .int .i64 nd, .int .i64 p, .int .i64 q, .int .i64 o, .int .i64 d, .int .i64 pa, .int .i64 st, .int .i64 hw, .int .i64 dc, .float .f64 x] rfl rfl M.out (by kernel_rfl) (by simp [Value.oneCell']) (by simp) ?_)
      intro w7 hn7 ko7
      have h7 : Blk w7 w'.heap.size 26 #[.int .i64 k, .int .i64 n, .int .i64 s, .int .i64 r, .int .i64 nd, .int .i64 p, .int .i64 q, .int .i64 o, .int .i64 d, .int .i64 pa, .int .i64 st, .int .i64 hw, .int .i64 dc, .float .f64 x] := hn7
      have B7 := Lib.hid (B'.out.trans (ko7.below B.out.size))
      have MK7 := Lib.hid (MK.out.keep (Below.keeps ((below_alloc1 w' (.cells #[.int .i64 0, .int .i64 0, .int .i64 0, .int .i64 0, .int .i64 0, .int .i64 0, .int .i64 0, .int .i64 0, .int .i64 0, .int .i64 0, .int .i64 0, .int .i64 0, .int .i64 0, .float .f64 0] 26)).trans (ko7.below (Nat.le_refl _)))))
      have H7 := Lib.hid h7
      clear hn7 ko7 h7 M B' B  MK
      generalize w'.heap.size = gc at *
      have c0 := (H7.out.cell 0).trans rfl
      have c1 := (H7.out.cell 1).trans rfl
      have c2 := (H7.out.cell 2).trans rfl
      have c3 := (H7.out.cell 3).trans rfl
      have c4 := (H7.out.cell 4).trans rfl
      have c5 := (H7.out.cell 5).trans rfl
      have c6 := (H7.out.cell 6).trans rfl
      have c7 := (H7.out.cell 7).trans rfl
      have c8 := (H7.out.cell 8).trans rfl
      have c9 := (H7.out.cell 9).trans rfl
      have c10 := (H7.out.cell 10).trans rfl
      have c11 := (H7.out.cell 11).trans rfl
      have c12 := (H7.out.cell 12).trans rfl
      have c13 := (H7.out.cell 13).trans rfl
      have B := Lib.hid B7.out
      have MK := Lib.hid MK7.out
      have C := Lib.hid H7.out
      clear B7 H7 MK7
      go_wp2_with fail
      refine (HRD.out _ (HY.out.keep (Below.keeps B.out))).mono ?_
      rintro e w' ⟨rfl, hb⟩
      have B' := Lib.hid (B.out.trans (hb.mono B.out.size))
      have C' := Lib.hid (C.out.below hb C.out.lt)
      have MK' := Lib.hid (MK.out.keep (Below.keeps hb))
      clear hb B C MK c0 c1 c2 c3 c4 c5 c6 c7 c8 c9 c10 c11 c12 c13
      have c0 := (C'.out.cell 0).trans rfl
      have c1 := (C'.out.cell 1).trans rfl
      have c2 := (C'.out.cell 2).trans rfl
      have c3 := (C'.out.cell 3).trans rfl
      have c4 := (C'.out.cell 4).trans rfl
      have c5 := (C'.out.cell 5).trans rfl
      have c6 := (C'.out.cell 6).trans rfl
      have c7 := (C'.out.cell 7).trans rfl
      have c8 := (C'.out.cell 8).trans rfl
      have c9 := (C'.out.cell 9).trans rfl
      have c10 := (C'.out.cell 10).trans rfl
      have c11 := (C'.out.cell 11).trans rfl
      have c12 := (C'.out.cell 12).trans rfl
      have c13 := (C'.out.cell 13).trans rfl
      have B := Lib.hid B'.out
      have C := Lib.hid C'.out
      have MK := Lib.hid MK'.out
      clear B' C' MK'
      have M := Lib.hid (Blk.new w' 28 #[.int .i64 0, .int .i64 0, .int .i64 0, .int .i64 0, .int .i64 0, .int .i64 0, .int .i64 0, .int .i64 0, .int .i64 0, .int .i64 0, .int .i64 0, .int .i64 0, .int .i64 0, .float .f64 0])
      have C' := Lib.hid (C.out.alloc (.cells #[.int .i64 0, .int .i64 0, .int .i64 0, .int .i64 0, .int .i64 0, .int .i64 0, .int .i64 0, .int .i64 0, .int .i64 0, .int .i64 0, .int .i64 0, .int .i64 0, .int .i64 0, .float .f64 0] 28))
      have B' := Lib.hid (below_alloc B.out (.cells #[.int .i64 0, .int .i64 0, .int .i64 0, .int .i64 0, .int .i64 0, .int .i64 0, .int .i64 0, .int .i64 0, .int .i64 0, .int .i64 0, .int .i64 0, .int .i64 0, .int .i64 0, .float .f64 0] 28))
      go_wp2_with (refine wpList_store (.tmp 6) (.tmp 24) 28 rfl rfl w'.heap.size 0 _ _ #[.int .i64 k, .int .i64 n, .int .i64 s, .int .i64 r, .int .i64 nd, .int .i64 p, .int .i64 q, .int .i64 o, .int .i64 d, .int .i64 pa, .int .i64 st, .int .i64 hw, .int .i64 dc, .float .f64 x] rfl rfl M.out (by kernel_rfl) (by simp [Value.oneCell']) (by simp) ?_)
      intro w7 hn7 ko7
      have h7 : Blk w7 w'.heap.size 28 #[.int .i64 k, .int .i64 n, .int .i64 s, .int .i64 r, .int .i64 nd, .int .i64 p, .int .i64 q, .int .i64 o, .int .i64 d, .int .i64 pa, .int .i64 st, .int .i64 hw, .int .i64 dc, .float .f64 x] := hn7
      have B7 := Lib.hid (B'.out.trans (ko7.below B.out.size))
      have C7 := Lib.hid (ko7.blk C'.out (Nat.ne_of_lt C.out.lt))
      have MK7 := Lib.hid (MK.out.keep (Below.keeps ((below_alloc1 w' (.cells #[.int .i64 0, .int .i64 0, .int .i64 0, .int .i64 0, .int .i64 0, .int .i64 0, .int .i64 0, .int .i64 0, .int .i64 0, .int .i64 0, .int .i64 0, .int .i64 0, .int .i64 0, .float .f64 0] 28)).trans (ko7.below (Nat.le_refl _)))))
      have H7 := Lib.hid h7
      clear hn7 ko7 h7 M B' B C' C MK c0 c1 c2 c3 c4 c5 c6 c7 c8 c9 c10 c11 c12 c13
      generalize w'.heap.size = gd at *
      have c0 := (C7.out.cell 0).trans rfl
      have c1 := (C7.out.cell 1).trans rfl
      have c2 := (C7.out.cell 2).trans rfl
      have c3 := (C7.out.cell 3).trans rfl
      have c4 := (C7.out.cell 4).trans rfl
      have c5 := (C7.out.cell 5).trans rfl
      have c6 := (C7.out.cell 6).trans rfl
      have c7 := (C7.out.cell 7).trans rfl
      have c8 := (C7.out.cell 8).trans rfl
      have c9 := (C7.out.cell 9).trans rfl
      have c10 := (C7.out.cell 10).trans rfl
      have c11 := (C7.out.cell 11).trans rfl
      have c12 := (C7.out.cell 12).trans rfl
      have c13 := (C7.out.cell 13).trans rfl
      have d0 := (H7.out.cell 0).trans rfl
      have d1 := (H7.out.cell 1).trans rfl
      have d2 := (H7.out.cell 2).trans rfl
      have d3 := (H7.out.cell 3).trans rfl
      have d4 := (H7.out.cell 4).trans rfl
      have d5 := (H7.out.cell 5).trans rfl
      have d6 := (H7.out.cell 6).trans rfl
      have d7 := (H7.out.cell 7).trans rfl
      have d8 := (H7.out.cell 8).trans rfl
      have d9 := (H7.out.cell 9).trans rfl
      have d10 := (H7.out.cell 10).trans rfl
      have d11 := (H7.out.cell 11).trans rfl
      have d12 := (H7.out.cell 12).trans rfl
      have d13 := (H7.out.cell 13).trans rfl
      have B := Lib.hid B7.out
      have C := Lib.hid C7.out
      have MK := Lib.hid MK7.out
      have D := Lib.hid H7.out
      clear B7 H7 C7 MK7
      go_wp2_with fail
      refine (HSX.out _).mono ?_
      rintro e w' ⟨rfl, hb⟩
      have B' := Lib.hid (B.out.trans (hb.mono B.out.size))
      have C' := Lib.hid (C.out.below hb C.out.lt)
      have D' := Lib.hid (D.out.below hb D.out.lt)
      have MK' := Lib.hid (MK.out.keep (Below.keeps hb))
      clear hb B C D MK c0 c1 c2 c3 c4 c5 c6 c7 c8 c9 c10 c11 c12 c13 d0 d1 d2 d3 d4 d5 d6 d7 d8 d9 d10 d11 d12 d13
      have c0 := (C'.out.cell 0).trans rfl
      have c1 := (C'.out.cell 1).trans rfl
      have c2 := (C'.out.cell 2).trans rfl
      have c3 := (C'.out.cell 3).trans rfl
      have c4 := (C'.out.cell 4).trans rfl
      have c5 := (C'.out.cell 5).trans rfl
      have c6 := (C'.out.cell 6).trans rfl
      have c7 := (C'.out.cell 7).trans rfl
      have c8 := (C'.out.cell 8).trans rfl
      have c9 := (C'.out.cell 9).trans rfl
      have c10 := (C'.out.cell 10).trans rfl
      have c11 := (C'.out.cell 11).trans rfl
      have c12 := (C'.out.cell 12).trans rfl
      have c13 := (C'.out.cell 13).trans rfl
      have d0 := (D'.out.cell 0).trans rfl
      have d1 := (D'.out.cell 1).trans rfl
      have d2 := (D'.out.cell 2).trans rfl
      have d3 := (D'.out.cell 3).trans rfl
      have d4 := (D'.out.cell 4).trans rfl
      have d5 := (D'.out.cell 5).trans rfl
      have d6 := (D'.out.cell 6).trans rfl
      have d7 := (D'.out.cell 7).trans rfl
      have d8 := (D'.out.cell 8).trans rfl
      have d9 := (D'.out.cell 9).trans rfl
      have d10 := (D'.out.cell 10).trans rfl
      have d11 := (D'.out.cell 11).trans rfl
      have d12 := (D'.out.cell 12).trans rfl
      have d13 := (D'.out.cell 13).trans rfl
      have B := Lib.hid B'.out
      have C := Lib.hid C'.out
      have D := Lib.hid D'.out
      have MK := Lib.hid MK'.out
      clear B' C' D' MK'
      go_wp2_with fail
      refine (HNU.out _ (HG.out _ B.out).errs).mono ?_
      rintro e w' ⟨rfl, hb⟩
      have B' := Lib.hid (B.out.trans (hb.mono B.out.size))
      have C' := Lib.hid (C.out.below hb C.out.lt)
      have D' := Lib.hid (D.out.below hb D.out.lt)
      have MK' := Lib.hid (MK.out.keep (Below.keeps hb))
      clear hb B C D MK c0 c1 c2 c3 c4 c5 c6 c7 c8 c9 c10 c11 c12 c13 d0 d1 d2 d3 d4 d5 d6 d7 d8 d9 d10 d11 d12 d13
      have c0 := (C'.out.cell 0).trans rfl
      have c1 := (C'.out.cell 1).trans rfl
      have c2 := (C'.out.cell 2).trans rfl
      have c3 := (C'.out.cell 3).trans rfl
      have c4 := (C'.out.cell 4).trans rfl
      have c5 := (C'.out.cell 5).trans rfl
      have c6 := (C'.out.cell 6).trans rfl
      have c7 := (C'.out.cell 7).trans rfl
      have c8 := (C'.out.cell 8).trans rfl
      have c9 := (C'.out.cell 9).trans rfl
      have c10 := (C'.out.cell 10).trans rfl
      have c11 := (C'.out.cell 11).trans rfl
      have c12 := (C'.out.cell 12).trans rfl
      have c13 := (C'.out.cell 13).trans rfl
      have d0 := (D'.out.cell 0).trans rfl
      have d1 := (D'.out.cell 1).trans rfl
      have d2 := (D'.out.cell 2).trans rfl
      have d3 := (D'.out.cell 3).trans rfl
      have d4 := (D'.out.cell 4).trans rfl
      have d5 := (D'.out.cell 5).trans rfl
      have d6 := (D'.out.cell 6).trans rfl
      have d7 := (D'.out.cell 7).trans rfl
      have d8 := (D'.out.cell 8).trans rfl
      have d9 := (D'.out.cell 9).trans rfl
      have d10 := (D'.out.cell 10).trans rfl
      have d11 := (D'.out.cell 11).trans rfl
      have d12 := (D'.out.cell 12).trans rfl
      have d13 := (D'.out.cell 13).trans rfl
      have B := Lib.hid B'.out
      have C := Lib.hid C'.out
      have D := Lib.hid D'.out
      have MK := Lib.hid MK'.out
      clear B' C' D' MK'
      go_wp2_with fail
      refine (HKE.out _ _ MK.out (HY.out.keep (Below.keeps B.out))).mono ?_
      rintro e w' ⟨rfl, hb⟩
      have B' := Lib.hid (B.out.trans (hb.mono B.out.size))
      have C' := Lib.hid (C.out.below hb C.out.lt)
      have D' := Lib.hid (D.out.below hb D.out.lt)
      have MK' := Lib.hid (MK.out.keep (Below.keeps hb))
      clear hb B C D MK c0 c1 c2 c3 c4 c5 c6 c7 c8 c9 c10 c11 c12 c13 d0 d1 d2 d3 d4 d5 d6 d7 d8 d9 d10 d11 d12 d13
      have c0 := (C'.out.cell 0).trans rfl
      have c1 := (C'.out.cell 1).trans rfl
      have c2 := (C'.out.cell 2).trans rfl
      have c3 := (C'.out.cell 3).trans rfl
      have c4 := (C'.out.cell 4).trans rfl
      have c5 := (C'.out.cell 5).trans rfl
      have c6 := (C'.out.cell 6).trans rfl
      have c7 := (C'.out.cell 7).trans rfl
      have c8 := (C'.out.cell 8).trans rfl
      have c9 := (C'.out.cell 9).trans rfl
      have c10 := (C'.out.cell 10).trans rfl
      have c11 := (C'.out.cell 11).trans rfl
      have c12 := (C'.out.cell 12).trans rfl
      have c13 := (C'.out.cell 13).trans rfl
      have d0 := (D'.out.cell 0).trans rfl
      have d1 := (D'.out.cell 1).trans rfl
      have d2 := (D'.out.cell 2).trans rfl
      have d3 := (D'.out.cell 3).trans rfl
      have d4 := (D'.out.cell 4).trans rfl
      have d5 := (D'.out.cell 5).trans rfl
      have d6 := (D'.out.cell 6).trans rfl
      have d7 := (D'.out.cell 7).trans rfl
      have d8 := (D'.out.cell 8).trans rfl
      have d9 := (D'.out.cell 9).trans rfl
      have d10 := (D'.out.cell 10).trans rfl
      have d11 := (D'.out.cell 11).trans rfl
      have d12 := (D'.out.cell 12).trans rfl
      have d13 := (D'.out.cell 13).trans rfl
      have B := Lib.hid B'.out
      have C := Lib.hid C'.out
      have D := Lib.hid D'.out
      have MK := Lib.hid MK'.out
      clear B' C' D' MK'
      go_wp2_with fail
      go_ret
      exact ⟨rfl, B.out⟩
end Go.Proofs.YtjklcbdlfmmllaaGreatDoor
