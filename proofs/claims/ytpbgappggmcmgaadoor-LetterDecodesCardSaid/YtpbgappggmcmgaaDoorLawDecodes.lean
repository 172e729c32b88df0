/-
  LawDecodes: the walk of LetterDecodes.
-/
import Derived.Test.YtpbgappggmcmgaaDoorLetterE3
import Derived.Test.YtpbgappggmcmgaaDoorLetterH
import Derived.Test.YtpbgappggmcmgaaDoorKept
namespace Go.Proofs.YtpbgappggmcmgaaDoor
open Go.RowKit Go.Extern.Stop Go.Stop Go.Extern
attribute [local go_sem] bs_toList

theorem decE_le (b : List UInt8) : decE b ≤ 14 := by
  unfold decE
  split
  · omega
  · split
    · split <;> omega
    · exact splitE_le b
theorem dec_wf {b : List UInt8} (h : decE b = 0) : (decM b).wf := by
  have h1 := right_nums (enc_dec h).1
  intro x hx
  have := h1 x hx
  unfold inI
  omega
set_option maxRecDepth 20000 in
set_option maxHeartbeats 4000000 in
theorem decodes_law (b : List UInt8) (v : Value) (w : World) (E : Nat → Addr) (h : IdsG w E) (hy : Byt w v b) :
    Calls Tryd.prog 6 #[v] w fun e w' => e = .returned (.bool true) ∧ Below w.heap.size w w' := by
  have HG := Lib.hid (fun w' (hb : Below w.heap.size w w') => h.below hb)
  have HAL := Lib.hid (fun w' h => lalive_any w' E h)
  have HY := Lib.hid hy
  obtain ⟨p, c, rfl, _, _, _⟩ := id hy
  clear hy
  by_cases hlen : 2000 < b.length
  · have d1 : decide (2000 < (b.length : Int)) = true := by simp; omega
    have d1' : decide (2000 < b.length) = true := by simp; omega
    clear hlen
    go_enter Tryd.func6, Tryd.ntmps6
    go_wp2_with fail
    refine (HAL.out _ h).mono ?_
    rintro e w' ⟨rfl, hb⟩
    have B := Lib.hid hb
    clear hb
    go_wp2_with fail
    go_ret
    exact ⟨rfl, B.out⟩
  · have d1 : decide (2000 < (b.length : Int)) = false := by simp; omega
    have d1' : decide (2000 < b.length) = false := by simp; omega
    have HBY := Lib.hid (fun w' (hy : Byt w' (.slice p b.length c) b) => bytes_any (.slice p b.length c) b w' (by omega) hy)
    have HDC := Lib.hid (fun v w' h hy => decode_any b v w' E h hy)
    have HRD := Lib.hid (fun w' hy => refdecode_any b (.slice p b.length c) w' hy (by omega))
    have HKE := Lib.hid (fun v w' h1 h2 => kept_any v (.slice p b.length c) b w' h1 h2)
    have hle := decE_le b
    have HNU := Lib.hid (fun w' h => num_any w' E (decE b) hle h)
    have HEN := Lib.hid (fun (h0 : decE b = 0) w' h => encode_any (decM b) (dec_wf h0) w' E h)
    have HEQ := Lib.hid (fun (h0 : decE b = 0) => enc_dec h0)
    clear hlen hle
    by_cases he : decE b = 0
    · have HEN0 := Lib.hid (HEN.out he)
      have hen : encE (decM b) = 0 := by unfold encE; rw [if_pos (HEQ.out he).1]
      rw [hen, (HEQ.out he).2] at HEN0
      rw [he] at HDC HRD HNU
      unfold GivesB at HEN0
      simp only [errV_zero] at HEN0 HDC HNU
      clear HEN HEQ hen he
      generalize decM b = m at *
      obtain ⟨a0, a1, a2, a3, a4, a5, a6, a7, a8⟩ := m
      unfold msgV at HDC HRD HEN0
      simp only at HDC HRD HEN0
      have hself := fun w' => neqMsg a0 a1 a2 a3 a4 a5 a6 a7 a8 a0 a1 a2 a3 a4 a5 a6 a7 a8 w'
      simp only [beq_self_eq_true, Bool.and_self, Bool.not_true] at hself
      go_enter Tryd.func6, Tryd.ntmps6
      go_wp2_with fail
      refine (HAL.out _ h).mono ?_
      rintro e w' ⟨rfl, hb⟩
      have B := Lib.hid hb
      clear hb
      go_wp2_with fail
      refine (HBY.out _ (HY.out.keep (Below.keeps B.out))).mono ?_
      rintro e w' ⟨v1, rfl, hmk, hb⟩
      have MK := Lib.hid hmk
      clear hmk
      have B' := Lib.hid (B.out.trans (hb.mono B.out.size))
      clear hb B
      have B := Lib.hid B'.out
      clear B' 
      obtain ⟨p1, c1, rfl, _, _, _⟩ := id MK.out.byt
      go_wp2_with fail
      refine (HDC.out _ _ (HG.out _ B.out) MK.out.byt).mono ?_
      rintro e w' ⟨rfl, hb⟩
      have MK' := Lib.hid (MK.out.keep (Below.keeps hb))
      clear MK
      have MK := Lib.hid MK'.out
      clear MK'
      have B' := Lib.hid (B.out.trans (hb.mono B.out.size))
      clear hb B
      have B := Lib.hid B'.out
      clear B' 
      have M := Lib.hid (Blk.new w' 25 #[.int .i64 0, .int .i64 0, .int .i64 0, .int .i64 0, .int .i64 0, .int .i64 0, .int .i64 0, .int .i64 0, .int .i64 0])
      have B' := Lib.hid (below_alloc B.out (.cells #[.int .i64 0, .int .i64 0, .int .i64 0, .int .i64 0, .int .i64 0, .int .i64 0, .int .i64 0, .int .i64 0, .int .i64 0] 25))
      go_wp2_with (refine wpList_store (.tmp 4) (.tmp 19) 25 rfl rfl w'.heap.size 0 _ _ #[.int .i64 a0, .int .i64 a1, .int .i64 a2, .int .i64 a3, .int .i64 a4, .int .i64 a5, .int .i64 a6, .int .i64 a7, .int .i64 a8] rfl rfl M.out (by kernel_rfl) (by simp [Value.oneCell']) (by simp) ?_)
      intro w7 hn7 ko7
      have MK7 := Lib.hid (MK.out.keep (Below.keeps ((below_alloc1 w' (.cells #[.int .i64 0, .int .i64 0, .int .i64 0, .int .i64 0, .int .i64 0, .int .i64 0, .int .i64 0, .int .i64 0, .int .i64 0] 25)).trans (ko7.below (Nat.le_refl _)))))
      have h7 : Blk w7 w'.heap.size 25 #[.int .i64 a0, .int .i64 a1, .int .i64 a2, .int .i64 a3, .int .i64 a4, .int .i64 a5, .int .i64 a6, .int .i64 a7, .int .i64 a8] := hn7
      have B7 := Lib.hid (B'.out.trans (ko7.below B.out.size))
      have H7 := Lib.hid h7
      clear hn7 ko7 h7 M MK B' B
      generalize w'.heap.size = gc at *
      have c0 := (H7.out.cell 0).trans rfl
      have c1 := (H7.out.cell 1).trans rfl
      have c2 := (H7.out.cell 2).trans rfl
      have c3 := (H7.out.cell 3).trans rfl
      have c4 := (H7.out.cell 4).trans rfl
      have c5 := (H7.out.cell 5).trans rfl
      have c6 := (H7.out.cell 6).trans rfl
      have c7 := (H7.out.cell 7).trans rfl
      have c8 := (H7.out.cell 8).trans rfl
      have MK := Lib.hid MK7.out
      clear MK7
      have B := Lib.hid B7.out
      have C := Lib.hid H7.out
      clear B7 H7
      go_wp2_with fail
      refine (HRD.out _ (HY.out.keep (Below.keeps B.out))).mono ?_
      rintro e w' ⟨rfl, hb⟩
      have MK' := Lib.hid (MK.out.keep (Below.keeps hb))
      have B' := Lib.hid (B.out.trans (hb.mono B.out.size))
      have C' := Lib.hid (C.out.below hb C.out.lt)
      clear hb B C c0 c1 c2 c3 c4 c5 c6 c7 c8
      have c0 := (C'.out.cell 0).trans rfl
      have c1 := (C'.out.cell 1).trans rfl
      have c2 := (C'.out.cell 2).trans rfl
      have c3 := (C'.out.cell 3).trans rfl
      have c4 := (C'.out.cell 4).trans rfl
      have c5 := (C'.out.cell 5).trans rfl
      have c6 := (C'.out.cell 6).trans rfl
      have c7 := (C'.out.cell 7).trans rfl
      have c8 := (C'.out.cell 8).trans rfl
      clear MK
      have MK := Lib.hid MK'.out
      clear MK'
      have B := Lib.hid B'.out
      have C := Lib.hid C'.out
      clear B' C'
      have M := Lib.hid (Blk.new w' 25 #[.int .i64 0, .int .i64 0, .int .i64 0, .int .i64 0, .int .i64 0, .int .i64 0, .int .i64 0, .int .i64 0, .int .i64 0])
      have C' := Lib.hid (C.out.alloc (.cells #[.int .i64 0, .int .i64 0, .int .i64 0, .int .i64 0, .int .i64 0, .int .i64 0, .int .i64 0, .int .i64 0, .int .i64 0] 25))
      have B' := Lib.hid (below_alloc B.out (.cells #[.int .i64 0, .int .i64 0, .int .i64 0, .int .i64 0, .int .i64 0, .int .i64 0, .int .i64 0, .int .i64 0, .int .i64 0] 25))
      go_wp2_with (refine wpList_store (.tmp 6) (.tmp 24) 25 rfl rfl w'.heap.size 0 _ _ #[.int .i64 a0, .int .i64 a1, .int .i64 a2, .int .i64 a3, .int .i64 a4, .int .i64 a5, .int .i64 a6, .int .i64 a7, .int .i64 a8] rfl rfl M.out (by kernel_rfl) (by simp [Value.oneCell']) (by simp) ?_)
      intro w7 hn7 ko7
      have MK7 := Lib.hid (MK.out.keep (Below.keeps ((below_alloc1 w' (.cells #[.int .i64 0, .int .i64 0, .int .i64 0, .int .i64 0, .int .i64 0, .int .i64 0, .int .i64 0, .int .i64 0, .int .i64 0] 25)).trans (ko7.below (Nat.le_refl _)))))
      have h7 : Blk w7 w'.heap.size 25 #[.int .i64 a0, .int .i64 a1, .int .i64 a2, .int .i64 a3, .int .i64 a4, .int .i64 a5, .int .i64 a6, .int .i64 a7, .int .i64 a8] := hn7
      have B7 := Lib.hid (B'.out.trans (ko7.below B.out.size))
      have C7 := Lib.hid (ko7.blk C'.out (Nat.ne_of_lt C.out.lt))
      have H7 := Lib.hid h7
      clear hn7 ko7 h7 M MK B' B C' C c0 c1 c2 c3 c4 c5 c6 c7 c8
      generalize w'.heap.size = gd at *
      have c0 := (C7.out.cell 0).trans rfl
      have c1 := (C7.out.cell 1).trans rfl
      have c2 := (C7.out.cell 2).trans rfl
      have c3 := (C7.out.cell 3).trans rfl
      have c4 := (C7.out.cell 4).trans rfl
      have c5 := (C7.out.cell 5).trans rfl
      have c6 := (C7.out.cell 6).trans rfl
      have c7 := (C7.out.cell 7).trans rfl
      have c8 := (C7.out.cell 8).trans rfl
      have d0 := (H7.out.cell 0).trans rfl
      have d1 := (H7.out.cell 1).trans rfl
      have d2 := (H7.out.cell 2).trans rfl
      have d3 := (H7.out.cell 3).trans rfl
      have d4 := (H7.out.cell 4).trans rfl
      have d5 := (H7.out.cell 5).trans rfl
      have d6 := (H7.out.cell 6).trans rfl
      have d7 := (H7.out.cell 7).trans rfl
      have d8 := (H7.out.cell 8).trans rfl
      have MK := Lib.hid MK7.out
      clear MK7
      have B := Lib.hid B7.out
      have C := Lib.hid C7.out
      have D := Lib.hid H7.out
      clear B7 H7 C7
      go_wp2_with fail
      refine (HNU.out _ (HG.out _ B.out).errs).mono ?_
      rintro e w' ⟨rfl, hb⟩
      have MK' := Lib.hid (MK.out.keep (Below.keeps hb))
      have B' := Lib.hid (B.out.trans (hb.mono B.out.size))
      have C' := Lib.hid (C.out.below hb C.out.lt)
      have D' := Lib.hid (D.out.below hb D.out.lt)
      clear hb B C D c0 c1 c2 c3 c4 c5 c6 c7 c8 d0 d1 d2 d3 d4 d5 d6 d7 d8
      have c0 := (C'.out.cell 0).trans rfl
      have c1 := (C'.out.cell 1).trans rfl
      have c2 := (C'.out.cell 2).trans rfl
      have c3 := (C'.out.cell 3).trans rfl
      have c4 := (C'.out.cell 4).trans rfl
      have c5 := (C'.out.cell 5).trans rfl
      have c6 := (C'.out.cell 6).trans rfl
      have c7 := (C'.out.cell 7).trans rfl
      have c8 := (C'.out.cell 8).trans rfl
      have d0 := (D'.out.cell 0).trans rfl
      have d1 := (D'.out.cell 1).trans rfl
      have d2 := (D'.out.cell 2).trans rfl
      have d3 := (D'.out.cell 3).trans rfl
      have d4 := (D'.out.cell 4).trans rfl
      have d5 := (D'.out.cell 5).trans rfl
      have d6 := (D'.out.cell 6).trans rfl
      have d7 := (D'.out.cell 7).trans rfl
      have d8 := (D'.out.cell 8).trans rfl
      clear MK
      have MK := Lib.hid MK'.out
      clear MK'
      have B := Lib.hid B'.out
      have C := Lib.hid C'.out
      have D := Lib.hid D'.out
      clear B' C' D'
      go_wp2_with fail
      refine (HKE.out _ _ MK.out (HY.out.keep (Below.keeps B.out))).mono ?_
      rintro e w' ⟨rfl, hb⟩
      have MK' := Lib.hid (MK.out.keep (Below.keeps hb))
      have B' := Lib.hid (B.out.trans (hb.mono B.out.size))
      have C' := Lib.hid (C.out.below hb C.out.lt)
      have D' := Lib.hid (D.out.below hb D.out.lt)
      clear hb B C D c0 c1 c2 c3 c4 c5 c6 c7 c8 d0 d1 d2 d3 d4 d5 d6 d7 d8
      have c0 := (C'.out.cell 0).trans rfl
      have c1 := (C'.out.cell 1).trans rfl
      have c2 := (C'.out.cell 2).trans rfl
      have c3 := (C'.out.cell 3).trans rfl
      have c4 := (C'.out.cell 4).trans rfl
      have c5 := (C'.out.cell 5).trans rfl
      have c6 := (C'.out.cell 6).trans rfl
      have c7 := (C'.out.cell 7).trans rfl
      have c8 := (C'.out.cell 8).trans rfl
      have d0 := (D'.out.cell 0).trans rfl
      have d1 := (D'.out.cell 1).trans rfl
      have d2 := (D'.out.cell 2).trans rfl
      have d3 := (D'.out.cell 3).trans rfl
      have d4 := (D'.out.cell 4).trans rfl
      have d5 := (D'.out.cell 5).trans rfl
      have d6 := (D'.out.cell 6).trans rfl
      have d7 := (D'.out.cell 7).trans rfl
      have d8 := (D'.out.cell 8).trans rfl
      clear MK
      have MK := Lib.hid MK'.out
      clear MK'
      have B := Lib.hid B'.out
      have C := Lib.hid C'.out
      have D := Lib.hid D'.out
      clear B' C' D'
      go_wp2_with fail
      refine (HEN0.out _ (HG.out _ B.out)).mono ?_
      rintro e w' ⟨v9, rfl, ho, hb⟩
      have hyt := owns_byt ho
      obtain ⟨p9, c9, rfl, _, _, _⟩ := id hyt
      have s1 := str_of hyt
      have B' := Lib.hid (B.out.trans (hb.mono B.out.size))
      have s2 := str_of (HY.out.keep (Below.keeps B'.out))
      clear hb B ho hyt
      go_wp2_with fail
      go_ret
      exact ⟨rfl, B'.out⟩
    · have k1 : ((decE b : Int) == 0) = false := by rw [beq_eq_false_iff_ne]; omega
      have k2 : ((decE b : Int) != 0) = true := by rw [bne_iff_ne]; omega
      clear HEN HEQ he
      generalize decE b = q at *
      generalize errV E q = ev at *
      generalize decM b = m at *
      obtain ⟨a0, a1, a2, a3, a4, a5, a6, a7, a8⟩ := m
      unfold msgV at HDC HRD
      simp only at HDC HRD
      have hself := fun w' => neqMsg a0 a1 a2 a3 a4 a5 a6 a7 a8 a0 a1 a2 a3 a4 a5 a6 a7 a8 w'
      simp only [beq_self_eq_true, Bool.and_self, Bool.not_true] at hself
      go_enter Tryd.func6, Tryd.ntmps6
      go_wp2_with fail
      refine (HAL.out _ h).mono ?_
      rintro e w' ⟨rfl, hb⟩
      have B := Lib.hid hb
      clear hb
      go_wp2_with fail
      refine (HBY.out _ (HY.out.keep (Below.keeps B.out))).mono ?_
      rintro e w' ⟨v1, rfl, hmk, hb⟩
      have MK := Lib.hid hmk
      clear hmk
      have B' := Lib.hid (B.out.trans (hb.mono B.out.size))
      clear hb B
      have B := Lib.hid B'.out
      clear B' 
      obtain ⟨p1, c1, rfl, _, _, _⟩ := id MK.out.byt
      go_wp2_with fail
      refine (HDC.out _ _ (HG.out _ B.out) MK.out.byt).mono ?_
      rintro e w' ⟨rfl, hb⟩
      have MK' := Lib.hid (MK.out.keep (Below.keeps hb))
      clear MK
      have MK := Lib.hid MK'.out
      clear MK'
      have B' := Lib.hid (B.out.trans (hb.mono B.out.size))
      clear hb B
      have B := Lib.hid B'.out
      clear B' 
      have M := Lib.hid (Blk.new w' 25 #[.int .i64 0, .int .i64 0, .int .i64 0, .int .i64 0, .int .i64 0, .int .i64 0, .int .i64 0, .int .i64 0, .int .i64 0])
      have B' := Lib.hid (below_alloc B.out (.cells #[.int .i64 0, .int .i64 0, .int .i64 0, .int .i64 0, .int .i64 0, .int .i64 0, .int .i64 0, .int .i64 0, .int .i64 0] 25))
      go_wp2_with (refine wpList_store (.tmp 4) (.tmp 19) 25 rfl rfl w'.heap.size 0 _ _ #[.int .i64 a0, .int .i64 a1, .int .i64 a2, .int .i64 a3, .int .i64 a4, .int .i64 a5, .int .i64 a6, .int .i64 a7, .int .i64 a8] rfl rfl M.out (by kernel_rfl) (by simp [Value.oneCell']) (by simp) ?_)
      intro w7 hn7 ko7
      have MK7 := Lib.hid (MK.out.keep (Below.keeps ((below_alloc1 w' (.cells #[.int .i64 0, .int .i64 0, .int .i64 0, .int .i64 0, .int .i64 0, .int .i64 0, .int .i64 0, .int .i64 0, .int .i64 0] 25)).trans (ko7.below (Nat.le_refl _)))))
      have h7 : Blk w7 w'.heap.size 25 #[.int .i64 a0, .int .i64 a1, .int .i64 a2, .int .i64 a3, .int .i64 a4, .int .i64 a5, .int .i64 a6, .int .i64 a7, .int .i64 a8] := hn7
      have B7 := Lib.hid (B'.out.trans (ko7.below B.out.size))
      have H7 := Lib.hid h7
      clear hn7 ko7 h7 M MK B' B
      generalize w'.heap.size = gc at *
      have c0 := (H7.out.cell 0).trans rfl
      have c1 := (H7.out.cell 1).trans rfl
      have c2 := (H7.out.cell 2).trans rfl
      have c3 := (H7.out.cell 3).trans rfl
      have c4 := (H7.out.cell 4).trans rfl
      have c5 := (H7.out.cell 5).trans rfl
      have c6 := (H7.out.cell 6).trans rfl
      have c7 := (H7.out.cell 7).trans rfl
      have c8 := (H7.out.cell 8).trans rfl
      have MK := Lib.hid MK7.out
      clear MK7
      have B := Lib.hid B7.out
      have C := Lib.hid H7.out
      clear B7 H7
      go_wp2_with fail
      refine (HRD.out _ (HY.out.keep (Below.keeps B.out))).mono ?_
      rintro e w' ⟨rfl, hb⟩
      have MK' := Lib.hid (MK.out.keep (Below.keeps hb))
      have B' := Lib.hid (B.out.trans (hb.mono B.out.size))
      have C' := Lib.hid (C.out.below hb C.out.lt)
      clear hb B C c0 c1 c2 c3 c4 c5 c6 c7 c8
      have c0 := (C'.out.cell 0).trans rfl
      have c1 := (C'.out.cell 1).trans rfl
      have c2 := (C'.out.cell 2).trans rfl
      have c3 := (C'.out.cell 3).trans rfl
      have c4 := (C'.out.cell 4).trans rfl
      have c5 := (C'.out.cell 5).trans rfl
      have c6 := (C'.out.cell 6).trans rfl
      have c7 := (C'.out.cell 7).trans rfl
      have c8 := (C'.out.cell 8).trans rfl
      clear MK
      have MK := Lib.hid MK'.out
      clear MK'
      have B := Lib.hid B'.out
      have C := Lib.hid C'.out
      clear B' C'
      have M := Lib.hid (Blk.new w' 25 #[.int .i64 0, .int .i64 0, .int .i64 0, .int .i64 0, .int .i64 0, .int .i64 0, .int .i64 0, .int .i64 0, .int .i64 0])
      have C' := Lib.hid (C.out.alloc (.cells #[.int .i64 0, .int .i64 0, .int .i64 0, .int .i64 0, .int .i64 0, .int .i64 0, .int .i64 0, .int .i64 0, .int .i64 0] 25))
      have B' := Lib.hid (below_alloc B.out (.cells #[.int .i64 0, .int .i64 0, .int .i64 0, .int .i64 0, .int .i64 0, .int .i64 0, .int .i64 0, .int .i64 0, .int .i64 0] 25))
      go_wp2_with (refine wpList_store (.tmp 6) (.tmp 24) 25 rfl rfl w'.heap.size 0 _ _ #[.int .i64 a0, .int .i64 a1, .int .i64 a2, .int .i64 a3, .int .i64 a4, .int .i64 a5, .int .i64 a6, .int .i64 a7, .int .i64 a8] rfl rfl M.out (by kernel_rfl) (by simp [Value.oneCell']) (by simp) ?_)
      intro w7 hn7 ko7
      have MK7 := Lib.hid (MK.out.keep (Below.keeps ((below_alloc1 w' (.cells #[.int .i64 0, .int .i64 0, .int .i64 0, .int .i64 0, .int .i64 0, .int .i64 0, .int .i64 0, .int .i64 0, .int .i64 0] 25)).trans (ko7.below (Nat.le_refl _)))))
      have h7 : Blk w7 w'.heap.size 25 #[.int .i64 a0, .int .i64 a1, .int .i64 a2, .int .i64 a3, .int .i64 a4, .int .i64 a5, .int .i64 a6, .int .i64 a7, .int .i64 a8] := hn7
      have B7 := Lib.hid (B'.out.trans (ko7.below B.out.size))
      have C7 := Lib.hid (ko7.blk C'.out (Nat.ne_of_lt C.out.lt))
      have H7 := Lib.hid h7
      clear hn7 ko7 h7 M MK B' B C' C c0 c1 c2 c3 c4 c5 c6 c7 c8
      generalize w'.heap.size = gd at *
      have c0 := (C7.out.cell 0).trans rfl
      have c1 := (C7.out.cell 1).trans rfl
      have c2 := (C7.out.cell 2).trans rfl
      have c3 := (C7.out.cell 3).trans rfl
      have c4 := (C7.out.cell 4).trans rfl
      have c5 := (C7.out.cell 5).trans rfl
      have c6 := (C7.out.cell 6).trans rfl
      have c7 := (C7.out.cell 7).trans rfl
      have c8 := (C7.out.cell 8).trans rfl
      have d0 := (H7.out.cell 0).trans rfl
      have d1 := (H7.out.cell 1).trans rfl
      have d2 := (H7.out.cell 2).trans rfl
      have d3 := (H7.out.cell 3).trans rfl
      have d4 := (H7.out.cell 4).trans rfl
      have d5 := (H7.out.cell 5).trans rfl
      have d6 := (H7.out.cell 6).trans rfl
      have d7 := (H7.out.cell 7).trans rfl
      have d8 := (H7.out.cell 8).trans rfl
      have MK := Lib.hid MK7.out
      clear MK7
      have B := Lib.hid B7.out
      have C := Lib.hid C7.out
      have D := Lib.hid H7.out
      clear B7 H7 C7
      go_wp2_with fail
      refine (HNU.out _ (HG.out _ B.out).errs).mono ?_
      rintro e w' ⟨rfl, hb⟩
      have MK' := Lib.hid (MK.out.keep (Below.keeps hb))
      have B' := Lib.hid (B.out.trans (hb.mono B.out.size))
      have C' := Lib.hid (C.out.below hb C.out.lt)
      have D' := Lib.hid (D.out.below hb D.out.lt)
      clear hb B C D c0 c1 c2 c3 c4 c5 c6 c7 c8 d0 d1 d2 d3 d4 d5 d6 d7 d8
      have c0 := (C'.out.cell 0).trans rfl
      have c1 := (C'.out.cell 1).trans rfl
      have c2 := (C'.out.cell 2).trans rfl
      have c3 := (C'.out.cell 3).trans rfl
      have c4 := (C'.out.cell 4).trans rfl
      have c5 := (C'.out.cell 5).trans rfl
      have c6 := (C'.out.cell 6).trans rfl
      have c7 := (C'.out.cell 7).trans rfl
      have c8 := (C'.out.cell 8).trans rfl
      have d0 := (D'.out.cell 0).trans rfl
      have d1 := (D'.out.cell 1).trans rfl
      have d2 := (D'.out.cell 2).trans rfl
      have d3 := (D'.out.cell 3).trans rfl
      have d4 := (D'.out.cell 4).trans rfl
      have d5 := (D'.out.cell 5).trans rfl
      have d6 := (D'.out.cell 6).trans rfl
      have d7 := (D'.out.cell 7).trans rfl
      have d8 := (D'.out.cell 8).trans rfl
      clear MK
      have MK := Lib.hid MK'.out
      clear MK'
      have B := Lib.hid B'.out
      have C := Lib.hid C'.out
      have D := Lib.hid D'.out
      clear B' C' D'
      go_wp2_with fail
      refine (HKE.out _ _ MK.out (HY.out.keep (Below.keeps B.out))).mono ?_
      rintro e w' ⟨rfl, hb⟩
      have MK' := Lib.hid (MK.out.keep (Below.keeps hb))
      have B' := Lib.hid (B.out.trans (hb.mono B.out.size))
      have C' := Lib.hid (C.out.below hb C.out.lt)
      have D' := Lib.hid (D.out.below hb D.out.lt)
      clear hb B C D c0 c1 c2 c3 c4 c5 c6 c7 c8 d0 d1 d2 d3 d4 d5 d6 d7 d8
      have c0 := (C'.out.cell 0).trans rfl
      have c1 := (C'.out.cell 1).trans rfl
      have c2 := (C'.out.cell 2).trans rfl
      have c3 := (C'.out.cell 3).trans rfl
      have c4 := (C'.out.cell 4).trans rfl
      have c5 := (C'.out.cell 5).trans rfl
      have c6 := (C'.out.cell 6).trans rfl
      have c7 := (C'.out.cell 7).trans rfl
      have c8 := (C'.out.cell 8).trans rfl
      have d0 := (D'.out.cell 0).trans rfl
      have d1 := (D'.out.cell 1).trans rfl
      have d2 := (D'.out.cell 2).trans rfl
      have d3 := (D'.out.cell 3).trans rfl
      have d4 := (D'.out.cell 4).trans rfl
      have d5 := (D'.out.cell 5).trans rfl
      have d6 := (D'.out.cell 6).trans rfl
      have d7 := (D'.out.cell 7).trans rfl
      have d8 := (D'.out.cell 8).trans rfl
      clear MK
      have MK := Lib.hid MK'.out
      clear MK'
      have B := Lib.hid B'.out
      have C := Lib.hid C'.out
      have D := Lib.hid D'.out
      clear B' C' D'
      go_wp2_with fail
      go_ret
      exact ⟨rfl, B.out⟩
end Go.Proofs.YtpbgappggmcmgaaDoor
