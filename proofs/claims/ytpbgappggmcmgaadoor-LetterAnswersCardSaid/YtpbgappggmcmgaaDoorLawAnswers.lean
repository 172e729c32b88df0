/-
  LawAnswers: the walk of LetterAnswers.
-/
import Derived.Test.YtpbgappggmcmgaaDoorLetterL
namespace Go.Proofs.YtpbgappggmcmgaaDoor
open Go.RowKit Go.Extern.Stop Go.Stop Go.Extern

set_option maxRecDepth 20000 in
set_option maxHeartbeats 4000000 in
theorem answers_law (m : Msg) (kd cd : Int) (w : World) (E : Nat → Addr) (h : IdsG w E) :
    Calls Tryd.prog 4 #[msgV m, .int .i64 kd, .int .i64 cd] w fun e w' => e = .returned (.bool true) ∧ Below w.heap.size w w' := by
  have HG := Lib.hid (fun w' (hb : Below w.heap.size w w') => h.below hb)
  have HAL := Lib.hid (fun w' h => lalive_any w' E h)
  have HAN := Lib.hid (fun w' => answer_any m kd cd w')
  have HD := Lib.hid (fun w' => down_any kd w')
  have HRD := Lib.hid (fun w' => rdown_any kd w')
  have HU := Lib.hid (fun w' => up_any kd w')
  have HRU := Lib.hid (fun w' => rup_any kd w')
  have hdu := down_up kd
  generalize downB kd = du at *
  generalize upB kd = uu at *
  unfold msgV answerM at HAN
  unfold msgV
  obtain ⟨a0, a1, a2, a3, a4, a5, a6, a7, a8⟩ := m
  simp only at HAN ⊢
  have heq := fun w' => eqMsg kd a2 a1 a3 a4 a5 a6 0 cd kd a2 a1 a3 a4 a5 a6 0 cd w'
  simp only [beq_self_eq_true, Bool.and_self] at heq
  clear h
  have B := Lib.hid (below_alloc1 w (.cells #[.int .i64 a0, .int .i64 a1, .int .i64 a2, .int .i64 a3, .int .i64 a4, .int .i64 a5, .int .i64 a6, .int .i64 a7, .int .i64 a8] 25))
  have N := Lib.hid (Blk.new w 25 #[.int .i64 a0, .int .i64 a1, .int .i64 a2, .int .i64 a3, .int .i64 a4, .int .i64 a5, .int .i64 a6, .int .i64 a7, .int .i64 a8])
  have n0 := (N.out.cell 0).trans rfl
  have n1 := (N.out.cell 1).trans rfl
  have n2 := (N.out.cell 2).trans rfl
  have n3 := (N.out.cell 3).trans rfl
  have n4 := (N.out.cell 4).trans rfl
  have n5 := (N.out.cell 5).trans rfl
  have n6 := (N.out.cell 6).trans rfl
  have n7 := (N.out.cell 7).trans rfl
  have n8 := (N.out.cell 8).trans rfl
  cases du
  · clear hdu
    go_enter Tryd.func4, Tryd.ntmps4
    go_wp2_with fail
    refine (HAL.out _ (HG.out _ B.out)).mono ?_
    rintro e w' ⟨rfl, hb⟩
    have B' := Lib.hid (B.out.trans (hb.mono B.out.size))
    have N' := Lib.hid (N.out.below hb N.out.lt)
    clear hb B N n0 n1 n2 n3 n4 n5 n6 n7 n8
    have n0 := (N'.out.cell 0).trans rfl
    have n1 := (N'.out.cell 1).trans rfl
    have n2 := (N'.out.cell 2).trans rfl
    have n3 := (N'.out.cell 3).trans rfl
    have n4 := (N'.out.cell 4).trans rfl
    have n5 := (N'.out.cell 5).trans rfl
    have n6 := (N'.out.cell 6).trans rfl
    have n7 := (N'.out.cell 7).trans rfl
    have n8 := (N'.out.cell 8).trans rfl
    have B := Lib.hid B'.out
    have N := Lib.hid N'.out
    clear B' N'
    go_wp2_with fail
    refine (HAN.out _).mono ?_
    rintro e w' ⟨rfl, hb⟩
    have B' := Lib.hid (B.out.trans (hb.mono B.out.size))
    have N' := Lib.hid (N.out.below hb N.out.lt)
    clear hb B N n0 n1 n2 n3 n4 n5 n6 n7 n8
    have n0 := (N'.out.cell 0).trans rfl
    have n1 := (N'.out.cell 1).trans rfl
    have n2 := (N'.out.cell 2).trans rfl
    have n3 := (N'.out.cell 3).trans rfl
    have n4 := (N'.out.cell 4).trans rfl
    have n5 := (N'.out.cell 5).trans rfl
    have n6 := (N'.out.cell 6).trans rfl
    have n7 := (N'.out.cell 7).trans rfl
    have n8 := (N'.out.cell 8).trans rfl
    have B := Lib.hid B'.out
    have N := Lib.hid N'.out
    clear B' N'
    have M := Lib.hid (Blk.new w' 25 #[.int .i64 0, .int .i64 0, .int .i64 0, .int .i64 0, .int .i64 0, .int .i64 0, .int .i64 0, .int .i64 0, .int .i64 0])
    have N' := Lib.hid (N.out.alloc (.cells #[.int .i64 0, .int .i64 0, .int .i64 0, .int .i64 0, .int .i64 0, .int .i64 0, .int .i64 0, .int .i64 0, .int .i64 0] 25))
    have B' := Lib.hid (below_alloc B.out (.cells #[.int .i64 0, .int .i64 0, .int .i64 0, .int .i64 0, .int .i64 0, .int .i64 0, .int .i64 0, .int .i64 0, .int .i64 0] 25))
    go_wp2_with (refine wpList_store (.tmp 7) (.tmp 14) 25 rfl rfl w'.heap.size 0 _ _ #[.int .i64 kd, .int .i64 a2, .int .i64 a1, .int .i64 a3, .int .i64 a4, .int .i64 a5, .int .i64 a6, .int .i64 0, .int .i64 cd] rfl rfl M.out (by kernel_rfl) (by simp [Value.oneCell']) (by simp) ?_)
    intro w7 hn7 ko7
    have h7 : Blk w7 w'.heap.size 25 #[.int .i64 kd, .int .i64 a2, .int .i64 a1, .int .i64 a3, .int .i64 a4, .int .i64 a5, .int .i64 a6, .int .i64 0, .int .i64 cd] := hn7
    have B7 := Lib.hid (B'.out.trans (ko7.below B.out.size))
    have N7 := Lib.hid (ko7.blk N'.out (Nat.ne_of_lt N.out.lt))
    have H7 := Lib.hid h7
    clear hn7 ko7 h7 M B' B N' N n0 n1 n2 n3 n4 n5 n6 n7 n8
    generalize w'.heap.size = gc at *
    have n0 := (N7.out.cell 0).trans rfl
    have n1 := (N7.out.cell 1).trans rfl
    have n2 := (N7.out.cell 2).trans rfl
    have n3 := (N7.out.cell 3).trans rfl
    have n4 := (N7.out.cell 4).trans rfl
    have n5 := (N7.out.cell 5).trans rfl
    have n6 := (N7.out.cell 6).trans rfl
    have n7 := (N7.out.cell 7).trans rfl
    have n8 := (N7.out.cell 8).trans rfl
    have c0 := (H7.out.cell 0).trans rfl
    have c1 := (H7.out.cell 1).trans rfl
    have c2 := (H7.out.cell 2).trans rfl
    have c3 := (H7.out.cell 3).trans rfl
    have c4 := (H7.out.cell 4).trans rfl
    have c5 := (H7.out.cell 5).trans rfl
    have c6 := (H7.out.cell 6).trans rfl
    have c7 := (H7.out.cell 7).trans rfl
    have c8 := (H7.out.cell 8).trans rfl
    have B := Lib.hid B7.out
    have N := Lib.hid N7.out
    have C := Lib.hid H7.out
    clear B7 H7 N7
    have M := Lib.hid (Blk.new w7 25 #[.int .i64 0, .int .i64 0, .int .i64 0, .int .i64 0, .int .i64 0, .int .i64 0, .int .i64 0, .int .i64 0, .int .i64 0])
    have N' := Lib.hid (N.out.alloc (.cells #[.int .i64 0, .int .i64 0, .int .i64 0, .int .i64 0, .int .i64 0, .int .i64 0, .int .i64 0, .int .i64 0, .int .i64 0] 25))
    have C' := Lib.hid (C.out.alloc (.cells #[.int .i64 0, .int .i64 0, .int .i64 0, .int .i64 0, .int .i64 0, .int .i64 0, .int .i64 0, .int .i64 0, .int .i64 0] 25))
    have B' := Lib.hid (below_alloc B.out (.cells #[.int .i64 0, .int .i64 0, .int .i64 0, .int .i64 0, .int .i64 0, .int .i64 0, .int .i64 0, .int .i64 0, .int .i64 0] 25))
    go_wp2_with (refine wpList_store (.tmp 8) (.tmp 27) 25 rfl rfl w7.heap.size 0 _ _ #[.int .i64 kd, .int .i64 a2, .int .i64 a1, .int .i64 a3, .int .i64 a4, .int .i64 a5, .int .i64 a6, .int .i64 0, .int .i64 cd] rfl rfl M.out (by kernel_rfl) (by simp [Value.oneCell']) (by simp) ?_)
    intro w8 hn7 ko7
    have h7 : Blk w8 w7.heap.size 25 #[.int .i64 kd, .int .i64 a2, .int .i64 a1, .int .i64 a3, .int .i64 a4, .int .i64 a5, .int .i64 a6, .int .i64 0, .int .i64 cd] := hn7
    have B7 := Lib.hid (B'.out.trans (ko7.below B.out.size))
    have N7 := Lib.hid (ko7.blk N'.out (Nat.ne_of_lt N.out.lt))
    have C7 := Lib.hid (ko7.blk C'.out (Nat.ne_of_lt C.out.lt))
    have H7 := Lib.hid h7
    clear hn7 ko7 h7 M B' B N' C' N C n0 n1 n2 n3 n4 n5 n6 n7 n8 c0 c1 c2 c3 c4 c5 c6 c7 c8
    generalize w7.heap.size = gd at *
    have n0 := (N7.out.cell 0).trans rfl
    have n1 := (N7.out.cell 1).trans rfl
    have n2 := (N7.out.cell 2).trans rfl
    have n3 := (N7.out.cell 3).trans rfl
    have n4 := (N7.out.cell 4).trans rfl
    have n5 := (N7.out.cell 5).trans rfl
    have n6 := (N7.out.cell 6).trans rfl
    have n7 := (N7.out.cell 7).trans rfl
    have n8 := (N7.out.cell 8).trans rfl
    have c0 := (C7.out.cell 0).trans rfl
    have c1 := (C7.out.cell 1).trans rfl
    have c2 := (C7.out.cell 2).trans rfl
    have c3 := (C7.out.cell 3).trans rfl
    have c4 := (C7.out.cell 4).trans rfl
    have c5 := (C7.out.cell 5).trans rfl
    have c6 := (C7.out.cell 6).trans rfl
    have c7 := (C7.out.cell 7).trans rfl
    have c8 := (C7.out.cell 8).trans rfl
    have d0 := (H7.out.cell 0).trans rfl
    have d1 := (H7.out.cell 1).trans rfl
    have d2 := (H7.out.cell 2).trans rfl
    have d3 := (H7.out.cell 3).trans rfl
    have d4 := (H7.out.cell 4).trans rfl
    have d5 := (H7.out.cell 5).trans rfl
    have d6 := (H7.out.cell 6).trans rfl
    have d7 := (H7.out.cell 7).trans rfl
    have d8 := (H7.out.cell 8).trans rfl
    have B := Lib.hid B7.out
    have N := Lib.hid N7.out
    have C := Lib.hid C7.out
    have D := Lib.hid H7.out
    clear B7 H7 N7 C7
    go_wp2_with fail
    refine (HD.out _).mono ?_
    rintro e w' ⟨rfl, hb⟩
    have B' := Lib.hid (B.out.trans (hb.mono B.out.size))
    have N' := Lib.hid (N.out.below hb N.out.lt)
    have C' := Lib.hid (C.out.below hb C.out.lt)
    have D' := Lib.hid (D.out.below hb D.out.lt)
    clear hb B N C D n0 n1 n2 n3 n4 n5 n6 n7 n8 c0 c1 c2 c3 c4 c5 c6 c7 c8 d0 d1 d2 d3 d4 d5 d6 d7 d8
    have n0 := (N'.out.cell 0).trans rfl
    have n1 := (N'.out.cell 1).trans rfl
    have n2 := (N'.out.cell 2).trans rfl
    have n3 := (N'.out.cell 3).trans rfl
    have n4 := (N'.out.cell 4).trans rfl
    have n5 := (N'.out.cell 5).trans rfl
    have n6 := (N'.out.cell 6).trans rfl
    have n7 := (N'.out.cell 7).trans rfl
    have n8 := (N'.out.cell 8).trans rfl
    have c0 := (C'.out.cell 0).trans rfl
    have c1 := (C'.out.cell 1).trans rfl
    have c2 := (C'.out.cell 2).trans rfl
    have c3 := (C'.out.cell 3).trans rfl
    have c4 := (C'.out.cell 4).trans rfl
    have c5 := (C'.out.cell 5).trans rfl
    have c6 := (C'.out.cell 6).trans rfl
    have c7 := (C'.out.cell 7).trans rfl
    have c8 := (C'.out.cell 8).trans rfl
    have d0 := (D'.out.cell 0).trans rfl
    have d1 := (D'.out.cell 1).trans rfl
    have d2 := (D'.out.cell 2).trans rfl
    have d3 := (D'.out.cell 3).trans rfl
    have d4 := (D'.out.cell 4).trans rfl
    have d5 := (D'.out.cell 5).trans rfl
    have d6 := (D'.out.cell 6).trans rfl
    have d7 := (D'.out.cell 7).trans rfl
    have d8 := (D'.out.cell 8).trans rfl
    have B := Lib.hid B'.out
    have N := Lib.hid N'.out
    have C := Lib.hid C'.out
    have D := Lib.hid D'.out
    clear B' N' C' D'
    go_wp2_with fail
    refine (HRD.out _).mono ?_
    rintro e w' ⟨rfl, hb⟩
    have B' := Lib.hid (B.out.trans (hb.mono B.out.size))
    have N' := Lib.hid (N.out.below hb N.out.lt)
    have C' := Lib.hid (C.out.below hb C.out.lt)
    have D' := Lib.hid (D.out.below hb D.out.lt)
    clear hb B N C D n0 n1 n2 n3 n4 n5 n6 n7 n8 c0 c1 c2 c3 c4 c5 c6 c7 c8 d0 d1 d2 d3 d4 d5 d6 d7 d8
    have n0 := (N'.out.cell 0).trans rfl
    have n1 := (N'.out.cell 1).trans rfl
    have n2 := (N'.out.cell 2).trans rfl
    have n3 := (N'.out.cell 3).trans rfl
    have n4 := (N'.out.cell 4).trans rfl
    have n5 := (N'.out.cell 5).trans rfl
    have n6 := (N'.out.cell 6).trans rfl
    have n7 := (N'.out.cell 7).trans rfl
    have n8 := (N'.out.cell 8).trans rfl
    have c0 := (C'.out.cell 0).trans rfl
    have c1 := (C'.out.cell 1).trans rfl
    have c2 := (C'.out.cell 2).trans rfl
    have c3 := (C'.out.cell 3).trans rfl
    have c4 := (C'.out.cell 4).trans rfl
    have c5 := (C'.out.cell 5).trans rfl
    have c6 := (C'.out.cell 6).trans rfl
    have c7 := (C'.out.cell 7).trans rfl
    have c8 := (C'.out.cell 8).trans rfl
    have d0 := (D'.out.cell 0).trans rfl
    have d1 := (D'.out.cell 1).trans rfl
    have d2 := (D'.out.cell 2).trans rfl
    have d3 := (D'.out.cell 3).trans rfl
    have d4 := (D'.out.cell 4).trans rfl
    have d5 := (D'.out.cell 5).trans rfl
    have d6 := (D'.out.cell 6).trans rfl
    have d7 := (D'.out.cell 7).trans rfl
    have d8 := (D'.out.cell 8).trans rfl
    have B := Lib.hid B'.out
    have N := Lib.hid N'.out
    have C := Lib.hid C'.out
    have D := Lib.hid D'.out
    clear B' N' C' D'
    go_wp2_with fail
    refine (HU.out _).mono ?_
    rintro e w' ⟨rfl, hb⟩
    have B' := Lib.hid (B.out.trans (hb.mono B.out.size))
    have N' := Lib.hid (N.out.below hb N.out.lt)
    have C' := Lib.hid (C.out.below hb C.out.lt)
    have D' := Lib.hid (D.out.below hb D.out.lt)
    clear hb B N C D n0 n1 n2 n3 n4 n5 n6 n7 n8 c0 c1 c2 c3 c4 c5 c6 c7 c8 d0 d1 d2 d3 d4 d5 d6 d7 d8
    have n0 := (N'.out.cell 0).trans rfl
    have n1 := (N'.out.cell 1).trans rfl
    have n2 := (N'.out.cell 2).trans rfl
    have n3 := (N'.out.cell 3).trans rfl
    have n4 := (N'.out.cell 4).trans rfl
    have n5 := (N'.out.cell 5).trans rfl
    have n6 := (N'.out.cell 6).trans rfl
    have n7 := (N'.out.cell 7).trans rfl
    have n8 := (N'.out.cell 8).trans rfl
    have c0 := (C'.out.cell 0).trans rfl
    have c1 := (C'.out.cell 1).trans rfl
    have c2 := (C'.out.cell 2).trans rfl
    have c3 := (C'.out.cell 3).trans rfl
    have c4 := (C'.out.cell 4).trans rfl
    have c5 := (C'.out.cell 5).trans rfl
    have c6 := (C'.out.cell 6).trans rfl
    have c7 := (C'.out.cell 7).trans rfl
    have c8 := (C'.out.cell 8).trans rfl
    have d0 := (D'.out.cell 0).trans rfl
    have d1 := (D'.out.cell 1).trans rfl
    have d2 := (D'.out.cell 2).trans rfl
    have d3 := (D'.out.cell 3).trans rfl
    have d4 := (D'.out.cell 4).trans rfl
    have d5 := (D'.out.cell 5).trans rfl
    have d6 := (D'.out.cell 6).trans rfl
    have d7 := (D'.out.cell 7).trans rfl
    have d8 := (D'.out.cell 8).trans rfl
    have B := Lib.hid B'.out
    have N := Lib.hid N'.out
    have C := Lib.hid C'.out
    have D := Lib.hid D'.out
    clear B' N' C' D'
    go_wp2_with fail
    refine (HRU.out _).mono ?_
    rintro e w' ⟨rfl, hb⟩
    have B' := Lib.hid (B.out.trans (hb.mono B.out.size))
    have N' := Lib.hid (N.out.below hb N.out.lt)
    have C' := Lib.hid (C.out.below hb C.out.lt)
    have D' := Lib.hid (D.out.below hb D.out.lt)
    clear hb B N C D n0 n1 n2 n3 n4 n5 n6 n7 n8 c0 c1 c2 c3 c4 c5 c6 c7 c8 d0 d1 d2 d3 d4 d5 d6 d7 d8
    have n0 := (N'.out.cell 0).trans rfl
    have n1 := (N'.out.cell 1).trans rfl
    have n2 := (N'.out.cell 2).trans rfl
    have n3 := (N'.out.cell 3).trans rfl
    have n4 := (N'.out.cell 4).trans rfl
    have n5 := (N'.out.cell 5).trans rfl
    have n6 := (N'.out.cell 6).trans rfl
    have n7 := (N'.out.cell 7).trans rfl
    have n8 := (N'.out.cell 8).trans rfl
    have c0 := (C'.out.cell 0).trans rfl
    have c1 := (C'.out.cell 1).trans rfl
    have c2 := (C'.out.cell 2).trans rfl
    have c3 := (C'.out.cell 3).trans rfl
    have c4 := (C'.out.cell 4).trans rfl
    have c5 := (C'.out.cell 5).trans rfl
    have c6 := (C'.out.cell 6).trans rfl
    have c7 := (C'.out.cell 7).trans rfl
    have c8 := (C'.out.cell 8).trans rfl
    have d0 := (D'.out.cell 0).trans rfl
    have d1 := (D'.out.cell 1).trans rfl
    have d2 := (D'.out.cell 2).trans rfl
    have d3 := (D'.out.cell 3).trans rfl
    have d4 := (D'.out.cell 4).trans rfl
    have d5 := (D'.out.cell 5).trans rfl
    have d6 := (D'.out.cell 6).trans rfl
    have d7 := (D'.out.cell 7).trans rfl
    have d8 := (D'.out.cell 8).trans rfl
    have B := Lib.hid B'.out
    have N := Lib.hid N'.out
    have C := Lib.hid C'.out
    have D := Lib.hid D'.out
    clear B' N' C' D'
    go_wp2_with fail
    refine (HD.out _).mono ?_
    rintro e w' ⟨rfl, hb⟩
    have B' := Lib.hid (B.out.trans (hb.mono B.out.size))
    have N' := Lib.hid (N.out.below hb N.out.lt)
    have C' := Lib.hid (C.out.below hb C.out.lt)
    have D' := Lib.hid (D.out.below hb D.out.lt)
    clear hb B N C D n0 n1 n2 n3 n4 n5 n6 n7 n8 c0 c1 c2 c3 c4 c5 c6 c7 c8 d0 d1 d2 d3 d4 d5 d6 d7 d8
    have n0 := (N'.out.cell 0).trans rfl
    have n1 := (N'.out.cell 1).trans rfl
    have n2 := (N'.out.cell 2).trans rfl
    have n3 := (N'.out.cell 3).trans rfl
    have n4 := (N'.out.cell 4).trans rfl
    have n5 := (N'.out.cell 5).trans rfl
    have n6 := (N'.out.cell 6).trans rfl
    have n7 := (N'.out.cell 7).trans rfl
    have n8 := (N'.out.cell 8).trans rfl
    have c0 := (C'.out.cell 0).trans rfl
    have c1 := (C'.out.cell 1).trans rfl
    have c2 := (C'.out.cell 2).trans rfl
    have c3 := (C'.out.cell 3).trans rfl
    have c4 := (C'.out.cell 4).trans rfl
    have c5 := (C'.out.cell 5).trans rfl
    have c6 := (C'.out.cell 6).trans rfl
    have c7 := (C'.out.cell 7).trans rfl
    have c8 := (C'.out.cell 8).trans rfl
    have d0 := (D'.out.cell 0).trans rfl
    have d1 := (D'.out.cell 1).trans rfl
    have d2 := (D'.out.cell 2).trans rfl
    have d3 := (D'.out.cell 3).trans rfl
    have d4 := (D'.out.cell 4).trans rfl
    have d5 := (D'.out.cell 5).trans rfl
    have d6 := (D'.out.cell 6).trans rfl
    have d7 := (D'.out.cell 7).trans rfl
    have d8 := (D'.out.cell 8).trans rfl
    have B := Lib.hid B'.out
    have N := Lib.hid N'.out
    have C := Lib.hid C'.out
    have D := Lib.hid D'.out
    clear B' N' C' D'
    go_wp2_with fail
    go_ret
    exact ⟨rfl, B.out⟩
  · obtain rfl : uu = false := by simpa using hdu
    clear hdu
    go_enter Tryd.func4, Tryd.ntmps4
    go_wp2_with fail
    refine (HAL.out _ (HG.out _ B.out)).mono ?_
    rintro e w' ⟨rfl, hb⟩
    have B' := Lib.hid (B.out.trans (hb.mono B.out.size))
    have N' := Lib.hid (N.out.below hb N.out.lt)
    clear hb B N n0 n1 n2 n3 n4 n5 n6 n7 n8
    have n0 := (N'.out.cell 0).trans rfl
    have n1 := (N'.out.cell 1).trans rfl
    have n2 := (N'.out.cell 2).trans rfl
    have n3 := (N'.out.cell 3).trans rfl
    have n4 := (N'.out.cell 4).trans rfl
    have n5 := (N'.out.cell 5).trans rfl
    have n6 := (N'.out.cell 6).trans rfl
    have n7 := (N'.out.cell 7).trans rfl
    have n8 := (N'.out.cell 8).trans rfl
    have B := Lib.hid B'.out
    have N := Lib.hid N'.out
    clear B' N'
    go_wp2_with fail
    refine (HAN.out _).mono ?_
    rintro e w' ⟨rfl, hb⟩
    have B' := Lib.hid (B.out.trans (hb.mono B.out.size))
    have N' := Lib.hid (N.out.below hb N.out.lt)
    clear hb B N n0 n1 n2 n3 n4 n5 n6 n7 n8
    have n0 := (N'.out.cell 0).trans rfl
    have n1 := (N'.out.cell 1).trans rfl
    have n2 := (N'.out.cell 2).trans rfl
    have n3 := (N'.out.cell 3).trans rfl
    have n4 := (N'.out.cell 4).trans rfl
    have n5 := (N'.out.cell 5).trans rfl
    have n6 := (N'.out.cell 6).trans rfl
    have n7 := (N'.out.cell 7).trans rfl
    have n8 := (N'.out.cell 8).trans rfl
    have B := Lib.hid B'.out
    have N := Lib.hid N'.out
    clear B' N'
    have M := Lib.hid (Blk.new w' 25 #[.int .i64 0, .int .i64 0, .int .i64 0, .int .i64 0, .int .i64 0, .int .i64 0, .int .i64 0, .int .i64 0, .int .i64 0])
    have N' := Lib.hid (N.out.alloc (.cells #[.int .i64 0, .int .i64 0, .int .i64 0, .int .i64 0, .int .i64 0, .int .i64 0, .int .i64 0, .int .i64 0, .int .i64 0] 25))
    have B' := Lib.hid (below_alloc B.out (.cells #[.int .i64 0, .int .i64 0, .int .i64 0, .int .i64 0, .int .i64 0, .int .i64 0, .int .i64 0, .int .i64 0, .int .i64 0] 25))
    go_wp2_with (refine wpList_store (.tmp 7) (.tmp 14) 25 rfl rfl w'.heap.size 0 _ _ #[.int .i64 kd, .int .i64 a2, .int .i64 a1, .int .i64 a3, .int .i64 a4, .int .i64 a5, .int .i64 a6, .int .i64 0, .int .i64 cd] rfl rfl M.out (by kernel_rfl) (by simp [Value.oneCell']) (by simp) ?_)
    intro w7 hn7 ko7
    have h7 : Blk w7 w'.heap.size 25 #[.int .i64 kd, .int .i64 a2, .int .i64 a1, .int .i64 a3, .int .i64 a4, .int .i64 a5, .int .i64 a6, .int .i64 0, .int .i64 cd] := hn7
    have B7 := Lib.hid (B'.out.trans (ko7.below B.out.size))
    have N7 := Lib.hid (ko7.blk N'.out (Nat.ne_of_lt N.out.lt))
    have H7 := Lib.hid h7
    clear hn7 ko7 h7 M B' B N' N n0 n1 n2 n3 n4 n5 n6 n7 n8
    generalize w'.heap.size = gc at *
    have n0 := (N7.out.cell 0).trans rfl
    have n1 := (N7.out.cell 1).trans rfl
    have n2 := (N7.out.cell 2).trans rfl
    have n3 := (N7.out.cell 3).trans rfl
    have n4 := (N7.out.cell 4).trans rfl
    have n5 := (N7.out.cell 5).trans rfl
    have n6 := (N7.out.cell 6).trans rfl
    have n7 := (N7.out.cell 7).trans rfl
    have n8 := (N7.out.cell 8).trans rfl
    have c0 := (H7.out.cell 0).trans rfl
    have c1 := (H7.out.cell 1).trans rfl
    have c2 := (H7.out.cell 2).trans rfl
    have c3 := (H7.out.cell 3).trans rfl
    have c4 := (H7.out.cell 4).trans rfl
    have c5 := (H7.out.cell 5).trans rfl
    have c6 := (H7.out.cell 6).trans rfl
    have c7 := (H7.out.cell 7).trans rfl
    have c8 := (H7.out.cell 8).trans rfl
    have B := Lib.hid B7.out
    have N := Lib.hid N7.out
    have C := Lib.hid H7.out
    clear B7 H7 N7
    have M := Lib.hid (Blk.new w7 25 #[.int .i64 0, .int .i64 0, .int .i64 0, .int .i64 0, .int .i64 0, .int .i64 0, .int .i64 0, .int .i64 0, .int .i64 0])
    have N' := Lib.hid (N.out.alloc (.cells #[.int .i64 0, .int .i64 0, .int .i64 0, .int .i64 0, .int .i64 0, .int .i64 0, .int .i64 0, .int .i64 0, .int .i64 0] 25))
    have C' := Lib.hid (C.out.alloc (.cells #[.int .i64 0, .int .i64 0, .int .i64 0, .int .i64 0, .int .i64 0, .int .i64 0, .int .i64 0, .int .i64 0, .int .i64 0] 25))
    have B' := Lib.hid (below_alloc B.out (.cells #[.int .i64 0, .int .i64 0, .int .i64 0, .int .i64 0, .int .i64 0, .int .i64 0, .int .i64 0, .int .i64 0, .int .i64 0] 25))
    go_wp2_with (refine wpList_store (.tmp 8) (.tmp 27) 25 rfl rfl w7.heap.size 0 _ _ #[.int .i64 kd, .int .i64 a2, .int .i64 a1, .int .i64 a3, .int .i64 a4, .int .i64 a5, .int .i64 a6, .int .i64 0, .int .i64 cd] rfl rfl M.out (by kernel_rfl) (by simp [Value.oneCell']) (by simp) ?_)
    intro w8 hn7 ko7
    have h7 : Blk w8 w7.heap.size 25 #[.int .i64 kd, .int .i64 a2, .int .i64 a1, .int .i64 a3, .int .i64 a4, .int .i64 a5, .int .i64 a6, .int .i64 0, .int .i64 cd] := hn7
    have B7 := Lib.hid (B'.out.trans (ko7.below B.out.size))
    have N7 := Lib.hid (ko7.blk N'.out (Nat.ne_of_lt N.out.lt))
    have C7 := Lib.hid (ko7.blk C'.out (Nat.ne_of_lt C.out.lt))
    have H7 := Lib.hid h7
    clear hn7 ko7 h7 M B' B N' C' N C n0 n1 n2 n3 n4 n5 n6 n7 n8 c0 c1 c2 c3 c4 c5 c6 c7 c8
    generalize w7.heap.size = gd at *
    have n0 := (N7.out.cell 0).trans rfl
    have n1 := (N7.out.cell 1).trans rfl
    have n2 := (N7.out.cell 2).trans rfl
    have n3 := (N7.out.cell 3).trans rfl
    have n4 := (N7.out.cell 4).trans rfl
    have n5 := (N7.out.cell 5).trans rfl
    have n6 := (N7.out.cell 6).trans rfl
    have n7 := (N7.out.cell 7).trans rfl
    have n8 := (N7.out.cell 8).trans rfl
    have c0 := (C7.out.cell 0).trans rfl
    have c1 := (C7.out.cell 1).trans rfl
    have c2 := (C7.out.cell 2).trans rfl
    have c3 := (C7.out.cell 3).trans rfl
    have c4 := (C7.out.cell 4).trans rfl
    have c5 := (C7.out.cell 5).trans rfl
    have c6 := (C7.out.cell 6).trans rfl
    have c7 := (C7.out.cell 7).trans rfl
    have c8 := (C7.out.cell 8).trans rfl
    have d0 := (H7.out.cell 0).trans rfl
    have d1 := (H7.out.cell 1).trans rfl
    have d2 := (H7.out.cell 2).trans rfl
    have d3 := (H7.out.cell 3).trans rfl
    have d4 := (H7.out.cell 4).trans rfl
    have d5 := (H7.out.cell 5).trans rfl
    have d6 := (H7.out.cell 6).trans rfl
    have d7 := (H7.out.cell 7).trans rfl
    have d8 := (H7.out.cell 8).trans rfl
    have B := Lib.hid B7.out
    have N := Lib.hid N7.out
    have C := Lib.hid C7.out
    have D := Lib.hid H7.out
    clear B7 H7 N7 C7
    go_wp2_with fail
    refine (HD.out _).mono ?_
    rintro e w' ⟨rfl, hb⟩
    have B' := Lib.hid (B.out.trans (hb.mono B.out.size))
    have N' := Lib.hid (N.out.below hb N.out.lt)
    have C' := Lib.hid (C.out.below hb C.out.lt)
    have D' := Lib.hid (D.out.below hb D.out.lt)
    clear hb B N C D n0 n1 n2 n3 n4 n5 n6 n7 n8 c0 c1 c2 c3 c4 c5 c6 c7 c8 d0 d1 d2 d3 d4 d5 d6 d7 d8
    have n0 := (N'.out.cell 0).trans rfl
    have n1 := (N'.out.cell 1).trans rfl
    have n2 := (N'.out.cell 2).trans rfl
    have n3 := (N'.out.cell 3).trans rfl
    have n4 := (N'.out.cell 4).trans rfl
    have n5 := (N'.out.cell 5).trans rfl
    have n6 := (N'.out.cell 6).trans rfl
    have n7 := (N'.out.cell 7).trans rfl
    have n8 := (N'.out.cell 8).trans rfl
    have c0 := (C'.out.cell 0).trans rfl
    have c1 := (C'.out.cell 1).trans rfl
    have c2 := (C'.out.cell 2).trans rfl
    have c3 := (C'.out.cell 3).trans rfl
    have c4 := (C'.out.cell 4).trans rfl
    have c5 := (C'.out.cell 5).trans rfl
    have c6 := (C'.out.cell 6).trans rfl
    have c7 := (C'.out.cell 7).trans rfl
    have c8 := (C'.out.cell 8).trans rfl
    have d0 := (D'.out.cell 0).trans rfl
    have d1 := (D'.out.cell 1).trans rfl
    have d2 := (D'.out.cell 2).trans rfl
    have d3 := (D'.out.cell 3).trans rfl
    have d4 := (D'.out.cell 4).trans rfl
    have d5 := (D'.out.cell 5).trans rfl
    have d6 := (D'.out.cell 6).trans rfl
    have d7 := (D'.out.cell 7).trans rfl
    have d8 := (D'.out.cell 8).trans rfl
    have B := Lib.hid B'.out
    have N := Lib.hid N'.out
    have C := Lib.hid C'.out
    have D := Lib.hid D'.out
    clear B' N' C' D'
    go_wp2_with fail
    refine (HRD.out _).mono ?_
    rintro e w' ⟨rfl, hb⟩
    have B' := Lib.hid (B.out.trans (hb.mono B.out.size))
    have N' := Lib.hid (N.out.below hb N.out.lt)
    have C' := Lib.hid (C.out.below hb C.out.lt)
    have D' := Lib.hid (D.out.below hb D.out.lt)
    clear hb B N C D n0 n1 n2 n3 n4 n5 n6 n7 n8 c0 c1 c2 c3 c4 c5 c6 c7 c8 d0 d1 d2 d3 d4 d5 d6 d7 d8
    have n0 := (N'.out.cell 0).trans rfl
    have n1 := (N'.out.cell 1).trans rfl
    have n2 := (N'.out.cell 2).trans rfl
    have n3 := (N'.out.cell 3).trans rfl
    have n4 := (N'.out.cell 4).trans rfl
    have n5 := (N'.out.cell 5).trans rfl
    have n6 := (N'.out.cell 6).trans rfl
    have n7 := (N'.out.cell 7).trans rfl
    have n8 := (N'.out.cell 8).trans rfl
    have c0 := (C'.out.cell 0).trans rfl
    have c1 := (C'.out.cell 1).trans rfl
    have c2 := (C'.out.cell 2).trans rfl
    have c3 := (C'.out.cell 3).trans rfl
    have c4 := (C'.out.cell 4).trans rfl
    have c5 := (C'.out.cell 5).trans rfl
    have c6 := (C'.out.cell 6).trans rfl
    have c7 := (C'.out.cell 7).trans rfl
    have c8 := (C'.out.cell 8).trans rfl
    have d0 := (D'.out.cell 0).trans rfl
    have d1 := (D'.out.cell 1).trans rfl
    have d2 := (D'.out.cell 2).trans rfl
    have d3 := (D'.out.cell 3).trans rfl
    have d4 := (D'.out.cell 4).trans rfl
    have d5 := (D'.out.cell 5).trans rfl
    have d6 := (D'.out.cell 6).trans rfl
    have d7 := (D'.out.cell 7).trans rfl
    have d8 := (D'.out.cell 8).trans rfl
    have B := Lib.hid B'.out
    have N := Lib.hid N'.out
    have C := Lib.hid C'.out
    have D := Lib.hid D'.out
    clear B' N' C' D'
    go_wp2_with fail
    refine (HU.out _).mono ?_
    rintro e w' ⟨rfl, hb⟩
    have B' := Lib.hid (B.out.trans (hb.mono B.out.size))
    have N' := Lib.hid (N.out.below hb N.out.lt)
    have C' := Lib.hid (C.out.below hb C.out.lt)
    have D' := Lib.hid (D.out.below hb D.out.lt)
    clear hb B N C D n0 n1 n2 n3 n4 n5 n6 n7 n8 c0 c1 c2 c3 c4 c5 c6 c7 c8 d0 d1 d2 d3 d4 d5 d6 d7 d8
    have n0 := (N'.out.cell 0).trans rfl
    have n1 := (N'.out.cell 1).trans rfl
    have n2 := (N'.out.cell 2).trans rfl
    have n3 := (N'.out.cell 3).trans rfl
    have n4 := (N'.out.cell 4).trans rfl
    have n5 := (N'.out.cell 5).trans rfl
    have n6 := (N'.out.cell 6).trans rfl
    have n7 := (N'.out.cell 7).trans rfl
    have n8 := (N'.out.cell 8).trans rfl
    have c0 := (C'.out.cell 0).trans rfl
    have c1 := (C'.out.cell 1).trans rfl
    have c2 := (C'.out.cell 2).trans rfl
    have c3 := (C'.out.cell 3).trans rfl
    have c4 := (C'.out.cell 4).trans rfl
    have c5 := (C'.out.cell 5).trans rfl
    have c6 := (C'.out.cell 6).trans rfl
    have c7 := (C'.out.cell 7).trans rfl
    have c8 := (C'.out.cell 8).trans rfl
    have d0 := (D'.out.cell 0).trans rfl
    have d1 := (D'.out.cell 1).trans rfl
    have d2 := (D'.out.cell 2).trans rfl
    have d3 := (D'.out.cell 3).trans rfl
    have d4 := (D'.out.cell 4).trans rfl
    have d5 := (D'.out.cell 5).trans rfl
    have d6 := (D'.out.cell 6).trans rfl
    have d7 := (D'.out.cell 7).trans rfl
    have d8 := (D'.out.cell 8).trans rfl
    have B := Lib.hid B'.out
    have N := Lib.hid N'.out
    have C := Lib.hid C'.out
    have D := Lib.hid D'.out
    clear B' N' C' D'
    go_wp2_with fail
    refine (HRU.out _).mono ?_
    rintro e w' ⟨rfl, hb⟩
    have B' := Lib.hid (B.out.trans (hb.mono B.out.size))
    have N' := Lib.hid (N.out.below hb N.out.lt)
    have C' := Lib.hid (C.out.below hb C.out.lt)
    have D' := Lib.hid (D.out.below hb D.out.lt)
    clear hb B N C D n0 n1 n2 n3 n4 n5 n6 n7 n8 c0 c1 c2 c3 c4 c5 c6 c7 c8 d0 d1 d2 d3 d4 d5 d6 d7 d8
    have n0 := (N'.out.cell 0).trans rfl
    have n1 := (N'.out.cell 1).trans rfl
    have n2 := (N'.out.cell 2).trans rfl
    have n3 := (N'.out.cell 3).trans rfl
    have n4 := (N'.out.cell 4).trans rfl
    have n5 := (N'.out.cell 5).trans rfl
    have n6 := (N'.out.cell 6).trans rfl
    have n7 := (N'.out.cell 7).trans rfl
    have n8 := (N'.out.cell 8).trans rfl
    have c0 := (C'.out.cell 0).trans rfl
    have c1 := (C'.out.cell 1).trans rfl
    have c2 := (C'.out.cell 2).trans rfl
    have c3 := (C'.out.cell 3).trans rfl
    have c4 := (C'.out.cell 4).trans rfl
    have c5 := (C'.out.cell 5).trans rfl
    have c6 := (C'.out.cell 6).trans rfl
    have c7 := (C'.out.cell 7).trans rfl
    have c8 := (C'.out.cell 8).trans rfl
    have d0 := (D'.out.cell 0).trans rfl
    have d1 := (D'.out.cell 1).trans rfl
    have d2 := (D'.out.cell 2).trans rfl
    have d3 := (D'.out.cell 3).trans rfl
    have d4 := (D'.out.cell 4).trans rfl
    have d5 := (D'.out.cell 5).trans rfl
    have d6 := (D'.out.cell 6).trans rfl
    have d7 := (D'.out.cell 7).trans rfl
    have d8 := (D'.out.cell 8).trans rfl
    have B := Lib.hid B'.out
    have N := Lib.hid N'.out
    have C := Lib.hid C'.out
    have D := Lib.hid D'.out
    clear B' N' C' D'
    go_wp2_with fail
    refine (HD.out _).mono ?_
    rintro e w' ⟨rfl, hb⟩
    have B' := Lib.hid (B.out.trans (hb.mono B.out.size))
    have N' := Lib.hid (N.out.below hb N.out.lt)
    have C' := Lib.hid (C.out.below hb C.out.lt)
    have D' := Lib.hid (D.out.below hb D.out.lt)
    clear hb B N C D n0 n1 n2 n3 n4 n5 n6 n7 n8 c0 c1 c2 c3 c4 c5 c6 c7 c8 d0 d1 d2 d3 d4 d5 d6 d7 d8
    have n0 := (N'.out.cell 0).trans rfl
    have n1 := (N'.out.cell 1).trans rfl
    have n2 := (N'.out.cell 2).trans rfl
    have n3 := (N'.out.cell 3).trans rfl
    have n4 := (N'.out.cell 4).trans rfl
    have n5 := (N'.out.cell 5).trans rfl
    have n6 := (N'.out.cell 6).trans rfl
    have n7 := (N'.out.cell 7).trans rfl
    have n8 := (N'.out.cell 8).trans rfl
    have c0 := (C'.out.cell 0).trans rfl
    have c1 := (C'.out.cell 1).trans rfl
    have c2 := (C'.out.cell 2).trans rfl
    have c3 := (C'.out.cell 3).trans rfl
    have c4 := (C'.out.cell 4).trans rfl
    have c5 := (C'.out.cell 5).trans rfl
    have c6 := (C'.out.cell 6).trans rfl
    have c7 := (C'.out.cell 7).trans rfl
    have c8 := (C'.out.cell 8).trans rfl
    have d0 := (D'.out.cell 0).trans rfl
    have d1 := (D'.out.cell 1).trans rfl
    have d2 := (D'.out.cell 2).trans rfl
    have d3 := (D'.out.cell 3).trans rfl
    have d4 := (D'.out.cell 4).trans rfl
    have d5 := (D'.out.cell 5).trans rfl
    have d6 := (D'.out.cell 6).trans rfl
    have d7 := (D'.out.cell 7).trans rfl
    have d8 := (D'.out.cell 8).trans rfl
    have B := Lib.hid B'.out
    have N := Lib.hid N'.out
    have C := Lib.hid C'.out
    have D := Lib.hid D'.out
    clear B' N' C' D'
    go_wp2_with fail
    refine (HU.out _).mono ?_
    rintro e w' ⟨rfl, hb⟩
    have B' := Lib.hid (B.out.trans (hb.mono B.out.size))
    have N' := Lib.hid (N.out.below hb N.out.lt)
    have C' := Lib.hid (C.out.below hb C.out.lt)
    have D' := Lib.hid (D.out.below hb D.out.lt)
    clear hb B N C D n0 n1 n2 n3 n4 n5 n6 n7 n8 c0 c1 c2 c3 c4 c5 c6 c7 c8 d0 d1 d2 d3 d4 d5 d6 d7 d8
    have n0 := (N'.out.cell 0).trans rfl
    have n1 := (N'.out.cell 1).trans rfl
    have n2 := (N'.out.cell 2).trans rfl
    have n3 := (N'.out.cell 3).trans rfl
    have n4 := (N'.out.cell 4).trans rfl
    have n5 := (N'.out.cell 5).trans rfl
    have n6 := (N'.out.cell 6).trans rfl
    have n7 := (N'.out.cell 7).trans rfl
    have n8 := (N'.out.cell 8).trans rfl
    have c0 := (C'.out.cell 0).trans rfl
    have c1 := (C'.out.cell 1).trans rfl
    have c2 := (C'.out.cell 2).trans rfl
    have c3 := (C'.out.cell 3).trans rfl
    have c4 := (C'.out.cell 4).trans rfl
    have c5 := (C'.out.cell 5).trans rfl
    have c6 := (C'.out.cell 6).trans rfl
    have c7 := (C'.out.cell 7).trans rfl
    have c8 := (C'.out.cell 8).trans rfl
    have d0 := (D'.out.cell 0).trans rfl
    have d1 := (D'.out.cell 1).trans rfl
    have d2 := (D'.out.cell 2).trans rfl
    have d3 := (D'.out.cell 3).trans rfl
    have d4 := (D'.out.cell 4).trans rfl
    have d5 := (D'.out.cell 5).trans rfl
    have d6 := (D'.out.cell 6).trans rfl
    have d7 := (D'.out.cell 7).trans rfl
    have d8 := (D'.out.cell 8).trans rfl
    have B := Lib.hid B'.out
    have N := Lib.hid N'.out
    have C := Lib.hid C'.out
    have D := Lib.hid D'.out
    clear B' N' C' D'
    go_wp2_with fail
    go_ret
    exact ⟨rfl, B.out⟩
end Go.Proofs.YtpbgappggmcmgaaDoor
