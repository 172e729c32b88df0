/-
  LawIReadsNode: the walk of IdsReads, where the text is one of 'node'.
-/
import Derived.Test.YtehdbiilbbbbpaaDoorIdsN
import Derived.BigQuiet
namespace Go.Proofs.YtehdbiilbbbbpaaDoor
open Go.RowKit Go.Extern.Stop Go.Stop Go.Extern

set_option maxRecDepth 20000 in
set_option maxHeartbeats 8000000 in
theorem reads_node (s : List UInt8) (hs : s.length ≤ 200) (n : Nat) (h_node : toNodeT s = .ok n) (e_act : Nat) (h_act : toActT s = .error e_act) (e_reg : Nat) (h_reg : toRegT s = .error e_reg) (e_part : Nat) (h_part : toPartT s = .error e_part) (w : World) (E : Nat → Addr) (h : IdsG w E) :
    Calls Tryd.prog 5 #[.string (bs s)] w fun e w' => e = .returned (.bool true) ∧ Below w.heap.size w w' := by
  have hsz := bs_size s
  have dsz : decide (200 < ((bs s).size : Int)) = false := decide_eq_false (by omega)
  have dsz2 : decide (200 < s.length) = false := decide_eq_false (by omega)
  have HG := Lib.hid (fun w' (hb : Below w.heap.size w w') => h.below hb)
  have HAL := Lib.hid (fun w' h => alive_any w' E h)
  have HS := Lib.hid (show s.length ≤ 1000000 by omega)
  have HS2 := Lib.hid (show s.length ≤ 1000 by omega)
  have hqA := fun w => eqAct 0 0 0 0 w
  have H_node := Lib.hid h_node
  have H_act := Lib.hid h_act
  have H_reg := Lib.hid h_reg
  have H_part := Lib.hid h_part
  have B := Lib.hid (Below.refl w.heap.size w)
  clear h hs hsz h_node h_act h_reg h_part
  go_enter Tryd.func5, Tryd.ntmps5
  go_wp2_with fail
  refine (HAL.out _ (HG.out _ B.out)).mono ?_
  rintro e w' ⟨rfl, hb⟩
  have B' := Lib.hid (B.out.trans (hb.mono B.out.size))
  clear hb B
  have B := Lib.hid B'.out
  clear B'
  go_wp2_with fail
  refine (toNode_any s HS.out _ E (HG.out _ B.out).errs).mono ?_
  rintro e w' ⟨hb, rfl, hq_node⟩
  rw [H_node.out] at hq_node ⊢
  replace hq_node : 0 ≤ 14 := hq_node
  have Q_node := Lib.hid hq_node
  clear hq_node
  simp only [xval, xbad]
  have B' := Lib.hid (B.out.trans (hb.mono B.out.size))
  clear hb B
  have B := Lib.hid B'.out
  clear B'
  go_wp2_with fail
  refine (toAct_any s HS.out _ E (HG.out _ B.out).errs).mono ?_
  rintro e w' ⟨hb, rfl, hq_act⟩
  rw [H_act.out] at hq_act ⊢
  replace hq_act : e_act + 1 ≤ 14 := hq_act
  have Q_act := Lib.hid hq_act
  clear hq_act
  simp only [xval, xbad]
  have B' := Lib.hid (B.out.trans (hb.mono B.out.size))
  clear hb B
  have B := Lib.hid B'.out
  clear B'
  have B' := Lib.hid (below_alloc B.out (.cells #[.int .i64 0, .int .i64 0] 23))
  have M1 := Lib.hid (Blk.new w' 23 #[.int .i64 0, .int .i64 0])
  clear B
  have B := Lib.hid B'.out
  have m10 := (M1.out.cell 0).trans rfl
  have m11 := (M1.out.cell 1).trans rfl
  clear B'
  go_wp2_with fail
  generalize w'.alloc (.cells #[.int .i64 0, .int .i64 0] 23) = w' at *
  refine (toReg_any s HS.out _ E (HG.out _ B.out).errs).mono ?_
  rintro e w' ⟨hb, rfl, hq_reg⟩
  rw [H_reg.out] at hq_reg ⊢
  replace hq_reg : e_reg + 1 ≤ 14 := hq_reg
  have Q_reg := Lib.hid hq_reg
  clear hq_reg
  simp only [xval, xbad]
  have B' := Lib.hid (B.out.trans (hb.mono B.out.size))
  have M1' := Lib.hid (M1.out.below hb M1.out.lt)
  clear hb B M1 m10 m11
  have B := Lib.hid B'.out
  have M1 := Lib.hid M1'.out
  have m10 := (M1.out.cell 0).trans rfl
  have m11 := (M1.out.cell 1).trans rfl
  clear B' M1'
  have B' := Lib.hid (below_alloc B.out (.cells #[.int .i64 0, .int .i64 0] 23))
  have M1' := Lib.hid (M1.out.alloc (.cells #[.int .i64 0, .int .i64 0] 23))
  have M2 := Lib.hid (Blk.new w' 23 #[.int .i64 0, .int .i64 0])
  clear B M1 m10 m11
  have B := Lib.hid B'.out
  have M1 := Lib.hid M1'.out
  have m10 := (M1.out.cell 0).trans rfl
  have m11 := (M1.out.cell 1).trans rfl
  have m20 := (M2.out.cell 0).trans rfl
  have m21 := (M2.out.cell 1).trans rfl
  clear B' M1'
  go_wp2_with fail
  generalize w'.alloc (.cells #[.int .i64 0, .int .i64 0] 23) = w' at *
  refine (toPart_any s HS.out _ E (HG.out _ B.out).errs).mono ?_
  rintro e w' ⟨hb, rfl, hq_part⟩
  rw [H_part.out] at hq_part ⊢
  replace hq_part : e_part + 1 ≤ 14 := hq_part
  have Q_part := Lib.hid hq_part
  clear hq_part
  simp only [xval, xbad]
  have B' := Lib.hid (B.out.trans (hb.mono B.out.size))
  have M1' := Lib.hid (M1.out.below hb M1.out.lt)
  have M2' := Lib.hid (M2.out.below hb M2.out.lt)
  clear hb B M1 m10 m11 M2 m20 m21
  have B := Lib.hid B'.out
  have M1 := Lib.hid M1'.out
  have m10 := (M1.out.cell 0).trans rfl
  have m11 := (M1.out.cell 1).trans rfl
  have M2 := Lib.hid M2'.out
  have m20 := (M2.out.cell 0).trans rfl
  have m21 := (M2.out.cell 1).trans rfl
  clear B' M1' M2'
  go_wp2_with fail
  refine (n_node_ok H_node.out HS2.out _).mono ?_
  rintro e w' ⟨hb, u, rfl, hiv⟩
  have B' := Lib.hid (B.out.trans (hb.mono B.out.size))
  have M1' := Lib.hid (M1.out.below hb M1.out.lt)
  have M2' := Lib.hid (M2.out.below hb M2.out.lt)
  clear hb B M1 m10 m11 M2 m20 m21
  have B := Lib.hid B'.out
  have M1 := Lib.hid M1'.out
  have m10 := (M1.out.cell 0).trans rfl
  have m11 := (M1.out.cell 1).trans rfl
  have M2 := Lib.hid M2'.out
  have m20 := (M2.out.cell 0).trans rfl
  have m21 := (M2.out.cell 1).trans rfl
  clear B' M1' M2'
  have HI := Lib.hid hiv
  clear hiv
  go_wp2_with fail
  refine (n_act_bad H_act.out HS2.out _).mono ?_
  rintro e w' ⟨hb, rfl⟩
  have B' := Lib.hid (B.out.trans (hb.mono B.out.size))
  have M1' := Lib.hid (M1.out.below hb M1.out.lt)
  have M2' := Lib.hid (M2.out.below hb M2.out.lt)
  have HI' := Lib.hid (HI.out.below hb)
  clear hb B M1 m10 m11 M2 m20 m21 HI
  have B := Lib.hid B'.out
  have M1 := Lib.hid M1'.out
  have m10 := (M1.out.cell 0).trans rfl
  have m11 := (M1.out.cell 1).trans rfl
  have M2 := Lib.hid M2'.out
  have m20 := (M2.out.cell 0).trans rfl
  have m21 := (M2.out.cell 1).trans rfl
  have HI := Lib.hid HI'.out
  clear B' M1' M2' HI'
  go_wp2_with fail
  refine (n_reg_bad H_reg.out HS2.out _).mono ?_
  rintro e w' ⟨hb, rfl⟩
  have B' := Lib.hid (B.out.trans (hb.mono B.out.size))
  have M1' := Lib.hid (M1.out.below hb M1.out.lt)
  have M2' := Lib.hid (M2.out.below hb M2.out.lt)
  have HI' := Lib.hid (HI.out.below hb)
  clear hb B M1 m10 m11 M2 m20 m21 HI
  have B := Lib.hid B'.out
  have M1 := Lib.hid M1'.out
  have m10 := (M1.out.cell 0).trans rfl
  have m11 := (M1.out.cell 1).trans rfl
  have M2 := Lib.hid M2'.out
  have m20 := (M2.out.cell 0).trans rfl
  have m21 := (M2.out.cell 1).trans rfl
  have HI := Lib.hid HI'.out
  clear B' M1' M2' HI'
  go_wp2_with fail
  refine (n_part_bad H_part.out HS2.out _).mono ?_
  rintro e w' ⟨hb, rfl⟩
  have B' := Lib.hid (B.out.trans (hb.mono B.out.size))
  have M1' := Lib.hid (M1.out.below hb M1.out.lt)
  have M2' := Lib.hid (M2.out.below hb M2.out.lt)
  have HI' := Lib.hid (HI.out.below hb)
  clear hb B M1 m10 m11 M2 m20 m21 HI
  have B := Lib.hid B'.out
  have M1 := Lib.hid M1'.out
  have m10 := (M1.out.cell 0).trans rfl
  have m11 := (M1.out.cell 1).trans rfl
  have M2 := Lib.hid M2'.out
  have m20 := (M2.out.cell 0).trans rfl
  have m21 := (M2.out.cell 1).trans rfl
  have HI := Lib.hid HI'.out
  clear B' M1' M2' HI'
  go_wp2_with fail
  refine (num_any _ E _ Q_node.out (HG.out _ B.out).errs).mono ?_
  rintro e w' ⟨rfl, hb⟩
  have B' := Lib.hid (B.out.trans (hb.mono B.out.size))
  have M1' := Lib.hid (M1.out.below hb M1.out.lt)
  have M2' := Lib.hid (M2.out.below hb M2.out.lt)
  have HI' := Lib.hid (HI.out.below hb)
  clear hb B M1 m10 m11 M2 m20 m21 HI
  have B := Lib.hid B'.out
  have M1 := Lib.hid M1'.out
  have m10 := (M1.out.cell 0).trans rfl
  have m11 := (M1.out.cell 1).trans rfl
  have M2 := Lib.hid M2'.out
  have m20 := (M2.out.cell 0).trans rfl
  have m21 := (M2.out.cell 1).trans rfl
  have HI := Lib.hid HI'.out
  clear B' M1' M2' HI'
  go_wp2_with fail
  refine (num_any _ E _ Q_act.out (HG.out _ B.out).errs).mono ?_
  rintro e w' ⟨rfl, hb⟩
  have B' := Lib.hid (B.out.trans (hb.mono B.out.size))
  have M1' := Lib.hid (M1.out.below hb M1.out.lt)
  have M2' := Lib.hid (M2.out.below hb M2.out.lt)
  have HI' := Lib.hid (HI.out.below hb)
  clear hb B M1 m10 m11 M2 m20 m21 HI
  have B := Lib.hid B'.out
  have M1 := Lib.hid M1'.out
  have m10 := (M1.out.cell 0).trans rfl
  have m11 := (M1.out.cell 1).trans rfl
  have M2 := Lib.hid M2'.out
  have m20 := (M2.out.cell 0).trans rfl
  have m21 := (M2.out.cell 1).trans rfl
  have HI := Lib.hid HI'.out
  clear B' M1' M2' HI'
  go_wp2_with fail
  refine (num_any _ E _ Q_reg.out (HG.out _ B.out).errs).mono ?_
  rintro e w' ⟨rfl, hb⟩
  have B' := Lib.hid (B.out.trans (hb.mono B.out.size))
  have M1' := Lib.hid (M1.out.below hb M1.out.lt)
  have M2' := Lib.hid (M2.out.below hb M2.out.lt)
  have HI' := Lib.hid (HI.out.below hb)
  clear hb B M1 m10 m11 M2 m20 m21 HI
  have B := Lib.hid B'.out
  have M1 := Lib.hid M1'.out
  have m10 := (M1.out.cell 0).trans rfl
  have m11 := (M1.out.cell 1).trans rfl
  have M2 := Lib.hid M2'.out
  have m20 := (M2.out.cell 0).trans rfl
  have m21 := (M2.out.cell 1).trans rfl
  have HI := Lib.hid HI'.out
  clear B' M1' M2' HI'
  go_wp2_with fail
  refine (num_any _ E _ Q_part.out (HG.out _ B.out).errs).mono ?_
  rintro e w' ⟨rfl, hb⟩
  have B' := Lib.hid (B.out.trans (hb.mono B.out.size))
  have M1' := Lib.hid (M1.out.below hb M1.out.lt)
  have M2' := Lib.hid (M2.out.below hb M2.out.lt)
  have HI' := Lib.hid (HI.out.below hb)
  clear hb B M1 m10 m11 M2 m20 m21 HI
  have B := Lib.hid B'.out
  have M1 := Lib.hid M1'.out
  have m10 := (M1.out.cell 0).trans rfl
  have m11 := (M1.out.cell 1).trans rfl
  have M2 := Lib.hid M2'.out
  have m20 := (M2.out.cell 0).trans rfl
  have m21 := (M2.out.cell 1).trans rfl
  have HI := Lib.hid HI'.out
  clear B' M1' M2' HI'
  have d_act : (((e_act : Int) + 1) == 0) = false := by rw [beq_eq_false_iff_ne]; omega
  have n_act : (((e_act : Int) + 1) != 0) = true := by rw [bne_iff_ne]; omega
  have d_reg : (((e_reg : Int) + 1) == 0) = false := by rw [beq_eq_false_iff_ne]; omega
  have n_reg : (((e_reg : Int) + 1) != 0) = true := by rw [bne_iff_ne]; omega
  have d_part : (((e_part : Int) + 1) == 0) = false := by rw [beq_eq_false_iff_ne]; omega
  have n_part : (((e_part : Int) + 1) != 0) = true := by rw [bne_iff_ne]; omega
  obtain ⟨p, cap, rfl, g1, g2, g3⟩ := HI.out
  have j0 := iv_cell g3 (k := 0) (by simp)
  obtain ⟨b, off, rfl, j0⟩ := j0
  simp only [List.getElem_cons_zero, List.getElem_cons_succ, Nat.add_zero] at j0
  simp only [List.length_cons, List.length_nil] at g1
  clear g3 HI
  have J0 := Lib.hid j0
  go_wp2_with fail
  refine wp_phi (fun wq => Below w'.heap.size w' wq) [] [] (by kernel_rfl) (by kernel_rfl) ?_ ?_ (Below.refl _ _).drew ?_
  · intro w1 w2 h1 hb
    exact h1.trans (hb.mono h1.size)
  · intro p hp; cases hp
  repeat (first | (refine phi_skipK rfl (fun K hK => ?_); simp only [Act.put, List.setIfInBounds_toArray, List.set_cons_succ, List.set_cons_zero]; (try simp only [List.cons_append]); (try simp only [List.nil_append]); apply hK; clear hK K) | (refine phi_pureK rfl rfl (fun K hK => ?_); apply Exists.intro; constructor; (focus (rintro w' h1; (have k := M1.out.below h1 M1.out.lt; have q0 := (k.cell 0).trans rfl; have q1 := (k.cell 1).trans rfl; clear k; have j0 := Below.keeps h1 _ _ J0.out); first | (go_simp; done) | (go_simp; (try go_bits); (try go_simp); rfl) | go_simp)); simp only [Act.put, List.setIfInBounds_toArray, List.set_cons_succ, List.set_cons_zero]; (try simp only [List.cons_append]); (try simp only [List.nil_append]); apply hK; clear hK K))
  refine phi_done ?_
  rintro w' hb _
  refine wpList_nil ?_
  have B' := Lib.hid (B.out.trans (hb.mono B.out.size))
  have M1' := Lib.hid (M1.out.below hb M1.out.lt)
  have M2' := Lib.hid (M2.out.below hb M2.out.lt)
  have J0' := Lib.hid (Below.keeps hb _ _ J0.out)
  clear hb B M1 m10 m11 M2 m20 m21 J0 j0
  have B := Lib.hid B'.out
  have M1 := Lib.hid M1'.out
  have m10 := (M1.out.cell 0).trans rfl
  have m11 := (M1.out.cell 1).trans rfl
  have M2 := Lib.hid M2'.out
  have m20 := (M2.out.cell 0).trans rfl
  have m21 := (M2.out.cell 1).trans rfl
  have J0 := Lib.hid J0'.out
  have j0 := J0'.out
  clear B' M1' M2' J0'
  go_wp2_with fail
  refine wp_phi (fun wq => Below w'.heap.size w' wq) [] [] (by kernel_rfl) (by kernel_rfl) ?_ ?_ (Below.refl _ _).drew ?_
  · intro w1 w2 h1 hb
    exact h1.trans (hb.mono h1.size)
  · intro p hp; cases hp
  repeat (first | (refine phi_skipK rfl (fun K hK => ?_); simp only [Act.put, List.setIfInBounds_toArray, List.set_cons_succ, List.set_cons_zero]; (try simp only [List.cons_append]); (try simp only [List.nil_append]); apply hK; clear hK K) | (refine phi_pureK rfl rfl (fun K hK => ?_); apply Exists.intro; constructor; (focus (rintro w' h1; (have k := M2.out.below h1 M2.out.lt; have q0 := (k.cell 0).trans rfl; have q1 := (k.cell 1).trans rfl; clear k; have j0 := Below.keeps h1 _ _ J0.out); first | (go_simp; done) | (go_simp; (try go_bits); (try go_simp); rfl) | go_simp)); simp only [Act.put, List.setIfInBounds_toArray, List.set_cons_succ, List.set_cons_zero]; (try simp only [List.cons_append]); (try simp only [List.nil_append]); apply hK; clear hK K))
  refine phi_done ?_
  rintro w' hb _
  refine wpList_nil ?_
  have B' := Lib.hid (B.out.trans (hb.mono B.out.size))
  have M1' := Lib.hid (M1.out.below hb M1.out.lt)
  have M2' := Lib.hid (M2.out.below hb M2.out.lt)
  have J0' := Lib.hid (Below.keeps hb _ _ J0.out)
  clear hb B M1 m10 m11 M2 m20 m21 J0 j0
  have B := Lib.hid B'.out
  have M1 := Lib.hid M1'.out
  have m10 := (M1.out.cell 0).trans rfl
  have m11 := (M1.out.cell 1).trans rfl
  have M2 := Lib.hid M2'.out
  have m20 := (M2.out.cell 0).trans rfl
  have m21 := (M2.out.cell 1).trans rfl
  have J0 := Lib.hid J0'.out
  have j0 := J0'.out
  clear B' M1' M2' J0'
  go_wp2_with fail
  all_goals (first | (go_ret; exact ⟨rfl, B.out⟩) | skip)
end Go.Proofs.YtehdbiilbbbbpaaDoor
