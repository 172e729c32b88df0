/-
  FactR3: the document's Read.
-/
import Derived.Test.YtjklcbdlfmmllaaGreatDoorFactR1
import Derived.Test.YtjklcbdlfmmllaaGreatDoorFactB3
import Derived.Test.YtjklcbdlfmmllaaGreatDoorYJ
namespace Go.Proofs.YtjklcbdlfmmllaaGreatDoor
open Go.RowKit Go.Extern.Stop Go.Stop Go.Extern Ieee
attribute [local go_sem] flt_def fgt_def feq_def fne_def
attribute [local go_sem] run_store_flt

theorem intInfo13 : (Tryz.prog.info? 3).map (fun i => (i.zero, i.size, i.bytes)) = some (some (.int .i64 0), 1, 8) := by kernel_rfl
theorem make13 (w : World) : (Instr.makeSlice 63 (.int .i64 13) (.int .i64 13)).run Tryz.prog w = .ok (.slice (some ⟨w.heap.size, 0, none⟩) 13 13) (w.alloc (.cells (ivL zeros13) 3)) := by
  obtain ⟨i0, hi, hz0, hz1, hz2⟩ := info_parts intInfo13
  have h := run_makeSlice (P := Tryz.prog) w 63 3 i0 (.int .i64 0) Tryz.underlying63 hi hz0 .i64 .i64 13 13 (by omega) (by omega) (by rw [hz1]; decide) (by rw [hz2]; decide) (by omega)
  have hm : madeCells (Value.int .i64 0).cells (Int.toNat 13 * i0.size) = ivL zeros13 := by
    rw [hz1]
    show madeCells #[.int .i64 0] 13 = ivL [0, 0, 0, 0, 0, 0, 0, 0, 0, 0, 0, 0, 0]
    simp [madeCells, ivL, show Array.range 13 = #[0, 1, 2, 3, 4, 5, 6, 7, 8, 9, 10, 11, 12] from by decide]
  rw [h, hm]
  rfl
theorem ivL_set (l : List Int) (j : Nat) (x : Int) : (ivL l).setIfInBounds j (.int .i64 x) = ivL (l.set j x) := by
  unfold ivL
  simp
def PNew14 (B : Nat) : Part := ⟨fun v => ∃ g, v = .pointer (some ⟨g, 0, none⟩), fun w v => ∀ g, v = .pointer (some ⟨g, 0, none⟩) → B < g ∧ Blk w g 28 #[.int .i64 0, .int .i64 0, .int .i64 0, .int .i64 0, .int .i64 0, .int .i64 0, .int .i64 0, .int .i64 0, .int .i64 0, .int .i64 0, .int .i64 0, .int .i64 0, .int .i64 0, .float .f64 0]⟩
set_option maxRecDepth 20000 in
set_option maxHeartbeats 8000000 in
theorem refread14_any (b : List UInt8) (v : Value) (w : World) (hy : Byt w v b) (hbl : b.length ≤ 2000) :
    Calls Tryz.prog 14 #[v] w fun e w' => e = .returned (.tuple #[fctV (decF b), .int .i64 (decE b : Int)]) ∧ Below w.heap.size w w' := by
  obtain ⟨p, c, rfl, _, _, _⟩ := id hy
  have hmk := fun w => make13 w
  have HSP := Lib.hid (fun w' (hy : Byt w' (.slice p b.length c) b) => refsplit_any w' (.slice p b.length c) b hy (by omega))
  have B := Lib.hid (below_alloc1 w (.cells #[.int .i64 0, .int .i64 0, .int .i64 0, .int .i64 0, .int .i64 0, .int .i64 0, .int .i64 0, .int .i64 0, .int .i64 0, .int .i64 0, .int .i64 0, .int .i64 0, .int .i64 0, .float .f64 0] 28))
  have R := Lib.hid (Blk.new w 28 #[.int .i64 0, .int .i64 0, .int .i64 0, .int .i64 0, .int .i64 0, .int .i64 0, .int .i64 0, .int .i64 0, .int .i64 0, .int .i64 0, .int .i64 0, .int .i64 0, .int .i64 0, .float .f64 0])
  have HY := Lib.hid (hy.keep (Below.keeps B.out))
  clear hy
  go_enter Tryz.func14, Tryz.ntmps14
  go_wp2_with fail
  refine (HSP.out _ HY.out).mono ?_
  rintro e wx ⟨v2, rfl, hf, hb⟩
  have B' := Lib.hid (B.out.trans (hb.mono B.out.size))
  have R' := Lib.hid (R.out.below hb R.out.lt)
  have HF := Lib.hid hf
  clear hb hf B R HY HSP
  have B := Lib.hid B'.out
  have R := Lib.hid R'.out
  clear B' R'
  obtain ⟨p2, c2, us, rfl, k1, k2, k3, k4, k5⟩ := id HF.out
  have H4 := Lib.hid k4
  have H5 := Lib.hid k5
  unfold maxLen at k2
  clear k3 k4 k5 HF
  cases hE : splitE b with
  | succ n =>
    have HB := Lib.hid (show decE b = n + 1 ∧ decF b = fct0 by unfold decE decF; rw [hE]; exact ⟨rfl, rfl⟩)
    have z1 : (((n + 1 : Nat) : Int) == 0) = false := by simp; omega
    have z2 : (((n + 1 : Nat) : Int) != 0) = true := by simp; omega
    clear hE hmk
    have HN := Lib.hid (rfl : ((n + 1 : Nat) : Int) = ((n + 1 : Nat) : Int))
    generalize hen : ((n + 1 : Nat) : Int) = en at *
    clear HN
    have HEN := Lib.hid hen
    clear hen
    go_wp2_with (refine wpList_store (.tmp 2) (.tmp 23) 28 rfl rfl w.heap.size 0 _ _ #[.int .i64 0, .int .i64 0, .int .i64 0, .int .i64 0, .int .i64 0, .int .i64 0, .int .i64 0, .int .i64 0, .int .i64 0, .int .i64 0, .int .i64 0, .int .i64 0, .int .i64 0, .float .f64 0] rfl rfl R.out (by kernel_rfl) (by simp [Value.oneCell']) (by simp) ?_)
    intro w8 hn8 ko8
    have h8 : Blk w8 w.heap.size 28 #[.int .i64 0, .int .i64 0, .int .i64 0, .int .i64 0, .int .i64 0, .int .i64 0, .int .i64 0, .int .i64 0, .int .i64 0, .int .i64 0, .int .i64 0, .int .i64 0, .int .i64 0, .float .f64 0] := hn8
    have q0 := (h8.cell 0).trans rfl
    have q1 := (h8.cell 1).trans rfl
    have q2 := (h8.cell 2).trans rfl
    have q3 := (h8.cell 3).trans rfl
    have q4 := (h8.cell 4).trans rfl
    have q5 := (h8.cell 5).trans rfl
    have q6 := (h8.cell 6).trans rfl
    have q7 := (h8.cell 7).trans rfl
    have q8 := (h8.cell 8).trans rfl
    have q9 := (h8.cell 9).trans rfl
    have q10 := (h8.cell 10).trans rfl
    have q11 := (h8.cell 11).trans rfl
    have q12 := (h8.cell 12).trans rfl
    have q13 := (h8.cell 13).trans rfl
    have B8 := Lib.hid (B.out.trans (ko8.below (Nat.le_refl _)))
    clear hn8 ko8 h8
    go_wp2_with fail
    refine bodyPost_ret (v := .tuple #[.agg #[.int .i64 0, .int .i64 0, .int .i64 0, .int .i64 0, .int .i64 0, .int .i64 0, .int .i64 0, .int .i64 0, .int .i64 0, .int .i64 0, .int .i64 0, .int .i64 0, .int .i64 0, .float .f64 0], .int .i64 en]) (by simp [results, Tryz.results14, go_sem, q0, q1, q2, q3, q4, q5, q6, q7, q8, q9, q10, q11, q12, q13]) rfl ?_
    exact ⟨by rw [HB.out.1, HB.out.2, HEN.out]; rfl, B8.out⟩
  | zero =>
    obtain ⟨hrr, _⟩ := split_ok hE
    have HOK := Lib.hid (right_parts hrr).2
    have HDE := Lib.hid (show decF b = (rowFct (splitL b)).getD fct0 ∧ decE b = (if (rowFct (splitL b)).isSome then 0 else 4) by unfold decF decE; rw [hE]; exact ⟨rfl, rfl⟩)
    clear hE hrr
    generalize splitL b = fs at *
    have LB := Lib.hid (Blk.new wx 3 (ivL zeros13))
    have X0 := Lib.hid (below_alloc1 wx (.cells (ivL zeros13) 3))
    have B0 := Lib.hid B.out
    have R0 := Lib.hid R.out
    clear B R
    go_wp2_with fail
    go_loopw [7, 8, 28] (fun at_ th i wr => ∃ (k : Nat) (l : List Int) (o : Option Nat), k ≤ fs.length ∧ i = .int .i64 k ∧ at_ = .float .f64 (o.getD 0) ∧ th = .bool o.isSome ∧ putsC (zeros13, none) (fs.take k) = some (l, o) ∧ Blk wr wx.heap.size 3 (ivL l) ∧ Below wx.heap.size wx wr) (fun _ _ i _ => fs.length - (intOf i).toNat)
    case atStart => exact ⟨0, _, none, by omega, rfl, rfl, rfl, rfl, LB.out, X0.out⟩
    case round =>
      obtain ⟨k, l, o, hk, rfl, rfl, rfl, hps, hL, hbw⟩ := hrel
      have HPS := Lib.hid hps
      have hlen : l.length = 13 := by have := putsC_len _ hps; simpa [zeros13] using this
      have X := Lib.hid hbw
      have B := Lib.hid (B0.out.trans (hbw.mono B0.out.size))
      have R := Lib.hid (R0.out.below hbw R0.out.lt)
      have L := Lib.hid hL
      clear hps hL LB X0 B0
      by_cases hlt : k < fs.length
      · obtain ⟨bb, off, q, c, rfl, hc1, hc2, hby⟩ := fldL_cell H4.out H5.out hlt
        have g1 := Below.keeps hbw _ _ hc1
        have g2 := Below.keeps hbw _ _ hc2
        have HBY := Lib.hid (hby.keep (Below.keeps hbw))
        have hfo : fieldOk (lastOf 0 (fs.take k)) fs[k] = true ∧ 0 ≤ lastOf 0 (fs.take k) := by
          have e : fs = fs.take (k + 1) ++ fs.drop (k + 1) := (List.take_append_drop _ _).symm
          have h9 := HOK.out
          rw [e, rowOk_app, Bool.and_eq_true] at h9
          have h8 := h9.1
          rw [rowOk_take fs k hlt, Bool.and_eq_true] at h8
          exact ⟨h8.2, rowOk_lastOf _ _ (Int.le_refl _) h8.1⟩
        have htag : 1 ≤ fs[k].1 := by
          have h9 := hfo.1
          unfold fieldOk at h9
          simp only [Bool.and_eq_true, decide_eq_true_eq] at h9
          omega
        have HBAD := Lib.hid (@rowFct_bad fs k hlt (l, o) HPS.out)
        have HSTEP := Lib.hid (putsC_take (zeros13, none) fs k hlt)
        clear hc1 hc2 hby hfo
        generalize fs[k] = f at *
        obtain ⟨tag, dat⟩ := f
        simp only at g1 g2 HBY htag
        have Y2 := Lib.hid (HBY.out.keep (keep_alloc wr (.cells #[.int .i64 tag, .slice q dat.length c] 54)))
        have X2 := Lib.hid (below_alloc hbw (.cells #[.int .i64 tag, .slice q dat.length c] 54))
        have B2 := Lib.hid (below_alloc B.out (.cells #[.int .i64 tag, .slice q dat.length c] 54))
        have R2 := Lib.hid (R.out.alloc (.cells #[.int .i64 tag, .slice q dat.length c] 54))
        have L2 := Lib.hid (L.out.alloc (.cells #[.int .i64 tag, .slice q dat.length c] 54))
        clear HBY B R L X hbw
        by_cases c5 : tag = 14
        · subst c5
          have HTN := Lib.hid (fun w' (hy : Byt w' (.slice q dat.length c) dat) => reftofloat_any (.slice q dat.length c) dat w' hy)
          go_wp2_with fail
          refine (HTN.out _ Y2.out).mono ?_
          rintro e w3 ⟨rfl, hb3⟩
          have B := Lib.hid (B2.out.trans (hb3.mono B2.out.size))
          have R := Lib.hid (R2.out.below hb3 R2.out.lt)
          have L := Lib.hid (L2.out.below hb3 L2.out.lt)
          have X := Lib.hid (X2.out.trans (hb3.mono X2.out.size))
          clear hb3 B2 R2 L2 X2 Y2 g1 g2 HTN
          by_cases hE : toFltE dat = 0
          · have hE' : ((toFltE dat : Int) == 0) = true := by rw [beq_iff_eq]; omega
            have hE2 : ((toFltE dat : Int) != 0) = false := by rw [bne_eq_false_iff_eq]; omega
            have HST := Lib.hid (show putsC (zeros13, none) (fs.take (k + 1)) = some (l, some (toFltF dat)) by
              rw [HSTEP.out, HPS.out]
              simp only [Option.bind_some]
              unfold putC
              rw [if_pos rfl, if_pos hE])
            clear HBAD HSTEP HPS hE
            generalize ((toFltE dat : Nat) : Int) = te at *
            generalize toFltF dat = fx at *
            go_wp2_with fail
            go_roundw
            case rel => exact ⟨k + 1, l, some fx, by omega, by go_num, rfl, rfl, HST.out, L.out, X.out⟩
            case measure => simp [intOf]; omega
          · have hE' : ((toFltE dat : Int) == 0) = false := by rw [beq_eq_false_iff_ne]; omega
            have hE2 : ((toFltE dat : Int) != 0) = true := by rw [bne_iff_ne]; omega
            have hno := HBAD.out (by unfold putC; rw [if_pos rfl, if_neg hE])
            have HB := Lib.hid (show decE b = 4 ∧ decF b = fct0 by rw [HDE.out.1, HDE.out.2, hno]; exact ⟨rfl, rfl⟩)
            clear HBAD HSTEP HPS hE hno
            generalize ((toFltE dat : Nat) : Int) = te at *
            generalize toFltF dat = fx at *
            go_wp2_with (refine wpList_store (.tmp 2) (.tmp 43) 28 rfl rfl w.heap.size 0 _ _ #[.int .i64 0, .int .i64 0, .int .i64 0, .int .i64 0, .int .i64 0, .int .i64 0, .int .i64 0, .int .i64 0, .int .i64 0, .int .i64 0, .int .i64 0, .int .i64 0, .int .i64 0, .float .f64 0] rfl rfl R.out (by kernel_rfl) (by simp [Value.oneCell']) (by simp) ?_)
            intro w8 hn8 ko8
            have h8 : Blk w8 w.heap.size 28 #[.int .i64 0, .int .i64 0, .int .i64 0, .int .i64 0, .int .i64 0, .int .i64 0, .int .i64 0, .int .i64 0, .int .i64 0, .int .i64 0, .int .i64 0, .int .i64 0, .int .i64 0, .float .f64 0] := hn8
            have q0 := (h8.cell 0).trans rfl
            have q1 := (h8.cell 1).trans rfl
            have q2 := (h8.cell 2).trans rfl
            have q3 := (h8.cell 3).trans rfl
            have q4 := (h8.cell 4).trans rfl
            have q5 := (h8.cell 5).trans rfl
            have q6 := (h8.cell 6).trans rfl
            have q7 := (h8.cell 7).trans rfl
            have q8 := (h8.cell 8).trans rfl
            have q9 := (h8.cell 9).trans rfl
            have q10 := (h8.cell 10).trans rfl
            have q11 := (h8.cell 11).trans rfl
            have q12 := (h8.cell 12).trans rfl
            have q13 := (h8.cell 13).trans rfl
            have B8 := Lib.hid (B.out.trans (ko8.below (Nat.le_refl _)))
            clear hn8 ko8 h8
            go_wp2_with fail
            refine bodyPost_ret (v := .tuple #[.agg #[.int .i64 0, .int .i64 0, .int .i64 0, .int .i64 0, .int .i64 0, .int .i64 0, .int .i64 0, .int .i64 0, .int .i64 0, .int .i64 0, .int .i64 0, .int .i64 0, .int .i64 0, .float .f64 0], .int .i64 4]) (by simp [results, Tryz.results14, go_sem, q0, q1, q2, q3, q4, q5, q6, q7, q8, q9, q10, q11, q12, q13]) rfl ?_
            exact ⟨by rw [HB.out.1, HB.out.2]; rfl, B8.out⟩
        · have d14 : (tag == 14) = false := by rw [beq_eq_false_iff_ne]; exact c5
          have HTN := Lib.hid (fun w' (hy : Byt w' (.slice q dat.length c) dat) => reftonumber_any (.slice q dat.length c) dat w' hy)
          go_wp2_with fail
          refine (HTN.out _ Y2.out).mono ?_
          rintro e w3 ⟨rfl, hb3⟩
          have B := Lib.hid (B2.out.trans (hb3.mono B2.out.size))
          have R := Lib.hid (R2.out.below hb3 R2.out.lt)
          have L := Lib.hid (L2.out.below hb3 L2.out.lt)
          have X := Lib.hid (X2.out.trans (hb3.mono X2.out.size))
          have t1 : w3.cell? ⟨wr.heap.size, 0, none⟩ = some (.int .i64 tag) := by
            refine Below.keeps hb3 _ _ ?_
            go_simp
          have t2 : w3.cell? ⟨wr.heap.size, 1, none⟩ = some (.slice q dat.length c) := by
            refine Below.keeps hb3 _ _ ?_
            go_simp
          clear hb3 B2 R2 L2 X2 Y2 g1 g2 HTN
          by_cases hbadF : putF l (tag, dat) = none
          · have hno := HBAD.out (by unfold putC; rw [if_neg (by exact c5), hbadF]; rfl)
            have HB := Lib.hid (show decE b = 4 ∧ decF b = fct0 by rw [HDE.out.1, HDE.out.2, hno]; exact ⟨rfl, rfl⟩)
            have hways : decide (14 < tag) = true ∨ (decide (14 < tag) = false ∧ ((dat.length : Int) == 0) = true) ∨ (decide (14 < tag) = false ∧ ((dat.length : Int) == 0) = false ∧ ((toNumE dat : Int) == 0) = false ∧ ((toNumE dat : Int) != 0) = true) := by
              unfold putF at hbadF
              split at hbadF
              · rename_i h9
                rw [hlen] at h9
                by_cases q1 : 14 < tag
                · exact .inl (decide_eq_true q1)
                · by_cases q2 : dat = []
                  · exact .inr (.inl ⟨decide_eq_false q1, by subst q2; rfl⟩)
                  · have q3 : toNumE dat ≠ 0 := by
                      rcases h9 with h9 | h9 | h9
                      · omega
                      · exact absurd h9 q2
                      · exact h9
                    refine .inr (.inr ⟨decide_eq_false q1, ?_, ?_, ?_⟩)
                    · rw [beq_eq_false_iff_ne]; intro h; exact q2 (List.length_eq_zero_iff.1 (by omega))
                    · rw [beq_eq_false_iff_ne]; omega
                    · rw [bne_iff_ne]; omega
              · cases hbadF
            clear hbadF hno HBAD HSTEP HPS
            generalize ((toNumE dat : Nat) : Int) = te at *
            rcases hways with a1 | ⟨a1, a2⟩ | ⟨a1, a2, a3, a4⟩
            all_goals
              go_wp2_with (refine wpList_store (.tmp 2) (.tmp 64) 28 rfl rfl w.heap.size 0 _ _ #[.int .i64 0, .int .i64 0, .int .i64 0, .int .i64 0, .int .i64 0, .int .i64 0, .int .i64 0, .int .i64 0, .int .i64 0, .int .i64 0, .int .i64 0, .int .i64 0, .int .i64 0, .float .f64 0] rfl rfl R.out (by kernel_rfl) (by simp [Value.oneCell']) (by simp) ?_)
              intro w8 hn8 ko8
              have h8 : Blk w8 w.heap.size 28 #[.int .i64 0, .int .i64 0, .int .i64 0, .int .i64 0, .int .i64 0, .int .i64 0, .int .i64 0, .int .i64 0, .int .i64 0, .int .i64 0, .int .i64 0, .int .i64 0, .int .i64 0, .float .f64 0] := hn8
              have q0 := (h8.cell 0).trans rfl
              have q1 := (h8.cell 1).trans rfl
              have q2 := (h8.cell 2).trans rfl
              have q3 := (h8.cell 3).trans rfl
              have q4 := (h8.cell 4).trans rfl
              have q5 := (h8.cell 5).trans rfl
              have q6 := (h8.cell 6).trans rfl
              have q7 := (h8.cell 7).trans rfl
              have q8 := (h8.cell 8).trans rfl
              have q9 := (h8.cell 9).trans rfl
              have q10 := (h8.cell 10).trans rfl
              have q11 := (h8.cell 11).trans rfl
              have q12 := (h8.cell 12).trans rfl
              have q13 := (h8.cell 13).trans rfl
              have B8 := Lib.hid (B.out.trans (ko8.below (Nat.le_refl _)))
              clear hn8 ko8 h8
              go_wp2_with fail
              refine bodyPost_ret (v := .tuple #[.agg #[.int .i64 0, .int .i64 0, .int .i64 0, .int .i64 0, .int .i64 0, .int .i64 0, .int .i64 0, .int .i64 0, .int .i64 0, .int .i64 0, .int .i64 0, .int .i64 0, .int .i64 0, .float .f64 0], .int .i64 4]) (by simp [results, Tryz.results14, go_sem, q0, q1, q2, q3, q4, q5, q6, q7, q8, q9, q10, q11, q12, q13]) rfl ?_
              exact ⟨by rw [HB.out.1, HB.out.2]; rfl, B8.out⟩
          · obtain ⟨j, hj⟩ : ∃ j : Nat, tag = (j : Int) + 1 := ⟨(tag - 1).toNat, by omega⟩
            have hgood : ¬ ((l.length : Int) < tag ∨ dat = [] ∨ toNumE dat ≠ 0) := by
              intro h9
              exact hbadF (by unfold putF; rw [if_pos h9])
            simp only [not_or, Decidable.not_not, hlen] at hgood
            obtain ⟨q1, q2, q3⟩ := hgood
            have q1' : ¬ (13 : Int) < tag := q1
            have a1 : decide (14 < tag) = false := decide_eq_false (by omega)
            have a2 : ((dat.length : Int) == 0) = false := by
              rw [beq_eq_false_iff_ne]; intro h; exact q2 (List.length_eq_zero_iff.1 (by omega))
            have hj13 : j < 13 := by omega
            have hput : putF l (tag, dat) = some (l.set j (toNumF dat : Int)) := by
              unfold putF
              rw [if_neg (by rw [hlen, q3]; simp only [not_or]; exact ⟨q1', q2, by simp⟩)]
              simp only
              rw [show (tag - 1).toNat = j by omega]
            have HST := Lib.hid (show putsC (zeros13, none) (fs.take (k + 1)) = some (l.set j (toNumF dat : Int), o) by
              rw [HSTEP.out, HPS.out]
              simp only [Option.bind_some]
              unfold putC
              rw [if_neg (by exact c5), hput]
              rfl)
            rw [q3]
            subst hj
            have hjl : j < l.length := by omega
            have p2 : w3.cell? ⟨wx.heap.size, j, none⟩ = some (.int .i64 l[j]) := by
              rw [L.out.cell j]
              exact ivL_get l j hjl
            have p3 := L.out.frozen j
            have hw1 : (j : Int) + 1 - 1 = (j : Int) := by omega
            clear hput HBAD HSTEP q1 q1' q2 q3 hbadF htag c5
            generalize toNumF dat = x at *
            go_wp2_with fail
            go_roundw
            case rel =>
              refine ⟨k + 1, l.set j (x : Int), o, by omega, by go_num, rfl, rfl, HST.out, ?_, ?_⟩
              · have := L.out.set_ j (.int .i64 (x : Int))
                rwa [ivL_set] at this
              · exact X.out.trans (((Only.refl wx.heap.size w3).set_ j _).below (Nat.le_refl _))
            case measure => simp [intOf]; omega
      · obtain rfl : k = fs.length := by omega
        have hps' := HPS.out
        rw [List.take_of_length_le (Nat.le_refl _)] at hps'
        have hnum := read_nums HOK.out hps'
        have HROW := Lib.hid (show rowFct fs = endF (l, o) by unfold rowFct; rw [hps']; rfl)
        have HRI := Lib.hid (fun w' => refright14_any (fctOf l (o.getD 0)) hnum.2 w')
        have HEF := Lib.hid (show endF (l, o) = if o.isSome = decide ((fctOf l (o.getD 0)).k = 1) then (if rightF (fctOf l (o.getD 0)) then some (fctOf l (o.getD 0)) else none) else none from rfl)
        generalize o.getD 0 = y at *
        generalize o.isSome = so at *
        clear hps' HPS hnum
        obtain ⟨x0, x1, x2, x3, x4, x5, x6, x7, x8, x9, x10, x11, x12, rfl⟩ := thirteen hlen
        have HFV := Lib.hid (show fctV (fctOf [x0, x1, x2, x3, x4, x5, x6, x7, x8, x9, x10, x11, x12] y) = .agg #[.int .i64 x0, .int .i64 x1, .int .i64 x2, .int .i64 x3, .int .i64 x4, .int .i64 x5, .int .i64 x6, .int .i64 x7, .int .i64 x8, .int .i64 x9, .int .i64 x10, .int .i64 x11, .int .i64 x12, .float .f64 y] from rfl)
        have HFK := Lib.hid (show (fctOf [x0, x1, x2, x3, x4, x5, x6, x7, x8, x9, x10, x11, x12] y).k = x0 from rfl)
        rw [HFV.out] at HRI
        rw [HFK.out] at HEF
        generalize hff : fctOf [x0, x1, x2, x3, x4, x5, x6, x7, x8, x9, x10, x11, x12] y = ff at *
        clear hff HFK
        go_wp2_with fail
        refine wp_phi_tail (List.take 43 _) (List.drop 43 _) (List.take_append_drop 43 _).symm (fun wq => Below w.heap.size w wq ∧ Blk wq wx.heap.size 3 #[.int .i64 x0, .int .i64 x1, .int .i64 x2, .int .i64 x3, .int .i64 x4, .int .i64 x5, .int .i64 x6, .int .i64 x7, .int .i64 x8, .int .i64 x9, .int .i64 x10, .int .i64 x11, .int .i64 x12] ∧ Blk wq w.heap.size 28 #[.int .i64 0, .int .i64 0, .int .i64 0, .int .i64 0, .int .i64 0, .int .i64 0, .int .i64 0, .int .i64 0, .int .i64 0, .int .i64 0, .int .i64 0, .int .i64 0, .int .i64 0, .float .f64 0]) [(42, PNew14 w.heap.size)] [] (by kernel_rfl) (by kernel_rfl) ?_ ?_ ⟨B.out.drew, L.out, R.out⟩ ?_
        · rintro w1 w2 ⟨a1, a2, a3⟩ hb
          exact ⟨a1.trans (hb.mono a1.size), a2.below hb a2.lt, a3.below hb a3.lt⟩
        · simp only [List.mem_cons, List.not_mem_nil, or_false, forall_eq]
          exact fun _ _ _ _ hb h g hg => ⟨(h g hg).1, (h g hg).2.below hb (h g hg).2.lt⟩
        simp only [List.take_succ_cons, List.take_zero, List.drop_succ_cons, List.drop_zero]
        repeat (first | (refine phi_skipK rfl (fun K hK => ?_); simp only [Act.put, List.setIfInBounds_toArray, List.set_cons_succ, List.set_cons_zero]; (try simp only [List.cons_append]); (try simp only [List.nil_append]); apply hK; clear hK K) | (refine phi_pureK rfl rfl (fun K hK => ?_); apply Exists.intro; constructor; (focus (rintro w' ⟨h0, hN, hR⟩; (have k0 := (hN.cell 0).trans rfl; have k1 := (hN.cell 1).trans rfl; have k2 := (hN.cell 2).trans rfl; have k3 := (hN.cell 3).trans rfl; have k4 := (hN.cell 4).trans rfl; have k5 := (hN.cell 5).trans rfl; have k6 := (hN.cell 6).trans rfl; have k7 := (hN.cell 7).trans rfl; have k8 := (hN.cell 8).trans rfl; have k9 := (hN.cell 9).trans rfl; have k10 := (hN.cell 10).trans rfl; have k11 := (hN.cell 11).trans rfl; have k12 := (hN.cell 12).trans rfl; clear h0 hN hR); first | (go_simp; done) | (go_simp; (try go_bits); (try go_simp); rfl) | go_simp)); simp only [Act.put, List.setIfInBounds_toArray, List.set_cons_succ, List.set_cons_zero]; (try simp only [List.cons_append]); (try simp only [List.nil_append]); apply hK; clear hK K))
        refine phi_partK (PNew14 w.heap.size) rfl rfl ⟨_, 0, rfl⟩ ?_ (fun K hK v hv => ?_)
        · rintro w' ⟨h0, hN, hR⟩ _
          unfold gives
          go_simp
          exact ⟨⟨_, rfl⟩, fun g hg => by
            obtain rfl : w'.heap.size = g := by simpa using hg
            exact ⟨hR.lt, Blk.new _ _ _⟩, below_alloc1 _ _⟩
        obtain ⟨gc, rfl⟩ := hv
        simp only [Act.put, List.setIfInBounds_toArray, List.set_cons_succ, List.set_cons_zero]; (try simp only [List.cons_append]); (try simp only [List.nil_append])
        apply hK
        clear hK K
        refine phi_done ?_
        rintro w9 ⟨hB9, hL9, hR9⟩ hf
        obtain ⟨hgb, hC9⟩ := hf (42, fun wq => (PNew14 w.heap.size).fact wq (.pointer (some ⟨gc, 0, none⟩))) (by simp) gc rfl
        have B9 := Lib.hid hB9
        have R9 := Lib.hid hR9
        have HGB := Lib.hid hgb
        clear hf B R L X hB9 hL9 hR9
        refine wpList_store (.tmp 15) (.tmp 113) 28 rfl rfl gc 0 _ _ #[.int .i64 x0, .int .i64 x1, .int .i64 x2, .int .i64 x3, .int .i64 x4, .int .i64 x5, .int .i64 x6, .int .i64 x7, .int .i64 x8, .int .i64 x9, .int .i64 x10, .int .i64 x11, .int .i64 x12, .float .f64 y] rfl rfl hC9 (by kernel_rfl) (by simp [Value.oneCell']) (by simp) ?_
        intro w10 hn10 ko10
        have hC10 : Blk w10 gc 28 #[.int .i64 x0, .int .i64 x1, .int .i64 x2, .int .i64 x3, .int .i64 x4, .int .i64 x5, .int .i64 x6, .int .i64 x7, .int .i64 x8, .int .i64 x9, .int .i64 x10, .int .i64 x11, .int .i64 x12, .float .f64 y] := hn10
        have C := Lib.hid hC10
        have B := Lib.hid (B9.out.trans (ko10.below (by have := HGB.out; omega)))
        have R := Lib.hid (ko10.blk R9.out (by have := HGB.out; omega))
        clear hn10 ko10 hC10 hC9 B9 R9 hgb
        by_cases hk1 : so = decide (x0 = 1)
        · rw [if_pos hk1] at HEF
          have hnq : (so != (x0 == 1)) = false := by
            rw [hk1, bne_eq_false_iff_eq, Bool.eq_iff_iff, decide_eq_true_iff, beq_iff_eq]
          have hnq' : (so == (x0 == 1)) = true := by
            rw [hk1, beq_iff_eq, Bool.eq_iff_iff, decide_eq_true_iff, beq_iff_eq]
          clear hk1
          have c0 := (C.out.cell 0).trans rfl
          have c1 := (C.out.cell 1).trans rfl
          have c2 := (C.out.cell 2).trans rfl
          have c3 := (C.out.cell 3).trans rfl
          have c4 := (C.out.cell 4).trans rfl
          have c5 := (C.out.cell 5).trans rfl
          have c6 := (C.out.cell 6).trans rfl
          have c7 := (C.out.cell 7).trans rfl
          have c8 := (C.out.cell 8).trans rfl
          have c9 := (C.out.cell 9).trans rfl
          have c10 := (C.out.cell 10).trans rfl
          have c11 := (C.out.cell 11).trans rfl
          have c12 := (C.out.cell 12).trans rfl
          have c13 := (C.out.cell 13).trans rfl
          cases so
          all_goals
            cases hx01 : (x0 == 1)
            all_goals
              rw [hx01] at hnq hnq'
              first
                | exact absurd hnq (by decide)
                | skip
          all_goals
            go_wp2_with fail
            refine (HRI.out _).mono ?_
            rintro e w11 ⟨rfl, hb⟩
            have B' := Lib.hid (B.out.trans (hb.mono B.out.size))
            have C' := Lib.hid (C.out.below hb C.out.lt)
            have R' := Lib.hid (R.out.below hb R.out.lt)
            clear hb B C R c0 c1 c2 c3 c4 c5 c6 c7 c8 c9 c10 c11 c12 c13
            have B := Lib.hid B'.out
            have C := Lib.hid C'.out
            have R := Lib.hid R'.out
            clear B' C' R'
            cases hr : rightF ff
            · rw [hr] at HEF
              have HB := Lib.hid (show decE b = 4 ∧ decF b = fct0 by rw [HDE.out.1, HDE.out.2, HROW.out, HEF.out]; exact ⟨rfl, rfl⟩)
              clear hr HROW HDE HEF
              go_wp2_with (refine wpList_store (.tmp 2) (.tmp 124) 28 rfl rfl w.heap.size 0 _ _ #[.int .i64 0, .int .i64 0, .int .i64 0, .int .i64 0, .int .i64 0, .int .i64 0, .int .i64 0, .int .i64 0, .int .i64 0, .int .i64 0, .int .i64 0, .int .i64 0, .int .i64 0, .float .f64 0] rfl rfl R.out (by kernel_rfl) (by simp [Value.oneCell']) (by simp) ?_)
              intro w8 hn8 ko8
              have h8 : Blk w8 w.heap.size 28 #[.int .i64 0, .int .i64 0, .int .i64 0, .int .i64 0, .int .i64 0, .int .i64 0, .int .i64 0, .int .i64 0, .int .i64 0, .int .i64 0, .int .i64 0, .int .i64 0, .int .i64 0, .float .f64 0] := hn8
              have q0 := (h8.cell 0).trans rfl
              have q1 := (h8.cell 1).trans rfl
              have q2 := (h8.cell 2).trans rfl
              have q3 := (h8.cell 3).trans rfl
              have q4 := (h8.cell 4).trans rfl
              have q5 := (h8.cell 5).trans rfl
              have q6 := (h8.cell 6).trans rfl
              have q7 := (h8.cell 7).trans rfl
              have q8 := (h8.cell 8).trans rfl
              have q9 := (h8.cell 9).trans rfl
              have q10 := (h8.cell 10).trans rfl
              have q11 := (h8.cell 11).trans rfl
              have q12 := (h8.cell 12).trans rfl
              have q13 := (h8.cell 13).trans rfl
              have B8 := Lib.hid (B.out.trans (ko8.below (Nat.le_refl _)))
              clear hn8 ko8 h8
              go_wp2_with fail
              refine bodyPost_ret (v := .tuple #[.agg #[.int .i64 0, .int .i64 0, .int .i64 0, .int .i64 0, .int .i64 0, .int .i64 0, .int .i64 0, .int .i64 0, .int .i64 0, .int .i64 0, .int .i64 0, .int .i64 0, .int .i64 0, .float .f64 0], .int .i64 4]) (by simp [results, Tryz.results14, go_sem, q0, q1, q2, q3, q4, q5, q6, q7, q8, q9, q10, q11, q12, q13]) rfl ?_
              exact ⟨by rw [HB.out.1, HB.out.2]; rfl, B8.out⟩
            · rw [hr] at HEF
              have HB := Lib.hid (show decE b = 0 ∧ decF b = ff by rw [HDE.out.1, HDE.out.2, HROW.out, HEF.out]; exact ⟨rfl, rfl⟩)
              clear hr HROW HDE HEF
              have c0 := (C.out.cell 0).trans rfl
              have c1 := (C.out.cell 1).trans rfl
              have c2 := (C.out.cell 2).trans rfl
              have c3 := (C.out.cell 3).trans rfl
              have c4 := (C.out.cell 4).trans rfl
              have c5 := (C.out.cell 5).trans rfl
              have c6 := (C.out.cell 6).trans rfl
              have c7 := (C.out.cell 7).trans rfl
              have c8 := (C.out.cell 8).trans rfl
              have c9 := (C.out.cell 9).trans rfl
              have c10 := (C.out.cell 10).trans rfl
              have c11 := (C.out.cell 11).trans rfl
              have c12 := (C.out.cell 12).trans rfl
              have c13 := (C.out.cell 13).trans rfl
              go_wp2_with (refine wpList_store (.tmp 2) (.tmp 125) 28 rfl rfl w.heap.size 0 _ _ #[.int .i64 x0, .int .i64 x1, .int .i64 x2, .int .i64 x3, .int .i64 x4, .int .i64 x5, .int .i64 x6, .int .i64 x7, .int .i64 x8, .int .i64 x9, .int .i64 x10, .int .i64 x11, .int .i64 x12, .float .f64 y] rfl rfl R.out (by kernel_rfl) (by simp [Value.oneCell']) (by simp) ?_)
              intro w8 hn8 ko8
              have h8 : Blk w8 w.heap.size 28 #[.int .i64 x0, .int .i64 x1, .int .i64 x2, .int .i64 x3, .int .i64 x4, .int .i64 x5, .int .i64 x6, .int .i64 x7, .int .i64 x8, .int .i64 x9, .int .i64 x10, .int .i64 x11, .int .i64 x12, .float .f64 y] := hn8
              have q0 := (h8.cell 0).trans rfl
              have q1 := (h8.cell 1).trans rfl
              have q2 := (h8.cell 2).trans rfl
              have q3 := (h8.cell 3).trans rfl
              have q4 := (h8.cell 4).trans rfl
              have q5 := (h8.cell 5).trans rfl
              have q6 := (h8.cell 6).trans rfl
              have q7 := (h8.cell 7).trans rfl
              have q8 := (h8.cell 8).trans rfl
              have q9 := (h8.cell 9).trans rfl
              have q10 := (h8.cell 10).trans rfl
              have q11 := (h8.cell 11).trans rfl
              have q12 := (h8.cell 12).trans rfl
              have q13 := (h8.cell 13).trans rfl
              have B8 := Lib.hid (B.out.trans (ko8.below (Nat.le_refl _)))
              clear hn8 ko8 h8
              go_wp2_with fail
              refine bodyPost_ret (v := .tuple #[.agg #[.int .i64 x0, .int .i64 x1, .int .i64 x2, .int .i64 x3, .int .i64 x4, .int .i64 x5, .int .i64 x6, .int .i64 x7, .int .i64 x8, .int .i64 x9, .int .i64 x10, .int .i64 x11, .int .i64 x12, .float .f64 y], .int .i64 0]) (by simp [results, Tryz.results14, go_sem, q0, q1, q2, q3, q4, q5, q6, q7, q8, q9, q10, q11, q12, q13]) rfl ?_
              exact ⟨by rw [HB.out.1, HB.out.2, HFV.out]; rfl, B8.out⟩
        · rw [if_neg hk1] at HEF
          have hnq : (so != (x0 == 1)) = true := by
            rw [bne_iff_ne]
            intro h9
            apply hk1
            rw [h9, Bool.eq_iff_iff, decide_eq_true_iff, beq_iff_eq]
          have HB := Lib.hid (show decE b = 4 ∧ decF b = fct0 by rw [HDE.out.1, HDE.out.2, HROW.out, HEF.out]; exact ⟨rfl, rfl⟩)
          clear hk1 HDE HROW HEF
          have c0 := (C.out.cell 0).trans rfl
          have c1 := (C.out.cell 1).trans rfl
          have c2 := (C.out.cell 2).trans rfl
          have c3 := (C.out.cell 3).trans rfl
          have c4 := (C.out.cell 4).trans rfl
          have c5 := (C.out.cell 5).trans rfl
          have c6 := (C.out.cell 6).trans rfl
          have c7 := (C.out.cell 7).trans rfl
          have c8 := (C.out.cell 8).trans rfl
          have c9 := (C.out.cell 9).trans rfl
          have c10 := (C.out.cell 10).trans rfl
          have c11 := (C.out.cell 11).trans rfl
          have c12 := (C.out.cell 12).trans rfl
          have c13 := (C.out.cell 13).trans rfl
          cases so
          all_goals
            cases hx01 : (x0 == 1)
            all_goals
              rw [hx01] at hnq
              first
                | exact absurd hnq (by decide)
                | skip
          all_goals
            go_wp2_with (refine wpList_store (.tmp 2) (.tmp 124) 28 rfl rfl w.heap.size 0 _ _ #[.int .i64 0, .int .i64 0, .int .i64 0, .int .i64 0, .int .i64 0, .int .i64 0, .int .i64 0, .int .i64 0, .int .i64 0, .int .i64 0, .int .i64 0, .int .i64 0, .int .i64 0, .float .f64 0] rfl rfl R.out (by kernel_rfl) (by simp [Value.oneCell']) (by simp) ?_)
            intro w8 hn8 ko8
            have h8 : Blk w8 w.heap.size 28 #[.int .i64 0, .int .i64 0, .int .i64 0, .int .i64 0, .int .i64 0, .int .i64 0, .int .i64 0, .int .i64 0, .int .i64 0, .int .i64 0, .int .i64 0, .int .i64 0, .int .i64 0, .float .f64 0] := hn8
            have q0 := (h8.cell 0).trans rfl
            have q1 := (h8.cell 1).trans rfl
            have q2 := (h8.cell 2).trans rfl
            have q3 := (h8.cell 3).trans rfl
            have q4 := (h8.cell 4).trans rfl
            have q5 := (h8.cell 5).trans rfl
            have q6 := (h8.cell 6).trans rfl
            have q7 := (h8.cell 7).trans rfl
            have q8 := (h8.cell 8).trans rfl
            have q9 := (h8.cell 9).trans rfl
            have q10 := (h8.cell 10).trans rfl
            have q11 := (h8.cell 11).trans rfl
            have q12 := (h8.cell 12).trans rfl
            have q13 := (h8.cell 13).trans rfl
            have B8 := Lib.hid (B.out.trans (ko8.below (Nat.le_refl _)))
            clear hn8 ko8 h8
            go_wp2_with fail
            refine bodyPost_ret (v := .tuple #[.agg #[.int .i64 0, .int .i64 0, .int .i64 0, .int .i64 0, .int .i64 0, .int .i64 0, .int .i64 0, .int .i64 0, .int .i64 0, .int .i64 0, .int .i64 0, .int .i64 0, .int .i64 0, .float .f64 0], .int .i64 4]) (by simp [results, Tryz.results14, go_sem, q0, q1, q2, q3, q4, q5, q6, q7, q8, q9, q10, q11, q12, q13]) rfl ?_
            exact ⟨by rw [HB.out.1, HB.out.2]; rfl, B8.out⟩
end Go.Proofs.YtjklcbdlfmmllaaGreatDoor
