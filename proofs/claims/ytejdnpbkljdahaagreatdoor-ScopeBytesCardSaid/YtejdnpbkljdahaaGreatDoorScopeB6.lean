/-
  ScopeB6: the document's answer which context bytes are.
-/
import Derived.Test.YtejdnpbkljdahaaGreatDoorScopeB5
namespace Go.Proofs.YtejdnpbkljdahaaGreatDoor
open Go.RowKit Go.Extern.Stop Go.Stop Go.Extern Ieee
attribute [local go_sem] flt_def fgt_def feq_def fne_def
attribute [local go_sem] run_store_flt

theorem intInfo5 : (Tryz.prog.info? 3).map (fun i => (i.zero, i.size, i.bytes)) = some (some (.int .i64 0), 1, 8) := by kernel_rfl
theorem make5 (w : World) : (Instr.makeSlice 70 (.int .i64 5) (.int .i64 5)).run Tryz.prog w = .ok (.slice (some ⟨w.heap.size, 0, none⟩) 5 5) (w.alloc (.cells (ivZ [0, 0, 0, 0, 0]) 3)) := by
  obtain ⟨i0, hi, hz0, hz1, hz2⟩ := info_parts intInfo5
  have h := run_makeSlice (P := Tryz.prog) w 70 3 i0 (.int .i64 0) Tryz.underlying70 hi hz0 .i64 .i64 5 5 (by omega) (by omega) (by rw [hz1]; decide) (by rw [hz2]; decide) (by omega)
  have hm : madeCells (Value.int .i64 0).cells (Int.toNat 5 * i0.size) = ivZ [0, 0, 0, 0, 0] := by
    rw [hz1]
    show madeCells #[.int .i64 0] 5 = ivZ [0, 0, 0, 0, 0]
    simp [madeCells, ivZ, show Array.range 5 = #[0, 1, 2, 3, 4] from by decide]
  rw [h, hm]
  rfl
def PNewC (B : Nat) : Part := ⟨fun v => ∃ g, v = .pointer (some ⟨g, 0, none⟩), fun w v => ∀ g, v = .pointer (some ⟨g, 0, none⟩) → B < g ∧ Blk w g 26 #[.int .i64 0, .int .i64 0, .int .i64 0, .int .i64 0, .float .f64 0]⟩
set_option maxRecDepth 20000 in
set_option maxHeartbeats 4000000 in
theorem refdecode_any (b : List UInt8) (v : Value) (w : World) (hy : Byt w v b) (hbl : b.length ≤ 2000) :
    Calls Tryz.prog 11 #[v] w fun e w' => e = .returned (.tuple #[ctxV (decCC b), .int .i64 (decCE b : Int)]) ∧ Below w.heap.size w w' := by
  obtain ⟨p, c, rfl, _, _, _⟩ := id hy
  have hmk := fun w => make5 w
  have HSP := Lib.hid (fun w' (hy : Byt w' (.slice p b.length c) b) => refsplit_any w' (.slice p b.length c) b hy (by omega))
  have B := Lib.hid (below_alloc (below_alloc1 w (.cells #[.int .i64 0, .int .i64 0, .int .i64 0, .int .i64 0, .float .f64 0] 26)) (.cells #[.int .i64 0, .int .i64 0, .int .i64 0, .int .i64 0, .float .f64 0] 26))
  have M := Lib.hid ((Blk.new w 26 #[.int .i64 0, .int .i64 0, .int .i64 0, .int .i64 0, .float .f64 0]).alloc (.cells #[.int .i64 0, .int .i64 0, .int .i64 0, .int .i64 0, .float .f64 0] 26))
  have O := Lib.hid (show Blk ((w.alloc (.cells #[.int .i64 0, .int .i64 0, .int .i64 0, .int .i64 0, .float .f64 0] 26)).alloc (.cells #[.int .i64 0, .int .i64 0, .int .i64 0, .int .i64 0, .float .f64 0] 26)) (w.heap.size + 1) 26 #[.int .i64 0, .int .i64 0, .int .i64 0, .int .i64 0, .float .f64 0] from by
    have := Blk.new (w.alloc (.cells #[.int .i64 0, .int .i64 0, .int .i64 0, .int .i64 0, .float .f64 0] 26)) 26 #[.int .i64 0, .int .i64 0, .int .i64 0, .int .i64 0, .float .f64 0]
    rwa [World.size_alloc] at this)
  have HYO := Lib.hid hy
  clear hy
  go_enter Tryz.func11, Tryz.ntmps11
  go_wp2_with (refine wpList_store (.tmp 4) (.tmp 17) 26 rfl rfl (w.heap.size + 1) 0 _ _ #[.int .i64 0, .int .i64 0, .int .i64 0, .int .i64 0, .float .f64 0] rfl rfl O.out (by kernel_rfl) (by simp [Value.oneCell']) (by simp) ?_)
  intro w0 hn0 ko0
  have h0 : Blk w0 (w.heap.size + 1) 26 #[.int .i64 0, .int .i64 0, .int .i64 0, .int .i64 0, .float .f64 0] := hn0
  have B0 := Lib.hid (B.out.trans (ko0.below (Nat.le_succ _)))
  have M0 := Lib.hid (ko0.blk M.out (by omega))
  have O0 := Lib.hid h0
  have HY0 := Lib.hid (HYO.out.keep (Below.keeps B0.out))
  clear hn0 ko0 h0 B M O HYO
  go_wp2_with fail
  refine (HSP.out _ HY0.out).mono ?_
  rintro e wx ⟨v2, rfl, hf, hb⟩
  have B := Lib.hid (B0.out.trans (hb.mono B0.out.size))
  have M := Lib.hid (M0.out.below hb M0.out.lt)
  have O := Lib.hid (O0.out.below hb O0.out.lt)
  have HF := Lib.hid hf
  clear hb hf B0 M0 O0 HY0 HSP
  obtain ⟨p2, c2, us, rfl, k1, k2, k3, k4, k5⟩ := id HF.out
  have H4 := Lib.hid k4
  have H5 := Lib.hid k5
  unfold maxLen at k2
  clear k3 k4 k5 HF
  cases hE : splitE b with
  | succ n =>
    have HB := Lib.hid (show decCE b = n + 1 ∧ decCC b = ctx0 by unfold decCE decCC; rw [hE]; exact ⟨rfl, rfl⟩)
    have z1 : (((n + 1 : Nat) : Int) == 0) = false := by rw [beq_eq_false_iff_ne]; omega
    have z2 : (((n + 1 : Nat) : Int) != 0) = true := by rw [bne_iff_ne]; omega
    clear hE
    generalize hen : ((n + 1 : Nat) : Int) = en at *
    have HEN := Lib.hid hen
    clear hen
    have m0 := (O.out.cell 0).trans rfl
    have m1 := (O.out.cell 1).trans rfl
    have m2 := (O.out.cell 2).trans rfl
    have m3 := (O.out.cell 3).trans rfl
    have m4 := (O.out.cell 4).trans rfl
    go_wp2_with (refine wpList_store (.tmp 2) (.tmp 25) 26 rfl rfl w.heap.size 0 _ _ #[.int .i64 0, .int .i64 0, .int .i64 0, .int .i64 0, .float .f64 0] rfl rfl M.out (by kernel_rfl) (by simp [Value.oneCell']) (by simp) ?_)
    intro w8 hn8 ko8
    have h8 : Blk w8 w.heap.size 26 #[.int .i64 0, .int .i64 0, .int .i64 0, .int .i64 0, .float .f64 0] := hn8
    have q0 := (h8.cell 0).trans rfl
    have q1 := (h8.cell 1).trans rfl
    have q2 := (h8.cell 2).trans rfl
    have q3 := (h8.cell 3).trans rfl
    have q4 := (h8.cell 4).trans rfl
    have B8 := Lib.hid (B.out.trans (ko8.below (Nat.le_refl _)))
    clear hn8 ko8 h8
    go_wp2_with fail
    refine bodyPost_ret (v := .tuple #[.agg #[.int .i64 0, .int .i64 0, .int .i64 0, .int .i64 0, .float .f64 0], .int .i64 en]) (by simp [results, Tryz.results11, go_sem, q0, q1, q2, q3, q4]) rfl ?_
    exact ⟨by rw [HB.out.1, HB.out.2, HEN.out]; rfl, B8.out⟩
  | zero =>
    obtain ⟨hrr, _⟩ := split_ok hE
    have HOK := Lib.hid (right_parts hrr).2
    have HDE := Lib.hid (show decCE b = (if (rowCtx (splitL b)).isSome then 0 else 4) ∧ decCC b = (rowCtx (splitL b)).getD ctx0 by unfold decCE decCC; rw [hE]; exact ⟨rfl, rfl⟩)
    clear hE hrr
    generalize splitL b = fs at *
    have LB := Lib.hid (Blk.new wx 3 (ivZ [0, 0, 0, 0, 0]))
    have X0 := Lib.hid (below_alloc1 wx (.cells (ivZ [0, 0, 0, 0, 0]) 3))
    have HO1 := Lib.hid (show w.heap.size + 1 < wx.heap.size from O.out.lt)
    have B0 := Lib.hid B.out
    have M0 := Lib.hid M.out
    have O0 := Lib.hid O.out
    clear B M O
    go_wp2_with fail
    go_loopw [8, 9, 30] (fun at_ th i wr => ∃ (k : Nat) (l : List Int) (o : Option Nat), k ≤ fs.length ∧ i = .int .i64 k ∧ at_ = .float .f64 (o.getD 0) ∧ th = .bool o.isSome ∧ putsC ([0, 0, 0, 0], none) (fs.take k) = some (l, o) ∧ Blk wr wx.heap.size 3 (ivZ (0 :: l)) ∧ Below wx.heap.size wx wr) (fun _ _ i _ => fs.length - (intOf i).toNat)
    case atStart => exact ⟨0, _, none, by omega, rfl, rfl, rfl, rfl, LB.out, X0.out⟩
    case round =>
      obtain ⟨k, l, o, hk, rfl, rfl, rfl, hps, hL, hbw⟩ := hrel
      have HPS := Lib.hid hps
      have hlen : l.length = 4 := by have := putsC_len _ hps; simpa using this
      have X := Lib.hid hbw
      have B := Lib.hid (B0.out.trans (hbw.mono B0.out.size))
      have M := Lib.hid (M0.out.below hbw M0.out.lt)
      have O := Lib.hid (O0.out.below hbw O0.out.lt)
      have L := Lib.hid hL
      clear hps hL LB X0 B0 M0 O0
      by_cases hlt : k < fs.length
      · obtain ⟨bb, off, q, c, rfl, hc1, hc2, hby⟩ := fldL_cell H4.out H5.out hlt
        have g1 := Below.keeps hbw _ _ hc1
        have g2 := Below.keeps hbw _ _ hc2
        have HBY := Lib.hid (hby.keep (Below.keeps hbw))
        have hfo : fieldOk (lastOf 0 (fs.take k)) fs[k] = true ∧ 0 ≤ lastOf 0 (fs.take k) := by
          have e : fs = fs.take (k + 1) ++ fs.drop (k + 1) := (List.take_append_drop _ _).symm
          have h9 := HOK.out
          rw [e, rowOk_app, Bool.and_eq_true] at h9
          have h8 := h9.1
          rw [rowOk_take fs k hlt, Bool.and_eq_true] at h8
          exact ⟨h8.2, rowOk_lastOf _ _ (Int.le_refl _) h8.1⟩
        have htag : 1 ≤ fs[k].1 := by
          have h9 := hfo.1
          unfold fieldOk at h9
          simp only [Bool.and_eq_true, decide_eq_true_eq] at h9
          omega
        have HBAD := Lib.hid (@rowCtx_bad fs k hlt (l, o) HPS.out)
        have HSTEP := Lib.hid (putsC_take ([0, 0, 0, 0], none) fs k hlt)
        clear hc1 hc2 hby hfo
        generalize fs[k] = f at *
        obtain ⟨tag, dat⟩ := f
        simp only at g1 g2 HBY htag
        have Y2 := Lib.hid (HBY.out.keep (keep_alloc wr (.cells #[.int .i64 tag, .slice q dat.length c] 54)))
        have X2 := Lib.hid (below_alloc hbw (.cells #[.int .i64 tag, .slice q dat.length c] 54))
        have B2 := Lib.hid (below_alloc B.out (.cells #[.int .i64 tag, .slice q dat.length c] 54))
        have M2 := Lib.hid (M.out.alloc (.cells #[.int .i64 tag, .slice q dat.length c] 54))
        have O2 := Lib.hid (O.out.alloc (.cells #[.int .i64 tag, .slice q dat.length c] 54))
        have L2 := Lib.hid (L.out.alloc (.cells #[.int .i64 tag, .slice q dat.length c] 54))
        clear HBY B M O L X hbw
        by_cases c5 : tag = 5
        · subst c5
          have HTN := Lib.hid (fun w' (hy : Byt w' (.slice q dat.length c) dat) => reftofloat_any (.slice q dat.length c) dat w' hy)
          go_wp2_with fail
          refine (HTN.out _ Y2.out).mono ?_
          rintro e w3 ⟨rfl, hb3⟩
          have B := Lib.hid (B2.out.trans (hb3.mono B2.out.size))
          have M := Lib.hid (M2.out.below hb3 M2.out.lt)
          have O := Lib.hid (O2.out.below hb3 O2.out.lt)
          have L := Lib.hid (L2.out.below hb3 L2.out.lt)
          have X := Lib.hid (X2.out.trans (hb3.mono X2.out.size))
          clear hb3 B2 M2 O2 L2 X2 Y2 g1 g2 HTN
          by_cases hE : toFltE dat = 0
          · have HST := Lib.hid (show putsC ([0, 0, 0, 0], none) (fs.take (k + 1)) = some (l, some (toFltF dat)) by
              rw [HSTEP.out, HPS.out]
              show putC (l, o) (5, dat) = _
              unfold putC
              rw [if_pos rfl, if_pos hE])
            rw [hE]
            clear HBAD HSTEP hE htag
            generalize toFltF dat = x at *
            go_wp2_with fail
            go_roundw
            case rel => exact ⟨k + 1, l, some x, by omega, by go_num, rfl, rfl, HST.out, L.out, X.out⟩
            case measure => simp [intOf]; omega
          · have hno : rowCtx fs = none := HBAD.out (by unfold putC; rw [if_pos rfl, if_neg hE])
            have HB := Lib.hid (show decCE b = 4 ∧ decCC b = ctx0 by rw [HDE.out.1, HDE.out.2, hno]; exact ⟨rfl, rfl⟩)
            have z1 : ((toFltE dat : Int) == 0) = false := by rw [beq_eq_false_iff_ne]; omega
            have z2 : ((toFltE dat : Int) != 0) = true := by rw [bne_iff_ne]; omega
            clear HBAD HSTEP hE hno
            generalize ((toFltE dat : Nat) : Int) = te at *
            generalize toFltF dat = x at *
            have m0 := (O.out.cell 0).trans rfl
            have m1 := (O.out.cell 1).trans rfl
            have m2 := (O.out.cell 2).trans rfl
            have m3 := (O.out.cell 3).trans rfl
            have m4 := (O.out.cell 4).trans rfl
            go_wp2_with (refine wpList_store (.tmp 2) (.tmp 45) 26 rfl rfl w.heap.size 0 _ _ #[.int .i64 0, .int .i64 0, .int .i64 0, .int .i64 0, .float .f64 0] rfl rfl M.out (by kernel_rfl) (by simp [Value.oneCell']) (by simp) ?_)
            intro w8 hn8 ko8
            have h8 : Blk w8 w.heap.size 26 #[.int .i64 0, .int .i64 0, .int .i64 0, .int .i64 0, .float .f64 0] := hn8
            have q0 := (h8.cell 0).trans rfl
            have q1 := (h8.cell 1).trans rfl
            have q2 := (h8.cell 2).trans rfl
            have q3 := (h8.cell 3).trans rfl
            have q4 := (h8.cell 4).trans rfl
            have B8 := Lib.hid (B.out.trans (ko8.below (Nat.le_refl _)))
            clear hn8 ko8 h8
            go_wp2_with fail
            refine bodyPost_ret (v := .tuple #[.agg #[.int .i64 0, .int .i64 0, .int .i64 0, .int .i64 0, .float .f64 0], .int .i64 4]) (by simp [results, Tryz.results11, go_sem, q0, q1, q2, q3, q4]) rfl ?_
            exact ⟨by rw [HB.out.1, HB.out.2]; rfl, B8.out⟩
        · have d0 : (tag == 5) = false := by simpa using c5
          have hpc : putC (l, o) (tag, dat) = (putF l (tag, dat)).map fun l => (l, o) := by unfold putC; exact if_neg c5
          have HTN := Lib.hid (fun w' (hy : Byt w' (.slice q dat.length c) dat) => reftonumber_any (.slice q dat.length c) dat w' hy)
          go_wp2_with fail
          refine (HTN.out _ Y2.out).mono ?_
          rintro e w3 ⟨rfl, hb3⟩
          have B := Lib.hid (B2.out.trans (hb3.mono B2.out.size))
          have M := Lib.hid (M2.out.below hb3 M2.out.lt)
          have O := Lib.hid (O2.out.below hb3 O2.out.lt)
          have L := Lib.hid (L2.out.below hb3 L2.out.lt)
          have X := Lib.hid (X2.out.trans (hb3.mono X2.out.size))
          have t1 : w3.cell? ⟨wr.heap.size, 0, none⟩ = some (.int .i64 tag) := by
            refine Below.keeps hb3 _ _ ?_
            go_simp
          have t2 : w3.cell? ⟨wr.heap.size, 1, none⟩ = some (.slice q dat.length c) := by
            refine Below.keeps hb3 _ _ ?_
            go_simp
          clear hb3 B2 M2 O2 L2 X2 Y2 g1 g2 HTN
          by_cases hbadF : putF l (tag, dat) = none
          · have hno := HBAD.out (by rw [hpc, hbadF]; rfl)
            have HB := Lib.hid (show decCE b = 4 ∧ decCC b = ctx0 by rw [HDE.out.1, HDE.out.2, hno]; exact ⟨rfl, rfl⟩)
            have hways : decide (5 < tag) = true ∨ (decide (5 < tag) = false ∧ ((dat.length : Int) == 0) = true) ∨ (decide (5 < tag) = false ∧ ((dat.length : Int) == 0) = false ∧ ((toNumE dat : Int) == 0) = false ∧ ((toNumE dat : Int) != 0) = true) := by
              unfold putF at hbadF
              split at hbadF
              · rename_i h9
                rw [hlen] at h9
                by_cases q1 : 5 < tag
                · exact .inl (decide_eq_true q1)
                · by_cases q2 : dat = []
                  · exact .inr (.inl ⟨decide_eq_false q1, by subst q2; rfl⟩)
                  · have q3 : toNumE dat ≠ 0 := by
                      rcases h9 with h9 | h9 | h9
                      · have h9' : (4 : Int) < tag := h9
                        omega
                      · exact absurd h9 q2
                      · exact h9
                    refine .inr (.inr ⟨decide_eq_false q1, ?_, ?_, ?_⟩)
                    · rw [beq_eq_false_iff_ne]; intro h; exact q2 (List.length_eq_zero_iff.1 (by omega))
                    · rw [beq_eq_false_iff_ne]; omega
                    · rw [bne_iff_ne]; omega
              · cases hbadF
            clear hbadF hno HBAD HSTEP HPS hpc
            generalize ((toNumE dat : Nat) : Int) = te at *
            rcases hways with a1 | ⟨a1, a2⟩ | ⟨a1, a2, a3, a4⟩
            all_goals
              have m0 := (O.out.cell 0).trans rfl
              have m1 := (O.out.cell 1).trans rfl
              have m2 := (O.out.cell 2).trans rfl
              have m3 := (O.out.cell 3).trans rfl
              have m4 := (O.out.cell 4).trans rfl
              go_wp2_with (refine wpList_store (.tmp 2) (.tmp 66) 26 rfl rfl w.heap.size 0 _ _ #[.int .i64 0, .int .i64 0, .int .i64 0, .int .i64 0, .float .f64 0] rfl rfl M.out (by kernel_rfl) (by simp [Value.oneCell']) (by simp) ?_)
              intro w8 hn8 ko8
              have h8 : Blk w8 w.heap.size 26 #[.int .i64 0, .int .i64 0, .int .i64 0, .int .i64 0, .float .f64 0] := hn8
              have q0 := (h8.cell 0).trans rfl
              have q1 := (h8.cell 1).trans rfl
              have q2 := (h8.cell 2).trans rfl
              have q3 := (h8.cell 3).trans rfl
              have q4 := (h8.cell 4).trans rfl
              have B8 := Lib.hid (B.out.trans (ko8.below (Nat.le_refl _)))
              clear hn8 ko8 h8
              go_wp2_with fail
              refine bodyPost_ret (v := .tuple #[.agg #[.int .i64 0, .int .i64 0, .int .i64 0, .int .i64 0, .float .f64 0], .int .i64 4]) (by simp [results, Tryz.results11, go_sem, q0, q1, q2, q3, q4]) rfl ?_
              exact ⟨by rw [HB.out.1, HB.out.2]; rfl, B8.out⟩
          · obtain ⟨j, hj⟩ : ∃ j : Nat, tag = (j : Int) + 1 := ⟨(tag - 1).toNat, by omega⟩
            have hgood : ¬ ((l.length : Int) < tag ∨ dat = [] ∨ toNumE dat ≠ 0) := by
              intro h9
              exact hbadF (by unfold putF; rw [if_pos h9])
            simp only [not_or, Decidable.not_not, hlen] at hgood
            obtain ⟨q1, q2, q3⟩ := hgood
            have q1' : ¬ (4 : Int) < tag := q1
            have a1 : decide (5 < tag) = false := decide_eq_false (by omega)
            have a2 : ((dat.length : Int) == 0) = false := by
              rw [beq_eq_false_iff_ne]; intro h; exact q2 (List.length_eq_zero_iff.1 (by omega))
            have hj4 : j < 4 := by omega
            have HST := Lib.hid (show putsC ([0, 0, 0, 0], none) (fs.take (k + 1)) = some (l.set j (toNumF dat : Int), o) by
              rw [HSTEP.out, HPS.out]
              show putC (l, o) (tag, dat) = _
              rw [hpc]
              unfold putF
              rw [if_neg (by rw [hlen, q3]; simp only [not_or]; exact ⟨q1', q2, by simp⟩)]
              simp only
              rw [show (tag - 1).toNat = j by omega]
              rfl)
            rw [q3]
            subst hj
            have hjl : j + 1 < (0 :: l).length := by simp; omega
            have p2 : w3.cell? ⟨wx.heap.size, j + 1, none⟩ = some (.int .i64 (0 :: l)[j + 1]) := by
              rw [L.out.cell (j + 1)]
              exact ivZ_get _ (j + 1) hjl
            have p3 := L.out.frozen (j + 1)
            have hjt : ((j : Int) + 1).toNat = j + 1 := by omega
            have hj0 : (0 : Int) ≤ (j : Int) + 1 := by omega
            have hj5 : (j : Int) + 1 < 5 := by omega
            clear HBAD HSTEP q1 q1' q2 q3 hbadF htag hpc
            generalize toNumF dat = x at *
            generalize (0 :: l)[j + 1] = old at *
            go_wp2_with fail
            go_roundw
            case rel =>
              refine ⟨k + 1, l.set j (x : Int), o, by omega, by go_num, rfl, rfl, HST.out, ?_, ?_⟩
              · have := L.out.set_ (j + 1) (.int .i64 (x : Int))
                rw [ivZ_set] at this
                exact this
              · exact X.out.trans (((Only.refl wx.heap.size w3).set_ (j + 1) _).below (Nat.le_refl _))
            case measure => simp [intOf]; omega
      · obtain rfl : k = fs.length := by omega
        have hps' := HPS.out
        rw [List.take_of_length_le (Nat.le_refl _)] at hps'
        have HROW := Lib.hid (show rowCtx fs = endC (l, o) by unfold rowCtx; rw [hps']; rfl)
        have hfx : o.getD 0 < 18446744073709551616 := by
          cases o with
          | none => decide
          | some x => exact (read_nums HOK.out hps').2
        clear hps' HPS
        obtain ⟨x0, x1, x2, x3, rfl⟩ := four hlen
        have hL5 : Blk wr wx.heap.size 3 #[.int .i64 0, .int .i64 x0, .int .i64 x1, .int .i64 x2, .int .i64 x3] := L.out
        have HL5 := Lib.hid hL5
        clear hL5 L
        generalize hofx : o.getD 0 = fx at *
        have HRI := Lib.hid (fun w' => rright_any x0 x1 x2 x3 fx hfx w')
        go_wp2_with fail
        refine wp_phi_tail (List.take 16 _) (List.drop 16 _) (List.take_append_drop 16 _).symm (fun wq => Below w.heap.size w wq ∧ Blk wq wx.heap.size 3 #[.int .i64 0, .int .i64 x0, .int .i64 x1, .int .i64 x2, .int .i64 x3] ∧ Blk wq w.heap.size 26 #[.int .i64 0, .int .i64 0, .int .i64 0, .int .i64 0, .float .f64 0] ∧ Blk wq (w.heap.size + 1) 26 #[.int .i64 0, .int .i64 0, .int .i64 0, .int .i64 0, .float .f64 0]) [(15, PNewC (w.heap.size + 1))] [] (by kernel_rfl) (by kernel_rfl) ?_ ?_ ⟨B.out.drew, HL5.out, M.out, O.out⟩ ?_
        · rintro w1 w2 ⟨a1, a2, a3, a4⟩ hb
          exact ⟨a1.trans (hb.mono a1.size), a2.below hb a2.lt, a3.below hb a3.lt, a4.below hb a4.lt⟩
        · simp only [List.mem_cons, List.not_mem_nil, or_false, forall_eq]
          exact fun _ _ _ _ hb h g hg => ⟨(h g hg).1, (h g hg).2.below hb (h g hg).2.lt⟩
        simp only [List.take_succ_cons, List.take_zero, List.drop_succ_cons, List.drop_zero]
        repeat (first | (refine phi_skipK rfl (fun K hK => ?_); simp only [Act.put, List.setIfInBounds_toArray, List.set_cons_succ, List.set_cons_zero]; (try simp only [List.cons_append]); (try simp only [List.nil_append]); apply hK; clear hK K) | (refine phi_pureK rfl rfl (fun K hK => ?_); apply Exists.intro; constructor; (focus (rintro w' ⟨h0, hN, hM, hO⟩; (have k0 := (hN.cell 0).trans rfl; have k1 := (hN.cell 1).trans rfl; have k2 := (hN.cell 2).trans rfl; have k3 := (hN.cell 3).trans rfl; have k4 := (hN.cell 4).trans rfl; clear h0 hN hM hO); first | (go_simp; done) | (go_simp; (try go_bits); (try go_simp); rfl) | go_simp)); simp only [Act.put, List.setIfInBounds_toArray, List.set_cons_succ, List.set_cons_zero]; (try simp only [List.cons_append]); (try simp only [List.nil_append]); apply hK; clear hK K))
        refine phi_partK (PNewC (w.heap.size + 1)) rfl rfl ⟨_, 0, rfl⟩ ?_ (fun K hK v hv => ?_)
        · rintro w' ⟨h0, hN, hM, hO⟩ _
          unfold gives
          go_simp
          exact ⟨⟨_, rfl⟩, fun g hg => by
            obtain rfl : w'.heap.size = g := by simpa using hg
            exact ⟨hO.lt, Blk.new _ _ _⟩, below_alloc1 _ _⟩
        obtain ⟨gc, rfl⟩ := hv
        simp only [Act.put, List.setIfInBounds_toArray, List.set_cons_succ, List.set_cons_zero]; (try simp only [List.cons_append]); (try simp only [List.nil_append])
        apply hK
        clear hK K
        refine phi_done ?_
        rintro w9 ⟨hB9, hL9, hM9, hO9⟩ hf
        obtain ⟨hgb, hC9⟩ := hf (15, fun wq => (PNewC (w.heap.size + 1)).fact wq (.pointer (some ⟨gc, 0, none⟩))) (by simp) gc rfl
        have B9 := Lib.hid hB9
        have M9 := Lib.hid hM9
        have O9 := Lib.hid hO9
        have HGB := Lib.hid hgb
        clear hf B M O HL5 X hB9 hL9 hM9 hO9
        refine wpList_store (.tmp 16) (.tmp 87) 26 rfl rfl gc 0 _ _ #[.int .i64 x0, .int .i64 x1, .int .i64 x2, .int .i64 x3, .float .f64 fx] rfl rfl hC9 (by kernel_rfl) (by simp [Value.oneCell']) (by simp) ?_
        intro w10 hn10 ko10
        have hC10 : Blk w10 gc 26 #[.int .i64 x0, .int .i64 x1, .int .i64 x2, .int .i64 x3, .float .f64 fx] := hn10
        have C := Lib.hid hC10
        have B := Lib.hid (B9.out.trans (ko10.below (by have := HGB.out; omega)))
        have M := Lib.hid (ko10.blk M9.out (by have := HGB.out; omega))
        have O := Lib.hid (ko10.blk O9.out (by have := HGB.out; omega))
        clear hn10 ko10 hC10 hC9 B9 M9 O9 hgb
        cases o with
        | none =>
          have HB := Lib.hid (show decCE b = 4 ∧ decCC b = ctx0 by rw [HDE.out.1, HDE.out.2, HROW.out]; exact ⟨rfl, rfl⟩)
          clear HROW HDE HRI hofx hfx
          have m0 := (O.out.cell 0).trans rfl
          have m1 := (O.out.cell 1).trans rfl
          have m2 := (O.out.cell 2).trans rfl
          have m3 := (O.out.cell 3).trans rfl
          have m4 := (O.out.cell 4).trans rfl
          go_wp2_with (refine wpList_store (.tmp 2) (.tmp 95) 26 rfl rfl w.heap.size 0 _ _ #[.int .i64 0, .int .i64 0, .int .i64 0, .int .i64 0, .float .f64 0] rfl rfl M.out (by kernel_rfl) (by simp [Value.oneCell']) (by simp) ?_)
          intro w8 hn8 ko8
          have h8 : Blk w8 w.heap.size 26 #[.int .i64 0, .int .i64 0, .int .i64 0, .int .i64 0, .float .f64 0] := hn8
          have q0 := (h8.cell 0).trans rfl
          have q1 := (h8.cell 1).trans rfl
          have q2 := (h8.cell 2).trans rfl
          have q3 := (h8.cell 3).trans rfl
          have q4 := (h8.cell 4).trans rfl
          have B8 := Lib.hid (B.out.trans (ko8.below (Nat.le_refl _)))
          clear hn8 ko8 h8
          go_wp2_with fail
          refine bodyPost_ret (v := .tuple #[.agg #[.int .i64 0, .int .i64 0, .int .i64 0, .int .i64 0, .float .f64 0], .int .i64 4]) (by simp [results, Tryz.results11, go_sem, q0, q1, q2, q3, q4]) rfl ?_
          exact ⟨by rw [HB.out.1, HB.out.2]; rfl, B8.out⟩
        | some x =>
          obtain rfl : x = fx := hofx
          have HROW2 := Lib.hid (show rowCtx fs = if rightC ⟨x0, x1, x2, x3, x⟩ then some ⟨x0, x1, x2, x3, x⟩ else none from HROW.out)
          clear HROW hfx
          have c0 := (C.out.cell 0).trans rfl
          have c1 := (C.out.cell 1).trans rfl
          have c2 := (C.out.cell 2).trans rfl
          have c3 := (C.out.cell 3).trans rfl
          have c4 := (C.out.cell 4).trans rfl
          go_wp2_with fail
          refine (HRI.out _).mono ?_
          rintro e w11 ⟨rfl, hb⟩
          have B' := Lib.hid (B.out.trans (hb.mono B.out.size))
          have C' := Lib.hid (C.out.below hb C.out.lt)
          have M' := Lib.hid (M.out.below hb M.out.lt)
          have O' := Lib.hid (O.out.below hb O.out.lt)
          clear hb B C M O c0 c1 c2 c3 c4
          have B := Lib.hid B'.out
          have C := Lib.hid C'.out
          have M := Lib.hid M'.out
          have O := Lib.hid O'.out
          clear B' C' M' O'
          cases hr : rightC ⟨x0, x1, x2, x3, x⟩
          · rw [hr] at HROW2
            have HB := Lib.hid (show decCE b = 4 ∧ decCC b = ctx0 by rw [HDE.out.1, HDE.out.2, HROW2.out]; exact ⟨rfl, rfl⟩)
            clear hr HROW2 HDE
            have m0 := (O.out.cell 0).trans rfl
            have m1 := (O.out.cell 1).trans rfl
            have m2 := (O.out.cell 2).trans rfl
            have m3 := (O.out.cell 3).trans rfl
            have m4 := (O.out.cell 4).trans rfl
            go_wp2_with (refine wpList_store (.tmp 2) (.tmp 95) 26 rfl rfl w.heap.size 0 _ _ #[.int .i64 0, .int .i64 0, .int .i64 0, .int .i64 0, .float .f64 0] rfl rfl M.out (by kernel_rfl) (by simp [Value.oneCell']) (by simp) ?_)
            intro w8 hn8 ko8
            have h8 : Blk w8 w.heap.size 26 #[.int .i64 0, .int .i64 0, .int .i64 0, .int .i64 0, .float .f64 0] := hn8
            have q0 := (h8.cell 0).trans rfl
            have q1 := (h8.cell 1).trans rfl
            have q2 := (h8.cell 2).trans rfl
            have q3 := (h8.cell 3).trans rfl
            have q4 := (h8.cell 4).trans rfl
            have B8 := Lib.hid (B.out.trans (ko8.below (Nat.le_refl _)))
            clear hn8 ko8 h8
            go_wp2_with fail
            refine bodyPost_ret (v := .tuple #[.agg #[.int .i64 0, .int .i64 0, .int .i64 0, .int .i64 0, .float .f64 0], .int .i64 4]) (by simp [results, Tryz.results11, go_sem, q0, q1, q2, q3, q4]) rfl ?_
            exact ⟨by rw [HB.out.1, HB.out.2]; rfl, B8.out⟩
          · rw [hr] at HROW2
            have HB := Lib.hid (show decCE b = 0 ∧ decCC b = ⟨x0, x1, x2, x3, x⟩ by rw [HDE.out.1, HDE.out.2, HROW2.out]; exact ⟨rfl, rfl⟩)
            clear hr HROW2 HDE
            have c0 := (C.out.cell 0).trans rfl
            have c1 := (C.out.cell 1).trans rfl
            have c2 := (C.out.cell 2).trans rfl
            have c3 := (C.out.cell 3).trans rfl
            have c4 := (C.out.cell 4).trans rfl
            go_wp2_with (refine wpList_store (.tmp 2) (.tmp 96) 26 rfl rfl w.heap.size 0 _ _ #[.int .i64 x0, .int .i64 x1, .int .i64 x2, .int .i64 x3, .float .f64 x] rfl rfl M.out (by kernel_rfl) (by simp [Value.oneCell']) (by simp) ?_)
            intro w8 hn8 ko8
            have h8 : Blk w8 w.heap.size 26 #[.int .i64 x0, .int .i64 x1, .int .i64 x2, .int .i64 x3, .float .f64 x] := hn8
            have q0 := (h8.cell 0).trans rfl
            have q1 := (h8.cell 1).trans rfl
            have q2 := (h8.cell 2).trans rfl
            have q3 := (h8.cell 3).trans rfl
            have q4 := (h8.cell 4).trans rfl
            have B8 := Lib.hid (B.out.trans (ko8.below (Nat.le_refl _)))
            clear hn8 ko8 h8
            go_wp2_with fail
            refine bodyPost_ret (v := .tuple #[.agg #[.int .i64 x0, .int .i64 x1, .int .i64 x2, .int .i64 x3, .float .f64 x], .int .i64 0]) (by simp [results, Tryz.results11, go_sem, q0, q1, q2, q3, q4]) rfl ?_
            exact ⟨by rw [HB.out.1, HB.out.2]; rfl, B8.out⟩
end Go.Proofs.YtejdnpbkljdahaaGreatDoor
