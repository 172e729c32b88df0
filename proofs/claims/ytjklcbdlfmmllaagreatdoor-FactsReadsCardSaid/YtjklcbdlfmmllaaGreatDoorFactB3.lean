/-
  FactB3: bytes' fact: facts.Read.
-/
import Derived.Test.YtjklcbdlfmmllaaGreatDoorFactB2
namespace Go.Proofs.YtjklcbdlfmmllaaGreatDoor
open Go.RowKit Go.Extern.Stop Go.Stop Go.Extern Ieee
attribute [local go_sem] flt_def fgt_def feq_def fne_def
attribute [local go_sem] run_store_flt

theorem toNumF_le (l : List UInt8) : toNumF l ≤ 9223372036854775807 := by
  unfold toNumF
  split
  · rename_i hc3
    unfold toNumE at hc3
    split at hc3
    · cases hc3
    · split at hc3
      · cases hc3
      · rename_i q
        by_cases h8 : l.length = 8
        · omega
        · have := valB_7 l (by omega)
          omega
  · omega
def ivC (l : List Int) (x : Nat) : Array Value := (l.map (Value.int .i64) ++ [Value.float .f64 x]).toArray
theorem ivC_set (l : List Int) (x j : Nat) (v : Int) (h : j < l.length) : (ivC l x).setIfInBounds j (.int .i64 v) = ivC (l.set j v) x := by
  unfold ivC
  simp [h]
theorem ivC_flt (l : List Int) (x y : Nat) (h : l.length = 13) : (ivC l x).setIfInBounds 13 (.float .f64 y) = ivC l y := by
  obtain ⟨x0, x1, x2, x3, x4, x5, x6, x7, x8, x9, x10, x11, x12, rfl⟩ := thirteen h
  rfl
theorem ivC_get (l : List Int) (x j : Nat) (h : j < l.length) : (ivC l x)[j]? = some (.int .i64 l[j]) := by
  unfold ivC
  rw [List.getElem?_toArray, List.getElem?_append_left (by simpa using h)]
  simp [h]
theorem ivC_last (l : List Int) (x : Nat) (h : l.length = 13) : (ivC l x)[13]? = some (.float .f64 x) := by
  obtain ⟨x0, x1, x2, x3, x4, x5, x6, x7, x8, x9, x10, x11, x12, rfl⟩ := thirteen h
  rfl
theorem rowFct_bad {fs : List (Int × List UInt8)} {k : Nat} (hk : k < fs.length) {st : List Int × Option Nat} (h : putsC (zeros13, none) (fs.take k) = some st) (hp : putC st fs[k] = none) : rowFct fs = none := by
  have h1 := putsC_take (zeros13, none) fs k hk
  rw [h] at h1
  simp only [Option.bind_some, hp] at h1
  have e : fs = fs.take (k + 1) ++ fs.drop (k + 1) := (List.take_append_drop _ _).symm
  unfold rowFct
  rw [e, putsC_app, h1]
  rfl
set_option maxRecDepth 20000 in
set_option maxHeartbeats 8000000 in
theorem fread_any (v : Value) (b : List UInt8) (w : World) (E : Nat → Addr) (h : IdsG w E) (hv : Byt w v b) :
    Calls Tryz.prog 10 #[v] w fun e w' => e = .returned (.tuple #[fctV (decF b), errV E (decE b)]) ∧ Below w.heap.size w w' := by
  have HG := Lib.hid (fun w' (hb : Below w.heap.size w w') => h.below hb)
  have HPL := Lib.hid (fun g w' => places_any g w')
  have HSP := Lib.hid (fun w' (he : Errs w' E) (hy : Byt w' v b) => split_any w' E v b he hy)
  have HY1 := Lib.hid (hv.keep (keep_alloc w (.cells #[.int .i64 0, .int .i64 0, .int .i64 0, .int .i64 0, .int .i64 0, .int .i64 0, .int .i64 0, .int .i64 0, .int .i64 0, .int .i64 0, .int .i64 0, .int .i64 0, .int .i64 0, .float .f64 0] 26)))
  obtain ⟨i0, hi, hz0, hz1, hz2⟩ := info_parts fldInfo
  have B0 := Lib.hid (below_alloc1 w (.cells #[.int .i64 0, .int .i64 0, .int .i64 0, .int .i64 0, .int .i64 0, .int .i64 0, .int .i64 0, .int .i64 0, .int .i64 0, .int .i64 0, .int .i64 0, .int .i64 0, .int .i64 0, .float .f64 0] 26))
  have R0 := Lib.hid (Blk.new w 26 #[.int .i64 0, .int .i64 0, .int .i64 0, .int .i64 0, .int .i64 0, .int .i64 0, .int .i64 0, .int .i64 0, .int .i64 0, .int .i64 0, .int .i64 0, .int .i64 0, .int .i64 0, .float .f64 0])
  clear h hv
  go_enter Tryz.func10, Tryz.ntmps10
  go_wp2_with fail
  refine (HSP.out _ (HG.out _ B0.out).errs HY1.out).mono ?_
  rintro e w1 ⟨v2, rfl, hf, hb⟩
  have B1 := Lib.hid (B0.out.trans (hb.mono B0.out.size))
  have R1 := Lib.hid (R0.out.below hb R0.out.lt)
  have HF := Lib.hid hf
  clear hb hf B0 R0 HSP HY1
  cases hE : splitE b with
  | succ en =>
    have HD := Lib.hid (show decF b = fct0 ∧ decE b = en + 1 by unfold decF decE; rw [hE]; exact ⟨rfl, rfl⟩)
    clear hE HF
    rw [errV_suc]
    go_wp2_with (refine wpList_store (.tmp 2) (.tmp 19) 26 rfl rfl w.heap.size 0 _ _ #[.int .i64 0, .int .i64 0, .int .i64 0, .int .i64 0, .int .i64 0, .int .i64 0, .int .i64 0, .int .i64 0, .int .i64 0, .int .i64 0, .int .i64 0, .int .i64 0, .int .i64 0, .float .f64 0] rfl rfl R1.out (by kernel_rfl) (by simp [Value.oneCell']) (by simp) ?_)
    intro w8 hn8 ko8
    have h8 : Blk w8 w.heap.size 26 #[.int .i64 0, .int .i64 0, .int .i64 0, .int .i64 0, .int .i64 0, .int .i64 0, .int .i64 0, .int .i64 0, .int .i64 0, .int .i64 0, .int .i64 0, .int .i64 0, .int .i64 0, .float .f64 0] := hn8
    have q0 := (h8.cell 0).trans rfl
    have q1 := (h8.cell 1).trans rfl
    have q2 := (h8.cell 2).trans rfl
    have q3 := (h8.cell 3).trans rfl
    have q4 := (h8.cell 4).trans rfl
    have q5 := (h8.cell 5).trans rfl
    have q6 := (h8.cell 6).trans rfl
    have q7 := (h8.cell 7).trans rfl
    have q8 := (h8.cell 8).trans rfl
    have q9 := (h8.cell 9).trans rfl
    have q10 := (h8.cell 10).trans rfl
    have q11 := (h8.cell 11).trans rfl
    have q12 := (h8.cell 12).trans rfl
    have q13 := (h8.cell 13).trans rfl
    have B8 := Lib.hid (B1.out.trans (ko8.below (Nat.le_refl _)))
    clear hn8 ko8 h8
    go_wp2_with fail
    refine bodyPost_ret (v := .tuple #[.agg #[.int .i64 0, .int .i64 0, .int .i64 0, .int .i64 0, .int .i64 0, .int .i64 0, .int .i64 0, .int .i64 0, .int .i64 0, .int .i64 0, .int .i64 0, .int .i64 0, .int .i64 0, .float .f64 0], errAt (E en)]) (by simp [results, Tryz.results10, go_sem, errAt, q0, q1, q2, q3, q4, q5, q6, q7, q8, q9, q10, q11, q12, q13]) rfl ?_
    exact ⟨by rw [HD.out.1, HD.out.2] <;> rfl, B8.out⟩
  | zero =>
    obtain ⟨hrr, _⟩ := split_ok hE
    have HOK := Lib.hid (right_parts hrr).2
    have HDE := Lib.hid (show decF b = (rowFct (splitL b)).getD fct0 ∧ decE b = (if (rowFct (splitL b)).isSome then 0 else 4) by unfold decF decE; rw [hE]; exact ⟨rfl, rfl⟩)
    rw [errV_zero]
    clear hE hrr
    generalize splitL b = fs at *
    obtain ⟨p, cap, us, rfl, h1, h2, h3, h4, h5⟩ := HF.out
    have H4 := Lib.hid h4
    have H5 := Lib.hid h5
    unfold maxLen at h2
    clear h3 h4 h5 HF
    have HG1 := Lib.hid (fun w' (hb : Below w1.heap.size w1 w') => HG.out w' (B1.out.trans (hb.mono B1.out.size)))
    have B2 := Lib.hid (below_alloc1 w1 (.cells #[.int .i64 0, .int .i64 0, .int .i64 0, .int .i64 0, .int .i64 0, .int .i64 0, .int .i64 0, .int .i64 0, .int .i64 0, .int .i64 0, .int .i64 0, .int .i64 0, .int .i64 0, .float .f64 0] 26))
    have M2 := Lib.hid (show Blk (w1.alloc (.cells #[.int .i64 0, .int .i64 0, .int .i64 0, .int .i64 0, .int .i64 0, .int .i64 0, .int .i64 0, .int .i64 0, .int .i64 0, .int .i64 0, .int .i64 0, .int .i64 0, .int .i64 0, .float .f64 0] 26)) w1.heap.size 26 (ivC zeros13 0) from Blk.new w1 26 (ivC zeros13 0))
    go_wp2_with fail
    refine (HPL.out _ _).mono ?_
    rintro e w2 ⟨rfl, hb⟩
    have B3 := Lib.hid (B2.out.trans (hb.mono B2.out.size))
    have M3 := Lib.hid (M2.out.below hb M2.out.lt)
    have hs1 : w1.heap.size < w2.heap.size := M3.out.lt
    have B4 := Lib.hid (below_alloc B3.out (.cells #[.pointer none, .pointer none, .pointer none, .pointer none, .pointer none, .pointer none, .pointer none, .pointer none, .pointer none, .pointer none, .pointer none, .pointer none, .pointer none] 49))
    have M4 := Lib.hid (M3.out.alloc (.cells #[.pointer none, .pointer none, .pointer none, .pointer none, .pointer none, .pointer none, .pointer none, .pointer none, .pointer none, .pointer none, .pointer none, .pointer none, .pointer none] 49))
    clear hb B2 M2 B3 M3
    go_wp2_with (refine wpList_store (.tmp 7) (.tmp 21) 49 rfl rfl w2.heap.size 0 _ _ (ptrs13 w1.heap.size) rfl rfl (Blk.new w2 _ _) (by kernel_rfl) (by simp [Value.oneCell', ptrs13]) (by simp [ptrs13]) ?_)
    intro w7 hn7 ko7
    have hA7 : Blk w7 w2.heap.size 49 (ptrs13 w1.heap.size) := hn7
    have A := Lib.hid hA7
    have B := Lib.hid (B4.out.trans (ko7.below (by omega)))
    have M := Lib.hid (ko7.blk M4.out (by omega))
    clear hn7 ko7 hA7 B4 M4
    have HGA := Lib.hid hs1
    clear hs1
    generalize w2.heap.size = ga at *
    go_wp2_with fail
    go_loopw [8, 24] (fun th i wr => ∃ (k : Nat) (l : List Int) (o : Option Nat), k ≤ fs.length ∧ i = .int .i64 k ∧ th = .bool o.isSome ∧ putsC (zeros13, none) (fs.take k) = some (l, o) ∧ Blk wr w1.heap.size 26 (ivC l (o.getD 0)) ∧ Blk wr ga 49 (ptrs13 w1.heap.size) ∧ Below w1.heap.size w1 wr) (fun _ i _ => fs.length - (intOf i).toNat)
    case atStart => exact ⟨0, _, none, by omega, rfl, rfl, rfl, M.out, A.out, B.out⟩
    case round =>
      obtain ⟨k, l, o, hk, rfl, rfl, hps, hM, hA, hbw⟩ := hrel
      have HPS := Lib.hid hps
      have HLEN := Lib.hid (show l.length = 13 by have := putsC_len _ hps; simpa [zeros13] using this)
      have M' := Lib.hid hM
      have A' := Lib.hid hA
      clear hps hM hA B M A
      by_cases hlt : k < fs.length
      · obtain ⟨b0, off, q, c, rfl, hc1, hc2, hby⟩ := fldL_cell H4.out H5.out hlt
        have g1 := Below.keeps hbw _ _ hc1
        have g2 := Below.keeps hbw _ _ hc2
        have HBY := Lib.hid (hby.keep (Below.keeps hbw))
        have HY0 := Lib.hid hby
        have HWR := Lib.hid M'.out.lt
        have hfo : fieldOk (lastOf 0 (fs.take k)) fs[k] = true ∧ 0 ≤ lastOf 0 (fs.take k) := by
          have e : fs = fs.take (k + 1) ++ fs.drop (k + 1) := (List.take_append_drop _ _).symm
          have h9 := HOK.out
          rw [e, rowOk_app, Bool.and_eq_true] at h9
          have h8 := h9.1
          rw [rowOk_take fs k hlt, Bool.and_eq_true] at h8
          exact ⟨h8.2, rowOk_lastOf _ _ (Int.le_refl _) h8.1⟩
        have htag : 1 ≤ fs[k].1 := by
          have h9 := hfo.1
          unfold fieldOk at h9
          simp only [Bool.and_eq_true, decide_eq_true_eq] at h9
          omega
        have HBAD := Lib.hid (@rowFct_bad fs k hlt (l, o) HPS.out)
        have HSTEP := Lib.hid (putsC_take (zeros13, none) fs k hlt)
        clear hc1 hc2 hby hfo
        generalize fs[k] = f at *
        obtain ⟨tag, dat⟩ := f
        simp only at g1 g2 HBY htag
        have hbw2 := below_alloc hbw (.cells #[.int .i64 tag, .slice q dat.length c] 54)
        have B2 := Lib.hid hbw2
        have G2 := Lib.hid (HG1.out _ hbw2)
        have M2 := Lib.hid (M'.out.alloc (.cells #[.int .i64 tag, .slice q dat.length c] 54))
        have A2 := Lib.hid (A'.out.alloc (.cells #[.int .i64 tag, .slice q dat.length c] 54))
        have F2 := Lib.hid (Blk.new wr 54 #[.int .i64 tag, .slice q dat.length c])
        have Y2 := Lib.hid (HBY.out.keep (keep_alloc wr (.cells #[.int .i64 tag, .slice q dat.length c] 54)))
        have e3 := G2.out.errs.cell 3 (by omega)
        simp only [errVar, List.getD_cons_zero, List.getD_cons_succ, errAt] at e3
        clear M' A' HBY hbw2
        by_cases c5 : tag = 14
        · subst c5
          have HTN := Lib.hid (fun w' he (hy : Byt w' (.slice q dat.length c) dat) => tofloat_any (.slice q dat.length c) dat w' E he hy)
          go_wp2_with fail
          refine (HTN.out _ (G2.out.errs.on [3] rfl) Y2.out).mono ?_
          rintro e w3 ⟨rfl, hb3⟩
          have B3 := Lib.hid (B2.out.trans (hb3.mono B2.out.size))
          have M3 := Lib.hid (M2.out.below hb3 M2.out.lt)
          have A3 := Lib.hid (A2.out.below hb3 A2.out.lt)
          have p2 : w3.cell? ⟨w1.heap.size, 13, none⟩ = some (.float .f64 (o.getD 0)) := by
            rw [M3.out.cell 13]
            exact ivC_last l _ HLEN.out
          have p3 := M3.out.frozen 13
          have B4 := Lib.hid (B3.out.trans (((Only.refl w1.heap.size w3).set_ 13 (.float .f64 (toFltF dat))).below (Nat.le_refl _)))
          clear hb3 M2 A2 Y2 F2 e3 g1 g2
          cases hE : toFltE dat with
          | succ en =>
            have HNO := Lib.hid (show rowFct fs = none from HBAD.out (by unfold putC; rw [if_pos rfl, if_neg (by rw [hE]; omega)]))
            rw [errV_suc]
            clear HBAD HSTEP hE
            generalize toFltF dat = x at *
            go_wp2_with fail
            have RX := Lib.hid (R1.out.below B4.out R1.out.lt)
            have BX := Lib.hid (B1.out.trans (B4.out.mono B1.out.size))
            have HD := Lib.hid (show decF b = fct0 ∧ decE b = 3 + 1 by rw [HDE.out.1, HDE.out.2, HNO.out]; exact ⟨rfl, rfl⟩)
            clear HNO HDE
            refine wp_phiU (fun _ wa wb => Only w.heap.size wa wb) (fun wq => Below w.heap.size w wq) [(2, PSto fun wq => Blk wq w.heap.size 26 #[.int .i64 0, .int .i64 0, .int .i64 0, .int .i64 0, .int .i64 0, .int .i64 0, .int .i64 0, .int .i64 0, .int .i64 0, .int .i64 0, .int .i64 0, .int .i64 0, .int .i64 0, .float .f64 0])] [] [(2, fun wq => Blk wq w.heap.size 26 #[.int .i64 0, .int .i64 0, .int .i64 0, .int .i64 0, .int .i64 0, .int .i64 0, .int .i64 0, .int .i64 0, .int .i64 0, .int .i64 0, .int .i64 0, .int .i64 0, .int .i64 0, .float .f64 0])] [] (by kernel_rfl) (by kernel_rfl) ?_ ?_ ?_ ?_ BX.out.drew ?_
            · intro p hp wa wb h1 h2
              exact h1.trans (h2.below (Nat.le_refl _))
            · simp only [List.mem_cons, List.not_mem_nil, or_false, forall_eq]
              intro h
              exact absurd rfl h
            · simp only [List.mem_cons, List.not_mem_nil, or_false, forall_eq]
              intro h
              exact absurd rfl h
            · simp only [List.mem_cons, List.not_mem_nil, or_false, forall_eq]
              exact RX.out
            repeat (first | (refine phiU_skipK rfl (fun K hK => ?_); simp only [Act.put, List.setIfInBounds_toArray, List.set_cons_succ, List.set_cons_zero]; (try simp only [List.cons_append]); (try simp only [List.nil_append]); apply hK; clear hK K) | (refine phiU_pureK rfl rfl (fun K hK => ?_); apply Exists.intro; constructor; (focus (rintro w' hI; (have s1 := (HG.out _ hI).errs.cell 3 (by omega); simp only [errVar, errAt, List.getD_cons_zero, List.getD_cons_succ] at s1; clear hI); first | (go_simp; done) | (go_simp; (try go_bits); (try go_simp); rfl) | go_simp)); simp only [Act.put, List.setIfInBounds_toArray, List.set_cons_succ, List.set_cons_zero]; (try simp only [List.cons_append]); (try simp only [List.nil_append]); apply hK; clear hK K))
            refine phiU_partK (PSto fun wq => Blk wq w.heap.size 26 #[.int .i64 0, .int .i64 0, .int .i64 0, .int .i64 0, .int .i64 0, .int .i64 0, .int .i64 0, .int .i64 0, .int .i64 0, .int .i64 0, .int .i64 0, .int .i64 0, .int .i64 0, .float .f64 0]) rfl rfl ⟨_, rfl⟩ ?_ (fun K hK v hv => ?_)
            · intro wq hI hf hu
              have hm : Blk wq w.heap.size 26 #[.int .i64 0, .int .i64 0, .int .i64 0, .int .i64 0, .int .i64 0, .int .i64 0, .int .i64 0, .int .i64 0, .int .i64 0, .int .i64 0, .int .i64 0, .int .i64 0, .int .i64 0, .float .f64 0] := hu (2, fun wq => Blk wq w.heap.size 26 #[.int .i64 0, .int .i64 0, .int .i64 0, .int .i64 0, .int .i64 0, .int .i64 0, .int .i64 0, .int .i64 0, .int .i64 0, .int .i64 0, .int .i64 0, .int .i64 0, .int .i64 0, .float .f64 0]) (by simp) rfl
              exact gives_store (.tmp 2) (.tmp 64) 26 rfl w.heap.size 0 _ _ #[.int .i64 0, .int .i64 0, .int .i64 0, .int .i64 0, .int .i64 0, .int .i64 0, .int .i64 0, .int .i64 0, .int .i64 0, .int .i64 0, .int .i64 0, .int .i64 0, .int .i64 0, .float .f64 0] rfl rfl hm (by kernel_rfl) (by simp [Value.oneCell']) (by simp) (fun w2 h2 h3 => ⟨rfl, h2, h3⟩)
            obtain rfl : v = _ := hv
            simp only [Act.put]; (try simp only [List.cons_append]); (try simp only [List.nil_append])
            apply hK
            clear hK K
            repeat (first | (refine phiU_skipK rfl (fun K hK => ?_); simp only [Act.put, List.setIfInBounds_toArray, List.set_cons_succ, List.set_cons_zero]; (try simp only [List.cons_append]); (try simp only [List.nil_append]); apply hK; clear hK K) | (refine phiU_pureK rfl rfl (fun K hK => ?_); apply Exists.intro; constructor; (focus (rintro w' hI; (clear hI); first | (go_simp; done) | (go_simp; (try go_bits); (try go_simp); rfl) | go_simp)); simp only [Act.put, List.setIfInBounds_toArray, List.set_cons_succ, List.set_cons_zero]; (try simp only [List.cons_append]); (try simp only [List.nil_append]); apply hK; clear hK K))
            refine phiU_done ?_
            intro w7 hI hf
            have h7 : Blk w7 w.heap.size 26 #[.int .i64 0, .int .i64 0, .int .i64 0, .int .i64 0, .int .i64 0, .int .i64 0, .int .i64 0, .int .i64 0, .int .i64 0, .int .i64 0, .int .i64 0, .int .i64 0, .int .i64 0, .float .f64 0] := hf (2, fun wq => (PSto fun wq => Blk wq w.heap.size 26 #[.int .i64 0, .int .i64 0, .int .i64 0, .int .i64 0, .int .i64 0, .int .i64 0, .int .i64 0, .int .i64 0, .int .i64 0, .int .i64 0, .int .i64 0, .int .i64 0, .int .i64 0, .float .f64 0]).fact wq undef) (by simp) rfl
            have B7 := Lib.hid hI
            clear hf hI
            have q0 := (h7.cell 0).trans rfl
            have q1 := (h7.cell 1).trans rfl
            have q2 := (h7.cell 2).trans rfl
            have q3 := (h7.cell 3).trans rfl
            have q4 := (h7.cell 4).trans rfl
            have q5 := (h7.cell 5).trans rfl
            have q6 := (h7.cell 6).trans rfl
            have q7 := (h7.cell 7).trans rfl
            have q8 := (h7.cell 8).trans rfl
            have q9 := (h7.cell 9).trans rfl
            have q10 := (h7.cell 10).trans rfl
            have q11 := (h7.cell 11).trans rfl
            have q12 := (h7.cell 12).trans rfl
            have q13 := (h7.cell 13).trans rfl
            refine wpList_nil ?_
            go_wp2_with fail
            refine bodyPost_ret (v := .tuple #[.agg #[.int .i64 0, .int .i64 0, .int .i64 0, .int .i64 0, .int .i64 0, .int .i64 0, .int .i64 0, .int .i64 0, .int .i64 0, .int .i64 0, .int .i64 0, .int .i64 0, .int .i64 0, .float .f64 0], errAt (E 3)]) (by simp [results, Tryz.results10, go_sem, errAt, q0, q1, q2, q3, q4, q5, q6, q7, q8, q9, q10, q11, q12, q13]) rfl ?_
            exact ⟨by rw [HD.out.1, HD.out.2] <;> rfl, B7.out⟩
          | zero =>
            have HST := Lib.hid (show putsC (zeros13, none) (fs.take (k + 1)) = some (l, some (toFltF dat)) by
              rw [HSTEP.out, HPS.out]
              show putC (l, o) (14, dat) = _
              unfold putC
              rw [if_pos rfl, if_pos hE])
            have M4 := Lib.hid (M3.out.set_ 13 (.float .f64 (toFltF dat)))
            rw [ivC_flt l _ _ HLEN.out] at M4
            have A4 := Lib.hid (A3.out.far (b := w1.heap.size) (by have := HGA.out; omega) 13 (.float .f64 (toFltF dat)))
            rw [errV_zero]
            clear HBAD HSTEP hE htag
            generalize toFltF dat = x at *
            go_wp2_with fail
            go_roundw
            case rel => exact ⟨k + 1, l, some x, by omega, by go_num, rfl, HST.out, M4.out, A4.out, B4.out⟩
            case measure => simp [intOf]; omega
        · have d0 : (tag == 14) = false := by simpa using c5
          have hpc : putC (l, o) (tag, dat) = (putF l (tag, dat)).map fun l => (l, o) := by unfold putC; exact if_neg c5
          by_cases c1 : tag ≤ 14
          · have d1 : decide (14 < tag) = false := by simp; omega
            by_cases c2 : dat = []
            · have HNO := Lib.hid (show rowFct fs = none from HBAD.out (by rw [hpc]; unfold putF; rw [if_pos (.inr (.inl c2))]; rfl))
              have d2 : ((dat.length : Int) == 0) = true := by subst c2; rfl
              clear HBAD HSTEP c2 hpc
              go_wp2_with fail
              have RX := Lib.hid (R1.out.below B2.out R1.out.lt)
              have BX := Lib.hid (B1.out.trans (B2.out.mono B1.out.size))
              have HD := Lib.hid (show decF b = fct0 ∧ decE b = 3 + 1 by rw [HDE.out.1, HDE.out.2, HNO.out]; exact ⟨rfl, rfl⟩)
              clear HNO HDE
              refine wp_phiU (fun _ wa wb => Only w.heap.size wa wb) (fun wq => Below w.heap.size w wq) [(2, PSto fun wq => Blk wq w.heap.size 26 #[.int .i64 0, .int .i64 0, .int .i64 0, .int .i64 0, .int .i64 0, .int .i64 0, .int .i64 0, .int .i64 0, .int .i64 0, .int .i64 0, .int .i64 0, .int .i64 0, .int .i64 0, .float .f64 0])] [] [(2, fun wq => Blk wq w.heap.size 26 #[.int .i64 0, .int .i64 0, .int .i64 0, .int .i64 0, .int .i64 0, .int .i64 0, .int .i64 0, .int .i64 0, .int .i64 0, .int .i64 0, .int .i64 0, .int .i64 0, .int .i64 0, .float .f64 0])] [] (by kernel_rfl) (by kernel_rfl) ?_ ?_ ?_ ?_ BX.out.drew ?_
              · intro p hp wa wb h1 h2
                exact h1.trans (h2.below (Nat.le_refl _))
              · simp only [List.mem_cons, List.not_mem_nil, or_false, forall_eq]
                intro h
                exact absurd rfl h
              · simp only [List.mem_cons, List.not_mem_nil, or_false, forall_eq]
                intro h
                exact absurd rfl h
              · simp only [List.mem_cons, List.not_mem_nil, or_false, forall_eq]
                exact RX.out
              repeat (first | (refine phiU_skipK rfl (fun K hK => ?_); simp only [Act.put, List.setIfInBounds_toArray, List.set_cons_succ, List.set_cons_zero]; (try simp only [List.cons_append]); (try simp only [List.nil_append]); apply hK; clear hK K) | (refine phiU_pureK rfl rfl (fun K hK => ?_); apply Exists.intro; constructor; (focus (rintro w' hI; (have s1 := (HG.out _ hI).errs.cell 3 (by omega); simp only [errVar, errAt, List.getD_cons_zero, List.getD_cons_succ] at s1; clear hI); first | (go_simp; done) | (go_simp; (try go_bits); (try go_simp); rfl) | go_simp)); simp only [Act.put, List.setIfInBounds_toArray, List.set_cons_succ, List.set_cons_zero]; (try simp only [List.cons_append]); (try simp only [List.nil_append]); apply hK; clear hK K))
              refine phiU_partK (PSto fun wq => Blk wq w.heap.size 26 #[.int .i64 0, .int .i64 0, .int .i64 0, .int .i64 0, .int .i64 0, .int .i64 0, .int .i64 0, .int .i64 0, .int .i64 0, .int .i64 0, .int .i64 0, .int .i64 0, .int .i64 0, .float .f64 0]) rfl rfl ⟨_, rfl⟩ ?_ (fun K hK v hv => ?_)
              · intro wq hI hf hu
                have hm : Blk wq w.heap.size 26 #[.int .i64 0, .int .i64 0, .int .i64 0, .int .i64 0, .int .i64 0, .int .i64 0, .int .i64 0, .int .i64 0, .int .i64 0, .int .i64 0, .int .i64 0, .int .i64 0, .int .i64 0, .float .f64 0] := hu (2, fun wq => Blk wq w.heap.size 26 #[.int .i64 0, .int .i64 0, .int .i64 0, .int .i64 0, .int .i64 0, .int .i64 0, .int .i64 0, .int .i64 0, .int .i64 0, .int .i64 0, .int .i64 0, .int .i64 0, .int .i64 0, .float .f64 0]) (by simp) rfl
                exact gives_store (.tmp 2) (.tmp 64) 26 rfl w.heap.size 0 _ _ #[.int .i64 0, .int .i64 0, .int .i64 0, .int .i64 0, .int .i64 0, .int .i64 0, .int .i64 0, .int .i64 0, .int .i64 0, .int .i64 0, .int .i64 0, .int .i64 0, .int .i64 0, .float .f64 0] rfl rfl hm (by kernel_rfl) (by simp [Value.oneCell']) (by simp) (fun w2 h2 h3 => ⟨rfl, h2, h3⟩)
              obtain rfl : v = _ := hv
              simp only [Act.put]; (try simp only [List.cons_append]); (try simp only [List.nil_append])
              apply hK
              clear hK K
              repeat (first | (refine phiU_skipK rfl (fun K hK => ?_); simp only [Act.put, List.setIfInBounds_toArray, List.set_cons_succ, List.set_cons_zero]; (try simp only [List.cons_append]); (try simp only [List.nil_append]); apply hK; clear hK K) | (refine phiU_pureK rfl rfl (fun K hK => ?_); apply Exists.intro; constructor; (focus (rintro w' hI; (clear hI); first | (go_simp; done) | (go_simp; (try go_bits); (try go_simp); rfl) | go_simp)); simp only [Act.put, List.setIfInBounds_toArray, List.set_cons_succ, List.set_cons_zero]; (try simp only [List.cons_append]); (try simp only [List.nil_append]); apply hK; clear hK K))
              refine phiU_done ?_
              intro w7 hI hf
              have h7 : Blk w7 w.heap.size 26 #[.int .i64 0, .int .i64 0, .int .i64 0, .int .i64 0, .int .i64 0, .int .i64 0, .int .i64 0, .int .i64 0, .int .i64 0, .int .i64 0, .int .i64 0, .int .i64 0, .int .i64 0, .float .f64 0] := hf (2, fun wq => (PSto fun wq => Blk wq w.heap.size 26 #[.int .i64 0, .int .i64 0, .int .i64 0, .int .i64 0, .int .i64 0, .int .i64 0, .int .i64 0, .int .i64 0, .int .i64 0, .int .i64 0, .int .i64 0, .int .i64 0, .int .i64 0, .float .f64 0]).fact wq undef) (by simp) rfl
              have B7 := Lib.hid hI
              clear hf hI
              have q0 := (h7.cell 0).trans rfl
              have q1 := (h7.cell 1).trans rfl
              have q2 := (h7.cell 2).trans rfl
              have q3 := (h7.cell 3).trans rfl
              have q4 := (h7.cell 4).trans rfl
              have q5 := (h7.cell 5).trans rfl
              have q6 := (h7.cell 6).trans rfl
              have q7 := (h7.cell 7).trans rfl
              have q8 := (h7.cell 8).trans rfl
              have q9 := (h7.cell 9).trans rfl
              have q10 := (h7.cell 10).trans rfl
              have q11 := (h7.cell 11).trans rfl
              have q12 := (h7.cell 12).trans rfl
              have q13 := (h7.cell 13).trans rfl
              refine wpList_nil ?_
              go_wp2_with fail
              refine bodyPost_ret (v := .tuple #[.agg #[.int .i64 0, .int .i64 0, .int .i64 0, .int .i64 0, .int .i64 0, .int .i64 0, .int .i64 0, .int .i64 0, .int .i64 0, .int .i64 0, .int .i64 0, .int .i64 0, .int .i64 0, .float .f64 0], errAt (E 3)]) (by simp [results, Tryz.results10, go_sem, errAt, q0, q1, q2, q3, q4, q5, q6, q7, q8, q9, q10, q11, q12, q13]) rfl ?_
              exact ⟨by rw [HD.out.1, HD.out.2] <;> rfl, B7.out⟩
            · have d2 : ((dat.length : Int) == 0) = false := by
                rw [beq_eq_false_iff_ne]
                intro h9
                exact c2 (List.length_eq_zero_iff.1 (by omega))
              obtain ⟨j, hj⟩ : ∃ j : Nat, tag = (j : Int) + 1 := ⟨(tag - 1).toNat, by omega⟩
              subst hj
              have hj4 : j < 13 := by omega
              have hjl : j < l.length := by rw [HLEN.out]; exact hj4
              have HTN := Lib.hid (fun w' he (hy : Byt w' (.slice q dat.length c) dat) => tonumber_any (.slice q dat.length c) dat w' E he hy)
              have hw1 : (j : Int) + 1 - 1 = (j : Int) := by omega
              have hj5 : (j : Int) < 13 := by omega
              clear e3
              go_wp2_with fail
              clear g1 g2
              refine wp_phiU (fun p wa wb => if p = 7 then Below wa.heap.size wa wb else Only w1.heap.size wa wb) (fun wq => Below w1.heap.size w1 wq ∧ Blk wq wr.heap.size 54 #[.int .i64 ((j : Int) + 1), .slice q dat.length c] ∧ Blk wq ga 49 (ptrs13 w1.heap.size)) [(7, PVal (.tuple #[.int .i64 (toNumF dat : Int), errV E (toNumE dat)])), (12, PSto fun wq => Blk wq w1.heap.size 26 (ivC (l.set j (toNumF dat : Int)) (o.getD 0)))] [] [(12, fun wq => Blk wq w1.heap.size 26 (ivC l (o.getD 0)))] [] (by kernel_rfl) (by kernel_rfl) ?_ ?_ ?_ ?_ ⟨B2.out.drew, F2.out, A2.out⟩ ?_
              · rintro p hp wa wb ⟨a1, a2, a4⟩ hR
                simp only [List.mem_cons, List.not_mem_nil, or_false] at hp
                rcases hp with rfl | rfl
                · rw [if_pos rfl] at hR
                  exact ⟨a1.trans (hR.mono a1.size), a2.below hR a2.lt, a4.below hR a4.lt⟩
                · rw [if_neg (show ¬ (12 : Nat) = 7 by decide)] at hR
                  exact ⟨a1.trans (hR.below (Nat.le_refl _)), hR.blk a2 (by have := HWR.out; omega), hR.blk a4 (by have := HGA.out; omega)⟩
              · intro p hp p' hp' hne _ _ wa wb v hIa hR hf
                simp only [List.mem_cons, List.not_mem_nil, or_false] at hp hp'
                rcases hp with rfl | rfl
                · trivial
                · rcases hp' with rfl | rfl
                  · rw [if_pos rfl] at hR
                    exact Blk.below hf hR (Blk.lt hf)
                  · exact absurd rfl hne
              · intro p hp u hu hne wa wb hIa hR hf
                simp only [List.mem_cons, List.not_mem_nil, or_false] at hp hu
                subst hu
                rcases hp with rfl | rfl
                · rw [if_pos rfl] at hR
                  exact Blk.below hf hR (Blk.lt hf)
                · exact absurd rfl hne
              · intro u hu
                simp only [List.mem_cons, List.not_mem_nil, or_false] at hu
                subst hu
                exact M2.out
              repeat (first | (refine phiU_skipK rfl (fun K hK => ?_); simp only [Act.put, List.setIfInBounds_toArray, List.set_cons_succ, List.set_cons_zero]; (try simp only [List.cons_append]); (try simp only [List.nil_append]); apply hK; clear hK K) | (refine phiU_pureK rfl rfl (fun K hK => ?_); apply Exists.intro; constructor; (focus (rintro w' ⟨h0, hF, hA⟩; (have k0 := (hF.cell 0).trans rfl; have k1 := (hF.cell 1).trans rfl; have p1 := (hA.cell j).trans (ptrs13_get _ j hj4); clear h0 hF hA); first | (go_simp; done) | (go_simp; (try go_bits); (try go_simp); rfl) | go_simp)); simp only [Act.put, List.setIfInBounds_toArray, List.set_cons_succ, List.set_cons_zero]; (try simp only [List.cons_append]); (try simp only [List.nil_append]); apply hK; clear hK K))
              refine phiU_partK (PVal (.tuple #[.int .i64 (toNumF dat : Int), errV E (toNumE dat)])) rfl rfl ⟨_, rfl⟩ ?_ (fun K hK v hv => ?_)
              · rintro wq ⟨h0, hF, hA⟩ _ _
                unfold gives
                go_simp
                refine (HTN.out _ ((HG1.out _ h0).errs.on [0, 3] rfl) (HY0.out.keep (Below.keeps h0))).mono ?_
                rintro e w'' ⟨rfl, hb⟩
                exact ⟨_, rfl, rfl, trivial, hb⟩
              obtain rfl : v = _ := hv
              simp only [Act.put, List.setIfInBounds_toArray, List.set_cons_succ, List.set_cons_zero]; (try simp only [List.cons_append]); (try simp only [List.nil_append])
              apply hK
              clear hK K
              repeat (first | (refine phiU_skipK rfl (fun K hK => ?_); simp only [Act.put, List.setIfInBounds_toArray, List.set_cons_succ, List.set_cons_zero]; (try simp only [List.cons_append]); (try simp only [List.nil_append]); apply hK; clear hK K) | (refine phiU_pureK rfl rfl (fun K hK => ?_); apply Exists.intro; constructor; (focus (rintro w' ⟨h0, hF, hA⟩; (have k0 := (hF.cell 0).trans rfl; have k1 := (hF.cell 1).trans rfl; have p1 := (hA.cell j).trans (ptrs13_get _ j hj4); clear h0 hF hA); first | (go_simp; done) | (go_simp; (try go_bits); (try go_simp); rfl) | go_simp)); simp only [Act.put, List.setIfInBounds_toArray, List.set_cons_succ, List.set_cons_zero]; (try simp only [List.cons_append]); (try simp only [List.nil_append]); apply hK; clear hK K))
              refine phiU_partK (PSto fun wq => Blk wq w1.heap.size 26 (ivC (l.set j (toNumF dat : Int)) (o.getD 0))) rfl rfl ⟨_, rfl⟩ ?_ (fun K hK v hv => ?_)
              · rintro wq ⟨h0, hF, hA⟩ _ hu
                have hm : Blk wq w1.heap.size 26 (ivC l (o.getD 0)) := hu (12, fun wq => Blk wq w1.heap.size 26 (ivC l (o.getD 0))) (by simp) rfl
                have p2 : wq.cell? ⟨w1.heap.size, j, none⟩ = some (.int .i64 l[j]) := by
                  rw [hm.cell j]
                  exact ivC_get l _ j hjl
                have p3 := hm.frozen j
                have hm2 := hm.set_ j (.int .i64 (toNumF dat : Int))
                rw [ivC_set l _ j _ hjl] at hm2
                have HM2 := Lib.hid hm2
                clear hm2 hu h0 hF hA
                unfold gives
                go_simp
                exact ⟨rfl, HM2.out, (Only.refl w1.heap.size wq).set_ j _⟩
              obtain rfl : v = _ := hv
              simp only [Act.put]; (try simp only [List.cons_append]); (try simp only [List.nil_append])
              apply hK
              clear hK K
              repeat (first | (refine phiU_skipK rfl (fun K hK => ?_); simp only [Act.put, List.setIfInBounds_toArray, List.set_cons_succ, List.set_cons_zero]; (try simp only [List.cons_append]); (try simp only [List.nil_append]); apply hK; clear hK K) | (refine phiU_pureK rfl rfl (fun K hK => ?_); apply Exists.intro; constructor; (focus (rintro w' ⟨h0, hF, hA⟩; (clear h0 hF hA); first | (go_simp; done) | (go_simp; (try go_bits); (try go_simp); rfl) | go_simp)); simp only [Act.put, List.setIfInBounds_toArray, List.set_cons_succ, List.set_cons_zero]; (try simp only [List.cons_append]); (try simp only [List.nil_append]); apply hK; clear hK K))
              refine phiU_done ?_
              rintro w3 ⟨hB3, _, hA3⟩ hf
              have hM3 : Blk w3 w1.heap.size 26 (ivC (l.set j (toNumF dat : Int)) (o.getD 0)) := hf (12, fun wq => (PSto fun wq => Blk wq w1.heap.size 26 (ivC (l.set j (toNumF dat : Int)) (o.getD 0))).fact wq undef) (by simp) rfl
              have B4 := Lib.hid hB3
              have M4 := Lib.hid hM3
              have A4 := Lib.hid hA3
              clear hB3 hM3 hA3 hf M2 A2 Y2 F2
              refine wpList_nil ?_
              cases hE : toNumE dat with
              | succ en =>
                have HNO := Lib.hid (show rowFct fs = none from HBAD.out (by rw [hpc]; unfold putF; rw [if_pos (.inr (.inr (by rw [hE]; omega)))]; rfl))
                rw [errV_suc]
                clear HBAD HSTEP hE hpc
                generalize toNumF dat = x at *
                go_wp2_with fail
                have RX := Lib.hid (R1.out.below B4.out R1.out.lt)
                have BX := Lib.hid (B1.out.trans (B4.out.mono B1.out.size))
                have HD := Lib.hid (show decF b = fct0 ∧ decE b = 3 + 1 by rw [HDE.out.1, HDE.out.2, HNO.out]; exact ⟨rfl, rfl⟩)
                clear HNO HDE
                refine wp_phiU (fun _ wa wb => Only w.heap.size wa wb) (fun wq => Below w.heap.size w wq) [(2, PSto fun wq => Blk wq w.heap.size 26 #[.int .i64 0, .int .i64 0, .int .i64 0, .int .i64 0, .int .i64 0, .int .i64 0, .int .i64 0, .int .i64 0, .int .i64 0, .int .i64 0, .int .i64 0, .int .i64 0, .int .i64 0, .float .f64 0])] [] [(2, fun wq => Blk wq w.heap.size 26 #[.int .i64 0, .int .i64 0, .int .i64 0, .int .i64 0, .int .i64 0, .int .i64 0, .int .i64 0, .int .i64 0, .int .i64 0, .int .i64 0, .int .i64 0, .int .i64 0, .int .i64 0, .float .f64 0])] [] (by kernel_rfl) (by kernel_rfl) ?_ ?_ ?_ ?_ BX.out.drew ?_
                · intro p hp wa wb h1 h2
                  exact h1.trans (h2.below (Nat.le_refl _))
                · simp only [List.mem_cons, List.not_mem_nil, or_false, forall_eq]
                  intro h
                  exact absurd rfl h
                · simp only [List.mem_cons, List.not_mem_nil, or_false, forall_eq]
                  intro h
                  exact absurd rfl h
                · simp only [List.mem_cons, List.not_mem_nil, or_false, forall_eq]
                  exact RX.out
                repeat (first | (refine phiU_skipK rfl (fun K hK => ?_); simp only [Act.put, List.setIfInBounds_toArray, List.set_cons_succ, List.set_cons_zero]; (try simp only [List.cons_append]); (try simp only [List.nil_append]); apply hK; clear hK K) | (refine phiU_pureK rfl rfl (fun K hK => ?_); apply Exists.intro; constructor; (focus (rintro w' hI; (have s1 := (HG.out _ hI).errs.cell 3 (by omega); simp only [errVar, errAt, List.getD_cons_zero, List.getD_cons_succ] at s1; clear hI); first | (go_simp; done) | (go_simp; (try go_bits); (try go_simp); rfl) | go_simp)); simp only [Act.put, List.setIfInBounds_toArray, List.set_cons_succ, List.set_cons_zero]; (try simp only [List.cons_append]); (try simp only [List.nil_append]); apply hK; clear hK K))
                refine phiU_partK (PSto fun wq => Blk wq w.heap.size 26 #[.int .i64 0, .int .i64 0, .int .i64 0, .int .i64 0, .int .i64 0, .int .i64 0, .int .i64 0, .int .i64 0, .int .i64 0, .int .i64 0, .int .i64 0, .int .i64 0, .int .i64 0, .float .f64 0]) rfl rfl ⟨_, rfl⟩ ?_ (fun K hK v hv => ?_)
                · intro wq hI hf hu
                  have hm : Blk wq w.heap.size 26 #[.int .i64 0, .int .i64 0, .int .i64 0, .int .i64 0, .int .i64 0, .int .i64 0, .int .i64 0, .int .i64 0, .int .i64 0, .int .i64 0, .int .i64 0, .int .i64 0, .int .i64 0, .float .f64 0] := hu (2, fun wq => Blk wq w.heap.size 26 #[.int .i64 0, .int .i64 0, .int .i64 0, .int .i64 0, .int .i64 0, .int .i64 0, .int .i64 0, .int .i64 0, .int .i64 0, .int .i64 0, .int .i64 0, .int .i64 0, .int .i64 0, .float .f64 0]) (by simp) rfl
                  exact gives_store (.tmp 2) (.tmp 64) 26 rfl w.heap.size 0 _ _ #[.int .i64 0, .int .i64 0, .int .i64 0, .int .i64 0, .int .i64 0, .int .i64 0, .int .i64 0, .int .i64 0, .int .i64 0, .int .i64 0, .int .i64 0, .int .i64 0, .int .i64 0, .float .f64 0] rfl rfl hm (by kernel_rfl) (by simp [Value.oneCell']) (by simp) (fun w2 h2 h3 => ⟨rfl, h2, h3⟩)
                obtain rfl : v = _ := hv
                simp only [Act.put]; (try simp only [List.cons_append]); (try simp only [List.nil_append])
                apply hK
                clear hK K
                repeat (first | (refine phiU_skipK rfl (fun K hK => ?_); simp only [Act.put, List.setIfInBounds_toArray, List.set_cons_succ, List.set_cons_zero]; (try simp only [List.cons_append]); (try simp only [List.nil_append]); apply hK; clear hK K) | (refine phiU_pureK rfl rfl (fun K hK => ?_); apply Exists.intro; constructor; (focus (rintro w' hI; (clear hI); first | (go_simp; done) | (go_simp; (try go_bits); (try go_simp); rfl) | go_simp)); simp only [Act.put, List.setIfInBounds_toArray, List.set_cons_succ, List.set_cons_zero]; (try simp only [List.cons_append]); (try simp only [List.nil_append]); apply hK; clear hK K))
                refine phiU_done ?_
                intro w7 hI hf
                have h7 : Blk w7 w.heap.size 26 #[.int .i64 0, .int .i64 0, .int .i64 0, .int .i64 0, .int .i64 0, .int .i64 0, .int .i64 0, .int .i64 0, .int .i64 0, .int .i64 0, .int .i64 0, .int .i64 0, .int .i64 0, .float .f64 0] := hf (2, fun wq => (PSto fun wq => Blk wq w.heap.size 26 #[.int .i64 0, .int .i64 0, .int .i64 0, .int .i64 0, .int .i64 0, .int .i64 0, .int .i64 0, .int .i64 0, .int .i64 0, .int .i64 0, .int .i64 0, .int .i64 0, .int .i64 0, .float .f64 0]).fact wq undef) (by simp) rfl
                have B7 := Lib.hid hI
                clear hf hI
                have q0 := (h7.cell 0).trans rfl
                have q1 := (h7.cell 1).trans rfl
                have q2 := (h7.cell 2).trans rfl
                have q3 := (h7.cell 3).trans rfl
                have q4 := (h7.cell 4).trans rfl
                have q5 := (h7.cell 5).trans rfl
                have q6 := (h7.cell 6).trans rfl
                have q7 := (h7.cell 7).trans rfl
                have q8 := (h7.cell 8).trans rfl
                have q9 := (h7.cell 9).trans rfl
                have q10 := (h7.cell 10).trans rfl
                have q11 := (h7.cell 11).trans rfl
                have q12 := (h7.cell 12).trans rfl
                have q13 := (h7.cell 13).trans rfl
                refine wpList_nil ?_
                go_wp2_with fail
                refine bodyPost_ret (v := .tuple #[.agg #[.int .i64 0, .int .i64 0, .int .i64 0, .int .i64 0, .int .i64 0, .int .i64 0, .int .i64 0, .int .i64 0, .int .i64 0, .int .i64 0, .int .i64 0, .int .i64 0, .int .i64 0, .float .f64 0], errAt (E 3)]) (by simp [results, Tryz.results10, go_sem, errAt, q0, q1, q2, q3, q4, q5, q6, q7, q8, q9, q10, q11, q12, q13]) rfl ?_
                exact ⟨by rw [HD.out.1, HD.out.2] <;> rfl, B7.out⟩
              | zero =>
                have HST := Lib.hid (show putsC (zeros13, none) (fs.take (k + 1)) = some (l.set j (toNumF dat : Int), o) by
                  rw [HSTEP.out, HPS.out]
                  show putC (l, o) ((j : Int) + 1, dat) = _
                  rw [hpc]
                  unfold putF
                  rw [if_neg (by rw [HLEN.out, hE]; simp only [not_or]; exact ⟨by show ¬ (13 : Int) < (j : Int) + 1; omega, c2, by simp⟩)]
                  simp only
                  rw [show ((j : Int) + 1 - 1).toNat = j by omega]
                  rfl)
                rw [errV_zero]
                clear HBAD HSTEP hE htag hpc
                generalize toNumF dat = x at *
                go_wp2_with fail
                go_roundw
                case rel => exact ⟨k + 1, l.set j (x : Int), o, by omega, by go_num, rfl, HST.out, M4.out, A4.out, B4.out⟩
                case measure => simp [intOf]; omega
          · have HNO := Lib.hid (show rowFct fs = none from HBAD.out (by rw [hpc]; unfold putF; rw [if_pos (.inl (by rw [HLEN.out]; show (13 : Int) < tag; omega))]; rfl))
            have d1 : decide (14 < tag) = true := by simp; omega
            clear HBAD HSTEP hpc
            go_wp2_with fail
            have RX := Lib.hid (R1.out.below B2.out R1.out.lt)
            have BX := Lib.hid (B1.out.trans (B2.out.mono B1.out.size))
            have HD := Lib.hid (show decF b = fct0 ∧ decE b = 3 + 1 by rw [HDE.out.1, HDE.out.2, HNO.out]; exact ⟨rfl, rfl⟩)
            clear HNO HDE
            refine wp_phiU (fun _ wa wb => Only w.heap.size wa wb) (fun wq => Below w.heap.size w wq) [(2, PSto fun wq => Blk wq w.heap.size 26 #[.int .i64 0, .int .i64 0, .int .i64 0, .int .i64 0, .int .i64 0, .int .i64 0, .int .i64 0, .int .i64 0, .int .i64 0, .int .i64 0, .int .i64 0, .int .i64 0, .int .i64 0, .float .f64 0])] [] [(2, fun wq => Blk wq w.heap.size 26 #[.int .i64 0, .int .i64 0, .int .i64 0, .int .i64 0, .int .i64 0, .int .i64 0, .int .i64 0, .int .i64 0, .int .i64 0, .int .i64 0, .int .i64 0, .int .i64 0, .int .i64 0, .float .f64 0])] [] (by kernel_rfl) (by kernel_rfl) ?_ ?_ ?_ ?_ BX.out.drew ?_
            · intro p hp wa wb h1 h2
              exact h1.trans (h2.below (Nat.le_refl _))
            · simp only [List.mem_cons, List.not_mem_nil, or_false, forall_eq]
              intro h
              exact absurd rfl h
            · simp only [List.mem_cons, List.not_mem_nil, or_false, forall_eq]
              intro h
              exact absurd rfl h
            · simp only [List.mem_cons, List.not_mem_nil, or_false, forall_eq]
              exact RX.out
            repeat (first | (refine phiU_skipK rfl (fun K hK => ?_); simp only [Act.put, List.setIfInBounds_toArray, List.set_cons_succ, List.set_cons_zero]; (try simp only [List.cons_append]); (try simp only [List.nil_append]); apply hK; clear hK K) | (refine phiU_pureK rfl rfl (fun K hK => ?_); apply Exists.intro; constructor; (focus (rintro w' hI; (have s1 := (HG.out _ hI).errs.cell 3 (by omega); simp only [errVar, errAt, List.getD_cons_zero, List.getD_cons_succ] at s1; clear hI); first | (go_simp; done) | (go_simp; (try go_bits); (try go_simp); rfl) | go_simp)); simp only [Act.put, List.setIfInBounds_toArray, List.set_cons_succ, List.set_cons_zero]; (try simp only [List.cons_append]); (try simp only [List.nil_append]); apply hK; clear hK K))
            refine phiU_partK (PSto fun wq => Blk wq w.heap.size 26 #[.int .i64 0, .int .i64 0, .int .i64 0, .int .i64 0, .int .i64 0, .int .i64 0, .int .i64 0, .int .i64 0, .int .i64 0, .int .i64 0, .int .i64 0, .int .i64 0, .int .i64 0, .float .f64 0]) rfl rfl ⟨_, rfl⟩ ?_ (fun K hK v hv => ?_)
            · intro wq hI hf hu
              have hm : Blk wq w.heap.size 26 #[.int .i64 0, .int .i64 0, .int .i64 0, .int .i64 0, .int .i64 0, .int .i64 0, .int .i64 0, .int .i64 0, .int .i64 0, .int .i64 0, .int .i64 0, .int .i64 0, .int .i64 0, .float .f64 0] := hu (2, fun wq => Blk wq w.heap.size 26 #[.int .i64 0, .int .i64 0, .int .i64 0, .int .i64 0, .int .i64 0, .int .i64 0, .int .i64 0, .int .i64 0, .int .i64 0, .int .i64 0, .int .i64 0, .int .i64 0, .int .i64 0, .float .f64 0]) (by simp) rfl
              exact gives_store (.tmp 2) (.tmp 64) 26 rfl w.heap.size 0 _ _ #[.int .i64 0, .int .i64 0, .int .i64 0, .int .i64 0, .int .i64 0, .int .i64 0, .int .i64 0, .int .i64 0, .int .i64 0, .int .i64 0, .int .i64 0, .int .i64 0, .int .i64 0, .float .f64 0] rfl rfl hm (by kernel_rfl) (by simp [Value.oneCell']) (by simp) (fun w2 h2 h3 => ⟨rfl, h2, h3⟩)
            obtain rfl : v = _ := hv
            simp only [Act.put]; (try simp only [List.cons_append]); (try simp only [List.nil_append])
            apply hK
            clear hK K
            repeat (first | (refine phiU_skipK rfl (fun K hK => ?_); simp only [Act.put, List.setIfInBounds_toArray, List.set_cons_succ, List.set_cons_zero]; (try simp only [List.cons_append]); (try simp only [List.nil_append]); apply hK; clear hK K) | (refine phiU_pureK rfl rfl (fun K hK => ?_); apply Exists.intro; constructor; (focus (rintro w' hI; (clear hI); first | (go_simp; done) | (go_simp; (try go_bits); (try go_simp); rfl) | go_simp)); simp only [Act.put, List.setIfInBounds_toArray, List.set_cons_succ, List.set_cons_zero]; (try simp only [List.cons_append]); (try simp only [List.nil_append]); apply hK; clear hK K))
            refine phiU_done ?_
            intro w7 hI hf
            have h7 : Blk w7 w.heap.size 26 #[.int .i64 0, .int .i64 0, .int .i64 0, .int .i64 0, .int .i64 0, .int .i64 0, .int .i64 0, .int .i64 0, .int .i64 0, .int .i64 0, .int .i64 0, .int .i64 0, .int .i64 0, .float .f64 0] := hf (2, fun wq => (PSto fun wq => Blk wq w.heap.size 26 #[.int .i64 0, .int .i64 0, .int .i64 0, .int .i64 0, .int .i64 0, .int .i64 0, .int .i64 0, .int .i64 0, .int .i64 0, .int .i64 0, .int .i64 0, .int .i64 0, .int .i64 0, .float .f64 0]).fact wq undef) (by simp) rfl
            have B7 := Lib.hid hI
            clear hf hI
            have q0 := (h7.cell 0).trans rfl
            have q1 := (h7.cell 1).trans rfl
            have q2 := (h7.cell 2).trans rfl
            have q3 := (h7.cell 3).trans rfl
            have q4 := (h7.cell 4).trans rfl
            have q5 := (h7.cell 5).trans rfl
            have q6 := (h7.cell 6).trans rfl
            have q7 := (h7.cell 7).trans rfl
            have q8 := (h7.cell 8).trans rfl
            have q9 := (h7.cell 9).trans rfl
            have q10 := (h7.cell 10).trans rfl
            have q11 := (h7.cell 11).trans rfl
            have q12 := (h7.cell 12).trans rfl
            have q13 := (h7.cell 13).trans rfl
            refine wpList_nil ?_
            go_wp2_with fail
            refine bodyPost_ret (v := .tuple #[.agg #[.int .i64 0, .int .i64 0, .int .i64 0, .int .i64 0, .int .i64 0, .int .i64 0, .int .i64 0, .int .i64 0, .int .i64 0, .int .i64 0, .int .i64 0, .int .i64 0, .int .i64 0, .float .f64 0], errAt (E 3)]) (by simp [results, Tryz.results10, go_sem, errAt, q0, q1, q2, q3, q4, q5, q6, q7, q8, q9, q10, q11, q12, q13]) rfl ?_
            exact ⟨by rw [HD.out.1, HD.out.2] <;> rfl, B7.out⟩
      · obtain rfl : k = fs.length := by omega
        have hps' := HPS.out
        rw [List.take_of_length_le (Nat.le_refl _)] at hps'
        obtain ⟨hnum, hx⟩ := read_nums HOK.out hps'
        have HROW := Lib.hid (show rowFct fs = endF (l, o) by unfold rowFct; rw [hps']; rfl)
        clear hps' HPS
        have B2 := Lib.hid hbw
        obtain ⟨x0, x1, x2, x3, x4, x5, x6, x7, x8, x9, x10, x11, x12, rfl⟩ := thirteen HLEN.out
        have HRI := Lib.hid (fun w' h => fright_any ⟨x0, x1, x2, x3, x4, x5, x6, x7, x8, x9, x10, x11, x12, o.getD 0⟩ ⟨fun z hz => ⟨by have := (hnum z hz).1; omega, (hnum z hz).2⟩, hx⟩ w' E h)
        have HEQ := Lib.hid (show endF ([x0, x1, x2, x3, x4, x5, x6, x7, x8, x9, x10, x11, x12], o) = if o.isSome = decide (x0 = 1) then (if rightF ⟨x0, x1, x2, x3, x4, x5, x6, x7, x8, x9, x10, x11, x12, o.getD 0⟩ then some ⟨x0, x1, x2, x3, x4, x5, x6, x7, x8, x9, x10, x11, x12, o.getD 0⟩ else none) else none from rfl)
        have hM9 : Blk wr w1.heap.size 26 #[.int .i64 x0, .int .i64 x1, .int .i64 x2, .int .i64 x3, .int .i64 x4, .int .i64 x5, .int .i64 x6, .int .i64 x7, .int .i64 x8, .int .i64 x9, .int .i64 x10, .int .i64 x11, .int .i64 x12, .float .f64 (o.getD 0)] := M'.out
        clear hnum hx M' HLEN
        unfold fctV fctA at HRI
        simp only at HRI
        cases o with
        | none =>
          have MM := Lib.hid (show Blk wr w1.heap.size 26 #[.int .i64 x0, .int .i64 x1, .int .i64 x2, .int .i64 x3, .int .i64 x4, .int .i64 x5, .int .i64 x6, .int .i64 x7, .int .i64 x8, .int .i64 x9, .int .i64 x10, .int .i64 x11, .int .i64 x12, .float .f64 0] from hM9)
          clear hM9
          have n0 := (MM.out.cell 0).trans rfl
          have n1 := (MM.out.cell 1).trans rfl
          have n2 := (MM.out.cell 2).trans rfl
          have n3 := (MM.out.cell 3).trans rfl
          have n4 := (MM.out.cell 4).trans rfl
          have n5 := (MM.out.cell 5).trans rfl
          have n6 := (MM.out.cell 6).trans rfl
          have n7 := (MM.out.cell 7).trans rfl
          have n8 := (MM.out.cell 8).trans rfl
          have n9 := (MM.out.cell 9).trans rfl
          have n10 := (MM.out.cell 10).trans rfl
          have n11 := (MM.out.cell 11).trans rfl
          have n12 := (MM.out.cell 12).trans rfl
          have n13 := (MM.out.cell 13).trans rfl
          have G1 := Lib.hid (HG1.out _ B2.out)
          simp only [Option.getD_none, Option.isSome_none] at HRI HEQ ⊢
          by_cases c1 : x0 = 1
          · have d1 : (x0 == 1) = true := by simpa using c1
            have HNO := Lib.hid (show rowFct fs = none from HROW.out.trans (HEQ.out.trans (if_neg (by simp [c1]))))
            clear HROW HEQ HRI c1
            go_wp2_with fail
            have RX := Lib.hid (R1.out.below B2.out R1.out.lt)
            have BX := Lib.hid (B1.out.trans (B2.out.mono B1.out.size))
            have HD := Lib.hid (show decF b = fct0 ∧ decE b = 3 + 1 by rw [HDE.out.1, HDE.out.2, HNO.out]; exact ⟨rfl, rfl⟩)
            clear HNO HDE
            refine wp_phiU (fun _ wa wb => Only w.heap.size wa wb) (fun wq => Below w.heap.size w wq) [(2, PSto fun wq => Blk wq w.heap.size 26 #[.int .i64 0, .int .i64 0, .int .i64 0, .int .i64 0, .int .i64 0, .int .i64 0, .int .i64 0, .int .i64 0, .int .i64 0, .int .i64 0, .int .i64 0, .int .i64 0, .int .i64 0, .float .f64 0])] [] [(2, fun wq => Blk wq w.heap.size 26 #[.int .i64 0, .int .i64 0, .int .i64 0, .int .i64 0, .int .i64 0, .int .i64 0, .int .i64 0, .int .i64 0, .int .i64 0, .int .i64 0, .int .i64 0, .int .i64 0, .int .i64 0, .float .f64 0])] [] (by kernel_rfl) (by kernel_rfl) ?_ ?_ ?_ ?_ BX.out.drew ?_
            · intro p hp wa wb h1 h2
              exact h1.trans (h2.below (Nat.le_refl _))
            · simp only [List.mem_cons, List.not_mem_nil, or_false, forall_eq]
              intro h
              exact absurd rfl h
            · simp only [List.mem_cons, List.not_mem_nil, or_false, forall_eq]
              intro h
              exact absurd rfl h
            · simp only [List.mem_cons, List.not_mem_nil, or_false, forall_eq]
              exact RX.out
            repeat (first | (refine phiU_skipK rfl (fun K hK => ?_); simp only [Act.put, List.setIfInBounds_toArray, List.set_cons_succ, List.set_cons_zero]; (try simp only [List.cons_append]); (try simp only [List.nil_append]); apply hK; clear hK K) | (refine phiU_pureK rfl rfl (fun K hK => ?_); apply Exists.intro; constructor; (focus (rintro w' hI; (have s1 := (HG.out _ hI).errs.cell 3 (by omega); simp only [errVar, errAt, List.getD_cons_zero, List.getD_cons_succ] at s1; clear hI); first | (go_simp; done) | (go_simp; (try go_bits); (try go_simp); rfl) | go_simp)); simp only [Act.put, List.setIfInBounds_toArray, List.set_cons_succ, List.set_cons_zero]; (try simp only [List.cons_append]); (try simp only [List.nil_append]); apply hK; clear hK K))
            refine phiU_partK (PSto fun wq => Blk wq w.heap.size 26 #[.int .i64 0, .int .i64 0, .int .i64 0, .int .i64 0, .int .i64 0, .int .i64 0, .int .i64 0, .int .i64 0, .int .i64 0, .int .i64 0, .int .i64 0, .int .i64 0, .int .i64 0, .float .f64 0]) rfl rfl ⟨_, rfl⟩ ?_ (fun K hK v hv => ?_)
            · intro wq hI hf hu
              have hm : Blk wq w.heap.size 26 #[.int .i64 0, .int .i64 0, .int .i64 0, .int .i64 0, .int .i64 0, .int .i64 0, .int .i64 0, .int .i64 0, .int .i64 0, .int .i64 0, .int .i64 0, .int .i64 0, .int .i64 0, .float .f64 0] := hu (2, fun wq => Blk wq w.heap.size 26 #[.int .i64 0, .int .i64 0, .int .i64 0, .int .i64 0, .int .i64 0, .int .i64 0, .int .i64 0, .int .i64 0, .int .i64 0, .int .i64 0, .int .i64 0, .int .i64 0, .int .i64 0, .float .f64 0]) (by simp) rfl
              exact gives_store (.tmp 2) (.tmp 77) 26 rfl w.heap.size 0 _ _ #[.int .i64 0, .int .i64 0, .int .i64 0, .int .i64 0, .int .i64 0, .int .i64 0, .int .i64 0, .int .i64 0, .int .i64 0, .int .i64 0, .int .i64 0, .int .i64 0, .int .i64 0, .float .f64 0] rfl rfl hm (by kernel_rfl) (by simp [Value.oneCell']) (by simp) (fun w2 h2 h3 => ⟨rfl, h2, h3⟩)
            obtain rfl : v = _ := hv
            simp only [Act.put]; (try simp only [List.cons_append]); (try simp only [List.nil_append])
            apply hK
            clear hK K
            repeat (first | (refine phiU_skipK rfl (fun K hK => ?_); simp only [Act.put, List.setIfInBounds_toArray, List.set_cons_succ, List.set_cons_zero]; (try simp only [List.cons_append]); (try simp only [List.nil_append]); apply hK; clear hK K) | (refine phiU_pureK rfl rfl (fun K hK => ?_); apply Exists.intro; constructor; (focus (rintro w' hI; (clear hI); first | (go_simp; done) | (go_simp; (try go_bits); (try go_simp); rfl) | go_simp)); simp only [Act.put, List.setIfInBounds_toArray, List.set_cons_succ, List.set_cons_zero]; (try simp only [List.cons_append]); (try simp only [List.nil_append]); apply hK; clear hK K))
            refine phiU_done ?_
            intro w7 hI hf
            have h7 : Blk w7 w.heap.size 26 #[.int .i64 0, .int .i64 0, .int .i64 0, .int .i64 0, .int .i64 0, .int .i64 0, .int .i64 0, .int .i64 0, .int .i64 0, .int .i64 0, .int .i64 0, .int .i64 0, .int .i64 0, .float .f64 0] := hf (2, fun wq => (PSto fun wq => Blk wq w.heap.size 26 #[.int .i64 0, .int .i64 0, .int .i64 0, .int .i64 0, .int .i64 0, .int .i64 0, .int .i64 0, .int .i64 0, .int .i64 0, .int .i64 0, .int .i64 0, .int .i64 0, .int .i64 0, .float .f64 0]).fact wq undef) (by simp) rfl
            have B7 := Lib.hid hI
            clear hf hI
            have q0 := (h7.cell 0).trans rfl
            have q1 := (h7.cell 1).trans rfl
            have q2 := (h7.cell 2).trans rfl
            have q3 := (h7.cell 3).trans rfl
            have q4 := (h7.cell 4).trans rfl
            have q5 := (h7.cell 5).trans rfl
            have q6 := (h7.cell 6).trans rfl
            have q7 := (h7.cell 7).trans rfl
            have q8 := (h7.cell 8).trans rfl
            have q9 := (h7.cell 9).trans rfl
            have q10 := (h7.cell 10).trans rfl
            have q11 := (h7.cell 11).trans rfl
            have q12 := (h7.cell 12).trans rfl
            have q13 := (h7.cell 13).trans rfl
            refine wpList_nil ?_
            go_wp2_with fail
            refine bodyPost_ret (v := .tuple #[.agg #[.int .i64 0, .int .i64 0, .int .i64 0, .int .i64 0, .int .i64 0, .int .i64 0, .int .i64 0, .int .i64 0, .int .i64 0, .int .i64 0, .int .i64 0, .int .i64 0, .int .i64 0, .float .f64 0], errAt (E 3)]) (by simp [results, Tryz.results10, go_sem, errAt, q0, q1, q2, q3, q4, q5, q6, q7, q8, q9, q10, q11, q12, q13]) rfl ?_
            exact ⟨by rw [HD.out.1, HD.out.2] <;> rfl, B7.out⟩
          · have d1 : (x0 == 1) = false := by simpa using c1
            have HEQ2 := Lib.hid (HEQ.out.trans (if_pos (by simp [c1])))
            clear HEQ c1
            have HEQ := Lib.hid HEQ2.out
            clear HEQ2
            have HRI2 := Lib.hid HRI.out
            clear HRI
            cases hr : rightF ⟨x0, x1, x2, x3, x4, x5, x6, x7, x8, x9, x10, x11, x12, 0⟩
            · rw [hr] at HRI2 HEQ
              have HNO := Lib.hid (show rowFct fs = none from HROW.out.trans (HEQ.out.trans rfl))
              clear hr HROW HEQ
              go_wp2_with fail
              refine (HRI2.out _ G1.out).mono ?_
              rintro e w3 ⟨rfl, hb2⟩
              have B3 := Lib.hid (B2.out.trans (hb2.mono B2.out.size))
              clear hb2 n0 n1 n2 n3 n4 n5 n6 n7 n8 n9 n10 n11 n12 n13
              go_wp2_with fail
              have RX := Lib.hid (R1.out.below B3.out R1.out.lt)
              have BX := Lib.hid (B1.out.trans (B3.out.mono B1.out.size))
              have HD := Lib.hid (show decF b = fct0 ∧ decE b = 3 + 1 by rw [HDE.out.1, HDE.out.2, HNO.out]; exact ⟨rfl, rfl⟩)
              clear HNO HDE
              refine wp_phiU (fun _ wa wb => Only w.heap.size wa wb) (fun wq => Below w.heap.size w wq) [(2, PSto fun wq => Blk wq w.heap.size 26 #[.int .i64 0, .int .i64 0, .int .i64 0, .int .i64 0, .int .i64 0, .int .i64 0, .int .i64 0, .int .i64 0, .int .i64 0, .int .i64 0, .int .i64 0, .int .i64 0, .int .i64 0, .float .f64 0])] [] [(2, fun wq => Blk wq w.heap.size 26 #[.int .i64 0, .int .i64 0, .int .i64 0, .int .i64 0, .int .i64 0, .int .i64 0, .int .i64 0, .int .i64 0, .int .i64 0, .int .i64 0, .int .i64 0, .int .i64 0, .int .i64 0, .float .f64 0])] [] (by kernel_rfl) (by kernel_rfl) ?_ ?_ ?_ ?_ BX.out.drew ?_
              · intro p hp wa wb h1 h2
                exact h1.trans (h2.below (Nat.le_refl _))
              · simp only [List.mem_cons, List.not_mem_nil, or_false, forall_eq]
                intro h
                exact absurd rfl h
              · simp only [List.mem_cons, List.not_mem_nil, or_false, forall_eq]
                intro h
                exact absurd rfl h
              · simp only [List.mem_cons, List.not_mem_nil, or_false, forall_eq]
                exact RX.out
              repeat (first | (refine phiU_skipK rfl (fun K hK => ?_); simp only [Act.put, List.setIfInBounds_toArray, List.set_cons_succ, List.set_cons_zero]; (try simp only [List.cons_append]); (try simp only [List.nil_append]); apply hK; clear hK K) | (refine phiU_pureK rfl rfl (fun K hK => ?_); apply Exists.intro; constructor; (focus (rintro w' hI; (have s1 := (HG.out _ hI).errs.cell 3 (by omega); simp only [errVar, errAt, List.getD_cons_zero, List.getD_cons_succ] at s1; clear hI); first | (go_simp; done) | (go_simp; (try go_bits); (try go_simp); rfl) | go_simp)); simp only [Act.put, List.setIfInBounds_toArray, List.set_cons_succ, List.set_cons_zero]; (try simp only [List.cons_append]); (try simp only [List.nil_append]); apply hK; clear hK K))
              refine phiU_partK (PSto fun wq => Blk wq w.heap.size 26 #[.int .i64 0, .int .i64 0, .int .i64 0, .int .i64 0, .int .i64 0, .int .i64 0, .int .i64 0, .int .i64 0, .int .i64 0, .int .i64 0, .int .i64 0, .int .i64 0, .int .i64 0, .float .f64 0]) rfl rfl ⟨_, rfl⟩ ?_ (fun K hK v hv => ?_)
              · intro wq hI hf hu
                have hm : Blk wq w.heap.size 26 #[.int .i64 0, .int .i64 0, .int .i64 0, .int .i64 0, .int .i64 0, .int .i64 0, .int .i64 0, .int .i64 0, .int .i64 0, .int .i64 0, .int .i64 0, .int .i64 0, .int .i64 0, .float .f64 0] := hu (2, fun wq => Blk wq w.heap.size 26 #[.int .i64 0, .int .i64 0, .int .i64 0, .int .i64 0, .int .i64 0, .int .i64 0, .int .i64 0, .int .i64 0, .int .i64 0, .int .i64 0, .int .i64 0, .int .i64 0, .int .i64 0, .float .f64 0]) (by simp) rfl
                exact gives_store (.tmp 2) (.tmp 77) 26 rfl w.heap.size 0 _ _ #[.int .i64 0, .int .i64 0, .int .i64 0, .int .i64 0, .int .i64 0, .int .i64 0, .int .i64 0, .int .i64 0, .int .i64 0, .int .i64 0, .int .i64 0, .int .i64 0, .int .i64 0, .float .f64 0] rfl rfl hm (by kernel_rfl) (by simp [Value.oneCell']) (by simp) (fun w2 h2 h3 => ⟨rfl, h2, h3⟩)
              obtain rfl : v = _ := hv
              simp only [Act.put]; (try simp only [List.cons_append]); (try simp only [List.nil_append])
              apply hK
              clear hK K
              repeat (first | (refine phiU_skipK rfl (fun K hK => ?_); simp only [Act.put, List.setIfInBounds_toArray, List.set_cons_succ, List.set_cons_zero]; (try simp only [List.cons_append]); (try simp only [List.nil_append]); apply hK; clear hK K) | (refine phiU_pureK rfl rfl (fun K hK => ?_); apply Exists.intro; constructor; (focus (rintro w' hI; (clear hI); first | (go_simp; done) | (go_simp; (try go_bits); (try go_simp); rfl) | go_simp)); simp only [Act.put, List.setIfInBounds_toArray, List.set_cons_succ, List.set_cons_zero]; (try simp only [List.cons_append]); (try simp only [List.nil_append]); apply hK; clear hK K))
              refine phiU_done ?_
              intro w7 hI hf
              have h7 : Blk w7 w.heap.size 26 #[.int .i64 0, .int .i64 0, .int .i64 0, .int .i64 0, .int .i64 0, .int .i64 0, .int .i64 0, .int .i64 0, .int .i64 0, .int .i64 0, .int .i64 0, .int .i64 0, .int .i64 0, .float .f64 0] := hf (2, fun wq => (PSto fun wq => Blk wq w.heap.size 26 #[.int .i64 0, .int .i64 0, .int .i64 0, .int .i64 0, .int .i64 0, .int .i64 0, .int .i64 0, .int .i64 0, .int .i64 0, .int .i64 0, .int .i64 0, .int .i64 0, .int .i64 0, .float .f64 0]).fact wq undef) (by simp) rfl
              have B7 := Lib.hid hI
              clear hf hI
              have q0 := (h7.cell 0).trans rfl
              have q1 := (h7.cell 1).trans rfl
              have q2 := (h7.cell 2).trans rfl
              have q3 := (h7.cell 3).trans rfl
              have q4 := (h7.cell 4).trans rfl
              have q5 := (h7.cell 5).trans rfl
              have q6 := (h7.cell 6).trans rfl
              have q7 := (h7.cell 7).trans rfl
              have q8 := (h7.cell 8).trans rfl
              have q9 := (h7.cell 9).trans rfl
              have q10 := (h7.cell 10).trans rfl
              have q11 := (h7.cell 11).trans rfl
              have q12 := (h7.cell 12).trans rfl
              have q13 := (h7.cell 13).trans rfl
              refine wpList_nil ?_
              go_wp2_with fail
              refine bodyPost_ret (v := .tuple #[.agg #[.int .i64 0, .int .i64 0, .int .i64 0, .int .i64 0, .int .i64 0, .int .i64 0, .int .i64 0, .int .i64 0, .int .i64 0, .int .i64 0, .int .i64 0, .int .i64 0, .int .i64 0, .float .f64 0], errAt (E 3)]) (by simp [results, Tryz.results10, go_sem, errAt, q0, q1, q2, q3, q4, q5, q6, q7, q8, q9, q10, q11, q12, q13]) rfl ?_
              exact ⟨by rw [HD.out.1, HD.out.2] <;> rfl, B7.out⟩
            · rw [hr] at HRI2 HEQ
              have HYES := Lib.hid (show rowFct fs = some ⟨x0, x1, x2, x3, x4, x5, x6, x7, x8, x9, x10, x11, x12, 0⟩ from HROW.out.trans (HEQ.out.trans rfl))
              clear hr HROW HEQ
              go_wp2_with fail
              refine (HRI2.out _ G1.out).mono ?_
              rintro e w3 ⟨rfl, hb2⟩
              have B3 := Lib.hid (B2.out.trans (hb2.mono B2.out.size))
              have M3 := Lib.hid (MM.out.below hb2 MM.out.lt)
              have R3 := Lib.hid (R1.out.below B3.out R1.out.lt)
              clear hb2 n0 n1 n2 n3 n4 n5 n6 n7 n8 n9 n10 n11 n12 n13 MM A'
              have n0 := (M3.out.cell 0).trans rfl
              have n1 := (M3.out.cell 1).trans rfl
              have n2 := (M3.out.cell 2).trans rfl
              have n3 := (M3.out.cell 3).trans rfl
              have n4 := (M3.out.cell 4).trans rfl
              have n5 := (M3.out.cell 5).trans rfl
              have n6 := (M3.out.cell 6).trans rfl
              have n7 := (M3.out.cell 7).trans rfl
              have n8 := (M3.out.cell 8).trans rfl
              have n9 := (M3.out.cell 9).trans rfl
              have n10 := (M3.out.cell 10).trans rfl
              have n11 := (M3.out.cell 11).trans rfl
              have n12 := (M3.out.cell 12).trans rfl
              have n13 := (M3.out.cell 13).trans rfl
              go_wp2_with (refine wpList_store (.tmp 2) (.tmp 79) 26 rfl rfl w.heap.size 0 _ _ #[.int .i64 x0, .int .i64 x1, .int .i64 x2, .int .i64 x3, .int .i64 x4, .int .i64 x5, .int .i64 x6, .int .i64 x7, .int .i64 x8, .int .i64 x9, .int .i64 x10, .int .i64 x11, .int .i64 x12, .float .f64 0] rfl rfl R3.out (by kernel_rfl) (by simp [Value.oneCell']) (by simp) ?_)
              intro w8 hn8 ko8
              have h8 : Blk w8 w.heap.size 26 #[.int .i64 x0, .int .i64 x1, .int .i64 x2, .int .i64 x3, .int .i64 x4, .int .i64 x5, .int .i64 x6, .int .i64 x7, .int .i64 x8, .int .i64 x9, .int .i64 x10, .int .i64 x11, .int .i64 x12, .float .f64 0] := hn8
              have q0 := (h8.cell 0).trans rfl
              have q1 := (h8.cell 1).trans rfl
              have q2 := (h8.cell 2).trans rfl
              have q3 := (h8.cell 3).trans rfl
              have q4 := (h8.cell 4).trans rfl
              have q5 := (h8.cell 5).trans rfl
              have q6 := (h8.cell 6).trans rfl
              have q7 := (h8.cell 7).trans rfl
              have q8 := (h8.cell 8).trans rfl
              have q9 := (h8.cell 9).trans rfl
              have q10 := (h8.cell 10).trans rfl
              have q11 := (h8.cell 11).trans rfl
              have q12 := (h8.cell 12).trans rfl
              have q13 := (h8.cell 13).trans rfl
              have B8 := Lib.hid ((B1.out.trans (B3.out.mono B1.out.size)).trans (ko8.below (Nat.le_refl _)))
              clear hn8 ko8 h8 n0 n1 n2 n3 n4 n5 n6 n7 n8 n9 n10 n11 n12 n13
              go_wp2_with fail
              refine bodyPost_ret (v := .tuple #[.agg #[.int .i64 x0, .int .i64 x1, .int .i64 x2, .int .i64 x3, .int .i64 x4, .int .i64 x5, .int .i64 x6, .int .i64 x7, .int .i64 x8, .int .i64 x9, .int .i64 x10, .int .i64 x11, .int .i64 x12, .float .f64 0], .nilIface]) (by simp [results, Tryz.results10, go_sem, q0, q1, q2, q3, q4, q5, q6, q7, q8, q9, q10, q11, q12, q13]) rfl ?_
              exact ⟨by rw [HDE.out.1, HDE.out.2, HYES.out] <;> rfl, B8.out⟩
        | some y =>
          have MM := Lib.hid (show Blk wr w1.heap.size 26 #[.int .i64 x0, .int .i64 x1, .int .i64 x2, .int .i64 x3, .int .i64 x4, .int .i64 x5, .int .i64 x6, .int .i64 x7, .int .i64 x8, .int .i64 x9, .int .i64 x10, .int .i64 x11, .int .i64 x12, .float .f64 y] from hM9)
          clear hM9
          have n0 := (MM.out.cell 0).trans rfl
          have n1 := (MM.out.cell 1).trans rfl
          have n2 := (MM.out.cell 2).trans rfl
          have n3 := (MM.out.cell 3).trans rfl
          have n4 := (MM.out.cell 4).trans rfl
          have n5 := (MM.out.cell 5).trans rfl
          have n6 := (MM.out.cell 6).trans rfl
          have n7 := (MM.out.cell 7).trans rfl
          have n8 := (MM.out.cell 8).trans rfl
          have n9 := (MM.out.cell 9).trans rfl
          have n10 := (MM.out.cell 10).trans rfl
          have n11 := (MM.out.cell 11).trans rfl
          have n12 := (MM.out.cell 12).trans rfl
          have n13 := (MM.out.cell 13).trans rfl
          have G1 := Lib.hid (HG1.out _ B2.out)
          simp only [Option.getD_some, Option.isSome_some] at HRI HEQ ⊢
          by_cases c1 : x0 = 1
          · have d1 : (x0 == 1) = true := by simpa using c1
            have HEQ2 := Lib.hid (HEQ.out.trans (if_pos (by simp [c1])))
            clear HEQ c1
            have HEQ := Lib.hid HEQ2.out
            clear HEQ2
            have HRI2 := Lib.hid HRI.out
            clear HRI
            cases hr : rightF ⟨x0, x1, x2, x3, x4, x5, x6, x7, x8, x9, x10, x11, x12, y⟩
            · rw [hr] at HRI2 HEQ
              have HNO := Lib.hid (show rowFct fs = none from HROW.out.trans (HEQ.out.trans rfl))
              clear hr HROW HEQ
              go_wp2_with fail
              refine (HRI2.out _ G1.out).mono ?_
              rintro e w3 ⟨rfl, hb2⟩
              have B3 := Lib.hid (B2.out.trans (hb2.mono B2.out.size))
              clear hb2 n0 n1 n2 n3 n4 n5 n6 n7 n8 n9 n10 n11 n12 n13
              go_wp2_with fail
              have RX := Lib.hid (R1.out.below B3.out R1.out.lt)
              have BX := Lib.hid (B1.out.trans (B3.out.mono B1.out.size))
              have HD := Lib.hid (show decF b = fct0 ∧ decE b = 3 + 1 by rw [HDE.out.1, HDE.out.2, HNO.out]; exact ⟨rfl, rfl⟩)
              clear HNO HDE
              refine wp_phiU (fun _ wa wb => Only w.heap.size wa wb) (fun wq => Below w.heap.size w wq) [(2, PSto fun wq => Blk wq w.heap.size 26 #[.int .i64 0, .int .i64 0, .int .i64 0, .int .i64 0, .int .i64 0, .int .i64 0, .int .i64 0, .int .i64 0, .int .i64 0, .int .i64 0, .int .i64 0, .int .i64 0, .int .i64 0, .float .f64 0])] [] [(2, fun wq => Blk wq w.heap.size 26 #[.int .i64 0, .int .i64 0, .int .i64 0, .int .i64 0, .int .i64 0, .int .i64 0, .int .i64 0, .int .i64 0, .int .i64 0, .int .i64 0, .int .i64 0, .int .i64 0, .int .i64 0, .float .f64 0])] [] (by kernel_rfl) (by kernel_rfl) ?_ ?_ ?_ ?_ BX.out.drew ?_
              · intro p hp wa wb h1 h2
                exact h1.trans (h2.below (Nat.le_refl _))
              · simp only [List.mem_cons, List.not_mem_nil, or_false, forall_eq]
                intro h
                exact absurd rfl h
              · simp only [List.mem_cons, List.not_mem_nil, or_false, forall_eq]
                intro h
                exact absurd rfl h
              · simp only [List.mem_cons, List.not_mem_nil, or_false, forall_eq]
                exact RX.out
              repeat (first | (refine phiU_skipK rfl (fun K hK => ?_); simp only [Act.put, List.setIfInBounds_toArray, List.set_cons_succ, List.set_cons_zero]; (try simp only [List.cons_append]); (try simp only [List.nil_append]); apply hK; clear hK K) | (refine phiU_pureK rfl rfl (fun K hK => ?_); apply Exists.intro; constructor; (focus (rintro w' hI; (have s1 := (HG.out _ hI).errs.cell 3 (by omega); simp only [errVar, errAt, List.getD_cons_zero, List.getD_cons_succ] at s1; clear hI); first | (go_simp; done) | (go_simp; (try go_bits); (try go_simp); rfl) | go_simp)); simp only [Act.put, List.setIfInBounds_toArray, List.set_cons_succ, List.set_cons_zero]; (try simp only [List.cons_append]); (try simp only [List.nil_append]); apply hK; clear hK K))
              refine phiU_partK (PSto fun wq => Blk wq w.heap.size 26 #[.int .i64 0, .int .i64 0, .int .i64 0, .int .i64 0, .int .i64 0, .int .i64 0, .int .i64 0, .int .i64 0, .int .i64 0, .int .i64 0, .int .i64 0, .int .i64 0, .int .i64 0, .float .f64 0]) rfl rfl ⟨_, rfl⟩ ?_ (fun K hK v hv => ?_)
              · intro wq hI hf hu
                have hm : Blk wq w.heap.size 26 #[.int .i64 0, .int .i64 0, .int .i64 0, .int .i64 0, .int .i64 0, .int .i64 0, .int .i64 0, .int .i64 0, .int .i64 0, .int .i64 0, .int .i64 0, .int .i64 0, .int .i64 0, .float .f64 0] := hu (2, fun wq => Blk wq w.heap.size 26 #[.int .i64 0, .int .i64 0, .int .i64 0, .int .i64 0, .int .i64 0, .int .i64 0, .int .i64 0, .int .i64 0, .int .i64 0, .int .i64 0, .int .i64 0, .int .i64 0, .int .i64 0, .float .f64 0]) (by simp) rfl
                exact gives_store (.tmp 2) (.tmp 77) 26 rfl w.heap.size 0 _ _ #[.int .i64 0, .int .i64 0, .int .i64 0, .int .i64 0, .int .i64 0, .int .i64 0, .int .i64 0, .int .i64 0, .int .i64 0, .int .i64 0, .int .i64 0, .int .i64 0, .int .i64 0, .float .f64 0] rfl rfl hm (by kernel_rfl) (by simp [Value.oneCell']) (by simp) (fun w2 h2 h3 => ⟨rfl, h2, h3⟩)
              obtain rfl : v = _ := hv
              simp only [Act.put]; (try simp only [List.cons_append]); (try simp only [List.nil_append])
              apply hK
              clear hK K
              repeat (first | (refine phiU_skipK rfl (fun K hK => ?_); simp only [Act.put, List.setIfInBounds_toArray, List.set_cons_succ, List.set_cons_zero]; (try simp only [List.cons_append]); (try simp only [List.nil_append]); apply hK; clear hK K) | (refine phiU_pureK rfl rfl (fun K hK => ?_); apply Exists.intro; constructor; (focus (rintro w' hI; (clear hI); first | (go_simp; done) | (go_simp; (try go_bits); (try go_simp); rfl) | go_simp)); simp only [Act.put, List.setIfInBounds_toArray, List.set_cons_succ, List.set_cons_zero]; (try simp only [List.cons_append]); (try simp only [List.nil_append]); apply hK; clear hK K))
              refine phiU_done ?_
              intro w7 hI hf
              have h7 : Blk w7 w.heap.size 26 #[.int .i64 0, .int .i64 0, .int .i64 0, .int .i64 0, .int .i64 0, .int .i64 0, .int .i64 0, .int .i64 0, .int .i64 0, .int .i64 0, .int .i64 0, .int .i64 0, .int .i64 0, .float .f64 0] := hf (2, fun wq => (PSto fun wq => Blk wq w.heap.size 26 #[.int .i64 0, .int .i64 0, .int .i64 0, .int .i64 0, .int .i64 0, .int .i64 0, .int .i64 0, .int .i64 0, .int .i64 0, .int .i64 0, .int .i64 0, .int .i64 0, .int .i64 0, .float .f64 0]).fact wq undef) (by simp) rfl
              have B7 := Lib.hid hI
              clear hf hI
              have q0 := (h7.cell 0).trans rfl
              have q1 := (h7.cell 1).trans rfl
              have q2 := (h7.cell 2).trans rfl
              have q3 := (h7.cell 3).trans rfl
              have q4 := (h7.cell 4).trans rfl
              have q5 := (h7.cell 5).trans rfl
              have q6 := (h7.cell 6).trans rfl
              have q7 := (h7.cell 7).trans rfl
              have q8 := (h7.cell 8).trans rfl
              have q9 := (h7.cell 9).trans rfl
              have q10 := (h7.cell 10).trans rfl
              have q11 := (h7.cell 11).trans rfl
              have q12 := (h7.cell 12).trans rfl
              have q13 := (h7.cell 13).trans rfl
              refine wpList_nil ?_
              go_wp2_with fail
              refine bodyPost_ret (v := .tuple #[.agg #[.int .i64 0, .int .i64 0, .int .i64 0, .int .i64 0, .int .i64 0, .int .i64 0, .int .i64 0, .int .i64 0, .int .i64 0, .int .i64 0, .int .i64 0, .int .i64 0, .int .i64 0, .float .f64 0], errAt (E 3)]) (by simp [results, Tryz.results10, go_sem, errAt, q0, q1, q2, q3, q4, q5, q6, q7, q8, q9, q10, q11, q12, q13]) rfl ?_
              exact ⟨by rw [HD.out.1, HD.out.2] <;> rfl, B7.out⟩
            · rw [hr] at HRI2 HEQ
              have HYES := Lib.hid (show rowFct fs = some ⟨x0, x1, x2, x3, x4, x5, x6, x7, x8, x9, x10, x11, x12, y⟩ from HROW.out.trans (HEQ.out.trans rfl))
              clear hr HROW HEQ
              go_wp2_with fail
              refine (HRI2.out _ G1.out).mono ?_
              rintro e w3 ⟨rfl, hb2⟩
              have B3 := Lib.hid (B2.out.trans (hb2.mono B2.out.size))
              have M3 := Lib.hid (MM.out.below hb2 MM.out.lt)
              have R3 := Lib.hid (R1.out.below B3.out R1.out.lt)
              clear hb2 n0 n1 n2 n3 n4 n5 n6 n7 n8 n9 n10 n11 n12 n13 MM A'
              have n0 := (M3.out.cell 0).trans rfl
              have n1 := (M3.out.cell 1).trans rfl
              have n2 := (M3.out.cell 2).trans rfl
              have n3 := (M3.out.cell 3).trans rfl
              have n4 := (M3.out.cell 4).trans rfl
              have n5 := (M3.out.cell 5).trans rfl
              have n6 := (M3.out.cell 6).trans rfl
              have n7 := (M3.out.cell 7).trans rfl
              have n8 := (M3.out.cell 8).trans rfl
              have n9 := (M3.out.cell 9).trans rfl
              have n10 := (M3.out.cell 10).trans rfl
              have n11 := (M3.out.cell 11).trans rfl
              have n12 := (M3.out.cell 12).trans rfl
              have n13 := (M3.out.cell 13).trans rfl
              go_wp2_with (refine wpList_store (.tmp 2) (.tmp 79) 26 rfl rfl w.heap.size 0 _ _ #[.int .i64 x0, .int .i64 x1, .int .i64 x2, .int .i64 x3, .int .i64 x4, .int .i64 x5, .int .i64 x6, .int .i64 x7, .int .i64 x8, .int .i64 x9, .int .i64 x10, .int .i64 x11, .int .i64 x12, .float .f64 y] rfl rfl R3.out (by kernel_rfl) (by simp [Value.oneCell']) (by simp) ?_)
              intro w8 hn8 ko8
              have h8 : Blk w8 w.heap.size 26 #[.int .i64 x0, .int .i64 x1, .int .i64 x2, .int .i64 x3, .int .i64 x4, .int .i64 x5, .int .i64 x6, .int .i64 x7, .int .i64 x8, .int .i64 x9, .int .i64 x10, .int .i64 x11, .int .i64 x12, .float .f64 y] := hn8
              have q0 := (h8.cell 0).trans rfl
              have q1 := (h8.cell 1).trans rfl
              have q2 := (h8.cell 2).trans rfl
              have q3 := (h8.cell 3).trans rfl
              have q4 := (h8.cell 4).trans rfl
              have q5 := (h8.cell 5).trans rfl
              have q6 := (h8.cell 6).trans rfl
              have q7 := (h8.cell 7).trans rfl
              have q8 := (h8.cell 8).trans rfl
              have q9 := (h8.cell 9).trans rfl
              have q10 := (h8.cell 10).trans rfl
              have q11 := (h8.cell 11).trans rfl
              have q12 := (h8.cell 12).trans rfl
              have q13 := (h8.cell 13).trans rfl
              have B8 := Lib.hid ((B1.out.trans (B3.out.mono B1.out.size)).trans (ko8.below (Nat.le_refl _)))
              clear hn8 ko8 h8 n0 n1 n2 n3 n4 n5 n6 n7 n8 n9 n10 n11 n12 n13
              go_wp2_with fail
              refine bodyPost_ret (v := .tuple #[.agg #[.int .i64 x0, .int .i64 x1, .int .i64 x2, .int .i64 x3, .int .i64 x4, .int .i64 x5, .int .i64 x6, .int .i64 x7, .int .i64 x8, .int .i64 x9, .int .i64 x10, .int .i64 x11, .int .i64 x12, .float .f64 y], .nilIface]) (by simp [results, Tryz.results10, go_sem, q0, q1, q2, q3, q4, q5, q6, q7, q8, q9, q10, q11, q12, q13]) rfl ?_
              exact ⟨by rw [HDE.out.1, HDE.out.2, HYES.out] <;> rfl, B8.out⟩
          · have d1 : (x0 == 1) = false := by simpa using c1
            have HNO := Lib.hid (show rowFct fs = none from HROW.out.trans (HEQ.out.trans (if_neg (by simp [c1]))))
            clear HROW HEQ HRI c1
            go_wp2_with fail
            have RX := Lib.hid (R1.out.below B2.out R1.out.lt)
            have BX := Lib.hid (B1.out.trans (B2.out.mono B1.out.size))
            have HD := Lib.hid (show decF b = fct0 ∧ decE b = 3 + 1 by rw [HDE.out.1, HDE.out.2, HNO.out]; exact ⟨rfl, rfl⟩)
            clear HNO HDE
            refine wp_phiU (fun _ wa wb => Only w.heap.size wa wb) (fun wq => Below w.heap.size w wq) [(2, PSto fun wq => Blk wq w.heap.size 26 #[.int .i64 0, .int .i64 0, .int .i64 0, .int .i64 0, .int .i64 0, .int .i64 0, .int .i64 0, .int .i64 0, .int .i64 0, .int .i64 0, .int .i64 0, .int .i64 0, .int .i64 0, .float .f64 0])] [] [(2, fun wq => Blk wq w.heap.size 26 #[.int .i64 0, .int .i64 0, .int .i64 0, .int .i64 0, .int .i64 0, .int .i64 0, .int .i64 0, .int .i64 0, .int .i64 0, .int .i64 0, .int .i64 0, .int .i64 0, .int .i64 0, .float .f64 0])] [] (by kernel_rfl) (by kernel_rfl) ?_ ?_ ?_ ?_ BX.out.drew ?_
            · intro p hp wa wb h1 h2
              exact h1.trans (h2.below (Nat.le_refl _))
            · simp only [List.mem_cons, List.not_mem_nil, or_false, forall_eq]
              intro h
              exact absurd rfl h
            · simp only [List.mem_cons, List.not_mem_nil, or_false, forall_eq]
              intro h
              exact absurd rfl h
            · simp only [List.mem_cons, List.not_mem_nil, or_false, forall_eq]
              exact RX.out
            repeat (first | (refine phiU_skipK rfl (fun K hK => ?_); simp only [Act.put, List.setIfInBounds_toArray, List.set_cons_succ, List.set_cons_zero]; (try simp only [List.cons_append]); (try simp only [List.nil_append]); apply hK; clear hK K) | (refine phiU_pureK rfl rfl (fun K hK => ?_); apply Exists.intro; constructor; (focus (rintro w' hI; (have s1 := (HG.out _ hI).errs.cell 3 (by omega); simp only [errVar, errAt, List.getD_cons_zero, List.getD_cons_succ] at s1; clear hI); first | (go_simp; done) | (go_simp; (try go_bits); (try go_simp); rfl) | go_simp)); simp only [Act.put, List.setIfInBounds_toArray, List.set_cons_succ, List.set_cons_zero]; (try simp only [List.cons_append]); (try simp only [List.nil_append]); apply hK; clear hK K))
            refine phiU_partK (PSto fun wq => Blk wq w.heap.size 26 #[.int .i64 0, .int .i64 0, .int .i64 0, .int .i64 0, .int .i64 0, .int .i64 0, .int .i64 0, .int .i64 0, .int .i64 0, .int .i64 0, .int .i64 0, .int .i64 0, .int .i64 0, .float .f64 0]) rfl rfl ⟨_, rfl⟩ ?_ (fun K hK v hv => ?_)
            · intro wq hI hf hu
              have hm : Blk wq w.heap.size 26 #[.int .i64 0, .int .i64 0, .int .i64 0, .int .i64 0, .int .i64 0, .int .i64 0, .int .i64 0, .int .i64 0, .int .i64 0, .int .i64 0, .int .i64 0, .int .i64 0, .int .i64 0, .float .f64 0] := hu (2, fun wq => Blk wq w.heap.size 26 #[.int .i64 0, .int .i64 0, .int .i64 0, .int .i64 0, .int .i64 0, .int .i64 0, .int .i64 0, .int .i64 0, .int .i64 0, .int .i64 0, .int .i64 0, .int .i64 0, .int .i64 0, .float .f64 0]) (by simp) rfl
              exact gives_store (.tmp 2) (.tmp 77) 26 rfl w.heap.size 0 _ _ #[.int .i64 0, .int .i64 0, .int .i64 0, .int .i64 0, .int .i64 0, .int .i64 0, .int .i64 0, .int .i64 0, .int .i64 0, .int .i64 0, .int .i64 0, .int .i64 0, .int .i64 0, .float .f64 0] rfl rfl hm (by kernel_rfl) (by simp [Value.oneCell']) (by simp) (fun w2 h2 h3 => ⟨rfl, h2, h3⟩)
            obtain rfl : v = _ := hv
            simp only [Act.put]; (try simp only [List.cons_append]); (try simp only [List.nil_append])
            apply hK
            clear hK K
            repeat (first | (refine phiU_skipK rfl (fun K hK => ?_); simp only [Act.put, List.setIfInBounds_toArray, List.set_cons_succ, List.set_cons_zero]; (try simp only [List.cons_append]); (try simp only [List.nil_append]); apply hK; clear hK K) | (refine phiU_pureK rfl rfl (fun K hK => ?_); apply Exists.intro; constructor; (focus (rintro w' hI; (clear hI); first | (go_simp; done) | (go_simp; (try go_bits); (try go_simp); rfl) | go_simp)); simp only [Act.put, List.setIfInBounds_toArray, List.set_cons_succ, List.set_cons_zero]; (try simp only [List.cons_append]); (try simp only [List.nil_append]); apply hK; clear hK K))
            refine phiU_done ?_
            intro w7 hI hf
            have h7 : Blk w7 w.heap.size 26 #[.int .i64 0, .int .i64 0, .int .i64 0, .int .i64 0, .int .i64 0, .int .i64 0, .int .i64 0, .int .i64 0, .int .i64 0, .int .i64 0, .int .i64 0, .int .i64 0, .int .i64 0, .float .f64 0] := hf (2, fun wq => (PSto fun wq => Blk wq w.heap.size 26 #[.int .i64 0, .int .i64 0, .int .i64 0, .int .i64 0, .int .i64 0, .int .i64 0, .int .i64 0, .int .i64 0, .int .i64 0, .int .i64 0, .int .i64 0, .int .i64 0, .int .i64 0, .float .f64 0]).fact wq undef) (by simp) rfl
            have B7 := Lib.hid hI
            clear hf hI
            have q0 := (h7.cell 0).trans rfl
            have q1 := (h7.cell 1).trans rfl
            have q2 := (h7.cell 2).trans rfl
            have q3 := (h7.cell 3).trans rfl
            have q4 := (h7.cell 4).trans rfl
            have q5 := (h7.cell 5).trans rfl
            have q6 := (h7.cell 6).trans rfl
            have q7 := (h7.cell 7).trans rfl
            have q8 := (h7.cell 8).trans rfl
            have q9 := (h7.cell 9).trans rfl
            have q10 := (h7.cell 10).trans rfl
            have q11 := (h7.cell 11).trans rfl
            have q12 := (h7.cell 12).trans rfl
            have q13 := (h7.cell 13).trans rfl
            refine wpList_nil ?_
            go_wp2_with fail
            refine bodyPost_ret (v := .tuple #[.agg #[.int .i64 0, .int .i64 0, .int .i64 0, .int .i64 0, .int .i64 0, .int .i64 0, .int .i64 0, .int .i64 0, .int .i64 0, .int .i64 0, .int .i64 0, .int .i64 0, .int .i64 0, .float .f64 0], errAt (E 3)]) (by simp [results, Tryz.results10, go_sem, errAt, q0, q1, q2, q3, q4, q5, q6, q7, q8, q9, q10, q11, q12, q13]) rfl ?_
            exact ⟨by rw [HD.out.1, HD.out.2] <;> rfl, B7.out⟩
end Go.Proofs.YtjklcbdlfmmllaaGreatDoor
