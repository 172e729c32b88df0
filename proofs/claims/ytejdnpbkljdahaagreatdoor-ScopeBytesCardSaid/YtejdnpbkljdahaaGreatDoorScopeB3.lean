/-
  ScopeB3: bytes' context: scope.read, scope.Decode.
-/
import Derived.Test.YtejdnpbkljdahaaGreatDoorScopeB2
import Derived.Test.YtejdnpbkljdahaaGreatDoorTryCx
namespace Go.Proofs.YtejdnpbkljdahaaGreatDoor
open Go.RowKit Go.Extern.Stop Go.Stop Go.Extern Ieee
attribute [local go_sem] flt_def fgt_def feq_def fne_def
attribute [local go_sem] run_store_flt

theorem mustF_nil (w : World) (p : Option Addr) (n c : Nat) : Calls Tryz.prog 32 #[.slice p n c, .nilIface] w fun e w' => e = .returned (.slice p n c) ∧ w = w' := by
  go_enter Tryz.func32, Tryz.ntmps32
  go_wp2_with fail
  refine (check_nil w).mono ?_
  rintro e w' ⟨rfl, rfl⟩
  go_wp2_with fail
  go_ret
  exact ⟨rfl, rfl⟩
theorem mustF_err (w : World) (E : Nat → Addr) (k : Nat) (v : Value) : Calls Tryz.prog 32 #[v, errV E (k + 1)] w fun e w' => e = .panicked (panE E k) ∧ w = w' := by
  have HC := Lib.hid (check_err w E k)
  unfold panE at *
  rw [errV_suc] at *
  unfold errAt at *
  go_enter Tryz.func32, Tryz.ntmps32
  go_wp2_with fail
  refine HC.out.mono ?_
  rintro e w' ⟨rfl, rfl⟩
  go_wp2_with fail
  exact ⟨rfl, rfl, rfl⟩
theorem toNumF_le (l : List UInt8) : toNumF l ≤ 9223372036854775807 := by
  unfold toNumF
  split
  · rename_i hc3
    unfold toNumE at hc3
    split at hc3
    · cases hc3
    · split at hc3
      · cases hc3
      · rename_i q
        by_cases h8 : l.length = 8
        · omega
        · have := valB_7 l (by omega)
          omega
  · omega
def ivC (l : List Int) (x : Nat) : Array Value := (l.map (Value.int .i64) ++ [Value.float .f64 x]).toArray
theorem ivC_set (l : List Int) (x j : Nat) (v : Int) (h : j < l.length) : (ivC l x).setIfInBounds j (.int .i64 v) = ivC (l.set j v) x := by
  unfold ivC
  simp [List.set_append, h]
theorem ivC_flt (l : List Int) (x y : Nat) (h : l.length = 4) : (ivC l x).setIfInBounds 4 (.float .f64 y) = ivC l y := by
  obtain ⟨a, b, c, d, rfl⟩ := four h
  rfl
theorem ivC_get (l : List Int) (x j : Nat) (h : j < l.length) : (ivC l x)[j]? = some (.int .i64 l[j]) := by
  unfold ivC
  rw [List.getElem?_toArray, List.getElem?_append_left (by simpa using h)]
  simp [h]
theorem ivC_last (l : List Int) (x : Nat) (h : l.length = 4) : (ivC l x)[4]? = some (.float .f64 x) := by
  obtain ⟨a, b, c, d, rfl⟩ := four h
  rfl
theorem rowCtx_bad {fs : List (Int × List UInt8)} {k : Nat} (hk : k < fs.length) {st : List Int × Option Nat} (h : putsC ([0, 0, 0, 0], none) (fs.take k) = some st) (hp : putC st fs[k] = none) : rowCtx fs = none := by
  have h1 := putsC_take ([0, 0, 0, 0], none) fs k hk
  rw [h] at h1
  simp only [Option.bind_some, hp] at h1
  have e : fs = fs.take (k + 1) ++ fs.drop (k + 1) := (List.take_append_drop _ _).symm
  unfold rowCtx
  rw [e, putsC_app, h1]
  rfl
theorem read_nums {fs : List (Int × List UInt8)} {l : List Int} {x : Nat} (ho : rowOk 0 fs = true) (h : putsC ([0, 0, 0, 0], none) fs = some (l, some x)) : numsOk l ∧ x < 18446744073709551616 := by
  obtain ⟨gs, f2, e, h1, h2, h3, h4⟩ := putsC_split fs [0, 0, 0, 0] l 0 0 x rfl ho h
  obtain ⟨l', e2, hn, ht, hok⟩ := tagRow_puts gs [] 4 l h2 (by simpa using h1)
  rw [List.nil_append] at e2
  subst e2
  have := (toFlt_back h3).2.2
  rw [h4] at this
  exact ⟨hok, this⟩
def ReadC (E : Nat → Addr) (fs : List (Int × List UInt8)) (w : World) (e : Ending) (w' : World) : Prop :=
  Below w.heap.size w w' ∧ match rowCtx fs with | some m => e = .returned (ctxV m) | none => e = .panicked (panE E 3)
theorem readC_bad {E : Nat → Addr} {fs : List (Int × List UInt8)} {w w' : World} (h : rowCtx fs = none) (hb : Below w.heap.size w w') : ReadC E fs w (.panicked [{ v := .iface 140 (.pointer (some (E 3))), recovered := false }]) w' := by
  refine ⟨hb, ?_⟩
  rw [h]
  rfl
set_option maxRecDepth 20000 in
set_option maxHeartbeats 4000000 in
theorem read_any (v : Value) (fs : List (Int × List UInt8)) (w : World) (E : Nat → Addr) (h : IdsG w E) (hv : FldL w v fs) (ho : rowOk 0 fs = true) :
    Calls Tryz.prog 31 #[v] w (ReadC E fs w) := by
  have HG := Lib.hid (fun w' (hb : Below w.heap.size w w') => h.below hb)
  have HPL := Lib.hid (fun g w' => places_any g w')
  obtain ⟨p, cap, us, rfl, h1, h2, h3, h4, h5⟩ := hv
  obtain ⟨i0, hi, hz0, hz1, hz2⟩ := info_parts fldInfo
  have H4 := Lib.hid h4
  have H5 := Lib.hid h5
  have HOK := Lib.hid ho
  unfold maxLen at h2
  clear h3 h4 h5 ho h
  have B := Lib.hid (below_alloc (below_alloc1 w (.cells #[.int .i64 0, .int .i64 0, .int .i64 0, .int .i64 0, .float .f64 0] 26)) (.cells #[.int .i64 0, .int .i64 0, .int .i64 0, .int .i64 0, .float .f64 0] 26))
  have R := Lib.hid ((Blk.new w 26 #[.int .i64 0, .int .i64 0, .int .i64 0, .int .i64 0, .float .f64 0]).alloc (.cells #[.int .i64 0, .int .i64 0, .int .i64 0, .int .i64 0, .float .f64 0] 26))
  have M := Lib.hid (show Blk ((w.alloc (.cells #[.int .i64 0, .int .i64 0, .int .i64 0, .int .i64 0, .float .f64 0] 26)).alloc (.cells #[.int .i64 0, .int .i64 0, .int .i64 0, .int .i64 0, .float .f64 0] 26)) (w.heap.size + 1) 26 (ivC [0, 0, 0, 0] 0) from by
    have := Blk.new (w.alloc (.cells #[.int .i64 0, .int .i64 0, .int .i64 0, .int .i64 0, .float .f64 0] 26)) 26 (ivC [0, 0, 0, 0] 0)
    rwa [World.size_alloc] at this)
  go_enter Tryz.func31, Tryz.ntmps31
  go_wp2_with fail
  refine (HPL.out _ _).mono ?_
  rintro e w1 ⟨rfl, hb⟩
  have B1 := Lib.hid (B.out.trans (hb.mono B.out.size))
  have R1 := Lib.hid (R.out.below hb R.out.lt)
  have M1 := Lib.hid (M.out.below hb M.out.lt)
  have hs1 : w.heap.size + 1 < w1.heap.size := M1.out.lt
  have B2 := Lib.hid (below_alloc B1.out (.cells #[.pointer none, .pointer none, .pointer none, .pointer none] 48))
  have R2 := Lib.hid (R1.out.alloc (.cells #[.pointer none, .pointer none, .pointer none, .pointer none] 48))
  have M2 := Lib.hid (M1.out.alloc (.cells #[.pointer none, .pointer none, .pointer none, .pointer none] 48))
  clear hb B R M B1 R1 M1
  go_wp2_with (refine wpList_store (.tmp 4) (.tmp 9) 48 rfl rfl w1.heap.size 0 _ _ (ptrs4 (w.heap.size + 1)) rfl rfl (Blk.new w1 _ _) (by kernel_rfl) (by simp [Value.oneCell', ptrs4]) (by simp [ptrs4]) ?_)
  intro w7 hn7 ko7
  have hA7 : Blk w7 w1.heap.size 48 (ptrs4 (w.heap.size + 1)) := hn7
  have A := Lib.hid hA7
  have B := Lib.hid (B2.out.trans (ko7.below (by omega)))
  have R := Lib.hid (ko7.blk R2.out (by omega))
  have M := Lib.hid (ko7.blk M2.out (by omega))
  clear hn7 ko7 hA7 B2 R2 M2
  have HGA := Lib.hid hs1
  clear hs1
  generalize w1.heap.size = ga at *
  go_wp2_with fail
  go_loopw [5, 12] (fun th i wr => ∃ (k : Nat) (l : List Int) (o : Option Nat), k ≤ fs.length ∧ i = .int .i64 k ∧ th = .bool o.isSome ∧ putsC ([0, 0, 0, 0], none) (fs.take k) = some (l, o) ∧ Blk wr (w.heap.size + 1) 26 (ivC l (o.getD 0)) ∧ Blk wr w.heap.size 26 #[.int .i64 0, .int .i64 0, .int .i64 0, .int .i64 0, .float .f64 0] ∧ Blk wr ga 48 (ptrs4 (w.heap.size + 1)) ∧ Below w.heap.size w wr) (fun _ i _ => fs.length - (intOf i).toNat)
  case atStart => exact ⟨0, _, none, by omega, rfl, rfl, rfl, M.out, R.out, A.out, B.out⟩
  case round =>
    obtain ⟨k, l, o, hk, rfl, rfl, hps, hM, hR, hA, hbw⟩ := hrel
    have HPS := Lib.hid hps
    have hlen : l.length = 4 := by have := putsC_len _ hps; simpa using this
    have M' := Lib.hid hM
    have R' := Lib.hid hR
    have A' := Lib.hid hA
    clear hps hM hR hA B R M A
    by_cases hlt : k < fs.length
    · obtain ⟨b, off, q, c, rfl, hc1, hc2, hby⟩ := fldL_cell H4.out H5.out hlt
      have g1 := Below.keeps hbw _ _ hc1
      have g2 := Below.keeps hbw _ _ hc2
      have HBY := Lib.hid (hby.keep (Below.keeps hbw))
      have HY0 := Lib.hid hby
      have HWR := Lib.hid M'.out.lt
      have hfo : fieldOk (lastOf 0 (fs.take k)) fs[k] = true ∧ 0 ≤ lastOf 0 (fs.take k) := by
        have e : fs = fs.take (k + 1) ++ fs.drop (k + 1) := (List.take_append_drop _ _).symm
        have h9 := HOK.out
        rw [e, rowOk_app, Bool.and_eq_true] at h9
        have h8 := h9.1
        rw [rowOk_take fs k hlt, Bool.and_eq_true] at h8
        exact ⟨h8.2, rowOk_lastOf _ _ (Int.le_refl _) h8.1⟩
      have htag : 1 ≤ fs[k].1 := by
        have h9 := hfo.1
        unfold fieldOk at h9
        simp only [Bool.and_eq_true, decide_eq_true_eq] at h9
        omega
      have HBAD := Lib.hid (@rowCtx_bad fs k hlt (l, o) HPS.out)
      have HSTEP := Lib.hid (putsC_take ([0, 0, 0, 0], none) fs k hlt)
      clear hc1 hc2 hby hfo
      generalize fs[k] = f at *
      obtain ⟨tag, dat⟩ := f
      simp only at g1 g2 HBY htag
      have hbw2 := below_alloc hbw (.cells #[.int .i64 tag, .slice q dat.length c] 54)
      have B2 := Lib.hid hbw2
      have G2 := Lib.hid (HG.out _ hbw2)
      have M2 := Lib.hid (M'.out.alloc (.cells #[.int .i64 tag, .slice q dat.length c] 54))
      have R2 := Lib.hid (R'.out.alloc (.cells #[.int .i64 tag, .slice q dat.length c] 54))
      have A2 := Lib.hid (A'.out.alloc (.cells #[.int .i64 tag, .slice q dat.length c] 54))
      have F2 := Lib.hid (Blk.new wr 54 #[.int .i64 tag, .slice q dat.length c])
      have Y2 := Lib.hid (HBY.out.keep (keep_alloc wr (.cells #[.int .i64 tag, .slice q dat.length c] 54)))
      have e3 := G2.out.errs.cell 3 (by omega)
      simp only [errVar, List.getD_cons_zero, List.getD_cons_succ, errAt] at e3
      clear M' R' A' HBY hbw2
      by_cases c5 : tag = 5
      · subst c5
        have HTN := Lib.hid (fun w' he (hy : Byt w' (.slice q dat.length c) dat) => tofloat_any (.slice q dat.length c) dat w' E he hy)
        go_wp2_with fail
        refine (HTN.out _ (G2.out.errs.on [3] rfl) Y2.out).mono ?_
        rintro e w3 ⟨rfl, hb3⟩
        have B3 := Lib.hid (B2.out.trans (hb3.mono B2.out.size))
        have M3 := Lib.hid (M2.out.below hb3 M2.out.lt)
        have R3 := Lib.hid (R2.out.below hb3 R2.out.lt)
        have A3 := Lib.hid (A2.out.below hb3 A2.out.lt)
        have p2 : w3.cell? ⟨w.heap.size + 1, 4, none⟩ = some (.float .f64 (o.getD 0)) := by
          rw [M3.out.cell 4]
          exact ivC_last l _ hlen
        have p3 := M3.out.frozen 4
        have B4 := Lib.hid (B3.out.trans (((Only.refl (w.heap.size + 1) w3).set_ 4 (.float .f64 (toFltF dat))).below (Nat.le_succ _)))
        have e4 := (HG.out _ B4.out).errs.cell 3 (by omega)
        simp only [errVar, List.getD_cons_zero, List.getD_cons_succ, errAt] at e4
        clear hb3 M2 R2 A2 Y2 F2 e3 g1 g2
        cases hE : toFltE dat with
        | succ en =>
          have hno : rowCtx fs = none := HBAD.out (by unfold putC; rw [if_pos rfl, if_neg (by rw [hE]; omega)])
          have HNO := Lib.hid hno
          rw [errV_suc]
          clear HBAD HSTEP hno hE
          generalize toFltF dat = x at *
          go_wp2_with fail
          exact ⟨rfl, readC_bad HNO.out B4.out⟩
        | zero =>
          have HST := Lib.hid (show putsC ([0, 0, 0, 0], none) (fs.take (k + 1)) = some (l, some (toFltF dat)) by
            rw [HSTEP.out, HPS.out]
            show putC (l, o) (5, dat) = _
            unfold putC
            rw [if_pos rfl, if_pos hE])
          have M4 := Lib.hid (M3.out.set_ 4 (.float .f64 (toFltF dat)))
          rw [ivC_flt l _ _ hlen] at M4
          have R4 := Lib.hid (R3.out.far (b := w.heap.size + 1) (by omega) 4 (.float .f64 (toFltF dat)))
          have A4 := Lib.hid (A3.out.far (b := w.heap.size + 1) (by have := HGA.out; omega) 4 (.float .f64 (toFltF dat)))
          rw [errV_zero]
          clear HBAD HSTEP hE htag
          generalize toFltF dat = x at *
          go_wp2_with fail
          go_roundw
          case rel => exact ⟨k + 1, l, some x, by omega, by go_num, rfl, HST.out, M4.out, R4.out, A4.out, B4.out⟩
          case measure => simp [intOf]; omega
      · have d0 : (tag == 5) = false := by simpa using c5
        have hpc : putC (l, o) (tag, dat) = (putF l (tag, dat)).map fun l => (l, o) := by unfold putC; exact if_neg c5
        by_cases c1 : tag ≤ 5
        · have d1 : decide (5 < tag) = false := by simp; omega
          by_cases c2 : dat = []
          · have hno : rowCtx fs = none := HBAD.out (by rw [hpc]; unfold putF; rw [if_pos (.inr (.inl c2))]; rfl)
            have HNO := Lib.hid hno
            have d2 : ((dat.length : Int) == 0) = true := by subst c2; rfl
            clear HBAD HSTEP hno c2 hpc
            go_wp2_with fail
            exact ⟨rfl, readC_bad HNO.out B2.out⟩
          · have d2 : ((dat.length : Int) == 0) = false := by
              rw [beq_eq_false_iff_ne]
              intro h9
              exact c2 (List.length_eq_zero_iff.1 (by omega))
            obtain ⟨j, hj⟩ : ∃ j : Nat, tag = (j : Int) + 1 := ⟨(tag - 1).toNat, by omega⟩
            subst hj
            have hj4 : j < 4 := by omega
            have hjl : j < l.length := by omega
            have HTN := Lib.hid (fun w' he (hy : Byt w' (.slice q dat.length c) dat) => tonumber_any (.slice q dat.length c) dat w' E he hy)
            have hw1 : (j : Int) + 1 - 1 = (j : Int) := by omega
            have hj5 : (j : Int) < 4 := by omega
            clear e3
            go_wp2_with fail
            clear g1 g2
            refine wp_phiU (fun p wa wb => if p = 7 then Below wa.heap.size wa wb else Only (w.heap.size + 1) wa wb) (fun wq => Below w.heap.size w wq ∧ Blk wq wr.heap.size 54 #[.int .i64 ((j : Int) + 1), .slice q dat.length c] ∧ Blk wq w.heap.size 26 #[.int .i64 0, .int .i64 0, .int .i64 0, .int .i64 0, .float .f64 0] ∧ Blk wq ga 48 (ptrs4 (w.heap.size + 1))) [(7, PVal (.tuple #[.int .i64 (toNumF dat : Int), errV E (toNumE dat)])), (12, PSto fun wq => Blk wq (w.heap.size + 1) 26 (ivC (l.set j (toNumF dat : Int)) (o.getD 0)))] [] [(12, fun wq => Blk wq (w.heap.size + 1) 26 (ivC l (o.getD 0)))] [] (by kernel_rfl) (by kernel_rfl) ?_ ?_ ?_ ?_ ⟨B2.out.drew, F2.out, R2.out, A2.out⟩ ?_
            · rintro p hp wa wb ⟨a1, a2, a3, a4⟩ hR
              simp only [List.mem_cons, List.not_mem_nil, or_false] at hp
              rcases hp with rfl | rfl
              · rw [if_pos rfl] at hR
                exact ⟨a1.trans (hR.mono a1.size), a2.below hR a2.lt, a3.below hR a3.lt, a4.below hR a4.lt⟩
              · rw [if_neg (show ¬ (12 : Nat) = 7 by decide)] at hR
                exact ⟨a1.trans (hR.below (Nat.le_succ _)), hR.blk a2 (by have := HWR.out; omega), hR.blk a3 (by omega), hR.blk a4 (by have := HGA.out; omega)⟩
            · intro p hp p' hp' hne _ _ wa wb v hIa hR hf
              simp only [List.mem_cons, List.not_mem_nil, or_false] at hp hp'
              rcases hp with rfl | rfl
              · trivial
              · rcases hp' with rfl | rfl
                · rw [if_pos rfl] at hR
                  exact Blk.below hf hR (Blk.lt hf)
                · exact absurd rfl hne
            · intro p hp u hu hne wa wb hIa hR hf
              simp only [List.mem_cons, List.not_mem_nil, or_false] at hp hu
              subst hu
              rcases hp with rfl | rfl
              · rw [if_pos rfl] at hR
                exact Blk.below hf hR (Blk.lt hf)
              · exact absurd rfl hne
            · intro u hu
              simp only [List.mem_cons, List.not_mem_nil, or_false] at hu
              subst hu
              exact M2.out
            repeat (first | (refine phiU_skipK rfl (fun K hK => ?_); simp only [Act.put, List.setIfInBounds_toArray, List.set_cons_succ, List.set_cons_zero]; (try simp only [List.cons_append]); (try simp only [List.nil_append]); apply hK; clear hK K) | (refine phiU_pureK rfl rfl (fun K hK => ?_); apply Exists.intro; constructor; (focus (rintro w' ⟨h0, hF, hR, hA⟩; (have k0 := (hF.cell 0).trans rfl; have k1 := (hF.cell 1).trans rfl; have p1 := (hA.cell j).trans (ptrs4_get _ j hj4); clear h0 hF hR hA); first | (go_simp; done) | (go_simp; (try go_bits); (try go_simp); rfl) | go_simp)); simp only [Act.put, List.setIfInBounds_toArray, List.set_cons_succ, List.set_cons_zero]; (try simp only [List.cons_append]); (try simp only [List.nil_append]); apply hK; clear hK K))
            refine phiU_partK (PVal (.tuple #[.int .i64 (toNumF dat : Int), errV E (toNumE dat)])) rfl rfl ⟨_, rfl⟩ ?_ (fun K hK v hv => ?_)
            · rintro wq ⟨h0, hF, hR, hA⟩ _ _
              unfold gives
              go_simp
              refine (HTN.out _ ((HG.out _ h0).errs.on [0, 3] rfl) (HY0.out.keep (Below.keeps h0))).mono ?_
              rintro e w'' ⟨rfl, hb⟩
              exact ⟨_, rfl, rfl, trivial, hb⟩
            obtain rfl : v = _ := hv
            simp only [Act.put, List.setIfInBounds_toArray, List.set_cons_succ, List.set_cons_zero]; (try simp only [List.cons_append]); (try simp only [List.nil_append])
            apply hK
            clear hK K
            repeat (first | (refine phiU_skipK rfl (fun K hK => ?_); simp only [Act.put, List.setIfInBounds_toArray, List.set_cons_succ, List.set_cons_zero]; (try simp only [List.cons_append]); (try simp only [List.nil_append]); apply hK; clear hK K) | (refine phiU_pureK rfl rfl (fun K hK => ?_); apply Exists.intro; constructor; (focus (rintro w' ⟨h0, hF, hR, hA⟩; (have k0 := (hF.cell 0).trans rfl; have k1 := (hF.cell 1).trans rfl; have p1 := (hA.cell j).trans (ptrs4_get _ j hj4); clear h0 hF hR hA); first | (go_simp; done) | (go_simp; (try go_bits); (try go_simp); rfl) | go_simp)); simp only [Act.put, List.setIfInBounds_toArray, List.set_cons_succ, List.set_cons_zero]; (try simp only [List.cons_append]); (try simp only [List.nil_append]); apply hK; clear hK K))
            refine phiU_partK (PSto fun wq => Blk wq (w.heap.size + 1) 26 (ivC (l.set j (toNumF dat : Int)) (o.getD 0))) rfl rfl ⟨_, rfl⟩ ?_ (fun K hK v hv => ?_)
            · rintro wq ⟨h0, hF, hR, hA⟩ _ hu
              have hm : Blk wq (w.heap.size + 1) 26 (ivC l (o.getD 0)) := hu (12, fun wq => Blk wq (w.heap.size + 1) 26 (ivC l (o.getD 0))) (by simp) rfl
              have p2 : wq.cell? ⟨w.heap.size + 1, j, none⟩ = some (.int .i64 l[j]) := by
                rw [hm.cell j]
                exact ivC_get l _ j hjl
              have p3 := hm.frozen j
              have hm2 := hm.set_ j (.int .i64 (toNumF dat : Int))
              rw [ivC_set l _ j _ hjl] at hm2
              have HM2 := Lib.hid hm2
              clear hm2 hu h0 hF hR hA
              unfold gives
              go_simp
              exact ⟨rfl, HM2.out, (Only.refl (w.heap.size + 1) wq).set_ j _⟩
            obtain rfl : v = _ := hv
            simp only [Act.put, List.setIfInBounds_toArray, List.set_cons_succ, List.set_cons_zero]; (try simp only [List.cons_append]); (try simp only [List.nil_append])
            apply hK
            clear hK K
            repeat (first | (refine phiU_skipK rfl (fun K hK => ?_); simp only [Act.put, List.setIfInBounds_toArray, List.set_cons_succ, List.set_cons_zero]; (try simp only [List.cons_append]); (try simp only [List.nil_append]); apply hK; clear hK K) | (refine phiU_pureK rfl rfl (fun K hK => ?_); apply Exists.intro; constructor; (focus (rintro w' ⟨h0, hF, hR, hA⟩; (clear h0 hF hR hA); first | (go_simp; done) | (go_simp; (try go_bits); (try go_simp); rfl) | go_simp)); simp only [Act.put, List.setIfInBounds_toArray, List.set_cons_succ, List.set_cons_zero]; (try simp only [List.cons_append]); (try simp only [List.nil_append]); apply hK; clear hK K))
            refine phiU_done ?_
            rintro w3 ⟨hB3, _, hR3, hA3⟩ hf
            have hM3 : Blk w3 (w.heap.size + 1) 26 (ivC (l.set j (toNumF dat : Int)) (o.getD 0)) := hf (12, fun wq => (PSto fun wq => Blk wq (w.heap.size + 1) 26 (ivC (l.set j (toNumF dat : Int)) (o.getD 0))).fact wq undef) (by simp) rfl
            have B4 := Lib.hid hB3
            have M4 := Lib.hid hM3
            have R4 := Lib.hid hR3
            have A4 := Lib.hid hA3
            clear hB3 hM3 hR3 hA3 hf M2 R2 A2 Y2 F2
            have e4 := (HG.out _ B4.out).errs.cell 3 (by omega)
            simp only [errVar, List.getD_cons_zero, List.getD_cons_succ, errAt] at e4
            refine wpList_nil ?_
            cases hE : toNumE dat with
            | succ en =>
              have hno : rowCtx fs = none := HBAD.out (by rw [hpc]; unfold putF; rw [if_pos (.inr (.inr (by rw [hE]; omega)))]; rfl)
              have HNO := Lib.hid hno
              rw [errV_suc]
              clear HBAD HSTEP hno hE hpc
              generalize toNumF dat = x at *
              go_wp2_with fail
              exact ⟨rfl, readC_bad HNO.out B4.out⟩
            | zero =>
              have HST := Lib.hid (show putsC ([0, 0, 0, 0], none) (fs.take (k + 1)) = some (l.set j (toNumF dat : Int), o) by
                rw [HSTEP.out, HPS.out]
                show putC (l, o) ((j : Int) + 1, dat) = _
                rw [hpc]
                unfold putF
                rw [if_neg (by rw [hlen, hE]; simp only [not_or]; exact ⟨by show ¬ (4 : Int) < (j : Int) + 1; omega, c2, by simp⟩)]
                simp only
                rw [show ((j : Int) + 1 - 1).toNat = j by omega]
                rfl)
              rw [errV_zero]
              clear HBAD HSTEP hE htag hpc
              generalize toNumF dat = x at *
              go_wp2_with fail
              go_roundw
              case rel => exact ⟨k + 1, l.set j (x : Int), o, by omega, by go_num, rfl, HST.out, M4.out, R4.out, A4.out, B4.out⟩
              case measure => simp [intOf]; omega
        · have hno : rowCtx fs = none := HBAD.out (by rw [hpc]; unfold putF; rw [if_pos (.inl (by rw [hlen]; show (4 : Int) < tag; omega))]; rfl)
          have HNO := Lib.hid hno
          have d1 : decide (5 < tag) = true := by simp; omega
          clear HBAD HSTEP hno hpc
          go_wp2_with fail
          exact ⟨rfl, readC_bad HNO.out B2.out⟩
    · obtain rfl : k = fs.length := by omega
      have hps' := HPS.out
      rw [List.take_of_length_le (Nat.le_refl _)] at hps'
      cases o with
      | none =>
        have HNO := Lib.hid (show rowCtx fs = none by unfold rowCtx; rw [hps']; rfl)
        have e3 := (HG.out _ hbw).errs.cell 3 (by omega)
        simp only [errVar, List.getD_cons_zero, List.getD_cons_succ, errAt] at e3
        clear hps' HPS
        have B2 := Lib.hid hbw
        go_wp2_with fail
        exact ⟨rfl, readC_bad HNO.out B2.out⟩
      | some x =>
        obtain ⟨hnum, hx⟩ := read_nums HOK.out hps'
        have HROW := Lib.hid (show rowCtx fs = if rightC (ctxOf l x) then some (ctxOf l x) else none by unfold rowCtx; rw [hps']; rfl)
        clear hps' HPS
        obtain ⟨x0, x1, x2, x3, rfl⟩ := four hlen
        have hx0 := hnum x0 (by simp)
        have hx1 := hnum x1 (by simp)
        have HRI := Lib.hid (fun w' h => sright_any x0 x1 x2 x3 x (by omega) (by omega) hx w' E h)
        change RowKit.Hid (∀ (w' : World), IdsG w' E → Calls Tryz.prog 16 #[.agg #[.int .i64 x0, .int .i64 x1, .int .i64 x2, .int .i64 x3, .float .f64 x]] w' fun e w'' => e = .returned (.bool (rightC (ctxOf [x0, x1, x2, x3] x))) ∧ Below w'.heap.size w' w'') at HRI
        have hM9 : Blk wr (w.heap.size + 1) 26 #[.int .i64 x0, .int .i64 x1, .int .i64 x2, .int .i64 x3, .float .f64 x] := M'.out
        have n0 := (hM9.cell 0).trans rfl
        have n1 := (hM9.cell 1).trans rfl
        have n2 := (hM9.cell 2).trans rfl
        have n3 := (hM9.cell 3).trans rfl
        have n4 := (hM9.cell 4).trans rfl
        have MM := Lib.hid hM9
        have G1 := Lib.hid (HG.out _ hbw)
        clear hM9 M' hnum hx0 hx1 hx
        cases hr : rightC (ctxOf [x0, x1, x2, x3] x)
        · rw [hr] at HRI HROW
          have HNO := Lib.hid (show rowCtx fs = none from HROW.out)
          clear hr HROW
          go_wp2_with fail
          refine (HRI.out _ G1.out).mono ?_
          rintro e w2 ⟨rfl, hb2⟩
          have B2 := Lib.hid (hbw.trans (hb2.mono hbw.size))
          have e3 := (HG.out _ B2.out).errs.cell 3 (by omega)
          simp only [errVar, List.getD_cons_zero, List.getD_cons_succ, errAt] at e3
          clear hb2 n0 n1 n2 n3 n4
          go_wp2_with fail
          exact ⟨rfl, readC_bad HNO.out B2.out⟩
        · rw [hr] at HRI HROW
          have HYES := Lib.hid (show rowCtx fs = some (ctxOf [x0, x1, x2, x3] x) from HROW.out)
          clear hr HROW
          go_wp2_with fail
          refine (HRI.out _ G1.out).mono ?_
          rintro e w2 ⟨rfl, hb2⟩
          have B2 := Lib.hid (hbw.trans (hb2.mono hbw.size))
          have M2 := Lib.hid (MM.out.below hb2 MM.out.lt)
          have R2 := Lib.hid (R'.out.below hb2 R'.out.lt)
          clear hb2 n0 n1 n2 n3 n4 MM R' A'
          have n0 := (M2.out.cell 0).trans rfl
          have n1 := (M2.out.cell 1).trans rfl
          have n2 := (M2.out.cell 2).trans rfl
          have n3 := (M2.out.cell 3).trans rfl
          have n4 := (M2.out.cell 4).trans rfl
          go_wp2_with (refine wpList_store (.tmp 2) (.tmp 62) 26 rfl rfl w.heap.size 0 _ _ #[.int .i64 x0, .int .i64 x1, .int .i64 x2, .int .i64 x3, .float .f64 x] rfl rfl R2.out (by kernel_rfl) (by simp [Value.oneCell']) (by simp) ?_)
          intro w8 hn8 ko8
          have h8 : Blk w8 w.heap.size 26 #[.int .i64 x0, .int .i64 x1, .int .i64 x2, .int .i64 x3, .float .f64 x] := hn8
          have q0 := (h8.cell 0).trans rfl
          have q1 := (h8.cell 1).trans rfl
          have q2 := (h8.cell 2).trans rfl
          have q3 := (h8.cell 3).trans rfl
          have q4 := (h8.cell 4).trans rfl
          have B8 := Lib.hid (B2.out.trans (ko8.below (Nat.le_refl _)))
          clear hn8 ko8 h8 n0 n1 n2 n3 n4
          go_wp2_with fail
          refine bodyPost_ret (v := .agg #[.int .i64 x0, .int .i64 x1, .int .i64 x2, .int .i64 x3, .float .f64 x]) (by simp [results, Tryz.results31, go_sem, q0, q1, q2, q3, q4]) rfl ?_
          exact ⟨B8.out, by rw [HYES.out]; rfl⟩
end Go.Proofs.YtejdnpbkljdahaaGreatDoor
