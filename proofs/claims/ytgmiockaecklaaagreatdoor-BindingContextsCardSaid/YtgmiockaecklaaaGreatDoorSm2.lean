/-
  Sm2: the program's Same of trees of 2 names.
-/
import Derived.Test.YtgmiockaecklaaaGreatDoorTrK2
import Derived.Test.YtgmiockaecklaaaGreatDoorGiv
namespace Go.Proofs.YtgmiockaecklaaaGreatDoor
open Go.RowKit Go.Extern.Stop Go.Stop Go.Extern

attribute [local go_sem] bs_toList
theorem pneqAttr (a0 a1 a2 b0 b1 b2 : List UInt8) (w : World) : (binOp .neq 54 (.agg #[.string (bs a0), .string (bs a1), .string (bs a2)]) (.agg #[.string (bs b0), .string (bs b1), .string (bs b2)])).run Tryz.prog w = .ok (.bool (!((a0 == b0) && (a1 == b1) && (a2 == b2)))) w := by
  cases h0 : (a0 == b0)
  · go_simp
  · skip
    cases h1 : (a1 == b1)
    · go_simp
    · skip
      cases h2 : (a2 == b2) <;> go_simp
theorem peqName (a0 a1 b0 b1 : List UInt8) (w : World) : (binOp .eql 30 (.agg #[.string (bs a0), .string (bs a1)]) (.agg #[.string (bs b0), .string (bs b1)])).run Tryz.prog w = .ok (.bool ((a0 == b0) && (a1 == b1))) w := by
  cases h0 : (a0 == b0)
  · go_simp
  · skip
    cases h1 : (a1 == b1) <;> go_simp
set_option maxRecDepth 20000 in
set_option maxHeartbeats 2000000 in
theorem equal_any (pa qa : Option Addr) (ca da : Nat) (ax ay : List (List (List UInt8))) (w : World) (hx : ∀ a ∈ ax, a.length = 2 + 1) (hy : ∀ a ∈ ay, a.length = 2 + 1) (h1 : ax.length ≤ ca) (h2 : ca ≤ maxLen) (h3 : Rd w pa (acells ax)) (h4 : ay.length ≤ da) (h5 : da ≤ maxLen) (h6 : Rd w qa (acells ay)) :
    Calls Tryz.prog 32 #[.slice pa ax.length ca, .slice qa ay.length da] w (Gives w (.bool (ax == ay))) := by
  have HA := Lib.hid h3; have HA' := Lib.hid h6; have HX2 := Lib.hid hx; have HY2 := Lib.hid hy
  unfold maxLen at h2 h5
  clear h3 h6 hx hy
  by_cases hla : ax.length = ay.length
  rotate_left 1
  · have hne : ((ax.length : Int) != (ay.length : Int)) = true := by simp; omega
    have HR := Lib.hid (show (ax == ay) = false by (rw [beq_eq_false_iff_ne]; intro e; exact hla (by rw [e])))
    go_enter Tryz.func32, Tryz.ntmps32
    go_wp2_with fail
    go_ret
    exact ⟨by rw [HR.out]; rfl, Below.refl _ _⟩
  have hne : ((ax.length : Int) != (ay.length : Int)) = false := by simp [hla]
  have HLA := Lib.hid hla
  have hla' : ax.length ≤ ay.length := by omega
  clear hla
  go_enter Tryz.func32, Tryz.ntmps32
  go_wp2_with fail
  clear hne
  go_loopw [13] (fun i wr => ∃ j : Nat, j ≤ ax.length ∧ i = .int .i64 j ∧ ax.take j = ay.take j ∧ Below w.heap.size w wr) (fun i _ => ax.length - (intOf i).toNat)
  case atStart => exact ⟨0, by omega, rfl, rfl, Below.refl _ _⟩
  case round =>
    obtain ⟨j, hj, rfl, heq, hbw⟩ := hrel
    by_cases hlt : j < ax.length
    · have hlt2 : j < ay.length := by omega
      obtain ⟨e1, o1, x0, x1, x2, rfl, hgx, hx0, hx1, hx2⟩ := at_2 HA.out HX2.out hlt
      obtain ⟨e2, o2, y0, y1, y2, rfl, hgy, hy0, hy1, hy2⟩ := at_2 HA'.out HY2.out hlt2
      have GX := Lib.hid hgx; have GY := Lib.hid hgy; have HEQ := Lib.hid heq
      clear hgx hgy heq
      have hx0 := Below.keeps hbw _ _ hx0
      have hy0 := Below.keeps hbw _ _ hy0
      have hx1 := Below.keeps hbw _ _ hx1
      have hy1 := Below.keeps hbw _ _ hy1
      have hx2 := Below.keeps hbw _ _ hx2
      have hy2 := Below.keeps hbw _ _ hy2
      have ne := fun w => pneqAttr x0 x1 x2 y0 y1 y2 w
      have hlt' : (j : Int) < (ax.length : Int) := by omega
      have hlt2' : (j : Int) < (ay.length : Int) := by omega
      cases hE : ((x0 == y0) && (x1 == y1) && (x2 == y2))
      all_goals
        (first | simp only [hE, Bool.not_false] at ne | simp only [hE, Bool.not_true] at ne)
        have HE := Lib.hid hE
        clear hE
        go_wp2_with fail
        refine wp_phi (fun w' => (w'.cell? ⟨e1, o1 + j * 3, none⟩ = some (.string (bs x0))) ∧ (w'.cell? ⟨e1, o1 + j * 3 + 1, none⟩ = some (.string (bs x1))) ∧ (w'.cell? ⟨e1, o1 + j * 3 + 2, none⟩ = some (.string (bs x2))) ∧ (w'.cell? ⟨e2, o2 + j * 3, none⟩ = some (.string (bs y0))) ∧ (w'.cell? ⟨e2, o2 + j * 3 + 1, none⟩ = some (.string (bs y1))) ∧ (w'.cell? ⟨e2, o2 + j * 3 + 2, none⟩ = some (.string (bs y2))) ∧ Below w.heap.size w w') [] [] (by kernel_rfl) (by kernel_rfl) ?_ ?_ ⟨hx0, hx1, hx2, hy0, hy1, hy2, (hbw).drew⟩ ?_
        · rintro w1' w2' ⟨gx0, gx1, gx2, gy0, gy1, gy2, hIB⟩ hb
          exact ⟨(by first | exact gx0.below hb | exact gx0.keep (Below.keeps hb) | exact Below.keeps hb _ _ gx0 | exact Blk.below gx0 hb (Blk.lt gx0)), (by first | exact gx1.below hb | exact gx1.keep (Below.keeps hb) | exact Below.keeps hb _ _ gx1 | exact Blk.below gx1 hb (Blk.lt gx1)), (by first | exact gx2.below hb | exact gx2.keep (Below.keeps hb) | exact Below.keeps hb _ _ gx2 | exact Blk.below gx2 hb (Blk.lt gx2)), (by first | exact gy0.below hb | exact gy0.keep (Below.keeps hb) | exact Below.keeps hb _ _ gy0 | exact Blk.below gy0 hb (Blk.lt gy0)), (by first | exact gy1.below hb | exact gy1.keep (Below.keeps hb) | exact Below.keeps hb _ _ gy1 | exact Blk.below gy1 hb (Blk.lt gy1)), (by first | exact gy2.below hb | exact gy2.keep (Below.keeps hb) | exact Below.keeps hb _ _ gy2 | exact Blk.below gy2 hb (Blk.lt gy2)), hIB.trans (hb.mono hIB.size)⟩
        · intro p hp; cases hp
        repeat (first | (refine phi_skipK rfl (fun K hK => ?_); simp only [Act.put, List.setIfInBounds_toArray, List.set_cons_succ, List.set_cons_zero]; (try simp only [List.cons_append]); (try simp only [List.nil_append]); apply hK; clear hK K) | (refine phi_pureK rfl rfl (fun K hK => ?_); apply Exists.intro; constructor; (focus (rintro w' ⟨gx0, gx1, gx2, gy0, gy1, gy2, hIB⟩; clear hIB; first | (go_simp; done) | (go_simp; (try go_bits); (try go_simp); rfl) | go_simp)); simp only [Act.put, List.setIfInBounds_toArray, List.set_cons_succ, List.set_cons_zero]; (try simp only [List.cons_append]); (try simp only [List.nil_append]); apply hK; clear hK K))
        refine phi_done ?_
        rintro w2 ⟨gx0, gx1, gx2, gy0, gy1, gy2, hbw2⟩ _
        refine wpList_nil ?_
        clear hx0 hy0 gx0 gy0 hx1 hy1 gx1 gy1 hx2 hy2 gx2 gy2 ne hbw
      · have HR := Lib.hid (show (ax == ay) = false by
          rw [beq_eq_false_iff_ne]
          intro e
          subst e
          have e3 := GX.out.symm.trans GY.out
          have e4 := HE.out
          simp only [List.cons.injEq, and_true] at e3
          simp [e3] at e4)
        go_wp2_with fail
        go_ret
        exact ⟨by rw [HR.out]; rfl, hbw2⟩
      · go_wp2_with fail
        go_roundw
        case rel => exact ⟨j + 1, by omega, by go_num, take_step hlt hlt2 HEQ.out (by rw [GX.out, GY.out]; have := HE.out; simp only [Bool.and_eq_true, beq_iff_eq] at this; simp [this]), hbw2⟩
        case measure => simp [intOf]; omega
    · obtain rfl : j = ax.length := by omega
      have HEQ := Lib.hid (show (ax == ay) = true by
        rw [List.take_of_length_le (Nat.le_refl _), HLA.out, List.take_of_length_le (Nat.le_refl _)] at heq
        rw [heq]; simp)
      clear heq
      go_wp2_with fail
      go_ret
      exact ⟨by rw [HEQ.out]; rfl, hbw⟩
set_option maxRecDepth 20000 in
set_option maxHeartbeats 2000000 in
theorem equalfunc_any (pk qk : Option Addr) (ck dk : Nat) (kx ky : List Tr) (P Q : Nat → Prop) (css dss : List (List Value)) (w : World) (hx : Tr.okL 2 kx) (hy : Tr.okL 2 ky) (h1 : kx.length ≤ ck) (h2 : ck ≤ maxLen) (h3 : Rd w pk css.flatten) (h4 : ky.length ≤ dk) (h5 : dk ≤ maxLen) (h6 : Rd w qk dss.flatten) (hL : TrL w P kx css) (hM : TrL w Q ky dss)
    (hf : ∀ (i : Nat) (hi : i < kx.length) (hi' : i < ky.length) (w' : World) (cx cy : List Value), TrC w' P kx[i] cx → TrC w' Q ky[i] cy → Calls Tryz.prog 8 #[.agg cx.toArray, .agg cy.toArray] w' (Gives w' (.bool (kx[i].eqb ky[i])))) :
    Calls Tryz.prog 33 #[.slice pk kx.length ck, .slice qk ky.length dk, .func (.func 8) #[] #[]] w (Gives w (.bool (Tr.eqbL kx ky))) := by
  have hcf := fun w => (show (callFunc 8 #[]).run Tryz.prog w = .ok (.enter 8 #[]) w from by kernel_rfl)
  have HK := Lib.hid h3; have HK' := Lib.hid h6; have HX3 := Lib.hid hx; have HY3 := Lib.hid hy; have HL := Lib.hid hL; have HL' := Lib.hid hM; have HF := Lib.hid hf
  unfold maxLen at h2 h5
  clear h3 h6 hx hy hL hM hf
  by_cases hlk : kx.length = ky.length
  rotate_left 1
  · have hne : ((kx.length : Int) != (ky.length : Int)) = true := by simp; omega
    have HR := Lib.hid (Tr.eqbL_len hlk)
    go_enter Tryz.func33, Tryz.ntmps33
    go_wp2_with fail
    go_ret
    exact ⟨by rw [HR.out]; rfl, Below.refl _ _⟩
  have hne : ((kx.length : Int) != (ky.length : Int)) = false := by simp [hlk]
  have HLK := Lib.hid hlk
  have hlk' : kx.length ≤ ky.length := by omega
  clear hlk
  go_enter Tryz.func33, Tryz.ntmps33
  go_wp2_with fail
  clear hne
  go_loopw [17] (fun i wr => ∃ j : Nat, j ≤ kx.length ∧ i = .int .i64 j ∧ Tr.eqbL kx ky = Tr.eqbL (kx.drop j) (ky.drop j) ∧ Below w.heap.size w wr) (fun i _ => kx.length - (intOf i).toNat)
  case atStart => exact ⟨0, by omega, rfl, rfl, Below.refl _ _⟩
  case round =>
    obtain ⟨j, hj, rfl, heq, hbw⟩ := hrel
    by_cases hlt : j < kx.length
    · have hlt2 : j < ky.length := by omega
      obtain ⟨e1, o1, m0, m1, u1, u2, u3, u4, u5, u6, u7, rfl, hgx, hT1, hk0, hk1, hk2, hk3, hk4⟩ := kid_2 HK.out HL.out HX3.out hlt
      obtain ⟨e2, o2, l0, l1, v1, v2, v3, v4, v5, v6, v7, rfl, hgy, hT2, hl0, hl1, hl2, hl3, hl4⟩ := kid_2 HK'.out HL'.out HY3.out hlt2
      have hr := Tr.eqbL_drop HLK.out hlt
      have HEQ := Lib.hid (heq.trans hr)
      have hbx := hbw.trans ((below_alloc (below_alloc1 wr (.cells #[.string (bs m0), .string (bs m1), .slice u4 u1.length u5, .slice u6 u2.length u7, .string (bs u3)] 34)) (.cells #[.string (bs l0), .string (bs l1), .slice v4 v1.length v5, .slice v6 v2.length v7, .string (bs v3)] 34)).mono hbw.size)
      have ihc := Lib.hid (HF.out j hlt hlt2 _ _ _ (hT1.below hbx) (hT2.below hbx))
      have HBX := Lib.hid hbx
      clear heq hgx hgy hr hT1 hT2 hbx
      have hk0 := Below.keeps hbw _ _ hk0
      have hl0 := Below.keeps (below_alloc1 wr (.cells #[.string (bs m0), .string (bs m1), .slice u4 u1.length u5, .slice u6 u2.length u7, .string (bs u3)] 34)) _ _ (Below.keeps hbw _ _ hl0)
      have hk1 := Below.keeps hbw _ _ hk1
      have hl1 := Below.keeps (below_alloc1 wr (.cells #[.string (bs m0), .string (bs m1), .slice u4 u1.length u5, .slice u6 u2.length u7, .string (bs u3)] 34)) _ _ (Below.keeps hbw _ _ hl1)
      have hk2 := Below.keeps hbw _ _ hk2
      have hl2 := Below.keeps (below_alloc1 wr (.cells #[.string (bs m0), .string (bs m1), .slice u4 u1.length u5, .slice u6 u2.length u7, .string (bs u3)] 34)) _ _ (Below.keeps hbw _ _ hl2)
      have hk3 := Below.keeps hbw _ _ hk3
      have hl3 := Below.keeps (below_alloc1 wr (.cells #[.string (bs m0), .string (bs m1), .slice u4 u1.length u5, .slice u6 u2.length u7, .string (bs u3)] 34)) _ _ (Below.keeps hbw _ _ hl3)
      have hk4 := Below.keeps hbw _ _ hk4
      have hl4 := Below.keeps (below_alloc1 wr (.cells #[.string (bs m0), .string (bs m1), .slice u4 u1.length u5, .slice u6 u2.length u7, .string (bs u3)] 34)) _ _ (Below.keeps hbw _ _ hl4)
      have nb := (Blk.new wr 34 #[.string (bs m0), .string (bs m1), .slice u4 u1.length u5, .slice u6 u2.length u7, .string (bs u3)]).alloc (.cells #[.string (bs l0), .string (bs l1), .slice v4 v1.length v5, .slice v6 v2.length v7, .string (bs v3)] 34)
      have nb2 := Blk.new (wr.alloc (.cells #[.string (bs m0), .string (bs m1), .slice u4 u1.length u5, .slice u6 u2.length u7, .string (bs u3)] 34)) 34 #[.string (bs l0), .string (bs l1), .slice v4 v1.length v5, .slice v6 v2.length v7, .string (bs v3)]
      rw [World.size_alloc] at nb2
      have c0 := (nb.cell 0).trans rfl
      have d0 := (nb2.cell 0).trans rfl
      have c1 := (nb.cell 1).trans rfl
      have d1 := (nb2.cell 1).trans rfl
      have c2 := (nb.cell 2).trans rfl
      have d2 := (nb2.cell 2).trans rfl
      have c3 := (nb.cell 3).trans rfl
      have d3 := (nb2.cell 3).trans rfl
      have c4 := (nb.cell 4).trans rfl
      have d4 := (nb2.cell 4).trans rfl
      clear nb nb2
      have hlt' : (j : Int) < (kx.length : Int) := by omega
      have hlt2' : (j : Int) < (ky.length : Int) := by omega
      have HBW := Lib.hid hbw
      generalize kx[j] = X at *
      generalize ky[j] = Y at *
      clear hbw
      go_wp2_with fail
      refine ihc.out.mono ?_
      rintro e w2 ⟨rfl, hb2⟩
      have hb3 := HBX.out.trans (hb2.mono HBX.out.size)
      clear hk0 hl0 c0 d0 hk1 hl1 c1 d1 hk2 hl2 c2 d2 hk3 hl3 c3 d3 hk4 hl4 c4 d4 hb2 ihc
      cases hE : X.eqb Y
      · have HR := Lib.hid (show Tr.eqbL kx ky = false by rw [HEQ.out, hE]; simp)
        go_wp2_with fail
        go_ret
        exact ⟨by rw [HR.out]; rfl, hb3⟩
      · rw [hE] at HEQ
        go_wp2_with fail
        go_roundw
        case rel => exact ⟨j + 1, by omega, by go_num, HEQ.out.trans (Bool.true_and _), hb3⟩
        case measure => simp [intOf]; omega
    · obtain rfl : j = kx.length := by omega
      have HR := Lib.hid (show Tr.eqbL kx ky = true by
        rw [List.drop_of_length_le (Nat.le_refl _), HLK.out, List.drop_of_length_le (Nat.le_refl _)] at heq
        exact heq.trans rfl)
      clear heq
      go_wp2_with fail
      go_ret
      exact ⟨by rw [HR.out]; rfl, hbw⟩
set_option maxRecDepth 20000 in
set_option maxHeartbeats 4000000 in
theorem same_any : ∀ (n : Nat) (x y : Tr) (P Q : Nat → Prop) (cx cy : List Value) (w : World), x.sz ≤ n → x.ok 2 → y.ok 2 → TrC w P x cx → TrC w Q y cy →
    Calls Tryz.prog 8 #[.agg cx.toArray, .agg cy.toArray] w (Gives w (.bool (x.eqb y))) := by
  intro n
  induction n with
  | zero => intro x y P Q cx cy w hs; have := x.sz_pos; omega
  | succ n ih =>
    intro x y P Q cx cy w hs hx hy hcx hcy
    obtain ⟨nx, ax, kx, tx⟩ := x
    obtain ⟨ny, ay, ky, ty⟩ := y
    unfold TrC at hcx hcy
    unfold Tr.ok at hx hy
    obtain ⟨hx1, hx2, hx3⟩ := hx
    obtain ⟨hy1, hy2, hy3⟩ := hy
    obtain ⟨a0, a1, rfl⟩ := two_of hx1
    obtain ⟨b0, b1, rfl⟩ := two_of hy1
    obtain ⟨pa, ca, pk, ck, css, rfl, ⟨A1, A2, A3, -⟩, ⟨K1, K2, K3, -⟩, hL⟩ := hcx
    obtain ⟨qa, da, qk, dk, dss, rfl, ⟨B1, B2, B3, -⟩, ⟨M1, M2, M3, -⟩, hM⟩ := hcy
    show Calls Tryz.prog 8 #[.agg #[.string (bs a0), .string (bs a1), .slice pa ax.length ca, .slice pk kx.length ck, .string (bs tx)], .agg #[.string (bs b0), .string (bs b1), .slice qa ay.length da, .slice qk ky.length dk, .string (bs ty)]] w _
    have HB := Lib.hid (below_alloc (below_alloc1 w (.cells #[.string (bs a0), .string (bs a1), .slice pa ax.length ca, .slice pk kx.length ck, .string (bs tx)] 34)) (.cells #[.string (bs b0), .string (bs b1), .slice qa ay.length da, .slice qk ky.length dk, .string (bs ty)] 34))
    have HN := Lib.hid ((Blk.new w 34 #[.string (bs a0), .string (bs a1), .slice pa ax.length ca, .slice pk kx.length ck, .string (bs tx)]).alloc (.cells #[.string (bs b0), .string (bs b1), .slice qa ay.length da, .slice qk ky.length dk, .string (bs ty)] 34))
    have HM := Lib.hid (show Blk ((w.alloc (.cells #[.string (bs a0), .string (bs a1), .slice pa ax.length ca, .slice pk kx.length ck, .string (bs tx)] 34)).alloc (.cells #[.string (bs b0), .string (bs b1), .slice qa ay.length da, .slice qk ky.length dk, .string (bs ty)] 34)) (w.heap.size + 1) 34 #[.string (bs b0), .string (bs b1), .slice qa ay.length da, .slice qk ky.length dk, .string (bs ty)] from by
      have := Blk.new (w.alloc (.cells #[.string (bs a0), .string (bs a1), .slice pa ax.length ca, .slice pk kx.length ck, .string (bs tx)] 34)) 34 #[.string (bs b0), .string (bs b1), .slice qa ay.length da, .slice qk ky.length dk, .string (bs ty)]
      rwa [World.size_alloc] at this)
    have E1 := fun (w' : World) (hb : Below w.heap.size w w') => equal_any pa qa ca da ax ay w' hx2 hy2 A1 A2 (A3.keep (Below.keeps hb)) B1 B2 (B3.keep (Below.keeps hb))
    have hs' : ∀ i (hi : i < kx.length), kx[i].sz ≤ n := fun i hi => by
      have := Tr.sz_kid (.node [a0, a1] ax kx tx) i hi
      simp only [Tr.ks] at this
      omega
    have E2 := fun (w' : World) (hb : Below w.heap.size w w') => equalfunc_any pk qk ck dk kx ky P Q css dss w' hx3 hy3 K1 K2 (K3.keep (Below.keeps hb)) M1 M2 (M3.keep (Below.keeps hb)) (hL.below hb) (hM.below hb)
      (fun i hi hi' w2 c1 c2 h1 h2 => ih kx[i] ky[i] P Q c1 c2 w2 (hs' i hi) (okL_get 2 kx hx3 i hi) (okL_get 2 ky hy3 i hi') h1 h2)
    have HE1 := Lib.hid E1; have HE2 := Lib.hid E2
    clear E1 E2 A1 A2 A3 B1 B2 B3 K1 K2 K3 M1 M2 M3 hL hM hx1 hy1 hx2 hx3 hy2 hy3 ih hs hs'
    have c0 := (HN.out.cell 0).trans rfl
    have c1 := (HN.out.cell 1).trans rfl
    have c2 := (HN.out.cell 2).trans rfl
    have c3 := (HN.out.cell 3).trans rfl
    have c4 := (HN.out.cell 4).trans rfl
    have d0 := (HM.out.cell 0).trans rfl
    have d1 := (HM.out.cell 1).trans rfl
    have d2 := (HM.out.cell 2).trans rfl
    have d3 := (HM.out.cell 3).trans rfl
    have d4 := (HM.out.cell 4).trans rfl
    have en := fun w => peqName a0 a1 b0 b1 w
    cases hN : ((a0 == b0) && (a1 == b1))
    · simp only [hN] at en
      have HR := Lib.hid (show Tr.eqb (.node [a0, a1] ax kx tx) (.node [b0, b1] ay ky ty) = false by unfold Tr.eqb; have e : (([a0, a1] : List (List UInt8)) == [b0, b1]) = false := (by simpa using hN); rw [e]; simp)
      clear hN
      go_enter Tryz.func8, Tryz.ntmps8
      go_wp2_with fail
      go_ret
      exact ⟨by rw [HR.out]; rfl, HB.out⟩
    simp only [hN] at en
    have HNM := Lib.hid hN
    clear hN
    cases hT : (tx == ty)
    · have HR := Lib.hid (show Tr.eqb (.node [a0, a1] ax kx tx) (.node [b0, b1] ay ky ty) = false by unfold Tr.eqb; rw [hT]; simp)
      go_enter Tryz.func8, Tryz.ntmps8
      go_wp2_with fail
      go_ret
      exact ⟨by rw [HR.out]; rfl, HB.out⟩
    have HTT := Lib.hid hT
    go_enter Tryz.func8, Tryz.ntmps8
    go_wp2_with fail
    refine (HE1.out _ HB.out).mono ?_
    rintro e w1 ⟨rfl, hb1⟩
    have hN1 := HN.out.below hb1 HN.out.lt
    have hM1 := HM.out.below hb1 HM.out.lt
    have hbw := HB.out.trans (hb1.mono HB.out.size)
    clear c0 d0 c1 d1 c2 d2 c3 d3 c4 d4 en hT hb1
    cases hA : (ax == ay)
    · have HR := Lib.hid (show Tr.eqb (.node [a0, a1] ax kx tx) (.node [b0, b1] ay ky ty) = false by unfold Tr.eqb; rw [hA]; simp)
      go_wp2_with fail
      go_ret
      exact ⟨by rw [HR.out]; rfl, hbw⟩
    have HAA := Lib.hid hA
    have k1 := (hN1.cell 3).trans rfl
    have k2 := (hM1.cell 3).trans rfl
    clear hA hN1 hM1
    go_wp2_with fail
    refine (HE2.out _ hbw).mono ?_
    rintro e w2 ⟨rfl, hb2⟩
    have hbw2 := hbw.trans (hb2.mono hbw.size)
    clear k1 k2 hb2
    go_wp2_with fail
    go_ret
    refine ⟨?_, hbw2⟩
    have HR : Tr.eqb (.node [a0, a1] ax kx tx) (.node [b0, b1] ay ky ty) = Tr.eqbL kx ky := by
      have e1 := HNM.out
      have e2 := HTT.out
      have e3 := HAA.out
      simp only [Bool.and_eq_true, beq_iff_eq] at e1 e2 e3
      unfold Tr.eqb
      simp [e1, e2, e3]
    rw [HR]
    rfl
end Go.Proofs.YtgmiockaecklaaaGreatDoor
