/- Sm2 -/
import Derived.Test.YthboiahdheehkaaGreatDoorPD
import Derived.Test.YthboiahdheehkaaGreatDoorPA
import Derived.Test.YthboiahdheehkaaGreatDoorPM
import Derived.Test.YthboiahdheehkaaGreatDoorPG
open List renaming length_append → lF, length_cons → lH, mem_cons → lI, take_of_length_le → lQ
open Go.Lib renaming hid → hI
open Array renaming getElem?_eq_some_iff → aA
open Option renaming bind_eq_some_iff → oA, map_eq_some_iff → oB
open Nat renaming le_refl → nR, le_trans → nT
open Go.Proofs.Tryz renaming prog → pG
open Go.Value renaming string → V
open Go.Value renaming slice → CC
open Go.Obj renaming cells → OO
namespace Go.Proofs.YthboiahdheehkaaGreatDoor
section
set_option maxHeartbeats 4000000
set_option maxRecDepth 20000
open Go.RowKit Go.Extern.Stop Go.Stop Go.Extern
attribute [local go_sem] bs_toList
theorem pneqAttr (a0 a1 a2 b0 b1 b2 : List UInt8) (w : World) : (binOp .neq 87 (.agg #[V (bs a0), V (bs a1), V (bs a2)]) (.agg #[V (bs b0), V (bs b1), V (bs b2)])).run pG w = .ok (.bool (!((a0 == b0) && (a1 == b1) && (a2 == b2)))) w := by
 cases h0 : (a0 == b0)
 ·go_simp
 ·skip
  cases h1 : (a1 == b1)
  ·go_simp
  ·skip
   cases h2 : (a2 == b2) <;> go_simp
theorem peqName (a0 a1 b0 b1 : List UInt8) (w : World) : (binOp .eql 41 (.agg #[V (bs a0), V (bs a1)]) (.agg #[V (bs b0), V (bs b1)])).run pG w = .ok (.bool ((a0 == b0) && (a1 == b1))) w := by
 cases h0 : (a0 == b0)
 ·go_simp
 ·skip
  cases h1 : (a1 == b1) <;> go_simp
theorem equal_any (pa qa : Option Addr) (ca da : Nat) (ax ay : List (List (List UInt8))) (w : World) (hx : ∀ a ∈ ax, a.length = 2 + 1) (hy : ∀ a ∈ ay, a.length = 2 + 1) (h1 : ax.length ≤ ca) (h2 : ca ≤ maxLen) (h3 : Rd w pa (acells ax)) (h4 : ay.length ≤ da) (h5 : da ≤ maxLen) (h6 : Rd w qa (acells ay)) :
  Calls pG 49 #[CC pa ax.length ca, CC qa ay.length da] w (Gives w (.bool (ax == ay))) := by
 have HA := hI h3; have HA' := hI h6; have HX2 := hI hx; have HY2 := hI hy
 unfold maxLen at h2 h5
 clear h3 h6 hx hy
 by_cases hla : ax.length = ay.length
 rotate_left 1
 ·have hne : ((ax.length : Int) != (ay.length : Int)) = true := by simp; omega
  have HR := hI (show (ax == ay) = false by (rw [beq_eq_false_iff_ne]; intro e; exact hla (by rw [e])))
  go_enter Tryz.func49, Tryz.ntmps49
  go_wp2_with fail
  go_ret
  exact ⟨by rw [HR.out]; rfl, Below.refl _ _⟩
 have hne : ((ax.length : Int) != (ay.length : Int)) = false := by simp [hla]
 have HLA := hI hla
 have hla' : ax.length ≤ ay.length := by omega
 clear hla
 go_enter Tryz.func49, Tryz.ntmps49
 go_wp2_with fail
 clear hne
 go_loopw [13] (fun i wr => ∃ j : Nat, j ≤ ax.length ∧ i = .int .i64 j ∧ ax.take j = ay.take j ∧ Below w.heap.size w wr) (fun i _ => ax.length - (intOf i).toNat)
 case atStart => exact ⟨0, by omega, rfl, rfl, Below.refl _ _⟩
 case round =>
  obtain ⟨j, hj, rfl, heq, hbw⟩ := hrel
  by_cases hlt : j < ax.length
  ·have hlt2 : j < ay.length := by omega
   obtain ⟨e1, o1, x0, x1, x2, rfl, hgx, hx0, hx1, hx2⟩ := at_2 HA.out HX2.out hlt
   obtain ⟨e2, o2, y0, y1, y2, rfl, hgy, hy0, hy1, hy2⟩ := at_2 HA'.out HY2.out hlt2
   have GX := hI hgx; have GY := hI hgy; have HEQ := hI heq
   clear hgx hgy heq
   have hx0 := Below.keeps hbw _ _ hx0
   have hy0 := Below.keeps hbw _ _ hy0
   have hx1 := Below.keeps hbw _ _ hx1
   have hy1 := Below.keeps hbw _ _ hy1
   have hx2 := Below.keeps hbw _ _ hx2
   have hy2 := Below.keeps hbw _ _ hy2
   have ne := fun w => pneqAttr x0 x1 x2 y0 y1 y2 w
   have hlt' : (j : Int) < (ax.length : Int) := by omega
   have hlt2' : (j : Int) < (ay.length : Int) := by omega
   cases hE : ((x0 == y0) && (x1 == y1) && (x2 == y2))
   all_goals
    (first | simp only [hE, Bool.not_false] at ne | simp only [hE, Bool.not_true] at ne)
    have HE := hI hE
    clear hE
    go_wp2_with fail
    refine wp_phi (fun w' => (w'.cell? ⟨e1, o1 + j * 3, none⟩ = some (V (bs x0))) ∧ (w'.cell? ⟨e1, o1 + j * 3 + 1, none⟩ = some (V (bs x1))) ∧ (w'.cell? ⟨e1, o1 + j * 3 + 2, none⟩ = some (V (bs x2))) ∧ (w'.cell? ⟨e2, o2 + j * 3, none⟩ = some (V (bs y0))) ∧ (w'.cell? ⟨e2, o2 + j * 3 + 1, none⟩ = some (V (bs y1))) ∧ (w'.cell? ⟨e2, o2 + j * 3 + 2, none⟩ = some (V (bs y2))) ∧ Below w.heap.size w w') [] [] (by kernel_rfl) (by kernel_rfl) ?_ ?_ ⟨hx0, hx1, hx2, hy0, hy1, hy2, (hbw).drew⟩ ?_
    ·rintro w1' w2' ⟨gx0, gx1, gx2, gy0, gy1, gy2, hIB⟩ hb
     exact ⟨Below.keeps hb _ _ gx0, Below.keeps hb _ _ gx1, Below.keeps hb _ _ gx2, Below.keeps hb _ _ gy0, Below.keeps hb _ _ gy1, Below.keeps hb _ _ gy2, hIB.trans (hb.mono hIB.size)⟩
    ·intro p hp; cases hp
    repeat ((first | refine phi_skipK rfl (fun K hK => ?_) | (refine phi_pureK rfl rfl (fun K hK => ?_); apply Exists.intro; constructor; (focus (rintro w' ⟨gx0, gx1, gx2, gy0, gy1, gy2, hIB⟩; clear hIB; first | (go_simp; done) | (go_simp; (try go_bits); (try go_simp); rfl) | go_simp)))); simp only [Act.put, List.setIfInBounds_toArray, List.set_cons_succ, List.set_cons_zero, List.cons_append, List.nil_append]; apply hK; clear hK K)
    refine phi_done ?_
    rintro w2 ⟨gx0, gx1, gx2, gy0, gy1, gy2, hbw2⟩ _
    refine wpList_nil ?_
    clear hx0 hy0 gx0 gy0 hx1 hy1 gx1 gy1 hx2 hy2 gx2 gy2 ne hbw
   ·have HR := hI (show (ax == ay) = false by
     rw [beq_eq_false_iff_ne]
     intro e
     subst e
     have e3 := GX.out.symm.trans GY.out
     have e4 := HE.out
     simp only [List.cons.injEq, and_true] at e3
     simp [e3] at e4)
    go_wp2_with fail
    go_ret
    exact ⟨by rw [HR.out]; rfl, hbw2⟩
   ·go_wp2_with fail
    go_roundw
    case rel => exact ⟨j + 1, by omega, by go_num, take_step hlt hlt2 HEQ.out (by rw [GX.out, GY.out]; have := HE.out; simp only [Bool.and_eq_true, beq_iff_eq] at this; simp [this]), hbw2⟩
    case measure => simp [intOf]; omega
  ·obtain rfl : j = ax.length := by omega
   have HEQ := hI (show (ax == ay) = true by
    rw [lQ (nR _), HLA.out, lQ (nR _)] at heq
    rw [heq]; simp)
   clear heq
   go_wp2_with fail
   go_ret
   exact ⟨by rw [HEQ.out]; rfl, hbw⟩
theorem equalfunc_any (pk qk : Option Addr) (ck dk : Nat) (kx ky : List Tr) (P Q : Nat → Prop) (css dss : List (List Value)) (w : World) (hx : Tr.okL 2 kx) (hy : Tr.okL 2 ky) (h1 : kx.length ≤ ck) (h2 : ck ≤ maxLen) (h3 : Rd w pk css.flatten) (h4 : ky.length ≤ dk) (h5 : dk ≤ maxLen) (h6 : Rd w qk dss.flatten) (hL : TrL w P kx css) (hM : TrL w Q ky dss)
  (hf : ∀ (i : Nat) (hi : i < kx.length) (hi' : i < ky.length) (w' : World) (cx cy : List Value), TrC w' P kx[i] cx → TrC w' Q ky[i] cy → Calls pG 22 #[.agg cx.toArray, .agg cy.toArray] w' (Gives w' (.bool (kx[i].eqb ky[i])))) :
  Calls pG 35 #[CC pk kx.length ck, CC qk ky.length dk, .func (.func 22) #[] #[]] w (Gives w (.bool (Tr.eqbL kx ky))) := by
 have hcf := fun w => (show (callFunc 22 #[]).run pG w = .ok (.enter 22 #[]) w from by kernel_rfl)
 have HK := hI h3; have HK' := hI h6; have HX3 := hI hx; have HY3 := hI hy; have HL := hI hL; have HL' := hI hM; have HF := hI hf
 unfold maxLen at h2 h5
 clear h3 h6 hx hy hL hM hf
 by_cases hlk : kx.length = ky.length
 rotate_left 1
 ·have hne : ((kx.length : Int) != (ky.length : Int)) = true := by simp; omega
  have HR := hI (Tr.eqbL_len hlk)
  go_enter Tryz.func35, Tryz.ntmps35
  go_wp2_with fail
  go_ret
  exact ⟨by rw [HR.out]; rfl, Below.refl _ _⟩
 have hne : ((kx.length : Int) != (ky.length : Int)) = false := by simp [hlk]
 have HLK := hI hlk
 have hlk' : kx.length ≤ ky.length := by omega
 clear hlk
 go_enter Tryz.func35, Tryz.ntmps35
 go_wp2_with fail
 clear hne
 go_loopw [17] (fun i wr => ∃ j : Nat, j ≤ kx.length ∧ i = .int .i64 j ∧ Tr.eqbL kx ky = Tr.eqbL (kx.drop j) (ky.drop j) ∧ Below w.heap.size w wr) (fun i _ => kx.length - (intOf i).toNat)
 case atStart => exact ⟨0, by omega, rfl, rfl, Below.refl _ _⟩
 case round =>
  obtain ⟨j, hj, rfl, heq, hbw⟩ := hrel
  by_cases hlt : j < kx.length
  ·have hlt2 : j < ky.length := by omega
   obtain ⟨e1, o1, m0, m1, u1, u2, u3, u4, u5, u6, u7, rfl, hgx, hT1, hk0, hk1, hk2, hk3, hk4⟩ := kid_2 HK.out HL.out HX3.out hlt
   obtain ⟨e2, o2, l0, l1, v1, v2, v3, v4, v5, v6, v7, rfl, hgy, hT2, hl0, hl1, hl2, hl3, hl4⟩ := kid_2 HK'.out HL'.out HY3.out hlt2
   have hr := Tr.eqbL_drop HLK.out hlt
   have HEQ := hI (heq.trans hr)
   have hbx := hbw.trans ((below_alloc (below_alloc1 wr (OO #[V (bs m0), V (bs m1), CC u4 u1.length u5, CC u6 u2.length u7, V (bs u3)] 44)) (OO #[V (bs l0), V (bs l1), CC v4 v1.length v5, CC v6 v2.length v7, V (bs v3)] 44)).mono hbw.size)
   have ihc := hI (HF.out j hlt hlt2 _ _ _ (hT1.below hbx) (hT2.below hbx))
   have HBX := hI hbx
   clear heq hgx hgy hr hT1 hT2 hbx
   have hk0 := Below.keeps hbw _ _ hk0
   have hl0 := Below.keeps (below_alloc1 wr (OO #[V (bs m0), V (bs m1), CC u4 u1.length u5, CC u6 u2.length u7, V (bs u3)] 44)) _ _ (Below.keeps hbw _ _ hl0)
   have hk1 := Below.keeps hbw _ _ hk1
   have hl1 := Below.keeps (below_alloc1 wr (OO #[V (bs m0), V (bs m1), CC u4 u1.length u5, CC u6 u2.length u7, V (bs u3)] 44)) _ _ (Below.keeps hbw _ _ hl1)
   have hk2 := Below.keeps hbw _ _ hk2
   have hl2 := Below.keeps (below_alloc1 wr (OO #[V (bs m0), V (bs m1), CC u4 u1.length u5, CC u6 u2.length u7, V (bs u3)] 44)) _ _ (Below.keeps hbw _ _ hl2)
   have hk3 := Below.keeps hbw _ _ hk3
   have hl3 := Below.keeps (below_alloc1 wr (OO #[V (bs m0), V (bs m1), CC u4 u1.length u5, CC u6 u2.length u7, V (bs u3)] 44)) _ _ (Below.keeps hbw _ _ hl3)
   have hk4 := Below.keeps hbw _ _ hk4
   have hl4 := Below.keeps (below_alloc1 wr (OO #[V (bs m0), V (bs m1), CC u4 u1.length u5, CC u6 u2.length u7, V (bs u3)] 44)) _ _ (Below.keeps hbw _ _ hl4)
   have nb := (Blk.new wr 44 #[V (bs m0), V (bs m1), CC u4 u1.length u5, CC u6 u2.length u7, V (bs u3)]).alloc (OO #[V (bs l0), V (bs l1), CC v4 v1.length v5, CC v6 v2.length v7, V (bs v3)] 44)
   have nb2 := Blk.new (wr.alloc (OO #[V (bs m0), V (bs m1), CC u4 u1.length u5, CC u6 u2.length u7, V (bs u3)] 44)) 44 #[V (bs l0), V (bs l1), CC v4 v1.length v5, CC v6 v2.length v7, V (bs v3)]
   rw [World.size_alloc] at nb2
   have c0 := (nb.cell 0).trans rfl; have d0 := (nb2.cell 0).trans rfl; have c1 := (nb.cell 1).trans rfl; have d1 := (nb2.cell 1).trans rfl; have c2 := (nb.cell 2).trans rfl; have d2 := (nb2.cell 2).trans rfl; have c3 := (nb.cell 3).trans rfl; have d3 := (nb2.cell 3).trans rfl; have c4 := (nb.cell 4).trans rfl; have d4 := (nb2.cell 4).trans rfl
   clear nb nb2
   have hlt' : (j : Int) < (kx.length : Int) := by omega
   have hlt2' : (j : Int) < (ky.length : Int) := by omega
   have HBW := hI hbw
   generalize kx[j] = X at *
   generalize ky[j] = Y at *
   clear hbw
   go_wp2_with fail
   refine ihc.out.mono ?_
   rintro e w2 ⟨rfl, hb2⟩
   have hb3 := HBX.out.trans (hb2.mono HBX.out.size)
   clear hk0 hl0 c0 d0 hk1 hl1 c1 d1 hk2 hl2 c2 d2 hk3 hl3 c3 d3 hk4 hl4 c4 d4 hb2 ihc
   cases hE : X.eqb Y
   ·have HR := hI (show Tr.eqbL kx ky = false by rw [HEQ.out, hE]; simp)
    go_wp2_with fail
    go_ret
    exact ⟨by rw [HR.out]; rfl, hb3⟩
   ·rw [hE] at HEQ
    go_wp2_with fail
    go_roundw
    case rel => exact ⟨j + 1, by omega, by go_num, HEQ.out.trans (Bool.true_and _), hb3⟩
    case measure => simp [intOf]; omega
  ·obtain rfl : j = kx.length := by omega
   have HR := hI (show Tr.eqbL kx ky = true by
    rw [List.drop_of_length_le (nR _), HLK.out, List.drop_of_length_le (nR _)] at heq
    exact heq.trans rfl)
   clear heq
   go_wp2_with fail
   go_ret
   exact ⟨by rw [HR.out]; rfl, hbw⟩
theorem same_any : ∀ (n : Nat) (x y : Tr) (P Q : Nat → Prop) (cx cy : List Value) (w : World), x.sz ≤ n → x.ok 2 → y.ok 2 → TrC w P x cx → TrC w Q y cy →
  Calls pG 22 #[.agg cx.toArray, .agg cy.toArray] w (Gives w (.bool (x.eqb y))) := by
 intro n
 induction n with
 | zero => intro x y P Q cx cy w hs; have := x.sz_pos; omega
 | succ n ih =>
  intro x y P Q cx cy w hs hx hy hcx hcy
  obtain ⟨nx, ax, kx, tx⟩ := x
  obtain ⟨ny, ay, ky, ty⟩ := y
  unfold TrC at hcx hcy
  unfold Tr.ok at hx hy
  obtain ⟨hx1, hx2, hx3⟩ := hx
  obtain ⟨hy1, hy2, hy3⟩ := hy
  obtain ⟨a0, a1, rfl⟩ := two_of hx1
  obtain ⟨b0, b1, rfl⟩ := two_of hy1
  obtain ⟨pa, ca, pk, ck, css, rfl, ⟨A1, A2, A3, -⟩, ⟨K1, K2, K3, -⟩, hL⟩ := hcx
  obtain ⟨qa, da, qk, dk, dss, rfl, ⟨B1, B2, B3, -⟩, ⟨M1, M2, M3, -⟩, hM⟩ := hcy
  show Calls pG 22 #[.agg #[V (bs a0), V (bs a1), CC pa ax.length ca, CC pk kx.length ck, V (bs tx)], .agg #[V (bs b0), V (bs b1), CC qa ay.length da, CC qk ky.length dk, V (bs ty)]] w _
  have HB := hI (below_alloc (below_alloc1 w (OO #[V (bs a0), V (bs a1), CC pa ax.length ca, CC pk kx.length ck, V (bs tx)] 44)) (OO #[V (bs b0), V (bs b1), CC qa ay.length da, CC qk ky.length dk, V (bs ty)] 44))
  have HN := hI ((Blk.new w 44 #[V (bs a0), V (bs a1), CC pa ax.length ca, CC pk kx.length ck, V (bs tx)]).alloc (OO #[V (bs b0), V (bs b1), CC qa ay.length da, CC qk ky.length dk, V (bs ty)] 44))
  have HM := hI (show Blk ((w.alloc (OO #[V (bs a0), V (bs a1), CC pa ax.length ca, CC pk kx.length ck, V (bs tx)] 44)).alloc (OO #[V (bs b0), V (bs b1), CC qa ay.length da, CC qk ky.length dk, V (bs ty)] 44)) (w.heap.size + 1) 44 #[V (bs b0), V (bs b1), CC qa ay.length da, CC qk ky.length dk, V (bs ty)] from by
   have := Blk.new (w.alloc (OO #[V (bs a0), V (bs a1), CC pa ax.length ca, CC pk kx.length ck, V (bs tx)] 44)) 44 #[V (bs b0), V (bs b1), CC qa ay.length da, CC qk ky.length dk, V (bs ty)]
   rwa [World.size_alloc] at this)
  have E1 := fun (w' : World) (hb : Below w.heap.size w w') => equal_any pa qa ca da ax ay w' hx2 hy2 A1 A2 (A3.keep (Below.keeps hb)) B1 B2 (B3.keep (Below.keeps hb))
  have hs' : ∀ i (hi : i < kx.length), kx[i].sz ≤ n := fun i hi => by
   have := Tr.sz_kid (.node [a0, a1] ax kx tx) i hi
   simp only [Tr.ks] at this
   omega
  have E2 := fun (w' : World) (hb : Below w.heap.size w w') => equalfunc_any pk qk ck dk kx ky P Q css dss w' hx3 hy3 K1 K2 (K3.keep (Below.keeps hb)) M1 M2 (M3.keep (Below.keeps hb)) (hL.below hb) (hM.below hb)
   (fun i hi hi' w2 c1 c2 h1 h2 => ih kx[i] ky[i] P Q c1 c2 w2 (hs' i hi) (okL_get 2 kx hx3 i hi) (okL_get 2 ky hy3 i hi') h1 h2)
  have HE1 := hI E1; have HE2 := hI E2
  clear E1 E2 A1 A2 A3 B1 B2 B3 K1 K2 K3 M1 M2 M3 hL hM hx1 hy1 hx2 hx3 hy2 hy3 ih hs hs'
  obtain ⟨c0, c1, c2, c3, c4, -⟩ := HN.out.cc; obtain ⟨d0, d1, d2, d3, d4, -⟩ := HM.out.cc
  have en := fun w => peqName a0 a1 b0 b1 w
  cases hN : ((a0 == b0) && (a1 == b1))
  ·simp only [hN] at en
   have HR := hI (show Tr.eqb (.node [a0, a1] ax kx tx) (.node [b0, b1] ay ky ty) = false by unfold Tr.eqb; have e : (([a0, a1] : List (List UInt8)) == [b0, b1]) = false := (by simpa using hN); rw [e]; simp)
   clear hN
   go_enter Tryz.func22, Tryz.ntmps22
   go_wp2_with fail
   go_ret
   exact ⟨by rw [HR.out]; rfl, HB.out⟩
  simp only [hN] at en
  have HNM := hI hN
  clear hN
  cases hT : (tx == ty)
  ·have HR := hI (show Tr.eqb (.node [a0, a1] ax kx tx) (.node [b0, b1] ay ky ty) = false by unfold Tr.eqb; rw [hT]; simp)
   go_enter Tryz.func22, Tryz.ntmps22
   go_wp2_with fail
   go_ret
   exact ⟨by rw [HR.out]; rfl, HB.out⟩
  have HTT := hI hT
  go_enter Tryz.func22, Tryz.ntmps22
  go_wp2_with fail
  refine (HE1.out _ HB.out).mono ?_
  rintro e w1 ⟨rfl, hb1⟩
  have hN1 := HN.out.below hb1 HN.out.lt
  have hM1 := HM.out.below hb1 HM.out.lt
  have hbw := HB.out.trans (hb1.mono HB.out.size)
  clear c0 d0 c1 d1 c2 d2 c3 d3 c4 d4 en hT hb1
  cases hA : (ax == ay)
  ·have HR := hI (show Tr.eqb (.node [a0, a1] ax kx tx) (.node [b0, b1] ay ky ty) = false by unfold Tr.eqb; rw [hA]; simp)
   go_wp2_with fail
   go_ret
   exact ⟨by rw [HR.out]; rfl, hbw⟩
  have HAA := hI hA
  have k1 := (hN1.cell 3).trans rfl; have k2 := (hM1.cell 3).trans rfl
  clear hA hN1 hM1
  go_wp2_with fail
  refine (HE2.out _ hbw).mono ?_
  rintro e w2 ⟨rfl, hb2⟩
  have hbw2 := hbw.trans (hb2.mono hbw.size)
  clear k1 k2 hb2
  go_wp2_with fail
  go_ret
  refine ⟨?_, hbw2⟩
  have HR : Tr.eqb (.node [a0, a1] ax kx tx) (.node [b0, b1] ay ky ty) = Tr.eqbL kx ky := by
   have e1 := HNM.out
   have e2 := HTT.out
   have e3 := HAA.out
   simp only [Bool.and_eq_true, beq_iff_eq] at e1 e2 e3
   unfold Tr.eqb
   simp [e1, e2, e3]
  rw [HR]
  rfl
end
section
set_option maxHeartbeats 4000000
set_option maxRecDepth 20000
open Go.RowKit
theorem must_ok (c0 c1 c2 c3 c4 : Value) (h0 : c0.oneCell' = true) (h1 : c1.oneCell' = true) (h2 : c2.oneCell' = true) (h3 : c3.oneCell' = true) (h4 : c4.oneCell' = true) (w : World) :
  Calls pG 45 #[.agg #[c0, c1, c2, c3, c4], .nilIface] w (Gives w (.agg #[c0, c1, c2, c3, c4])) := by
 have hN1 := (Blk.new w 44 #[c0, c1, c2, c3, c4]).alloc (OO #[V ⟨#[]⟩, V ⟨#[]⟩, CC none 0 0, CC none 0 0, V ⟨#[]⟩] 44)
 have HN2 := hI (show Blk ((w.alloc (OO #[c0, c1, c2, c3, c4] 44)).alloc (OO #[V ⟨#[]⟩, V ⟨#[]⟩, CC none 0 0, CC none 0 0, V ⟨#[]⟩] 44)) (w.heap.size + 1) 44 #[V ⟨#[]⟩, V ⟨#[]⟩, CC none 0 0, CC none 0 0, V ⟨#[]⟩] by
  have := Blk.new (w.alloc (OO #[c0, c1, c2, c3, c4] 44)) 44 #[V ⟨#[]⟩, V ⟨#[]⟩, CC none 0 0, CC none 0 0, V ⟨#[]⟩]
  rwa [World.size_alloc] at this)
 have HB := hI (below_alloc (below_alloc1 w (OO #[c0, c1, c2, c3, c4] 44)) (OO #[V ⟨#[]⟩, V ⟨#[]⟩, CC none 0 0, CC none 0 0, V ⟨#[]⟩] 44))
 obtain ⟨d0, d1, d2, d3, d4, -⟩ := hN1.cc
 clear hN1
 unfold Gives
 go_enter Tryz.func45, Tryz.ntmps45
 go_wp2_with (first | (go_at_call 61; refine (check_nil _).mono ?_; rintro e w2 ⟨rfl, rfl⟩) | (refine wpList_store (.tmp 4) (.tmp 7) 44 rfl rfl (w.heap.size + 1) 0 _ _ #[c0, c1, c2, c3, c4] rfl rfl HN2.out ?s0 ?s1 ?s2 ?_))
 case s0 => kernel_rfl
 case s2 => simp
 intro w8 hb8 ho8
 rw [putCells_all #[V ⟨#[]⟩, V ⟨#[]⟩, CC none 0 0, CC none 0 0, V ⟨#[]⟩] #[c0, c1, c2, c3, c4] rfl] at hb8
 obtain ⟨z0, z1, z2, z3, z4, -⟩ := hb8.cc
 have HBW := hI (HB.out.trans (ho8.below (by omega : w.heap.size ≤ w.heap.size + 1)))
 clear hb8 ho8 d0 d1 d2 d3 d4
 go_wp2_with fail
 refine bodyPost_ret (v := .agg #[c0, c1, c2, c3, c4]) (by simp [results, Tryz.results45, go_sem, z0, z1, z2, z3, z4]) rfl ?_
 exact ⟨rfl, HBW.out⟩
theorem must_no (E : Nat → Addr) (c0 c1 c2 c3 c4 : Value) (h0 : c0.oneCell' = true) (h1 : c1.oneCell' = true) (h2 : c2.oneCell' = true) (h3 : c3.oneCell' = true) (h4 : c4.oneCell' = true) (w : World) :
  Calls pG 45 #[.agg #[c0, c1, c2, c3, c4], errAt (E 3)] w fun e w' => e = .panicked (panE E 3) ∧ Below w.heap.size w w' := by
 have HB := hI (below_alloc (below_alloc1 w (OO #[c0, c1, c2, c3, c4] 44)) (OO #[V ⟨#[]⟩, V ⟨#[]⟩, CC none 0 0, CC none 0 0, V ⟨#[]⟩] 44))
 have HC := hI (fun w => check_err w E 3)
 rw [show errV E (3 + 1) = errAt (E 3) from rfl] at HC
 unfold errAt at HC ⊢
 go_enter Tryz.func45, Tryz.ntmps45
 go_wp2_with (go_at_call 61; refine (HC.out _).mono ?_; rintro e w2 ⟨rfl, rfl⟩)
 exact ⟨rfl, rfl, HB.out⟩
def MapX (w : World) (b k : Nat) (f : List UInt8 → Option (List UInt8)) : Prop :=
 ∃ D : DataW Unit, w.ownsMap pG 9 (plainElem pG 9) b k D ∧ Maps.size D = k ∧
  ∀ s, shS s → Maps.has D (.string s) = (f s).isSome ∧ D.atKey (.string s) (.lit (.string [])) = .lit (.string ((f s).getD []))
theorem MapX.s {w : World} {b k : Nat} {f : List UInt8 → Option (List UInt8)} (h : MapX w b k f) : MapS w b k f := by
 obtain ⟨D, h1, _, h2⟩ := h
 exact ⟨D, h1, h2⟩
theorem mapx_made (w : World) : MapX (w.alloc (.map #[] 0)) w.heap.size 0 (fun _ => none) :=
 ⟨_, World.ownsMap_made w _ _ _, rfl, fun s _ => ⟨rfl, rfl⟩⟩
theorem MapX.lt {w : World} {b n : Nat} {f : List UInt8 → Option (List UInt8)} (h : MapX w b n f) : b < w.heap.size := h.s.lt
theorem MapX.kept {w w' : World} {b n : Nat} {f : List UInt8 → Option (List UInt8)} (h : MapX w b n f) (k : ∀ o, w.heap[b]? = some o → w'.heap[b]? = some o) : MapX w' b n f := by
 obtain ⟨D, ⟨es, clock, hb, F, hs, hD⟩, h2⟩ := h
 exact ⟨D, ⟨es, clock, k _ hb, F, hs, hD⟩, h2⟩
theorem MapX.below {w w' : World} {b n : Nat} {f : List UInt8 → Option (List UInt8)} (h : MapX w b n f) (hb : Below w.heap.size w w') : MapX w' b n f :=
 h.kept fun _ ho => (hb.block b h.lt).trans ho
theorem MapX.len {w : World} {b n : Nat} {f : List UInt8 → Option (List UInt8)} (h : MapX w b n f) (ty : TypeId) : (Builtin.len_ #[190] ty #[.map (some b)]).run pG w = .ok (.int .i64 (n : Int)) w := by
 obtain ⟨D, h1, h2, h3⟩ := h
 have := h1.len Tryz.underlying190 ty
 rw [h2] at this
 exact this
theorem MapX.store {w : World} {b n : Nat} {f : List UInt8 → Option (List UInt8)} (h : MapX w b n f) (hn : n < 1000000) {s v : List UInt8} (hs : shS s) (hv : shS v) (hnew : f s = none) :
  ∃ w', (Instr.mapUpdate 190 (.map (some b)) (V (bs s)) (V (bs v))).run pG w = .ok () w' ∧ MapX w' b (n + 1) (setS f s v) ∧ But [b] w w' := by
 obtain ⟨D, h1, h0, h2⟩ := h
 obtain ⟨w', hrun, ho, ht⟩ := h1.store strKeyed Tryz.underlying190 (by unfold maxLen; omega) (str_key s hs) (elem_str v hv)
 have hkl := strKeyed.key (str_key s hs)
 refine ⟨w', hrun, ⟨_, ho, ?_, fun s' hs' => ?_⟩, but_turned ht⟩
 ·rw [Maps.size_put (h1.tidy strKeyed), (h2 s hs).1, hnew, h0]
  rfl
 ·unfold setS
  by_cases e : s' = s
  ·subst e
   rw [if_pos rfl, Maps.has_put_same h1.isMap hkl, Maps.atKey_put_same h1.isMap hkl]
   exact ⟨rfl, rfl⟩
  ·rw [if_neg e, Maps.has_put_other (by simpa using e), Maps.atKey_put_other (by simpa using e)]
   exact h2 s' hs'
def prefOf (l : List (List UInt8)) (s : List UInt8) : Option (List UInt8) := if s ∈ l then some (prefF (l.idxOf s)) else none
theorem prefOf_nil : prefOf [] = fun _ => none := by funext s; rfl
theorem prefOf_snoc {l : List (List UInt8)} {s : List UInt8} (h : s ∉ l) : setS (prefOf l) s (prefF l.length) = prefOf (l ++ [s]) := by
 funext s'
 unfold setS prefOf
 by_cases e : s' = s
 ·subst e
  rw [if_pos rfl, if_pos (by simp), List.idxOf_append]
  simp [h]
 ·rw [if_neg e]
  by_cases hm : s' ∈ l
  ·rw [if_pos hm, if_pos (by simp [hm]), List.idxOf_append, if_pos hm]
  ·rw [if_neg hm, if_neg (by simp [hm, e])]
def metF (l : List (List UInt8)) (ns : List (List (List UInt8))) : List (List UInt8) := ns.foldl (fun l n => addF l (n.getD 0 [])) l
theorem metF_app (l : List (List UInt8)) (a b : List (List (List UInt8))) : metF l (a ++ b) = metF (metF l a) b := List.foldl_append
mutual
theorem meet_nms : ∀ (e : Tr) (l : List (List UInt8)), e.ok 2 → e.meet l = metF l e.nms
 | .node nm ats ks t, l, h => by
  unfold Tr.ok at h
  rw [Tr.meet, Tr.nms]
  show _ = metF (addF l (nm.getD 0 [])) _
  rw [metF_app, meetL_nms ks _ h.2.2]
  congr 1
  unfold metF
  rw [List.foldl_map]
  have : ∀ (zs : List (List (List UInt8))) (l0 : List (List UInt8)), (∀ a ∈ zs, a.length = 2 + 1) → zs.foldl (fun l a => addF l (a.getD 0 [])) l0 = zs.foldl (fun l a => addF l ((a.take 2).getD 0 [])) l0 := by
   intro zs
   induction zs with
   | nil => intro l0 _; rfl
   | cons a zs ih =>
    intro l0 ha
    obtain ⟨a0, a1, a2, rfl⟩ := three_of (ha a (by simp))
    exact ih _ (fun b hb => ha b (by simp [hb]))
  exact this ats _ h.2.1
theorem meetL_nms : ∀ (ks : List Tr) (l : List (List UInt8)), Tr.okL 2 ks → Tr.meetL l ks = metF l (Tr.nmsL ks)
 | [], l, _ => by rw [Tr.meetL, Tr.nmsL]; rfl
 | k :: ks, l, h => by
  unfold Tr.okL at h
  rw [Tr.meetL, Tr.nmsL, metF_app, meet_nms k l h.1, meetL_nms ks _ h.2]
end
end
section
set_option maxHeartbeats 4000000
set_option maxRecDepth 20000
open Go.RowKit
theorem wnF_in {l : List (List UInt8)} {n : List (List UInt8)} (hg : goodS l) (h : n.getD 0 [] = [] ∨ n.getD 0 [] ∈ l) : wnF (prefOf l) (n.getD 0 []) (n.getD 1 []) = if localB (n.getD 1 []) = false then none else some (prefixedF l n) := by
 unfold wnF
 rw [prefixed_in hg h]
 by_cases h1 : localB (n.getD 1 []) = false
 ·rw [if_pos h1, if_pos h1]
 ·rw [if_neg h1, if_neg h1]
  by_cases h0 : n.getD 0 [] = []
  ·rw [if_pos h0, if_pos h0]
  ·rw [if_neg h0, if_neg h0]
   have hm := h.resolve_left h0
   rw [show prefOf l (n.getD 0 []) = some (prefF (l.idxOf (n.getD 0 []))) from if_pos hm]
   simp
theorem wnAts_wri {l : List (List UInt8)} (hg : goodS l) : ∀ ats : List (List (List UInt8)), (∀ a ∈ ats, a.getD 0 [] = [] ∨ a.getD 0 [] ∈ l) → wnAts (prefOf l) ats = wriAts l ats
 | [], _ => rfl
 | a :: ats, h => by
  rw [wnAts_cons, wriAts, wnF_in hg (h a (by simp)), wnAts_wri hg ats fun b hb => h b (by simp [hb])]
  by_cases h1 : a.getD 0 [] = [] ∧ a.getD 1 [] = xmlnsL
  ·rw [if_pos h1, if_pos (.inr h1)]
  ·rw [if_neg h1]
   by_cases h2 : localB (a.getD 1 []) = false
   ·rw [if_pos h2, if_pos (.inl h2)]
    rfl
   ·rw [if_neg h2, if_neg (by rintro (h | h); exact h2 h; exact h1 h)]
    rfl
mutual
theorem wn_wri {l : List (List UInt8)} (hg : goodS l) : ∀ e : Tr, e.inS l → e.wn (prefOf l) = e.wri l
 | .node nm ats ks t, h => by
  unfold Tr.inS at h
  rw [Tr.wn, Tr.wri, wnF_in hg h.1, wnAts_wri hg ats h.2.1, wnL_wri hg ks h.2.2]
  by_cases h1 : nm.getD 0 [] = [] ∧ nm.getD 1 [] = []
  ·rw [if_pos h1, if_pos h1]
  ·rw [if_neg h1, if_neg h1]
   by_cases h2 : localB (nm.getD 1 []) = false
   ·rw [if_pos h2, if_pos h2]
    rfl
   ·rw [if_neg h2, if_neg h2]
    rfl
theorem wnL_wri {l : List (List UInt8)} (hg : goodS l) : ∀ ks : List Tr, Tr.inSL l ks → Tr.wnL (prefOf l) ks = Tr.wriL l ks
 | [], _ => by rw [Tr.wnL, Tr.wriL]
 | k :: ks, h => by
  unfold Tr.inSL at h
  rw [Tr.wnL, Tr.wriL, wn_wri hg k h.1, wnL_wri hg ks h.2]
end
def Tr.spc (x : Tr) : List (List UInt8) := metF [] x.nms
theorem spc_meet {x : Tr} (h : x.ok 2) : x.spc = x.meet [] := (meet_nms x [] h).symm
theorem write_of {x : Tr} (h : x.ok 2) : writeF x = (x.wn (prefOf x.spc)).bind fun y => (resolveF (withDecl x.spc y)).bind fun b => if b.eqb x = true then some (withDecl x.spc y) else none := by
 rw [spc_meet h, wn_wri (meet_in x).2 x (meet_in x).1]
 rfl
theorem met_snoc (l : List (List UInt8)) (ns : List (List (List UInt8))) (n : List (List UInt8)) : metF l (ns ++ [n]) = addF (metF l ns) (n.getD 0 []) := by
 rw [metF_app]
 rfl
theorem met_step {l : List (List UInt8)} {ns : List (List (List UInt8))} {j : Nat} {n : List (List UInt8)} (h : ns[j]? = some n) : metF l (ns.take (j + 1)) = addF (metF l (ns.take j)) (n.getD 0 []) := by
 have hj := (List.getElem?_eq_some_iff.1 h).1
 have he := (List.getElem?_eq_some_iff.1 h).2
 rw [List.take_succ_eq_append_getElem hj, met_snoc, he]
theorem met_len : ∀ (ns : List (List (List UInt8))) (l : List (List UInt8)), (metF l ns).length ≤ l.length + ns.length
 | [], l => nR _
 | n :: ns, l => by
  have h := met_len ns (addF l (n.getD 0 []))
  have h2 : (addF l (n.getD 0 [])).length ≤ l.length + 1 := by
   unfold addF
   split
   ·omega
   ·simp
  rw [lH]
  show (metF (addF l (n.getD 0 [])) ns).length ≤ _
  omega
theorem met_small {L : Nat} : ∀ (ns : List (List (List UInt8))) (l : List (List UInt8)), (∀ s ∈ l, s.length ≤ L) → (∀ n ∈ ns, ∀ s ∈ n, s.length ≤ L) → ∀ s ∈ metF l ns, s.length ≤ L
 | [], _, h, _ => h
 | n :: ns, l, h, hn => met_small ns (addF l (n.getD 0 [])) (fun s hs => by
   unfold addF at hs
   split at hs
   ·exact h s hs
   ·rcases List.mem_append.1 hs with hs | hs
    ·exact h s hs
    ·rw [List.mem_singleton] at hs
     subst hs
     cases n with
     | nil => exact Nat.zero_le _
     | cons a b => exact hn (a :: b) (by simp) a (by simp)) fun m hm => hn m (by simp [hm])
theorem decl_snoc (l : List (List UInt8)) (s : List UInt8) : declOf (l ++ [s]) = declOf l ++ [[xmlnsL ++ 58 :: prefF l.length, s]] := by
 unfold declOf
 rw [lF, List.length_singleton, List.range_succ, List.map_append]
 congr 1
 ·refine List.map_congr_left fun i hi => ?_
  rw [List.mem_range] at hi
  rw [List.getD_eq_getElem?_getD, List.getD_eq_getElem?_getD, List.getElem?_append_left hi]
 ·simp
theorem decl_len (l : List (List UInt8)) : (declOf l).length = l.length := by unfold declOf; simp
theorem dd_len (n : Nat) : (Lib.decDigits n).length ≤ n + 1 := by
 induction n using Nat.strongRecOn with
 | _ n ih =>
  rw [Lib.decDigits]
  split
  ·simp
  ·rename_i h
   have := ih (n / 10) (by omega)
   rw [lF, List.length_singleton]
   omega
theorem pref_len (i : Nat) : (prefF i).length ≤ i + 3 := by
 unfold prefF
 have := dd_len (i + 1)
 rw [lH]
 omega
theorem prefOf_len {l : List (List UInt8)} {s v : List UInt8} (h : prefOf l s = some v) : v.length ≤ l.length + 2 := by
 unfold prefOf at h
 split at h
 ·rename_i hm
  cases h
  have h1 := pref_len (l.idxOf s)
  have h2 := List.idxOf_lt_length_iff.2 hm
  omega
 ·cases h
theorem prefOf_no {l : List (List UInt8)} {s : List UInt8} : (prefOf l s).isSome = l.contains s := by
 unfold prefOf
 by_cases h : s ∈ l
 ·rw [if_pos h]; simpa using h
 ·rw [if_neg h]; simpa using h
mutual
def Tr.ssz (L : Nat) : Tr → Prop
 | .node nm ats ks t => (∀ s ∈ nm, s.length ≤ L) ∧ (∀ a ∈ ats, ∀ s ∈ a, s.length ≤ L) ∧ t.length ≤ L ∧ Tr.sszL L ks
def Tr.sszL (L : Nat) : List Tr → Prop
 | [] => True
 | k :: ks => k.ssz L ∧ Tr.sszL L ks
end
mutual
theorem ssz_shr {L : Nat} (hL : L ≤ 1000000) : ∀ x : Tr, x.ssz L → x.shr
 | .node nm ats ks t, h => by
  unfold Tr.ssz at h
  unfold Tr.shr
  exact ⟨fun s hs => nT (h.1 s hs) hL, fun a ha s hs => nT (h.2.1 a ha s hs) hL, nT h.2.2.1 hL, sszL_shr hL ks h.2.2.2⟩
theorem sszL_shr {L : Nat} (hL : L ≤ 1000000) : ∀ ks : List Tr, Tr.sszL L ks → Tr.shrL ks
 | [], _ => by unfold Tr.shrL; trivial
 | k :: ks, h => by
  unfold Tr.sszL at h
  unfold Tr.shrL
  exact ⟨ssz_shr hL k h.1, sszL_shr hL ks h.2⟩
end
mutual
theorem ssz_nms {L : Nat} : ∀ x : Tr, x.ssz L → ∀ n ∈ x.nms, ∀ s ∈ n, s.length ≤ L
 | .node nm ats ks t, h, n, hn => by
  unfold Tr.ssz at h
  rw [nms_head] at hn
  rcases lI.1 hn with rfl | hn
  ·exact h.1
  ·rcases List.mem_append.1 hn with hn | hn
   ·obtain ⟨a, ha, rfl⟩ := List.mem_map.1 hn
    exact fun s hs => h.2.1 a ha s (List.mem_of_mem_take hs)
   ·exact sszL_nms ks h.2.2.2 n hn
theorem sszL_nms {L : Nat} : ∀ ks : List Tr, Tr.sszL L ks → ∀ n ∈ Tr.nmsL ks, ∀ s ∈ n, s.length ≤ L
 | [], _, n, hn => by rw [Tr.nmsL] at hn; cases hn
 | k :: ks, h, n, hn => by
  unfold Tr.sszL at h
  rw [Tr.nmsL] at hn
  rcases List.mem_append.1 hn with hn | hn
  ·exact ssz_nms k h.1 n hn
  ·exact sszL_nms ks h.2 n hn
end
theorem nms_pos (x : Tr) : 1 ≤ x.nms.length := by
 obtain ⟨nm, ats, ks, t⟩ := x
 rw [nms_head, lH]
 omega
theorem nmsL_len : ∀ ks : List Tr, ks.length ≤ (Tr.nmsL ks).length
 | [] => Nat.zero_le _
 | k :: ks => by
  rw [Tr.nmsL, lF, lH]
  have := nms_pos k
  have := nmsL_len ks
  omega
mutual
theorem nms_few {N : Nat} (hN : N ≤ 100000) : ∀ x : Tr, x.nms.length ≤ N → x.few
 | .node nm ats ks t, h => by
  rw [nms_head, lH, lF, List.length_map] at h
  unfold Tr.few
  have := nmsL_len ks
  exact ⟨by omega, by omega, nmsL_few hN ks (by omega)⟩
theorem nmsL_few {N : Nat} (hN : N ≤ 100000) : ∀ ks : List Tr, (Tr.nmsL ks).length ≤ N → Tr.fewL ks
 | [], _ => by unfold Tr.fewL; trivial
 | k :: ks, h => by
  rw [Tr.nmsL, lF] at h
  unfold Tr.fewL
  exact ⟨nms_few hN k (by omega), nmsL_few hN ks (by omega)⟩
end
theorem nms_ats (x : Tr) : x.ats.length ≤ x.nms.length := by
 obtain ⟨nm, ats, ks, t⟩ := x
 rw [nms_head, lH, lF, List.length_map]
 show ats.length ≤ _
 omega
theorem wnF_len {f : List UInt8 → Option (List UInt8)} {M L : Nat} (hf : ∀ s v, f s = some v → v.length ≤ M) {n0 n1 s : List UInt8} (h1 : n1.length ≤ L) (h : wnF f n0 n1 = some s) : s.length ≤ M + 1 + L := by
 unfold wnF at h
 split at h
 ·cases h
 ·split at h
  ·cases h; omega
  ·cases h
   have : ((f n0).getD []).length ≤ M := by
    cases hx : f n0 with
    | none => exact Nat.zero_le _
    | some v => exact hf _ _ hx
   rw [lF, lF, List.length_singleton]
   omega
theorem getD_le {L : Nat} {n : List (List UInt8)} (h : ∀ s ∈ n, s.length ≤ L) (i : Nat) : (n.getD i []).length ≤ L := by
 rw [List.getD_eq_getElem?_getD]
 cases hx : n[i]? with
 | none => exact Nat.zero_le _
 | some v => exact h v (List.mem_of_getElem? hx)
theorem wnAts_ssz {f : List UInt8 → Option (List UInt8)} {M L : Nat} (hf : ∀ s v, f s = some v → v.length ≤ M) : ∀ {ats bts : List (List (List UInt8))}, (∀ a ∈ ats, ∀ s ∈ a, s.length ≤ L) → wnAts f ats = some bts → ∀ a ∈ bts, ∀ s ∈ a, s.length ≤ M + 1 + L
 | [], bts, _, h => by cases h; simp
 | a :: ats, bts, hs, h => by
  rw [wnAts_cons] at h
  split at h
  ·cases h
  ·obtain ⟨n, hn, h⟩ := oA.1 h
   obtain ⟨xs, hx, rfl⟩ := oB.1 h
   intro b hb
   rcases lI.1 hb with rfl | hb
   ·intro s hs'
    rcases lI.1 hs' with rfl | hs'
    ·exact wnF_len hf (getD_le (hs a (by simp)) 1) hn
    ·rw [List.mem_singleton] at hs'
     subst hs'
     have := getD_le (hs a (by simp)) 2
     omega
   ·exact wnAts_ssz hf (fun c hc => hs c (by simp [hc])) hx b hb
mutual
theorem wn_ssz {f : List UInt8 → Option (List UInt8)} {M L : Nat} (hf : ∀ s v, f s = some v → v.length ≤ M) : ∀ (x : Tr) {y : Tr}, x.ssz L → x.few → x.wn f = some y → y.ssz (M + 1 + L) ∧ y.few ∧ y.ok 1 ∧ y.ats.length ≤ x.ats.length
 | .node nm ats ks t, y, hs, hw, h => by
  unfold Tr.ssz at hs
  unfold Tr.few at hw
  rw [Tr.wn] at h
  split at h
  ·split at h
   ·cases h
    have ht := hs.2.2.1
    unfold Tr.ssz Tr.few Tr.ok Tr.sszL Tr.fewL Tr.okL
    exact ⟨⟨by simp, by simp, by omega, trivial⟩, ⟨by simp, by simp, trivial⟩, ⟨rfl, by simp, trivial⟩, Nat.zero_le _⟩
   ·cases h
  ·obtain ⟨n, hn, h⟩ := oA.1 h
   obtain ⟨bts, hb, h⟩ := oA.1 h
   obtain ⟨xs, hx, rfl⟩ := oB.1 h
   obtain ⟨h1, h2, h3, h4⟩ := wnL_ssz hf ks hs.2.2.2 hw.2.2 hx
   have ht := hs.2.2.1
   have hl := wnAts_len hb
   unfold Tr.ssz Tr.few Tr.ok
   refine ⟨⟨fun s hs' => ?_, wnAts_ssz hf hs.2.1 hb, by omega, h1⟩, ⟨by have := hw.1; omega, by have := hw.2.1; omega, h2⟩, ⟨rfl, hl.2, h3⟩, by show bts.length ≤ ats.length; omega⟩
   rw [List.mem_singleton] at hs'
   subst hs'
   exact wnF_len hf (getD_le hs.1 1) hn
theorem wnL_ssz {f : List UInt8 → Option (List UInt8)} {M L : Nat} (hf : ∀ s v, f s = some v → v.length ≤ M) : ∀ (ks : List Tr) {ys : List Tr}, Tr.sszL L ks → Tr.fewL ks → Tr.wnL f ks = some ys → Tr.sszL (M + 1 + L) ys ∧ Tr.fewL ys ∧ Tr.okL 1 ys ∧ ys.length = ks.length
 | [], ys, _, _, h => by
  rw [Tr.wnL] at h
  cases h
  unfold Tr.sszL Tr.fewL Tr.okL
  exact ⟨trivial, trivial, trivial, rfl⟩
 | k :: ks, ys, hs, hw, h => by
  unfold Tr.sszL at hs
  unfold Tr.fewL at hw
  rw [Tr.wnL] at h
  obtain ⟨x, hx, h⟩ := oA.1 h
  obtain ⟨xs, hxs, rfl⟩ := oB.1 h
  obtain ⟨a1, a2, a3, -⟩ := wn_ssz hf k hs.1 hw.1 hx
  obtain ⟨b1, b2, b3, b4⟩ := wnL_ssz hf ks hs.2 hw.2 hxs
  unfold Tr.sszL Tr.fewL Tr.okL
  exact ⟨⟨a1, b1⟩, ⟨a2, b2⟩, ⟨a3, b3⟩, by simp [b4]⟩
end
theorem decl_ssz {l : List (List UInt8)} {L : Nat} (h : ∀ s ∈ l, s.length ≤ L) : ∀ a ∈ declOf l, a.length = 1 + 1 ∧ ∀ s ∈ a, s.length ≤ L + l.length + 9 := by
 intro a ha
 unfold declOf at ha
 obtain ⟨i, hi, rfl⟩ := List.mem_map.1 ha
 rw [List.mem_range] at hi
 refine ⟨rfl, fun s hs => ?_⟩
 rcases lI.1 hs with rfl | hs
 ·have := pref_len i
  rw [lF, lH]
  have h5 : xmlnsL.length = 5 := rfl
  omega
 ·rw [List.mem_singleton] at hs
  subst hs
  have := getD_le h i
  omega
theorem wd_all {l : List (List UInt8)} {y : Tr} {L M : Nat} (hl : ∀ s ∈ l, s.length ≤ L) (h1 : y.ssz M) (h2 : y.few) (h3 : y.ok 1) (hM : M ≤ 1000000) (hL : L + l.length + 9 ≤ 1000000) (hn : l.length + y.ats.length ≤ 100000) : (withDecl l y).ok 1 ∧ (withDecl l y).shr ∧ (withDecl l y).few := by
 obtain ⟨nm, ats, ks, t⟩ := y
 have hs := ssz_shr hM _ h1
 rw [withDecl]
 unfold Tr.ok at h3 ⊢
 unfold Tr.few at h2 ⊢
 unfold Tr.shr at hs ⊢
 have hd := decl_ssz hl
 refine ⟨⟨h3.1, fun a ha => ?_, h3.2.2⟩, ⟨hs.1, fun a ha s hs' => ?_, hs.2.2⟩, ⟨?_, h2.2⟩⟩
 ·rcases List.mem_append.1 ha with ha | ha
  ·exact (hd a ha).1
  ·exact h3.2.1 a ha
 ·rcases List.mem_append.1 ha with ha | ha
  ·exact nT ((hd a ha).2 s hs') hL
  ·exact hs.2.1 a ha s hs'
 ·rw [lF, decl_len]
  exact hn
end
section
set_option maxHeartbeats 4000000
set_option maxRecDepth 20000
open Go.RowKit
theorem nameSp_len {ds : List (List UInt8 × List UInt8)} {s : List UInt8} {a : Bool} {n : List (List UInt8)} (h : nameSp ds s a = some n) : n.length = 2 := by
 unfold nameSp at h
 split at h
 ·cases h
 ·split at h
  ·cases h; rfl
  ·split at h
   ·cases h; rfl
   ·split at h
    ·cases h; rfl
    ·cases h
theorem atSp_len {ds : List (List UInt8 × List UInt8)} {a x : List (List UInt8)} (h : atSp ds a = some (some x)) : x.length = 2 + 1 := by
 unfold atSp at h
 split at h
 ·cases h
 ·cases h
 ·split at h
  ·cases h
  ·obtain ⟨n, hn, he⟩ := oB.1 h
   cases he
   rw [lF, nameSp_len hn]
   rfl
theorem atsSp_len {ds : List (List UInt8 × List UInt8)} : ∀ (l : List (List (List UInt8))) {out bts : List (List (List UInt8))}, (∀ a ∈ out, a.length = 2 + 1) → atsSp ds out l = some bts → (∀ a ∈ bts, a.length = 2 + 1) ∧ bts.length ≤ out.length + l.length
 | [], out, bts, ho, h => by
  rw [atsSp] at h
  cases h
  exact ⟨ho, by simp⟩
 | a :: l, out, bts, ho, h => by
  rw [atsSp] at h
  split at h
  ·cases h
  ·obtain ⟨h1, h2⟩ := atsSp_len l ho h
   exact ⟨h1, by rw [lH]; omega⟩
  ·rename_i x hx
   split at h
   ·cases h
   ·obtain ⟨h1, h2⟩ := atsSp_len l (out := out ++ [x]) (fun b hb => by
     rcases List.mem_append.1 hb with hb | hb
     ·exact ho b hb
     ·rw [List.mem_singleton] at hb
      subst hb
      exact atSp_len hx) h
    rw [lF, List.length_singleton] at h2
    exact ⟨h1, by rw [lH]; omega⟩
mutual
theorem res_ok : ∀ (x : Tr) (ds : List (List UInt8 × List UInt8)) {y : Tr}, x.few → x.res ds = some y → y.ok 2 ∧ y.few
 | .node nm ats ks t, ds, y, hf, h => by
  unfold Tr.few at hf
  rw [Tr.res] at h
  split at h
  ·cases h
   unfold Tr.ok Tr.okL Tr.few Tr.fewL
   exact ⟨⟨rfl, by simp, trivial⟩, by simp, by simp, trivial⟩
  ·obtain ⟨d, _, h⟩ := oA.1 h
   obtain ⟨n, hn, h⟩ := oA.1 h
   obtain ⟨bts, hb, h⟩ := oA.1 h
   obtain ⟨k, hk, rfl⟩ := oB.1 h
   obtain ⟨a1, a2⟩ := atsSp_len ats (by simp) hb
   obtain ⟨b1, b2, b3⟩ := resL_ok ks _ hf.2.2 hk
   unfold Tr.ok Tr.few
   rw [List.length_nil] at a2
   exact ⟨⟨nameSp_len hn, a1, b1⟩, by have := hf.1; omega, by have := hf.2.1; omega, b2⟩
theorem resL_ok : ∀ (ks : List Tr) (ds : List (List UInt8 × List UInt8)) {ys : List Tr}, Tr.fewL ks → Tr.resL ds ks = some ys → Tr.okL 2 ys ∧ Tr.fewL ys ∧ ys.length = ks.length
 | [], ds, ys, _, h => by
  rw [resL_nil] at h
  cases h
  unfold Tr.okL Tr.fewL
  exact ⟨trivial, trivial, rfl⟩
 | k :: ks, ds, ys, hf, h => by
  unfold Tr.fewL at hf
  rw [resL_cons] at h
  obtain ⟨x, hx, h⟩ := oA.1 h
  obtain ⟨xs, hxs, rfl⟩ := oB.1 h
  obtain ⟨a1, a2⟩ := res_ok k ds hf.1 hx
  obtain ⟨b1, b2, b3⟩ := resL_ok ks ds hf.2 hxs
  unfold Tr.okL Tr.fewL
  exact ⟨⟨a1, b1⟩, ⟨a2, b2⟩, by simp [b3]⟩
end
theorem resolve_ok {x y : Tr} (hf : x.few) (h : resolveF x = some y) : y.ok 2 ∧ y.few := by
 unfold resolveF at h
 split at h
 ·exact res_ok x [] hf h
 ·cases h
theorem MapX.ne {w : World} {b n g : Nat} {f : List UInt8 → Option (List UInt8)} {t : TypeId} {cs : Array Value} (h : MapX w b n f) (hb : Blk w g t cs) : g ≠ b := by
 obtain ⟨D, ⟨es, clock, k, F, hs, hD⟩, h2⟩ := h
 rintro rfl
 unfold Blk at hb
 rw [hb] at k
 cases k
theorem below_grownBy {w w' : World} {B : Nat} {o : Option Nat} (h : w.grownBy w' o) (hB : ∀ g, o = some g → B ≤ g) (hw : B ≤ w.heap.size) : Below B w w' :=
 ⟨h.os, h.tape, h.output, h.size, fun k hk => h.block k (by omega) (fun e => by have := hB k e.symm; omega)⟩
theorem owns_blk {w : World} {B : Nat} {e : TypeId} {size n : Nat} {v : Value} {xs : List Value} (h : w.ownsRow B e size v n xs) (g : Nat) (hg : v.ownBlock = some g) : B ≤ g ∧ ∃ cur, Blk w g e cur := by
 rcases h.2 with ⟨rfl, _⟩ | ⟨g9, cap, cur, rfl, h1, h2, _⟩
 ·cases hg
 ·cases hg
  exact ⟨h1, cur, h2⟩
theorem But.owns2 {S : List Nat} {w w' : World} {base size n : Nat} {e : TypeId} {v : Value} {xs : List Value} (h : But S w w') (hS : ∀ g, v.ownBlock = some g → S.contains g = false) (ho : w.ownsRow base e size v n xs) : w'.ownsRow base e size v n xs := by
 refine ⟨ho.1, ?_⟩
 rcases ho.2 with h2 | ⟨g, cap, cur, rfl, hB, hh, r⟩
 ·exact .inl h2
 ·exact .inr ⟨g, cap, cur, rfl, hB, (h.block g (aA.1 hh).1 (hS g rfl)).trans hh, r⟩
theorem wpListIn_appAt {F : Fence} {nF : Nat} {P : Program} {w : World} {ops : Array Oper} {rest : List Oper} {o : Oper} {a : Act} {Q : Exit → Act → World → Prop} (s x : Operand) (t : TypeId) (hg : o.guard = none)
  (hop : o.op = .call { callee := .builtin .append, args := #[s, x], argTypes := #[t, t] })
  (base : Nat) (e : TypeId) (i : TypeInfo) (z : Value) (size bytes : Nat) (ht : P.underlying t = some (.slice e)) (hi : P.info? e = some i) (hz : i.zero = some z)
  (hsize : i.size = size) (hby : i.bytes = bytes) (hzs : z.cells.size = size) (hsz : 0 < size)
  (v : Value) (n : Nat) (xs : List Value) (hs : a.eval s = v) (hown : w.ownsRow base e size v n xs)
  (p : Option Addr) (m c : Nat) (news : List Value) (hx : a.eval x = CC p m c) (hl : news.length = m * size) (hr : Rd w p news) (h1 : ∀ u ∈ news, u.oneCell' = true)
  (h63 : n + m ≤ maxLen) (hbytes : (n + m) * bytes ≤ 140737488355328) (hbase : base ≤ w.heap.size)
  (h : ∀ v' w', w'.ownsRow base e size v' (n + m) (xs ++ news) → w.grownBy w' v.ownBlock → (v'.ownBlock = v.ownBlock ∨ v'.ownBlock = some w.heap.size) → wpListIn F nF P ops Q rest (a.put o.dst v') w') : wpListIn F nF P ops Q (o :: rest) a w := by
 obtain ⟨v', w', hrun, h2, h3, h4⟩ := run_appAt (P := P) base t o.type e i z size bytes ht hi hz hsize hby hzs hsz v n xs hown p m c news hl hr h1 h63 hbytes hbase
 have hK := h v' w' h2 h3 h4
 refine wpListIn_plain hg fun K' hK' => ?_
 unfold Oper.wpIn
 refine ⟨?_, ?_⟩
 ·simp [Oper.about, hop, resolve, Target.leads, Sem.run_pure]
 ·rw [Oper.semAt_plain F _ _ (by rw [hop]; intro c hc'; cases hc')]
  simp only [execOp, hop, resolve, invoke, builtin, Sem.run_bind, Sem.run_pure, Result.andThen_ok, List.map_toArray, List.map_cons, List.map_nil, hs, hx, hrun]
  exact hK' _ _ hK
structure WD (g0 D : Nat) (w W : World) : Prop where
 low : Below g0 w W
 out : Blk W g0 96 #[V ⟨#[]⟩, CC none 0 0, CC none 0 0, V ⟨#[]⟩]
 mark : W.heap[D]? = some (.deferred (some []))
theorem WD.below {g0 D : Nat} {w W W' : World} (h : WD g0 D w W) (hb : Below W.heap.size W W') : WD g0 D w W' :=
 ⟨h.low.trans (hb.mono (Nat.le_of_lt h.out.lt)), h.out.below hb h.out.lt, (hb.block D (aA.1 h.mark).1).trans h.mark⟩
theorem WD.only {g0 D g : Nat} {w W W' : World} (h : WD g0 D w W) (ho : Only g W W') (hg : g0 < g) {t : TypeId} {cs : Array Value} (hb : Blk W g t cs) : WD g0 D w W' :=
 ⟨h.low.trans (ho.below (Nat.le_of_lt hg)), ho.blk h.out (by omega), (ho.block D (fun e => by
  have := h.mark
  unfold Blk at hb
  rw [e, hb] at this
  cases this)).trans h.mark⟩
theorem WD.grown {g0 D B n : Nat} {w W W' : World} {e : TypeId} {size : Nat} {v : Value} {xs : List Value} (h : WD g0 D w W) (hg : W.grownBy W' v.ownBlock) (ho : W.ownsRow B e size v n xs) (hB : g0 < B) : WD g0 D w W' :=
 ⟨h.low.trans (below_grownBy hg (fun g hg' => by have := (owns_blk ho g hg').1; omega) (Nat.le_of_lt h.out.lt)), (hg.block g0 h.out.lt (fun e' => by have := (owns_blk ho g0 e'.symm).1; omega)).trans h.out,
  (hg.block D (aA.1 h.mark).1 (fun e' => by
   obtain ⟨_, cur, h2⟩ := owns_blk ho D e'.symm
   have := h.mark
   unfold Blk at h2
   rw [h2] at this
   cases this)).trans h.mark⟩
theorem leaves_one {F : Fence} {n : Nat} {P : Program} {fn : Func} {tmps : Array Value} {R : Ending → World → Prop} {D : Nat} {w : World} (hD : w.heap[D]? = some (.deferred (some [])))
  (h : ∃ v, (results fn tmps).run P (w.putObj D (.deferred none)) = .ok v (w.putObj D (.deferred none)) ∧ R (.returned v) (w.putObj D (.deferred none))) : LeavesInM F n P fn tmps R [{ target := .collected D, args := #[] }] .returning w := by
 unfold LeavesInM
 refine ⟨by simp, .inl ⟨D, _, rfl, run_takeDeferred hD, ?_⟩⟩
 unfold LeavesInM LeavesIn
 exact h
theorem leaves_one_p {F : Fence} {n : Nat} {P : Program} {fn : Func} {tmps : Array Value} {R : Ending → World → Prop} {D : Nat} {w : World} {ch : List PanicEntry} (hD : w.heap[D]? = some (.deferred (some [])))
  (h : R (.panicked ch) (w.putObj D (.deferred none))) : LeavesInM F n P fn tmps R [{ target := .collected D, args := #[] }] (.panicking ch) w := by
 unfold LeavesInM
 refine ⟨by simp, .inl ⟨D, _, rfl, run_takeDeferred hD, ?_⟩⟩
 unfold LeavesInM LeavesIn
 exact h
theorem below_mark {B D : Nat} {w W : World} {o : Obj} (h : Below B w W) (hB : B ≤ D) (hD : W.heap[D]? = some (.deferred (some []))) : Below B w (W.putObj D o) := by
 have hg := grownBy_putObj' W D o
 exact ⟨hg.os.trans h.os, hg.tape.trans h.tape, hg.output.trans h.output, nT h.size hg.size, fun i hi => (hg.block i (Nat.lt_of_lt_of_le hi (by
  have := h.size
  have := (aA.1 hD).1
  omega)) (fun e => by cases e; omega)).trans (h.block i hi)⟩
theorem WD.panics {g0 D B : Nat} {w W : World} {E : Nat → Addr} {o : Option Tr} {fn : Func} {tmps : Array Value} {F : Fence} {n : Nat} {P : Program} (h : WD g0 D w W) (hg : w.heap.size = g0) (hB : g0 < B) (hD : B ≤ D) (ho : o = none) :
  bodyPostM F n P fn (ElR E o w) (.panic (panE E 3)) { tmps := tmps, defers := [{ target := .collected D, args := #[] }] } W :=
 leaves_one_p h.mark ⟨by rw [hg]; exact below_mark h.low (by omega) h.mark, .inr ⟨ho, rfl⟩⟩
theorem tr_parts {w : World} {P : Nat → Prop} {y : Tr} {cs : List Value} (h : TrC w P y cs) (hok : y.ok 1) : ∃ e0 pa ca e2 e3, cs = [e0, CC pa y.ats.length ca, e2, e3] ∧ Rd w pa (acells y.ats) := by
 obtain ⟨nm, ats, ks, t⟩ := y
 unfold TrC at h
 unfold Tr.ok at hok
 obtain ⟨n, rfl⟩ := one_of hok.1
 obtain ⟨pa, ca, pk, ck, css, rfl, h2, _⟩ := h
 exact ⟨_, pa, ca, _, _, rfl, h2.2.2.1⟩
theorem acells_app (a b : List (List (List UInt8))) : acells (a ++ b) = acells a ++ acells b := by
 unfold acells
 simp
theorem acells_len {k : Nat} : ∀ {l : List (List (List UInt8))}, (∀ a ∈ l, a.length = k + 1) → (acells l).length = l.length * (k + 1)
 | [], _ => by simp [acells]
 | a :: l, h => by
  have ih := acells_len (l := l) fun b hb => h b (by simp [hb])
  have e : acells (a :: l) = strs a ++ acells l := by simp [acells]
  rw [e, lF, ih, strs_len, h a (by simp), lH, Nat.add_mul, Nat.one_mul, Nat.add_comm]
theorem acells_one (l : List (List (List UInt8))) : ∀ u ∈ acells l, u.oneCell' = true := by
 intro u hu
 unfold acells at hu
 obtain ⟨a, _, hu⟩ := List.mem_flatMap.1 hu
 unfold strs at hu
 obtain ⟨s, _, rfl⟩ := List.mem_map.1 hu
 rfl
theorem ok_ats {k : Nat} {y : Tr} (h : y.ok k) : ∀ a ∈ y.ats, a.length = k + 1 := by
 obtain ⟨nm, ats, ks, t⟩ := y
 unfold Tr.ok at h
 exact h.2.1
theorem TrC.mark {D : Nat} {o : Obj} {w : World} {P : Nat → Prop} {x : Tr} {cs : List Value} (h : TrC w P x cs) (hD : w.heap[D]? = some (.deferred (some []))) : TrC (w.putObj D o) P x cs :=
 h.keepP fun a v _ hv => by
  by_cases e : a.block = D
  ·exfalso
   simp [World.cell?, e, hD] at hv
  ·exact (World.cell?_of_block (World.putObj_heap_other e)).trans hv
theorem tr_with {w : World} {P : Nat → Prop} {y : Tr} {e0 e1 e2 e3 v' : Value} {l : List (List UInt8)} {base : Nat} (h : TrC w P y [e0, e1, e2, e3]) (hok : y.ok 1) (ho : w.ownsRow base XAT 2 v' (l.length + y.ats.length) (acells (declOf l) ++ acells y.ats)) (hP : ∀ b, v'.ownBlock = some b → P b) :
  TrC w P (withDecl l y) [e0, v', e2, e3] := by
 obtain ⟨nm, ats, ks, t⟩ := y
 unfold TrC at h
 unfold Tr.ok at hok
 obtain ⟨n, rfl⟩ := one_of hok.1
 obtain ⟨pa, ca, pk, ck, css, he, h2, h3, h4⟩ := h
 obtain ⟨p', c', rfl, r1, r2, r3⟩ := owns_rd ho
 cases he
 rw [withDecl]
 unfold TrC
 have hl : (declOf l ++ ats).length = l.length + ats.length := by rw [lF, decl_len]
 refine ⟨p', c', pk, ck, css, ?_, ⟨by rw [hl]; exact r1, r2, by rw [acells_app]; exact r3, fun a ha => hP _ (by rw [ha]; rfl)⟩, h3, h4⟩
 rw [hl]
 rfl
theorem w9_all {g0 D B go Ws : Nat} {w w7 w8 : World} {y : Tr} {l : List (List UInt8)} {e0 e2 e3 va v v' : Value} {hi n : Nat} {xs : List Value} (hd : WD g0 D w w7) (hT : TrC w7 (Bt Ws go none) y [e0, va, e2, e3]) (hok : y.ok 1) (ho : w7.ownsRow B XAT 2 v n xs) (hg8 : w7.grownBy w8 v.ownBlock)
  (ho8 : w8.ownsRow B XAT 2 v' (l.length + y.ats.length) (acells (declOf l) ++ acells y.ats)) (hb8 : Blk w8 go 96 #[e0, va, e2, e3]) (hg : w.heap.size = g0) (hB : g0 < B) (hv : ∀ g, v.ownBlock = some g → g < Ws) (hW : Ws ≤ go) (hlt : g0 < hi) (hgo : g0 < Ws) :
  WD g0 D w (w8.setCell ⟨go, 1, none⟩ v') ∧ Blk (w8.setCell ⟨go, 1, none⟩ v') go 96 #[e0, v', e2, e3] ∧ TrC (w8.setCell ⟨go, 1, none⟩ v') (Bt (w.heap.size + 1) (w8.setCell ⟨go, 1, none⟩ v').heap.size none) (withDecl l y) [e0, v', e2, e3] ∧ Below w.heap.size w (w8.setCell ⟨go, 1, none⟩ v') := by
 have on9 : Only go w8 (w8.setCell ⟨go, 1, none⟩ v') := (Only.refl go w8).set_ 1 v'
 have h9 := (hd.grown hg8 ho hB).only on9 (by omega) hb8
 have ho9 := on9.owns hb8 ho8 (by decide)
 have hgo8 := hb8.lt
 have hsz := on9.size
 refine ⟨h9, hb8.set_ 1 v', tr_with (((hT.grown hg8 (fun b hb e => ?_)).only on9 (fun b hb => ?_)).imp (Q := Bt (w.heap.size + 1) (w8.setCell ⟨go, 1, none⟩ v').heap.size none) fun b hb => ⟨?_, ?_, by simp⟩) hok ho9 (fun b hb => ⟨?_, ?_, by simp⟩), by rw [hg]; exact h9.low⟩
 ·have := hv b e; have := hb.1; omega
 ·have := hb.2.1; omega
 ·have := hb.1; omega
 ·have := hb.2.1; omega
 ·have := (ho9.lt b hb).1; omega
 ·exact (ho9.lt b hb).2
structure WJ (x : Tr) (cs : Array Value) (g0 gm gw gl ge B : Nat) (w : World) (k : Nat) (W : World) : Prop where
 low : Below g0 w W
 out : Blk W g0 96 #[V ⟨#[]⟩, CC none 0 0, CC none 0 0, V ⟨#[]⟩]
 box : Blk W gw 190 #[.map (some gm)]
 el : Blk W ge 44 cs
 mp : MapX W gm (metF [] (x.nms.take k)).length (prefOf (metF [] (x.nms.take k)))
 row : ∃ v, Blk W gl 93 #[v] ∧ W.ownsRow B XAT 2 v (metF [] (x.nms.take k)).length (acells (declOf (metF [] (x.nms.take k))))
section
variable {x : Tr} {cs : Array Value} {g0 gm gw gl ge B : Nat} {w W W' : World} {k : Nat}
theorem WJ.sees (h : WJ x cs g0 gm gw gl ge B w k W) {C : Nat} (hs : Sees C W W') (hm : gm < C) (h0 : g0 ≤ C) : WJ x cs g0 gm gw gl ge B w k W' :=
 ⟨hs.below h0 h.low (Nat.le_of_lt h.out.lt), hs.blk h.out, hs.blk h.box, hs.blk h.el, h.mp.kept fun o ho => (hs.low gm hm h.mp.lt).trans ho, let ⟨v, h1, h2⟩ := h.row; ⟨v, hs.blk h1, hs.owns h2⟩⟩
theorem WJ.step (h : WJ x cs g0 gm gw gl ge B w k W) (hl : metF [] (x.nms.take (k + 1)) = metF [] (x.nms.take k)) : WJ x cs g0 gm gw gl ge B w (k + 1) W :=
 ⟨h.low, h.out, h.box, h.el, by rw [hl]; exact h.mp, by rw [hl]; exact h.row⟩
theorem WJ.snoc (h : WJ x cs g0 gm gw gl ge B w k W) {l : List (List UInt8)} {s : List UInt8} (hl2 : metF [] (x.nms.take (k + 1)) = l ++ [s])
  (hgm : g0 ≤ gm ∧ gm < B) (hgl : g0 ≤ gl ∧ gl < B) {w1 w2 w3 w4 : World} (hb1 : Below W.heap.size W w1) (hm : MapX w2 gm (l.length + 1) (prefOf (l ++ [s]))) (hk2 : But [gm] w1 w2) (hb3 : Below w2.heap.size w2 w3) {v v' : Value} {n : Nat} {xs ys : List Value}
  (hv : Blk W gl 93 #[v]) (ho : W.ownsRow B XAT 2 v n xs) (ho4 : w4.ownsRow B XAT 2 v' (l.length + 1) ys) (hys : ys = acells (declOf (l ++ [s]))) (hg4 : w3.grownBy w4 v.ownBlock) :
  WJ x cs g0 gm gw gl ge B w (k + 1) (w4.setCell ⟨gl, 0, none⟩ v') ∧ KeepsFrom B W (w4.setCell ⟨gl, 0, none⟩ v') ∧ KT XAT B W (w4.setCell ⟨gl, 0, none⟩ v') := by
 have hmp1 : MapX w1 gm (metF [] (x.nms.take k)).length (prefOf (metF [] (x.nms.take k))) := h.mp.below hb1
 have e3 : ∀ (g : Nat) (t : TypeId) (c : Array Value), Blk W g t c → Blk w3 g t c := fun g t c hb => by
  have hb' := hb.below hb1 hb.lt
  have hne := hmp1.ne hb'
  have h2 := hk2.blk hb' (by simpa using hne)
  exact h2.below hb3 h2.lt
 have hown : ∀ g, v.ownBlock = some g → B ≤ g ∧ ∃ cur, Blk w3 g XAT cur := fun g hg => by
  obtain ⟨h1, cur, h2⟩ := owns_blk ho g hg
  exact ⟨h1, cur, e3 g _ _ h2⟩
 have e4 : ∀ (g : Nat) (t : TypeId) (c : Array Value), t ≠ XAT → Blk W g t c → Blk w4 g t c := fun g t c ht hb => by
  have hb3' := e3 g t c hb
  exact (hg4.block g hb3'.lt fun e => by
   obtain ⟨_, cur, h2⟩ := hown g e.symm
   exact (Blk.ne_ hb3' h2 ht) rfl).trans hb3'
 have hv4 := e4 _ _ _ (by decide) hv
 have on5 : Only gl w4 (w4.setCell ⟨gl, 0, none⟩ v') := (Only.refl gl w4).set_ 0 v'
 have e5 : ∀ (g : Nat) (t : TypeId) (c : Array Value), t ≠ XAT → g ≠ gl → Blk W g t c → Blk (w4.setCell ⟨gl, 0, none⟩ v') g t c := fun g t c ht hne hb => on5.blk (e4 g t c ht hb) hne
 have hs01 := hb1.size
 have hs12 := hk2.size
 have hs23 := hb3.size
 have hw0 : g0 ≤ W.heap.size := Nat.le_of_lt h.out.lt
 have hlow : Below g0 w w4 := by
  refine ((h.low.trans (hb1.mono hw0)).trans (hk2.below (fun s hs => ?_) (by omega))).trans ((hb3.mono (by omega)).trans (below_grownBy hg4 (fun g hg => ?_) (by omega)))
  ·rw [List.mem_singleton] at hs; omega
  ·have := (hown g hg).1; omega
 refine ⟨⟨hlow.trans (on5.below hgl.1), e5 _ _ _ (by decide) (Blk.ne_ h.out hv (by decide)) h.out, e5 _ _ _ (by decide) (Blk.ne_ h.box hv (by decide)) h.box, e5 _ _ _ (by decide) (Blk.ne_ h.el hv (by decide)) h.el, ?_, v', ?_, ?_⟩, ?_, ?_⟩
 ·rw [hl2, lF, List.length_singleton]
  have hne : gl ≠ gm := h.mp.ne hv
  refine hm.kept fun o ho => ?_
  have h2 := (hb3.block gm hm.lt).trans ho
  have h3 := (hg4.block gm (by have := hm.lt; omega) fun e => by have := (hown gm e.symm).1; omega).trans h2
  exact (on5.block gm (Ne.symm hne)).trans h3
 ·exact hv4.set_ 0 v'
 ·rw [hl2, lF, List.length_singleton, ← hys]
  exact on5.owns hv4 ho4 (by decide)
 ·refine (((KeepsFrom.of_grownBy (row := none) ⟨hb1.os, hb1.tape, hb1.output, hb1.size, fun i hi _ => hb1.block i hi⟩ (fun j hj => by cases hj)).trans ⟨hk2.size, fun i o hi ho' _ => (hk2.block i (aA.1 ho').1 (by have := hgm.2; simp; omega)).trans ho'⟩).trans
   (KeepsFrom.of_grownBy (row := none) ⟨hb3.os, hb3.tape, hb3.output, hb3.size, fun i hi _ => hb3.block i hi⟩ (fun j hj => by cases hj))).trans
   (((KeepsOthers.of_grownBy hg4 fun j o hj ho' => ?_).from B).trans ((KeepsOthers.setCell w4 ⟨gl, 0, none⟩ v').from B))
  obtain ⟨_, cur, h2⟩ := hown j hj
  unfold Blk at h2
  rw [h2] at ho'
  cases ho'
  rfl
 ·exact fun g t c ht hg hb => e5 g t c ht (by omega) hb
end
end
end Go.Proofs.YthboiahdheehkaaGreatDoor
