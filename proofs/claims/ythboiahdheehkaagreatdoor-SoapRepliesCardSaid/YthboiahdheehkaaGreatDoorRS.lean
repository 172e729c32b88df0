/- RefSm2 -/
import Derived.Test.YthboiahdheehkaaGreatDoorPD
import Derived.Test.YthboiahdheehkaaGreatDoorPA
import Derived.Test.YthboiahdheehkaaGreatDoorSQ
open List renaming setIfInBounds_toArray → lA, set_cons_succ → lB, set_cons_zero → lC, cons_append → lD, nil_append → lE, take_of_length_le → lQ
open Go.Lib renaming hid → hI
open Exists renaming intro → xI
open Nat renaming le_refl → nR
open Go.Proofs.Tryz renaming prog → pG
open Go.Value renaming string → S
open Go.Value renaming slice → C
open Go.Obj renaming cells → B
namespace Go.Proofs.YthboiahdheehkaaGreatDoor
section
set_option maxHeartbeats 8000000
set_option maxRecDepth 20000
open Go.RowKit Go.Extern.Stop Go.Stop Go.Extern
attribute [local go_sem] bs_toList
theorem rneqAttr2 (a0 a1 a2 b0 b1 b2 : List UInt8) (w : World) : (binOp .neq 91 (.agg #[S (bs a0), S (bs a1), S (bs a2)]) (.agg #[S (bs b0), S (bs b1), S (bs b2)])).run pG w = .ok (.bool (!((a0 == b0) && (a1 == b1) && (a2 == b2)))) w := by
 cases h0 : (a0 == b0)
 ·go_simp
 ·skip
  cases h1 : (a1 == b1)
  ·go_simp
  ·skip
   cases h2 : (a2 == b2) <;> go_simp
theorem rneqName2 (a0 a1 b0 b1 : List UInt8) (w : World) : (binOp .neq 51 (.agg #[S (bs a0), S (bs a1)]) (.agg #[S (bs b0), S (bs b1)])).run pG w = .ok (.bool (!((a0 == b0) && (a1 == b1)))) w := by
 cases h0 : (a0 == b0)
 ·go_simp
 ·skip
  cases h1 : (a1 == b1) <;> go_simp
theorem refsame2_any : ∀ (n : Nat) (x y : Tr) (P Q : Nat → Prop) (cx cy : List Value) (w : World), x.sz ≤ n → x.ok 2 → y.ok 2 → TrC w P x cx → TrC w Q y cy →
  Calls pG 36 #[.agg cx.toArray, .agg cy.toArray] w (Gives w (.bool (x.eqb y))) := by
 intro n
 induction n with
 | zero => intro x y P Q cx cy w hs; have := x.sz_pos; omega
 | succ n ih =>
  intro x y P Q cx cy w hs hx hy hcx hcy
  obtain ⟨nx, ax, kx, tx⟩ := x
  obtain ⟨ny, ay, ky, ty⟩ := y
  unfold TrC at hcx hcy
  unfold Tr.ok at hx hy
  obtain ⟨hx1, hx2, hx3⟩ := hx
  obtain ⟨hy1, hy2, hy3⟩ := hy
  obtain ⟨a0, a1, rfl⟩ := two_of hx1
  obtain ⟨b0, b1, rfl⟩ := two_of hy1
  obtain ⟨pa, ca, pk, ck, css, rfl, ⟨A1, A2, A3, -⟩, ⟨K1, K2, K3, -⟩, hL⟩ := hcx
  obtain ⟨qa, da, qk, dk, dss, rfl, ⟨B1, B2, B3, -⟩, ⟨M1, M2, M3, -⟩, hM⟩ := hcy
  show Calls pG 36 #[.agg #[S (bs a0), S (bs a1), C pa ax.length ca, C pk kx.length ck, S (bs tx)], .agg #[S (bs b0), S (bs b1), C qa ay.length da, C qk ky.length dk, S (bs ty)]] w _
  have HB := hI (below_alloc (below_alloc1 w (B #[S (bs a0), S (bs a1), C pa ax.length ca, C pk kx.length ck, S (bs tx)] 54)) (B #[S (bs b0), S (bs b1), C qa ay.length da, C qk ky.length dk, S (bs ty)] 54))
  have HN := hI ((Blk.new w 54 #[S (bs a0), S (bs a1), C pa ax.length ca, C pk kx.length ck, S (bs tx)]).alloc (B #[S (bs b0), S (bs b1), C qa ay.length da, C qk ky.length dk, S (bs ty)] 54))
  have HM := hI (show Blk ((w.alloc (B #[S (bs a0), S (bs a1), C pa ax.length ca, C pk kx.length ck, S (bs tx)] 54)).alloc (B #[S (bs b0), S (bs b1), C qa ay.length da, C qk ky.length dk, S (bs ty)] 54)) (w.heap.size + 1) 54 #[S (bs b0), S (bs b1), C qa ay.length da, C qk ky.length dk, S (bs ty)] from by
   have := Blk.new (w.alloc (B #[S (bs a0), S (bs a1), C pa ax.length ca, C pk kx.length ck, S (bs tx)] 54)) 54 #[S (bs b0), S (bs b1), C qa ay.length da, C qk ky.length dk, S (bs ty)]
   rwa [World.size_alloc] at this)
  have HA := hI A3; have HA' := hI B3; have HK := hI K3; have HK' := hI M3; have HL := hI hL; have HL' := hI hM
  have HX2 := hI hx2; have HX3 := hI hx3; have HY2 := hI hy2; have HY3 := hI hy3
  have IH := hI ih
  unfold maxLen at A2 K2 B2 M2
  have hs' : ∀ i (hi : i < kx.length), kx[i].sz ≤ n := fun i hi => by
   have := Tr.sz_kid (.node [a0, a1] ax kx tx) i hi
   simp only [Tr.ks] at this
   omega
  have HS := hI hs'
  clear A3 B3 K3 M3 hL hM hx1 hy1 hx2 hx3 hy2 hy3 ih hs hs'
  have q1 : ∀ i, (HN.out.cell i) = (HN.out.cell i) := fun _ => rfl
  clear q1
  obtain ⟨c0, c1, c2, c3, c4, -⟩ := HN.out.cc; obtain ⟨d0, d1, d2, d3, d4, -⟩ := HM.out.cc
  have en := fun w => rneqName2 a0 a1 b0 b1 w
  cases hN : ((a0 == b0) && (a1 == b1))
  ·simp only [hN, Bool.not_false] at en
   have HR := hI (show Tr.eqb (.node [a0, a1] ax kx tx) (.node [b0, b1] ay ky ty) = false by unfold Tr.eqb; have e : (([a0, a1] : List (List UInt8)) == [b0, b1]) = false := (by simpa using hN); rw [e]; simp)
   clear hN
   go_enter Tryz.func36, Tryz.ntmps36
   go_wp2_with fail
   go_ret
   exact ⟨by rw [HR.out]; rfl, HB.out⟩
  simp only [hN, Bool.not_true] at en
  have HNM := hI hN
  clear hN
  cases hT : (tx == ty)
  ·have HR := hI (show Tr.eqb (.node [a0, a1] ax kx tx) (.node [b0, b1] ay ky ty) = false by unfold Tr.eqb; rw [hT]; simp)
   go_enter Tryz.func36, Tryz.ntmps36
   go_wp2_with fail
   go_ret
   exact ⟨by rw [HR.out]; rfl, HB.out⟩
  have HTT := hI hT
  by_cases hla : ax.length = ay.length
  rotate_left 1
  ·have hne : ((ax.length : Int) != (ay.length : Int)) = true := by simp; omega
   have HR := hI (show Tr.eqb (.node [a0, a1] ax kx tx) (.node [b0, b1] ay ky ty) = false by unfold Tr.eqb; have : (ax == ay) = false := (by rw [beq_eq_false_iff_ne]; intro e; exact hla (by rw [e])); rw [this]; simp)
   go_enter Tryz.func36, Tryz.ntmps36
   go_wp2_with fail
   go_ret
   exact ⟨by rw [HR.out]; rfl, HB.out⟩
  have hne : ((ax.length : Int) != (ay.length : Int)) = false := by simp [hla]
  have HLA := hI hla
  have hla' : ax.length ≤ ay.length := by omega
  clear hla
  by_cases hlk : kx.length = ky.length
  rotate_left 1
  ·have hnk : ((kx.length : Int) != (ky.length : Int)) = true := by simp; omega
   have HR := hI (show Tr.eqb (.node [a0, a1] ax kx tx) (.node [b0, b1] ay ky ty) = false by unfold Tr.eqb; rw [Tr.eqbL_len hlk]; simp)
   go_enter Tryz.func36, Tryz.ntmps36
   go_wp2_with fail
   go_ret
   exact ⟨by rw [HR.out]; rfl, HB.out⟩
  have hnk : ((kx.length : Int) != (ky.length : Int)) = false := by simp [hlk]
  have HLK := hI hlk
  have hlk' : kx.length ≤ ky.length := by omega
  clear hlk
  go_enter Tryz.func36, Tryz.ntmps36
  go_wp2_with fail
  clear c0 d0 c1 d1 c2 d2 c3 d3 c4 d4 en hT hne hnk
  go_loopw [40] (fun i wr => ∃ j : Nat, j ≤ ax.length ∧ i = .int .i64 j ∧ ax.take j = ay.take j ∧ Below w.heap.size w wr ∧ Blk wr w.heap.size 54 #[S (bs a0), S (bs a1), C pa ax.length ca, C pk kx.length ck, S (bs tx)] ∧ Blk wr (w.heap.size + 1) 54 #[S (bs b0), S (bs b1), C qa ay.length da, C qk ky.length dk, S (bs ty)]) (fun i _ => ax.length - (intOf i).toNat)
  case atStart => exact ⟨0, by omega, rfl, rfl, HB.out, HN.out, HM.out⟩
  case round =>
   clear HN HM HB
   obtain ⟨j, hj, rfl, heq, hbw, hN, hM⟩ := hrel
   by_cases hlt : j < ax.length
   ·have hlt2 : j < ay.length := by omega
    obtain ⟨e1, o1, x0, x1, x2, rfl, hgx, hx0, hx1, hx2⟩ := at_2 HA.out HX2.out hlt
    obtain ⟨e2, o2, y0, y1, y2, rfl, hgy, hy0, hy1, hy2⟩ := at_2 HA'.out HY2.out hlt2
    have GX := hI hgx; have GY := hI hgy; have HEQ := hI heq
    clear hgx hgy heq
    have hx0 := Below.keeps hbw _ _ hx0
    have hy0 := Below.keeps hbw _ _ hy0
    have hx1 := Below.keeps hbw _ _ hx1
    have hy1 := Below.keeps hbw _ _ hy1
    have hx2 := Below.keeps hbw _ _ hx2
    have hy2 := Below.keeps hbw _ _ hy2
    have ne := fun w => rneqAttr2 x0 x1 x2 y0 y1 y2 w
    have k1 := (hN.cell 2).trans rfl; have k2 := (hM.cell 2).trans rfl
    have hlt' : (j : Int) < (ax.length : Int) := by omega
    have hlt2' : (j : Int) < (ay.length : Int) := by omega
    cases hE : ((x0 == y0) && (x1 == y1) && (x2 == y2))
    all_goals
     (first | simp only [hE, Bool.not_false] at ne | simp only [hE, Bool.not_true] at ne)
     have HE := hI hE
     clear hE
     go_wp2_with fail
     refine wp_phi (fun w' => (Blk w' w.heap.size 54 #[S (bs a0), S (bs a1), C (some ⟨e1, o1, none⟩) ax.length ca, C pk kx.length ck, S (bs tx)]) ∧ (Blk w' (w.heap.size + 1) 54 #[S (bs b0), S (bs b1), C (some ⟨e2, o2, none⟩) ay.length da, C qk ky.length dk, S (bs ty)]) ∧ (w'.cell? ⟨e1, o1 + j * 3, none⟩ = some (S (bs x0))) ∧ (w'.cell? ⟨e1, o1 + j * 3 + 1, none⟩ = some (S (bs x1))) ∧ (w'.cell? ⟨e1, o1 + j * 3 + 2, none⟩ = some (S (bs x2))) ∧ (w'.cell? ⟨e2, o2 + j * 3, none⟩ = some (S (bs y0))) ∧ (w'.cell? ⟨e2, o2 + j * 3 + 1, none⟩ = some (S (bs y1))) ∧ (w'.cell? ⟨e2, o2 + j * 3 + 2, none⟩ = some (S (bs y2))) ∧ Below w.heap.size w w') [] [] (by kernel_rfl) (by kernel_rfl) ?_ ?_ ⟨hN, hM, hx0, hx1, hx2, hy0, hy1, hy2, (hbw).drew⟩ ?_
     ·rintro w1' w2' ⟨f1, f2, gx0, gx1, gx2, gy0, gy1, gy2, hIB⟩ hb
      exact ⟨f1.below hb f1.lt, f2.below hb f2.lt, Below.keeps hb _ _ gx0, Below.keeps hb _ _ gx1, Below.keeps hb _ _ gx2, Below.keeps hb _ _ gy0, Below.keeps hb _ _ gy1, Below.keeps hb _ _ gy2, hIB.trans (hb.mono hIB.size)⟩
     ·intro p hp; cases hp
     repeat ((first | refine phi_skipK rfl (fun K hK => ?_) | (refine phi_pureK rfl rfl (fun K hK => ?_); apply xI; constructor; (focus (rintro w' ⟨f1, f2, gx0, gx1, gx2, gy0, gy1, gy2, hIB⟩; have k1 := (f1.cell 2).trans rfl; have k2 := (f2.cell 2).trans rfl; clear f1 f2 hIB; first | (go_simp; done) | (go_simp; (try go_bits); (try go_simp); rfl) | go_simp)))); simp only [Act.put, lA, lB, lC, lD, lE]; apply hK; clear hK K)
     refine phi_done ?_
     rintro w2 ⟨f1, f2, gx0, gx1, gx2, gy0, gy1, gy2, hbw2⟩ _
     refine wpList_nil ?_
     clear hx0 hy0 gx0 gy0 hx1 hy1 gx1 gy1 hx2 hy2 gx2 gy2 ne k1 k2 hN hM hbw
    ·have HR := hI (show Tr.eqb (.node [a0, a1] ax kx tx) (.node [b0, b1] ay ky ty) = false by
      rw [Bool.eq_false_iff]
      intro e
      have := Tr.eqb_eq _ _ e
      injection this with i1 i2 i3 i4
      subst i2
      have e3 := GX.out.symm.trans GY.out
      have e4 := HE.out
      simp only [List.cons.injEq, and_true] at e3
      simp [e3] at e4)
     go_wp2_with fail
     go_ret
     exact ⟨by rw [HR.out]; rfl, hbw2⟩
    ·go_wp2_with fail
     go_roundw
     case rel => exact ⟨j + 1, by omega, by go_num, take_step hlt hlt2 HEQ.out (by rw [GX.out, GY.out]; have := HE.out; simp only [Bool.and_eq_true, beq_iff_eq] at this; simp [this]), hbw2, f1, f2⟩
     case measure => simp [intOf]; omega
   ·obtain rfl : j = ax.length := by omega
    have HEQ := hI (show ax = ay by
     rw [lQ (nR _), HLA.out, lQ (nR _)] at heq
     exact heq)
    clear heq
    have k1 := (hN.cell 3).trans rfl
    go_wp2_with fail
    clear k1
    obtain ⟨wo, rfl⟩ : ∃ wo, wo = wr := ⟨_, rfl⟩
    go_loopw [58] (fun i wr => ∃ j : Nat, j ≤ kx.length ∧ i = .int .i64 j ∧ Tr.eqbL kx ky = Tr.eqbL (kx.drop j) (ky.drop j) ∧ Below w.heap.size w wr ∧ Blk wr w.heap.size 54 #[S (bs a0), S (bs a1), C pa ax.length ca, C pk kx.length ck, S (bs tx)] ∧ Blk wr (w.heap.size + 1) 54 #[S (bs b0), S (bs b1), C qa ay.length da, C qk ky.length dk, S (bs ty)]) (fun i _ => kx.length - (intOf i).toNat)
    case atStart => exact ⟨0, by omega, rfl, rfl, hbw, hN, hM⟩
    case round =>
     clear hbw hN hM
     obtain ⟨j, hj, rfl, heq, hbw, hN, hM⟩ := hrel
     by_cases hlt : j < kx.length
     ·have hlt2 : j < ky.length := by omega
      obtain ⟨e1, o1, m0, m1, u1, u2, u3, u4, u5, u6, u7, rfl, hgx, hT1, hk0, hk1, hk2, hk3, hk4⟩ := kid_2 HK.out HL.out HX3.out hlt
      obtain ⟨e2, o2, l0, l1, v1, v2, v3, v4, v5, v6, v7, rfl, hgy, hT2, hl0, hl1, hl2, hl3, hl4⟩ := kid_2 HK'.out HL'.out HY3.out hlt2
      have hr := Tr.eqbL_drop HLK.out hlt
      have HEQ := hI (heq.trans hr)
      have ok1 := okL_get 2 kx HX3.out j hlt
      have ok2 := okL_get 2 ky HY3.out j hlt2
      have ihc := hI (fun (w' : World) (h1 : TrC w' P kx[j] [S (bs m0), S (bs m1), C u4 u1.length u5, C u6 u2.length u7, S (bs u3)]) (h2 : TrC w' Q ky[j] [S (bs l0), S (bs l1), C v4 v1.length v5, C v6 v2.length v7, S (bs v3)]) => IH.out kx[j] ky[j] P Q _ _ w' (HS.out j hlt) ok1 ok2 h1 h2)
      clear heq hgx hgy hr ok1 ok2
      have hT1' := hT1.below hbw
      have hT2' := hT2.below hbw
      have hk0 := Below.keeps hbw _ _ hk0
      have hl0 := Below.keeps hbw _ _ hl0
      have hk1 := Below.keeps hbw _ _ hk1
      have hl1 := Below.keeps hbw _ _ hl1
      have hk2 := Below.keeps hbw _ _ hk2
      have hl2 := Below.keeps hbw _ _ hl2
      have hk3 := Below.keeps hbw _ _ hk3
      have hl3 := Below.keeps hbw _ _ hl3
      have hk4 := Below.keeps hbw _ _ hk4
      have hl4 := Below.keeps hbw _ _ hl4
      have k1 := (hN.cell 3).trans rfl; have k2 := (hM.cell 3).trans rfl
      have hlt' : (j : Int) < (kx.length : Int) := by omega
      have hlt2' : (j : Int) < (ky.length : Int) := by omega
      clear hT1 hT2
      generalize kx[j] = X at *
      generalize ky[j] = Y at *
      go_wp2_with fail
      refine wp_phi (fun w' => (Blk w' w.heap.size 54 #[S (bs a0), S (bs a1), C pa ax.length ca, C (some ⟨e1, o1, none⟩) kx.length ck, S (bs tx)]) ∧ (Blk w' (w.heap.size + 1) 54 #[S (bs b0), S (bs b1), C qa ay.length da, C (some ⟨e2, o2, none⟩) ky.length dk, S (bs ty)]) ∧ (TrC w' P X [S (bs m0), S (bs m1), C u4 u1.length u5, C u6 u2.length u7, S (bs u3)]) ∧ (TrC w' Q Y [S (bs l0), S (bs l1), C v4 v1.length v5, C v6 v2.length v7, S (bs v3)]) ∧ (w'.cell? ⟨e1, o1 + j * 5, none⟩ = some (S (bs m0))) ∧ (w'.cell? ⟨e1, o1 + j * 5 + 1, none⟩ = some (S (bs m1))) ∧ (w'.cell? ⟨e1, o1 + j * 5 + 2, none⟩ = some (C u4 u1.length u5)) ∧ (w'.cell? ⟨e1, o1 + j * 5 + 3, none⟩ = some (C u6 u2.length u7)) ∧ (w'.cell? ⟨e1, o1 + j * 5 + 4, none⟩ = some (S (bs u3))) ∧ (w'.cell? ⟨e2, o2 + j * 5, none⟩ = some (S (bs l0))) ∧ (w'.cell? ⟨e2, o2 + j * 5 + 1, none⟩ = some (S (bs l1))) ∧ (w'.cell? ⟨e2, o2 + j * 5 + 2, none⟩ = some (C v4 v1.length v5)) ∧ (w'.cell? ⟨e2, o2 + j * 5 + 3, none⟩ = some (C v6 v2.length v7)) ∧ (w'.cell? ⟨e2, o2 + j * 5 + 4, none⟩ = some (S (bs v3))) ∧ Below w.heap.size w w') [(10, PVal (.bool (X.eqb Y)))] [] (by kernel_rfl) (by kernel_rfl) ?_ ?_ ⟨hN, hM, hT1'.below (Below.refl _ _).drew, hT2'.below (Below.refl _ _).drew, hk0, hk1, hk2, hk3, hk4, hl0, hl1, hl2, hl3, hl4, (hbw).drew⟩ ?_
      ·rintro w1' w2' ⟨f1, f2, f3, f4, gk0, gk1, gk2, gk3, gk4, gl0, gl1, gl2, gl3, gl4, hIB⟩ hb
       exact ⟨f1.below hb f1.lt, f2.below hb f2.lt, f3.below hb, f4.below hb, Below.keeps hb _ _ gk0, Below.keeps hb _ _ gk1, Below.keeps hb _ _ gk2, Below.keeps hb _ _ gk3, Below.keeps hb _ _ gk4, Below.keeps hb _ _ gl0, Below.keeps hb _ _ gl1, Below.keeps hb _ _ gl2, Below.keeps hb _ _ gl3, Below.keeps hb _ _ gl4, hIB.trans (hb.mono hIB.size)⟩
      ·simp only [List.mem_cons, List.not_mem_nil, or_false, forall_eq_or_imp, forall_eq]
       exact fun _ _ _ _ h' h => PVal_stays _ _ _ _ h' h
      repeat ((first | refine phi_skipK rfl (fun K hK => ?_) | (refine phi_pureK rfl rfl (fun K hK => ?_); apply xI; constructor; (focus (rintro w' ⟨f1, f2, f3, f4, gk0, gk1, gk2, gk3, gk4, gl0, gl1, gl2, gl3, gl4, hIB⟩; have k1 := (f1.cell 3).trans rfl; have k2 := (f2.cell 3).trans rfl; clear f1 f2 f3 f4 hIB; first | (go_simp; done) | (go_simp; (try go_bits); (try go_simp); rfl) | go_simp)))); simp only [Act.put, lA, lB, lC, lD, lE]; apply hK; clear hK K)
      refine phi_partK (PVal (.bool (X.eqb Y))) rfl rfl ⟨_, rfl⟩ ?_ (fun K hK v hv => ?_)
      ·rintro w' ⟨f1, f2, f3, f4, gk0, gk1, gk2, gk3, gk4, gl0, gl1, gl2, gl3, gl4, hIB⟩ hf
       unfold gives
       clear hf
       go_simp
       refine (ihc.out _ f3 f4).mono ?_
       rintro e w'' ⟨rfl, hb⟩
       exact ⟨_, rfl, rfl, trivial, hb⟩
      obtain rfl : v = _ := hv
      simp only [Act.put, lA, lB, lC, lD, lE]
      apply hK
      clear hK K
      repeat ((first | refine phi_skipK rfl (fun K hK => ?_) | (refine phi_pureK rfl rfl (fun K hK => ?_); apply xI; constructor; (focus (rintro w' ⟨f1, f2, f3, f4, gk0, gk1, gk2, gk3, gk4, gl0, gl1, gl2, gl3, gl4, hIB⟩; have k1 := (f1.cell 3).trans rfl; have k2 := (f2.cell 3).trans rfl; clear f1 f2 f3 f4 hIB; first | (go_simp; done) | (go_simp; (try go_bits); (try go_simp); rfl) | go_simp)))); simp only [Act.put, lA, lB, lC, lD, lE]; apply hK; clear hK K)
      refine phi_done ?_
      rintro w2 ⟨f1, f2, f3, f4, gk0, gk1, gk2, gk3, gk4, gl0, gl1, gl2, gl3, gl4, hbw2⟩ _
      refine wpList_nil ?_
      clear hk0 hl0 gk0 gl0 hk1 hl1 gk1 gl1 hk2 hl2 gk2 gl2 hk3 hl3 gk3 gl3 hk4 hl4 gk4 gl4 k1 k2 hN hM hbw f3 f4 hT1' hT2' ihc
      cases hE : X.eqb Y
      ·have HR := hI (show Tr.eqb (.node [a0, a1] ax kx tx) (.node [b0, b1] ay ky ty) = false by unfold Tr.eqb; rw [HEQ.out, hE]; simp)
       go_wp2_with fail
       go_ret
       exact ⟨by rw [HR.out]; rfl, hbw2⟩
      ·rw [hE] at HEQ
       go_wp2_with fail
       go_roundw
       case rel => exact ⟨j + 1, by omega, by go_num, HEQ.out.trans (Bool.true_and _), hbw2, f1, f2⟩
       case measure => simp [intOf]; omega
     ·obtain rfl : j = kx.length := by omega
      go_wp2_with fail
      go_ret
      refine ⟨?_, hbw⟩
      rw [List.drop_of_length_le (nR _), HLK.out, List.drop_of_length_le (nR _)] at heq
      have e1 := HNM.out
      have e2 := HTT.out
      simp only [Bool.and_eq_true, beq_iff_eq] at e1 e2
      have e3 : Tr.eqbL kx ky = true := heq.trans rfl
      have e4 := HEQ.out
      have e5 : Tr.eqb (.node [a0, a1] ax kx tx) (.node [b0, b1] ay ky ty) = true := by
       unfold Tr.eqb
       rw [e3, e4]
       simp [e1, e2]
      rw [e5]
      rfl
end
section
set_option maxHeartbeats 8000000
set_option maxRecDepth 20000
open Go.RowKit Go.Extern.Stop Go.Stop Go.Extern
attribute [local go_sem] bs_toList
theorem refsame25_any (a b : Env) (ca cb : Array Value) (w : World) (ha : EnvC w a ca) (hb : EnvC w b cb) (oa : Tr.okL 2 a.hds ∧ a.bdy.ok 2) (ob : Tr.okL 2 b.hds ∧ b.bdy.ok 2) :
  Calls pG 14 #[.agg ca, .agg cb] w (Gives w (.bool (a.eqb b))) := by
 obtain ⟨act, tt, ii, frm, rel, hds, bdy⟩ := a
 obtain ⟨act', tt', ii', frm', rel', hds', bdy'⟩ := b
 obtain ⟨ph, ch, cssH, b0, b1, bt, pa, na, ca, pk, nk, ck, rfl, hbn, hch, hcm, hrd, hH, hB⟩ := ha
 obtain ⟨qh, dh, dssH, d0, d1, dt, qa, ma, da, qk, mk, dk, rfl, hbn', hdh, hdm, hrd', hH', hB'⟩ := hb
 simp only at hbn hch hrd hH hB hbn' hdh hrd' hH' hB' oa ob ⊢
 have HK := hI hrd; have HK' := hI hrd'; have HL := hI (TrXL.plain _ _ hH); have HL' := hI (TrXL.plain _ _ hH')
 have HX3 := hI oa.1; have HY3 := hI ob.1
 unfold maxLen at hcm hdm
 have HSB := hI (fun (w' : World) (hb : Below w.heap.size w w') => (refsame2_any _ bdy bdy' (fun _ => True) (fun _ => True) [S (bs b0), S (bs b1), C pa na ca, C pk nk ck, S (bs bt)] [S (bs d0), S (bs d1), C qa ma da, C qk mk dk, S (bs dt)] w' (nR _) oa.2 ob.2 (TrX.plain _ _ (hB.below hb)) (TrX.plain _ _ (hB'.below hb)) :
  Calls pG 36 #[.agg #[S (bs b0), S (bs b1), C pa na ca, C pk nk ck, S (bs bt)], .agg #[S (bs d0), S (bs d1), C qa ma da, C qk mk dk, S (bs dt)]] w' (Gives w' (.bool (bdy.eqb bdy')))))
 clear hbn hrd hH hB hbn' hrd' hH' hB' oa ob
 have HB := hI (below_alloc (below_alloc1 w (B #[S (bs act), S (bs tt), S (bs ii), S (bs frm), S (bs rel), C ph hds.length ch, S (bs b0), S (bs b1), C pa na ca, C pk nk ck, S (bs bt)] 56)) (B #[S (bs act'), S (bs tt'), S (bs ii'), S (bs frm'), S (bs rel'), C qh hds'.length dh, S (bs d0), S (bs d1), C qa ma da, C qk mk dk, S (bs dt)] 56))
 have hN := (Blk.new w 56 #[S (bs act), S (bs tt), S (bs ii), S (bs frm), S (bs rel), C ph hds.length ch, S (bs b0), S (bs b1), C pa na ca, C pk nk ck, S (bs bt)]).alloc (B #[S (bs act'), S (bs tt'), S (bs ii'), S (bs frm'), S (bs rel'), C qh hds'.length dh, S (bs d0), S (bs d1), C qa ma da, C qk mk dk, S (bs dt)] 56)
 have hM := Blk.new (w.alloc (B #[S (bs act), S (bs tt), S (bs ii), S (bs frm), S (bs rel), C ph hds.length ch, S (bs b0), S (bs b1), C pa na ca, C pk nk ck, S (bs bt)] 56)) 56 #[S (bs act'), S (bs tt'), S (bs ii'), S (bs frm'), S (bs rel'), C qh hds'.length dh, S (bs d0), S (bs d1), C qa ma da, C qk mk dk, S (bs dt)]
 rw [World.size_alloc] at hM
 have HN := hI hN
 have HM := hI hM
 obtain ⟨z0, z1, z2, z3, z4, z5, z6, z7, z8, z9, z10⟩ := hN.cc; obtain ⟨y0, y1, y2, y3, y4, y5, y6, y7, y8, y9, y10⟩ := hM.cc
 clear hN hM
 cases h0 : (act == act')
 ·have HR := hI (show Env.eqb ⟨act, tt, ii, frm, rel, hds, bdy⟩ ⟨act', tt', ii', frm', rel', hds', bdy'⟩ = false by unfold Env.eqb; rw [h0]; rfl)
  go_enter Tryz.func14, Tryz.ntmps14
  go_wp2_with fail
  go_ret
  exact ⟨by rw [HR.out]; rfl, HB.out⟩
 cases h1 : (tt == tt')
 ·have HR := hI (show Env.eqb ⟨act, tt, ii, frm, rel, hds, bdy⟩ ⟨act', tt', ii', frm', rel', hds', bdy'⟩ = false by unfold Env.eqb; rw [h0, h1]; rfl)
  go_enter Tryz.func14, Tryz.ntmps14
  go_wp2_with fail
  go_ret
  exact ⟨by rw [HR.out]; rfl, HB.out⟩
 cases h2 : (ii == ii')
 ·have HR := hI (show Env.eqb ⟨act, tt, ii, frm, rel, hds, bdy⟩ ⟨act', tt', ii', frm', rel', hds', bdy'⟩ = false by unfold Env.eqb; rw [h0, h1, h2]; rfl)
  go_enter Tryz.func14, Tryz.ntmps14
  go_wp2_with fail
  go_ret
  exact ⟨by rw [HR.out]; rfl, HB.out⟩
 cases h3 : (frm == frm')
 ·have HR := hI (show Env.eqb ⟨act, tt, ii, frm, rel, hds, bdy⟩ ⟨act', tt', ii', frm', rel', hds', bdy'⟩ = false by unfold Env.eqb; rw [h0, h1, h2, h3]; rfl)
  go_enter Tryz.func14, Tryz.ntmps14
  go_wp2_with fail
  go_ret
  exact ⟨by rw [HR.out]; rfl, HB.out⟩
 cases h4 : (rel == rel')
 ·have HR := hI (show Env.eqb ⟨act, tt, ii, frm, rel, hds, bdy⟩ ⟨act', tt', ii', frm', rel', hds', bdy'⟩ = false by unfold Env.eqb; rw [h0, h1, h2, h3, h4]; rfl)
  go_enter Tryz.func14, Tryz.ntmps14
  go_wp2_with fail
  go_ret
  exact ⟨by rw [HR.out]; rfl, HB.out⟩
 by_cases hlk : hds.length = hds'.length
 rotate_left 1
 ·have hnk : ((hds.length : Int) != (hds'.length : Int)) = true := by simp; omega
  have HR := hI (show Env.eqb ⟨act, tt, ii, frm, rel, hds, bdy⟩ ⟨act', tt', ii', frm', rel', hds', bdy'⟩ = false by unfold Env.eqb; rw [Tr.eqbL_len hlk]; simp)
  go_enter Tryz.func14, Tryz.ntmps14
  go_wp2_with fail
  go_ret
  exact ⟨by rw [HR.out]; rfl, HB.out⟩
 have hnk : ((hds.length : Int) != (hds'.length : Int)) = false := by simp [hlk]
 have HLK := hI hlk
 have hlk' : hds.length ≤ hds'.length := by omega
 have HR := hI (show Env.eqb ⟨act, tt, ii, frm, rel, hds, bdy⟩ ⟨act', tt', ii', frm', rel', hds', bdy'⟩ = (Tr.eqbL hds hds' && bdy.eqb bdy') by unfold Env.eqb; rw [h0, h1, h2, h3, h4]; rfl)
 clear hlk
 go_enter Tryz.func14, Tryz.ntmps14
 go_wp2_with fail
 refine (HSB.out _ HB.out).mono ?_
 rintro e w1 ⟨rfl, hb1⟩
 have HN1 := hI (HN.out.below hb1 HN.out.lt)
 have HM1 := hI (HM.out.below hb1 HM.out.lt)
 have HB1 := hI (HB.out.trans (hb1.mono HB.out.size))
 clear z0 z1 z2 z3 z4 z5 z6 z7 z8 z9 z10 y0 y1 y2 y3 y4 y5 y6 y7 y8 y9 y10 hb1 h0 h1 h2 h3 h4 hnk HSB
 cases hE : bdy.eqb bdy'
 ·have HE := hI hE
  clear hE
  go_wp2_with fail
  go_ret
  exact ⟨by rw [HR.out, HE.out, Bool.and_false]; rfl, HB1.out⟩
 have HE := hI hE
 clear hE
 have p5 := (HN1.out.cell 5).trans rfl
 go_wp2_with fail
 clear p5
 go_loopw [59] (fun i wr => ∃ j : Nat, j ≤ hds.length ∧ i = .int .i64 j ∧ Tr.eqbL hds hds' = Tr.eqbL (hds.drop j) (hds'.drop j) ∧ Below w.heap.size w wr ∧ Blk wr w.heap.size 56 #[S (bs act), S (bs tt), S (bs ii), S (bs frm), S (bs rel), C ph hds.length ch, S (bs b0), S (bs b1), C pa na ca, C pk nk ck, S (bs bt)] ∧ Blk wr (w.heap.size + 1) 56 #[S (bs act'), S (bs tt'), S (bs ii'), S (bs frm'), S (bs rel'), C qh hds'.length dh, S (bs d0), S (bs d1), C qa ma da, C qk mk dk, S (bs dt)]) (fun i _ => hds.length - (intOf i).toNat)
 case atStart => exact ⟨0, by omega, rfl, rfl, HB1.out, HN1.out, HM1.out⟩
 case round =>
  clear HN HM HB HN1 HM1 HB1
  obtain ⟨j, hj, rfl, heq, hbw, hN, hM⟩ := hrel
  by_cases hlt : j < hds.length
  ·have hlt2 : j < hds'.length := by omega
   obtain ⟨e1, o1, m0, m1, u1, u2, u3, u4, u5, u6, u7, rfl, hgx, hT1, hk0, hk1, hk2, hk3, hk4⟩ := kid_2 HK.out HL.out HX3.out hlt
   obtain ⟨e2, o2, l0, l1, v1, v2, v3, v4, v5, v6, v7, rfl, hgy, hT2, hl0, hl1, hl2, hl3, hl4⟩ := kid_2 HK'.out HL'.out HY3.out hlt2
   have hr := Tr.eqbL_drop HLK.out hlt
   have HEQ := hI (heq.trans hr)
   have ok1 := okL_get 2 hds HX3.out j hlt
   have ok2 := okL_get 2 hds' HY3.out j hlt2
   have ihc := hI (fun (w' : World) (h1 : TrC w' (fun _ => True) hds[j] [S (bs m0), S (bs m1), C u4 u1.length u5, C u6 u2.length u7, S (bs u3)]) (h2 : TrC w' (fun _ => True) hds'[j] [S (bs l0), S (bs l1), C v4 v1.length v5, C v6 v2.length v7, S (bs v3)]) => refsame2_any _ hds[j] hds'[j] (fun _ => True) (fun _ => True) _ _ w' (nR _) ok1 ok2 h1 h2)
   clear heq hgx hgy hr ok1 ok2
   have hT1' := hT1.below hbw
   have hT2' := hT2.below hbw
   have hk0 := Below.keeps hbw _ _ hk0
   have hl0 := Below.keeps hbw _ _ hl0
   have hk1 := Below.keeps hbw _ _ hk1
   have hl1 := Below.keeps hbw _ _ hl1
   have hk2 := Below.keeps hbw _ _ hk2
   have hl2 := Below.keeps hbw _ _ hl2
   have hk3 := Below.keeps hbw _ _ hk3
   have hl3 := Below.keeps hbw _ _ hl3
   have hk4 := Below.keeps hbw _ _ hk4
   have hl4 := Below.keeps hbw _ _ hl4
   have k1 := (hN.cell 5).trans rfl; have k2 := (hM.cell 5).trans rfl
   have hlt' : (j : Int) < (hds.length : Int) := by omega
   have hlt2' : (j : Int) < (hds'.length : Int) := by omega
   clear hT1 hT2
   generalize hds[j] = X at *
   generalize hds'[j] = Y at *
   go_wp2_with fail
   refine wp_phi (fun w' => (Blk w' w.heap.size 56 #[S (bs act), S (bs tt), S (bs ii), S (bs frm), S (bs rel), C (some ⟨e1, o1, none⟩) hds.length ch, S (bs b0), S (bs b1), C pa na ca, C pk nk ck, S (bs bt)]) ∧ (Blk w' (w.heap.size + 1) 56 #[S (bs act'), S (bs tt'), S (bs ii'), S (bs frm'), S (bs rel'), C (some ⟨e2, o2, none⟩) hds'.length dh, S (bs d0), S (bs d1), C qa ma da, C qk mk dk, S (bs dt)]) ∧ (TrC w' (fun _ => True) X [S (bs m0), S (bs m1), C u4 u1.length u5, C u6 u2.length u7, S (bs u3)]) ∧ (TrC w' (fun _ => True) Y [S (bs l0), S (bs l1), C v4 v1.length v5, C v6 v2.length v7, S (bs v3)]) ∧ (w'.cell? ⟨e1, o1 + j * 5, none⟩ = some (S (bs m0))) ∧ (w'.cell? ⟨e1, o1 + j * 5 + 1, none⟩ = some (S (bs m1))) ∧ (w'.cell? ⟨e1, o1 + j * 5 + 2, none⟩ = some (C u4 u1.length u5)) ∧ (w'.cell? ⟨e1, o1 + j * 5 + 3, none⟩ = some (C u6 u2.length u7)) ∧ (w'.cell? ⟨e1, o1 + j * 5 + 4, none⟩ = some (S (bs u3))) ∧ (w'.cell? ⟨e2, o2 + j * 5, none⟩ = some (S (bs l0))) ∧ (w'.cell? ⟨e2, o2 + j * 5 + 1, none⟩ = some (S (bs l1))) ∧ (w'.cell? ⟨e2, o2 + j * 5 + 2, none⟩ = some (C v4 v1.length v5)) ∧ (w'.cell? ⟨e2, o2 + j * 5 + 3, none⟩ = some (C v6 v2.length v7)) ∧ (w'.cell? ⟨e2, o2 + j * 5 + 4, none⟩ = some (S (bs v3))) ∧ Below w.heap.size w w') [(10, PVal (.bool (X.eqb Y)))] [] (by kernel_rfl) (by kernel_rfl) ?_ ?_ ⟨hN, hM, hT1'.below (Below.refl _ _).drew, hT2'.below (Below.refl _ _).drew, hk0, hk1, hk2, hk3, hk4, hl0, hl1, hl2, hl3, hl4, (hbw).drew⟩ ?_
   ·rintro w1' w2' ⟨f1, f2, f3, f4, gk0, gk1, gk2, gk3, gk4, gl0, gl1, gl2, gl3, gl4, hIB⟩ hb
    exact ⟨f1.below hb f1.lt, f2.below hb f2.lt, f3.below hb, f4.below hb, Below.keeps hb _ _ gk0, Below.keeps hb _ _ gk1, Below.keeps hb _ _ gk2, Below.keeps hb _ _ gk3, Below.keeps hb _ _ gk4, Below.keeps hb _ _ gl0, Below.keeps hb _ _ gl1, Below.keeps hb _ _ gl2, Below.keeps hb _ _ gl3, Below.keeps hb _ _ gl4, hIB.trans (hb.mono hIB.size)⟩
   ·simp only [List.mem_cons, List.not_mem_nil, or_false, forall_eq_or_imp, forall_eq]
    exact fun _ _ _ _ h' h => PVal_stays _ _ _ _ h' h
   repeat ((first | refine phi_skipK rfl (fun K hK => ?_) | (refine phi_pureK rfl rfl (fun K hK => ?_); apply xI; constructor; (focus (rintro w' ⟨f1, f2, f3, f4, gk0, gk1, gk2, gk3, gk4, gl0, gl1, gl2, gl3, gl4, hIB⟩; have k1 := (f1.cell 5).trans rfl; have k2 := (f2.cell 5).trans rfl; clear f1 f2 f3 f4 hIB; first | (go_simp; done) | (go_simp; (try go_bits); (try go_simp); rfl) | go_simp)))); simp only [Act.put, lA, lB, lC, lD, lE]; apply hK; clear hK K)
   refine phi_partK (PVal (.bool (X.eqb Y))) rfl rfl ⟨_, rfl⟩ ?_ (fun K hK v hv => ?_)
   ·rintro w' ⟨f1, f2, f3, f4, gk0, gk1, gk2, gk3, gk4, gl0, gl1, gl2, gl3, gl4, hIB⟩ hf
    unfold gives
    clear hf
    go_simp
    refine (ihc.out _ f3 f4).mono ?_
    rintro e w'' ⟨rfl, hb⟩
    exact ⟨_, rfl, rfl, trivial, hb⟩
   obtain rfl : v = _ := hv
   simp only [Act.put, lA, lB, lC, lD, lE]
   apply hK
   clear hK K
   repeat ((first | refine phi_skipK rfl (fun K hK => ?_) | (refine phi_pureK rfl rfl (fun K hK => ?_); apply xI; constructor; (focus (rintro w' ⟨f1, f2, f3, f4, gk0, gk1, gk2, gk3, gk4, gl0, gl1, gl2, gl3, gl4, hIB⟩; have k1 := (f1.cell 5).trans rfl; have k2 := (f2.cell 5).trans rfl; clear f1 f2 f3 f4 hIB; first | (go_simp; done) | (go_simp; (try go_bits); (try go_simp); rfl) | go_simp)))); simp only [Act.put, lA, lB, lC, lD, lE]; apply hK; clear hK K)
   refine phi_done ?_
   rintro w2 ⟨f1, f2, f3, f4, gk0, gk1, gk2, gk3, gk4, gl0, gl1, gl2, gl3, gl4, hbw2⟩ _
   refine wpList_nil ?_
   clear hk0 hl0 gk0 gl0 hk1 hl1 gk1 gl1 hk2 hl2 gk2 gl2 hk3 hl3 gk3 gl3 hk4 hl4 gk4 gl4 k1 k2 hN hM hbw f3 f4 hT1' hT2' ihc
   cases hE : X.eqb Y
   ·have HQ := hI (show Tr.eqbL hds hds' = false by rw [HEQ.out, hE]; simp)
    go_wp2_with fail
    go_ret
    exact ⟨by rw [HR.out, HQ.out]; rfl, hbw2⟩
   ·rw [hE] at HEQ
    go_wp2_with fail
    go_roundw
    case rel => exact ⟨j + 1, by omega, by go_num, HEQ.out.trans (Bool.true_and _), hbw2, f1, f2⟩
    case measure => simp [intOf]; omega
  ·obtain rfl : j = hds.length := by omega
   go_wp2_with fail
   go_ret
   refine ⟨?_, hbw⟩
   rw [List.drop_of_length_le (nR _), HLK.out, List.drop_of_length_le (nR _)] at heq
   rw [HR.out, HE.out, heq.trans (rfl : Tr.eqbL [] [] = true)]
   rfl
end
end Go.Proofs.YthboiahdheehkaaGreatDoor
