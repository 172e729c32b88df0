/- Elem25 -/
import Derived.Test.YthboiahdheehkaaGreatDoorPD
import Derived.Test.YthboiahdheehkaaGreatDoorPA
import Derived.Test.YthboiahdheehkaaGreatDoorSQ
open List renaming setIfInBounds_toArray → lA, set_cons_succ → lB, set_cons_zero → lC, cons_append → lD, nil_append → lE, not_mem_nil → lG, mem_cons → lI, take_append_drop → lJ, take_succ_cons → lK, drop_succ_cons → lL, take_zero → lM, drop_zero → lN, contains_iff_mem → lO, take_of_length_le → lQ, take_succ_eq_append_getElem → lR
open Exists renaming intro → xI
open Nat renaming le_refl → nR, le_trans → nT
open Go.Proofs.Tryz renaming prog → pG
open Go.Value renaming string → S
open Go.Value renaming slice → C
open Go.Value renaming agg → D
open Go.Obj renaming cells → F
namespace Go.Proofs.YthboiahdheehkaaGreatDoor
section
set_option maxHeartbeats 16000000
set_option maxRecDepth 20000
open Go.RowKit Go.Extern.Stop Go.Stop Go.Extern
attribute [local go_sem] bs_toList
attribute [local irreducible] wpPhi wpPhiU
theorem elem25_infoA : (pG.info? 91).map (fun i => (i.zero, i.size, i.bytes)) = some (some (D #[S ⟨#[]⟩, S ⟨#[]⟩, S ⟨#[]⟩]), 3, 48) := by kernel_rfl
theorem elem25_infoE : (pG.info? 54).map (fun i => (i.zero, i.size, i.bytes)) = some (some (D #[S ⟨#[]⟩, S ⟨#[]⟩, C none 0 0, C none 0 0, S ⟨#[]⟩]), 5, 96) := by kernel_rfl
theorem elem25_any : ∀ (n : Nat) (x : Tr) (P : Nat → Prop) (cx : List Value) (w : World), x.sz ≤ n → x.ok 2 → x.sm → TrC w P x cx →
  Calls pG 18 #[.agg cx.toArray] w (TrR x w) := by
 intro n
 induction n with
 | zero => intro x P cx w hs; have := x.sz_pos; omega
 | succ n ih =>
  intro x P cx w hs hx hsm hcx
  obtain ⟨nx, ax, kx, tx⟩ := x
  unfold TrC at hcx
  unfold Tr.ok at hx
  unfold Tr.sm at hsm
  obtain ⟨hx1, hx2, hx3⟩ := hx
  obtain ⟨hm1, hm2, hm3⟩ := hsm
  obtain ⟨a0, a1, rfl⟩ := two_of hx1
  obtain ⟨pa, ca, pk, ck, css, rfl, ⟨A1, A2, A3, -⟩, ⟨K1, K2, K3, -⟩, hL⟩ := hcx
  show Calls pG 18 #[D #[S (bs a0), S (bs a1), C pa ax.length ca, C pk kx.length ck, S (bs tx)]] w _
  obtain ⟨i0, hi0, hz0, hz1, hz2⟩ := info_parts elem25_infoA
  obtain ⟨i9, hi9, hy0, hy1, hy2⟩ := info_parts elem25_infoE
  have hs' : ∀ i (hi : i < kx.length), kx[i].sz ≤ n := fun i hi => by
   have := Tr.sz_kid (.node [a0, a1] ax kx tx) i hi
   simp only [Tr.ks] at this
   omega
  have HS := Lib.hid hs'
  have HA := Lib.hid A3; have HK := Lib.hid K3; have HL := Lib.hid hL
  have HX2 := Lib.hid hx2; have HX3 := Lib.hid hx3; have HM3 := Lib.hid hm3
  have IH := Lib.hid ih
  unfold maxLen at A2 K2
  obtain ⟨w3, hw3⟩ : ∃ w3, w3 = ((w.alloc (F #[S (bs a0), S (bs a1), C pa ax.length ca, C pk kx.length ck, S (bs tx)] 44)).alloc (F #[S ⟨#[]⟩, S ⟨#[]⟩, C none 0 0, C none 0 0, S ⟨#[]⟩] 54)).alloc (F #[S (bs a0), S (bs a1), C none 0 0, C none 0 0, S (bs tx)] 54) := ⟨_, rfl⟩
  have B3 := Lib.hid (show Below w.heap.size w w3 by rw [hw3]; exact below_alloc (below_alloc (below_alloc1 w _) _) _)
  have N1 := Lib.hid (show Blk w3 w.heap.size 44 #[S (bs a0), S (bs a1), C pa ax.length ca, C pk kx.length ck, S (bs tx)] by rw [hw3]; exact ((Blk.new w _ _).alloc _).alloc _)
  have N2 := Lib.hid (show Blk w3 (w.heap.size + 1) 54 #[S ⟨#[]⟩, S ⟨#[]⟩, C none 0 0, C none 0 0, S ⟨#[]⟩] by
   rw [hw3]
   have := (Blk.new (w.alloc (F #[S (bs a0), S (bs a1), C pa ax.length ca, C pk kx.length ck, S (bs tx)] 44)) 54 #[S ⟨#[]⟩, S ⟨#[]⟩, C none 0 0, C none 0 0, S ⟨#[]⟩]).alloc (F #[S (bs a0), S (bs a1), C none 0 0, C none 0 0, S (bs tx)] 54)
   rwa [World.size_alloc] at this)
  have N3 := Lib.hid (show Blk w3 (w.heap.size + 1 + 1) 54 #[S (bs a0), S (bs a1), C none 0 0, C none 0 0, S (bs tx)] by
   rw [hw3]
   have := Blk.new ((w.alloc (F #[S (bs a0), S (bs a1), C pa ax.length ca, C pk kx.length ck, S (bs tx)] 44)).alloc (F #[S ⟨#[]⟩, S ⟨#[]⟩, C none 0 0, C none 0 0, S ⟨#[]⟩] 54)) 54 #[S (bs a0), S (bs a1), C none 0 0, C none 0 0, S (bs tx)]
   rwa [World.size_alloc, World.size_alloc] at this)
  have HW3 := Lib.hid hw3
  have hc : ∀ i, ((w.alloc (F #[S (bs a0), S (bs a1), C pa ax.length ca, C pk kx.length ck, S (bs tx)] 44)).alloc (F #[S ⟨#[]⟩, S ⟨#[]⟩, C none 0 0, C none 0 0, S ⟨#[]⟩] 54)).cell? ⟨w.heap.size, i, none⟩ = (#[S (bs a0), S (bs a1), C pa ax.length ca, C pk kx.length ck, S (bs tx)] : Array Value)[i]? := fun i => ((Blk.new w 44 #[S (bs a0), S (bs a1), C pa ax.length ca, C pk kx.length ck, S (bs tx)]).alloc _).cell i
  have hc3 : ∀ i, (((w.alloc (F #[S (bs a0), S (bs a1), C pa ax.length ca, C pk kx.length ck, S (bs tx)] 44)).alloc (F #[S ⟨#[]⟩, S ⟨#[]⟩, C none 0 0, C none 0 0, S ⟨#[]⟩] 54)).alloc (F #[S (bs a0), S (bs a1), C none 0 0, C none 0 0, S (bs tx)] 54)).cell? ⟨w.heap.size, i, none⟩ = (#[S (bs a0), S (bs a1), C pa ax.length ca, C pk kx.length ck, S (bs tx)] : Array Value)[i]? := fun i => (((Blk.new w 44 #[S (bs a0), S (bs a1), C pa ax.length ca, C pk kx.length ck, S (bs tx)]).alloc _).alloc _).cell i
  have c0 := (hc 0).trans rfl
  have c1 := (hc 1).trans rfl
  have c4 := (hc 4).trans rfl
  have d2 := (hc3 2).trans rfl
  clear A3 K3 hL hx1 hx2 hx3 hm3 ih hs hs' hw3 hc hc3
  go_enter Tryz.func18, Tryz.ntmps18
  go_wp2_with fail
  rw [← HW3.out]
  clear c0 c1 c4 d2
  go_loopw [16] (fun i wr => ∃ (j : Nat) (v : Value), j ≤ ax.length ∧ i = .int .i64 j ∧ wr.ownsRow (w.heap.size + 3) 91 3 v j (acells (ax.take j)) ∧ Blk wr w.heap.size 44 #[S (bs a0), S (bs a1), C pa ax.length ca, C pk kx.length ck, S (bs tx)] ∧ Blk wr (w.heap.size + 1) 54 #[S ⟨#[]⟩, S ⟨#[]⟩, C none 0 0, C none 0 0, S ⟨#[]⟩] ∧ Blk wr (w.heap.size + 1 + 1) 54 #[S (bs a0), S (bs a1), v, C none 0 0, S (bs tx)] ∧ Below w.heap.size w wr) (fun i _ => ax.length - (intOf i).toNat)
  case atStart => exact ⟨0, C none 0 0, by omega, rfl, ⟨by simp [acells], .inl ⟨rfl, rfl⟩⟩, N1.out, N2.out, N3.out, B3.out⟩
  case round =>
   clear N1 N2 N3 B3 HW3
   obtain ⟨j, v, hj, rfl, hown, hN, hM, hO, hbw⟩ := hrel
   by_cases hlt : j < ax.length
   ·obtain ⟨e1, o1, x0, x1, x2, rfl, hgx, hx0, hx1, hx2⟩ := at_2 HA.out HX2.out hlt
    have hx0 := Below.keeps hbw _ _ hx0
    have hx1 := Below.keeps hbw _ _ hx1
    have hx2 := Below.keeps hbw _ _ hx2
    have hat : acells (ax.take (j + 1)) = acells (ax.take j) ++ [S (bs x0), S (bs x1), S (bs x2)] := by
     rw [lR hlt, acells_snoc, hgx]; rfl
    have HAT := Lib.hid hat
    have hlt' : (j : Int) < (ax.length : Int) := by omega
    obtain ⟨pv, cv, rfl, _, _, _⟩ := owns_rd hown
    have hs1 : w.heap.size + 3 ≤ wr.heap.size := by have := hO.lt; omega
    have hs2 : w.heap.size + 3 ≤ ((wr.alloc (F #[S (bs x0), S (bs x1), S (bs x2)] 87)).alloc (F #[S (bs x0), S (bs x1), S (bs x2)] 91)).heap.size := by simp; omega
    have k1 : (wr.alloc (F #[S (bs x0), S (bs x1), S (bs x2)] 87)).cell? ⟨w.heap.size + 1 + 1, 2, none⟩ = some (C pv j cv) := ((hO.alloc _).cell 2).trans rfl
    have hown2 := owns_below (owns_below hown (below_alloc1 wr (F #[S (bs x0), S (bs x1), S (bs x2)] 87))) (below_alloc1 _ (F #[S (bs x0), S (bs x1), S (bs x2)] 91))
    have hN2 := (hN.alloc (F #[S (bs x0), S (bs x1), S (bs x2)] 87)).alloc (F #[S (bs x0), S (bs x1), S (bs x2)] 91)
    have hM2 := (hM.alloc (F #[S (bs x0), S (bs x1), S (bs x2)] 87)).alloc (F #[S (bs x0), S (bs x1), S (bs x2)] 91)
    have hO2 := (hO.alloc (F #[S (bs x0), S (bs x1), S (bs x2)] 87)).alloc (F #[S (bs x0), S (bs x1), S (bs x2)] 91)
    have hb2 := below_alloc (below_alloc hbw (F #[S (bs x0), S (bs x1), S (bs x2)] 87)) (F #[S (bs x0), S (bs x1), S (bs x2)] 91)
    have HN2 := Lib.hid hN2; have HM2 := Lib.hid hM2; have HO2 := Lib.hid hO2; have HB2 := Lib.hid hb2; have HOW := Lib.hid hown2
    clear hgx hat hown hN hM hO hbw hN2 hM2 hO2 hb2 hown2
    go_wp2_with (at_builtin; refine wpList_app (.tmp 21) (.tmp 27) 52 rfl rfl (w.heap.size + 3) 91 i0 (D #[S ⟨#[]⟩, S ⟨#[]⟩, S ⟨#[]⟩]) 3 48 Tryz.underlying52 hi0 hz0 hz1 hz2 rfl (by decide) _ _ _ rfl HOW.out _ _ _ [S (bs x0), S (bs x1), S (bs x2)] rfl rfl (rd_at _ #[_, _, _] _ _ _ (by simp)) ?b1 ?b2 ?b3 hs2 ?_)
    case b1 => simp [Value.oneCell']
    case b2 => unfold maxLen; omega
    case b3 => omega
    intro v1 w1 ho1 hg1
    obtain ⟨p1, cp1, rfl, _, _, _⟩ := owns_rd ho1
    have hlo : ∀ g, (C pv j cv).ownBlock = some g → w.heap.size + 3 ≤ g := fun g hg => (HOW.out.lt g hg).1
    have hN1 : Blk w1 w.heap.size 44 #[S (bs a0), S (bs a1), C (some ⟨e1, o1, none⟩) ax.length ca, C pk kx.length ck, S (bs tx)] := (hg1.block _ HN2.out.lt fun e => by have := hlo _ e.symm; omega).trans HN2.out
    have hM1 : Blk w1 (w.heap.size + 1) 54 #[S ⟨#[]⟩, S ⟨#[]⟩, C none 0 0, C none 0 0, S ⟨#[]⟩] := (hg1.block _ HM2.out.lt fun e => by have := hlo _ e.symm; omega).trans HM2.out
    have hO1 : Blk w1 (w.heap.size + 1 + 1) 54 #[S (bs a0), S (bs a1), C pv j cv, C none 0 0, S (bs tx)] := (hg1.block _ HO2.out.lt fun e => by have := hlo _ e.symm; omega).trans HO2.out
    have hb1 := HB2.out.grown hg1 (by simp; omega) fun g hg => by have := hlo g hg; omega
    have c1 := (hO1.cell 2).trans rfl
    have f1 := hO1.frozen 2
    have R1 := Lib.hid (show Blk (w1.setCell ⟨w.heap.size + 1 + 1, 2, none⟩ (C p1 (j + 1) cp1)) w.heap.size 44 #[S (bs a0), S (bs a1), C (some ⟨e1, o1, none⟩) ax.length ca, C pk kx.length ck, S (bs tx)] from hN1.far (by omega) _ _)
    have R2 := Lib.hid (show Blk (w1.setCell ⟨w.heap.size + 1 + 1, 2, none⟩ (C p1 (j + 1) cp1)) (w.heap.size + 1) 54 #[S ⟨#[]⟩, S ⟨#[]⟩, C none 0 0, C none 0 0, S ⟨#[]⟩] from hM1.far (by omega) _ _)
    have R3 := Lib.hid (show Blk (w1.setCell ⟨w.heap.size + 1 + 1, 2, none⟩ (C p1 (j + 1) cp1)) (w.heap.size + 1 + 1) 54 #[S (bs a0), S (bs a1), C p1 (j + 1) cp1, C none 0 0, S (bs tx)] from hO1.set_ 2 (C p1 (j + 1) cp1))
    have R4 := Lib.hid (show Below w.heap.size w (w1.setCell ⟨w.heap.size + 1 + 1, 2, none⟩ (C p1 (j + 1) cp1)) from hb1.setCell (show w.heap.size ≤ w.heap.size + 1 + 1 by omega) _)
    have R5 := Lib.hid (show (w1.setCell ⟨w.heap.size + 1 + 1, 2, none⟩ (C p1 (j + 1) cp1)).ownsRow (w.heap.size + 3) 91 3 (C p1 (j + 1) cp1) (j + 1) (acells (ax.take (j + 1))) from ((Only.refl _ w1).set_ 2 (C p1 (j + 1) cp1)).owns2 (by rw [HAT.out]; exact ho1) (by omega))
    clear hx0 hx1 hx2 k1 hlo hN1 hM1 hO1 hb1 ho1 hg1 HN2 HM2 HO2 HB2 HOW HAT
    go_wp2_with fail
    go_roundw
    case rel => exact ⟨j + 1, C p1 (j + 1) cp1, by omega, by go_num, R5.out, R1.out, R2.out, R3.out, R4.out⟩
    case measure => simp [intOf]; omega
   ·obtain rfl : j = ax.length := by omega
    rw [lQ (nR _)] at hown
    have k1 := (hN.cell 3).trans rfl
    go_wp2_with fail
    clear k1
    obtain ⟨wo, rfl⟩ : ∃ wo, wo = wr := ⟨_, rfl⟩
    obtain ⟨va, rfl⟩ : ∃ va, va = v := ⟨_, rfl⟩
    go_loopw [34] (fun i wr => ∃ (j : Nat) (v : Value) (css : List (List Value)), j ≤ kx.length ∧ i = .int .i64 j ∧ wr.ownsRow (w.heap.size + 3) 54 5 v j css.flatten ∧ TrL wr (Bt (w.heap.size + 3) wr.heap.size v.ownBlock) (kx.take j) css ∧ wr.ownsRow (w.heap.size + 3) 91 3 va ax.length (acells ax) ∧ Blk wr w.heap.size 44 #[S (bs a0), S (bs a1), C pa ax.length ca, C pk kx.length ck, S (bs tx)] ∧ Blk wr (w.heap.size + 1) 54 #[S ⟨#[]⟩, S ⟨#[]⟩, C none 0 0, C none 0 0, S ⟨#[]⟩] ∧ Blk wr (w.heap.size + 1 + 1) 54 #[S (bs a0), S (bs a1), va, v, S (bs tx)] ∧ Below w.heap.size w wr) (fun i _ => kx.length - (intOf i).toNat)
    case atStart => exact ⟨0, C none 0 0, [], by omega, rfl, ⟨rfl, .inl ⟨rfl, rfl⟩⟩, (by unfold TrL; rfl), hown, hN, hM, hO, hbw⟩
    case round =>
     clear hown hN hM hO hbw
     obtain ⟨j, v, ds, hj, rfl, hrow, hkids, hown, hN, hM, hO, hbw⟩ := hrel
     by_cases hlt : j < kx.length
     ·obtain ⟨e1, o1, m0, m1, u1, u2, u3, u4, u5, u6, u7, rfl, hgx, hT1, hk0, hk1, hk2, hk3, hk4⟩ := kid_2 HK.out HL.out HX3.out hlt
      have ok1 := okL_get 2 kx HX3.out j hlt
      have sm1 := smL_get kx HM3.out j hlt
      have ihc := Lib.hid (fun (w' : World) (h1 : TrC w' P kx[j] [S (bs m0), S (bs m1), C u4 u1.length u5, C u6 u2.length u7, S (bs u3)]) => IH.out kx[j] P _ w' (HS.out j hlt) ok1 sm1 h1)
      have HGX := Lib.hid hgx
      have HTK := Lib.hid (lR hlt)
      clear ok1 sm1 hgx
      have hk0 := Below.keeps hbw _ _ hk0
      have hk1 := Below.keeps hbw _ _ hk1
      have hk2 := Below.keeps hbw _ _ hk2
      have hk3 := Below.keeps hbw _ _ hk3
      have hk4 := Below.keeps hbw _ _ hk4
      generalize kx[j] = X at *
      have hlt' : (j : Int) < (kx.length : Int) := by omega
      obtain ⟨pv, cv, rfl, _, _, _⟩ := owns_rd hrow
      have hs1 : w.heap.size + 3 ≤ wr.heap.size := by have := hO.lt; omega
      have hvlt : ∀ g, (C pv j cv).ownBlock = some g → w.heap.size + 3 ≤ g ∧ g < wr.heap.size := fun g hg => hrow.lt g hg
      have HVL := Lib.hid hvlt
      have HT := Lib.hid hT1
      have G1 := Lib.hid (hN.alloc (F #[S (bs m0), S (bs m1), C u4 u1.length u5, C u6 u2.length u7, S (bs u3)] 44)); have G2 := Lib.hid (hM.alloc (F #[S (bs m0), S (bs m1), C u4 u1.length u5, C u6 u2.length u7, S (bs u3)] 44)); have G3 := Lib.hid (hO.alloc (F #[S (bs m0), S (bs m1), C u4 u1.length u5, C u6 u2.length u7, S (bs u3)] 44))
      have G4 := Lib.hid (Blk.new wr 44 #[S (bs m0), S (bs m1), C u4 u1.length u5, C u6 u2.length u7, S (bs u3)])
      have G5 := Lib.hid (owns_below hown (below_alloc1 wr (F #[S (bs m0), S (bs m1), C u4 u1.length u5, C u6 u2.length u7, S (bs u3)] 44)))
      have G6 := Lib.hid (owns_below hrow (below_alloc1 wr (F #[S (bs m0), S (bs m1), C u4 u1.length u5, C u6 u2.length u7, S (bs u3)] 44)))
      have G7 := Lib.hid (hkids.below (below_alloc1 wr (F #[S (bs m0), S (bs m1), C u4 u1.length u5, C u6 u2.length u7, S (bs u3)] 44)))
      have G8 := Lib.hid (below_alloc hbw (F #[S (bs m0), S (bs m1), C u4 u1.length u5, C u6 u2.length u7, S (bs u3)] 44))
      clear hT1 hvlt hown hrow hkids hN hM hO hbw
      go_wp2_with fail
      clear hk0 hk1 hk2 hk3 hk4
      have hsz : (wr.alloc (F #[S (bs m0), S (bs m1), C u4 u1.length u5, C u6 u2.length u7, S (bs u3)] 44)).heap.size = wr.heap.size + 1 := by simp
      generalize wr.alloc (F #[S (bs m0), S (bs m1), C u4 u1.length u5, C u6 u2.length u7, S (bs u3)] 44) = wa at *
      refine wp_phiU_tail (List.take 7 _) (List.drop 7 _) (lJ 7 _).symm (rT 5 (w.heap.size + 3) 5 54 (C pv j cv) j)
       (fun w' => Blk w' (w.heap.size + 1 + 1) 54 #[S (bs a0), S (bs a1), va, C pv j cv, S (bs tx)] ∧ Blk w' wr.heap.size 44 #[S (bs m0), S (bs m1), C u4 u1.length u5, C u6 u2.length u7, S (bs u3)] ∧ Blk w' w.heap.size 44 #[S (bs a0), S (bs a1), C pa ax.length ca, C (some ⟨e1, o1, none⟩) kx.length ck, S (bs tx)] ∧ Blk w' (w.heap.size + 1) 54 #[S ⟨#[]⟩, S ⟨#[]⟩, C none 0 0, C none 0 0, S ⟨#[]⟩] ∧ w'.ownsRow (w.heap.size + 3) 91 3 va ax.length (acells ax) ∧ TrL w' (Bt (w.heap.size + 3) wr.heap.size (C pv j cv).ownBlock) (kx.take j) ds ∧ Below w.heap.size w w' ∧ wr.heap.size + 1 ≤ w'.heap.size)
       [(3, PKid (fun v => ∃ p1 c1 p2 c2, v = D #[S (bs m0), S (bs m1), C p1 u1.length c1, C p2 u2.length c2, S (bs u3)]) wr.heap.size X), (4, POne wr.heap.size 54 X), (5, PRow (w.heap.size + 3) 5 54 (j + 1) (kx.take j) ds X)] [(4, [3]), (5, [3, 4])] [(5, fun w' => w'.ownsRow (w.heap.size + 3) 54 5 (C pv j cv) j ds.flatten)] [] (by kernel_rfl) (by kernel_rfl) ?_ ?_ ?_ ?_ ?_ ?_
      ·rintro p _ w1 w2 ⟨g1, g2, g3, g4, g5, g6, g7, g8⟩ hR
       exact ⟨rT_blklo hR g1 (by omega), rT_blk hR g2 (fun e => by have := (HVL.out _ e).2; omega), rT_blklo hR g3 (by omega), rT_blklo hR g4 (by omega), rT_owns hR g5 (by decide), rT_trl hR g6 (fun b hb => hb.2.2), rT_below hR g7 (by omega) (by omega), nT g8 (rT_size hR)⟩
      ·intro p hp p' hp' hne hks hns w1 w2 v hI hR hf
       have hv : ∀ g, (C pv j cv).ownBlock = some g → g < wr.heap.size := fun g hg => (HVL.out g hg).2
       simp only [lI, lG, or_false] at hp hp'
       rcases hp with rfl | rfl | rfl
       ·exact PKid_stays hR hv hf
       ·exact POne_stays hR hv hf
       ·rcases hp' with rfl | rfl | rfl
        ·exact absurd (show (3 : Nat) ∈ needs [(4, [3]), (5, [3, 4])] 5 by decide) hns
        ·exact absurd (show (4 : Nat) ∈ needs [(4, [3]), (5, [3, 4])] 5 by decide) hns
        ·exact absurd rfl hne
      ·intro p hp u hu hne w1 w2 hI hR hf
       simp only [lI, lG, or_false] at hp hu
       subst hu
       rcases hp with rfl | rfl | rfl
       ·have hR := rT_o (show (3 : Nat) ≠ 5 by decide) ▸ hR
        exact owns_below hf hR
       ·have hR := rT_o (show (4 : Nat) ≠ 5 by decide) ▸ hR
        exact owns_below hf hR
       ·exact absurd rfl hne
      ·intro u hu
       simp only [lI, lG, or_false] at hu
       subst hu
       exact owns_below G6.out (Below.refl _ _).drew
      ·exact ⟨G3.out, G4.out, G1.out, G2.out, owns_below G5.out (Below.refl _ _).drew, G7.out.below (Below.refl _ _).drew, G8.out.drew, by show wr.heap.size + 1 ≤ wa.heap.size; omega⟩
      simp only [lK, lM, lL, lN]
      clear G1 G2 G3 G4 G5 G6 G7 G8
      repeat ((first | refine phiU_skipK rfl (fun K hK => ?_) | (refine phiU_pureK rfl rfl (fun K hK => ?_); apply xI; constructor; (focus (rintro w' ⟨g1, g2, g3, g4, g5, g6, g7, g8⟩; have k1 := (g1.cell 3).trans rfl; obtain ⟨q0, q1, q2, q3, q4, -⟩ := g2.cc; clear g1 g2 g3 g4 g5 g6 g7 g8; first | (go_simp; done) | (go_simp; (try go_bits); (try go_simp); rfl) | go_simp)))); simp only [Act.put, lA, lB, lC, lD, lE]; apply hK; clear hK K)
      refine phiU_partK (PKid (fun v => ∃ p1 c1 p2 c2, v = D #[S (bs m0), S (bs m1), C p1 u1.length c1, C p2 u2.length c2, S (bs u3)]) wr.heap.size X) rfl rfl ⟨_, none, 0, none, 0, rfl⟩ ?_ (fun K hK v hv => ?_)
      ·rintro w' ⟨g1, g2, g3, g4, g5, g6, g7, g8⟩ hf hu
       clear hf hu
       unfold gives
       have HG := Lib.hid (And.intro g7 g8)
       clear g1 g2 g3 g4 g5 g6 g7 g8
       go_simp
       refine (ihc.out w' (HT.out.below HG.out.1)).mono ?_
       rintro e w'' ⟨cs, rfl, hcs, hb⟩
       obtain ⟨p1, c1, p2, c2, rfl⟩ : ∃ p1 c1 p2 c2, cs = [S (bs m0), S (bs m1), C p1 u1.length c1, C p2 u2.length c2, S (bs u3)] := by
        have h := hcs
        rw [HGX.out] at h
        unfold TrC at h
        obtain ⟨p1, c1, p2, c2, _, e, _⟩ := h
        exact ⟨p1, c1, p2, c2, e.trans rfl⟩
       exact ⟨_, rfl, ⟨p1, c1, p2, c2, rfl⟩, ⟨_, w''.heap.size, rfl, hcs.imp (fun b hb => ⟨nT HG.out.2 hb.1, hb.2.1, hb.2.2⟩), nR _⟩, by rw [rT_o (by decide)]; exact hb⟩
      obtain ⟨p1, c1, p2, c2, rfl⟩ := hv
      simp only [Act.put, lA, lB, lC, lD, lE]
      apply hK
      clear hK K
      refine phiU_partK (POne wr.heap.size 54 X) rfl rfl ⟨_, 0, rfl⟩ ?_ (fun K hK v hv => ?_)
      ·rintro w' ⟨g1, g2, g3, g4, g5, g6, g7, g8⟩ hf hu
       have h3 := hf (3, fun w1 => (PKid (fun v => ∃ p1 c1 p2 c2, v = D #[S (bs m0), S (bs m1), C p1 u1.length c1, C p2 u2.length c2, S (bs u3)]) wr.heap.size X).fact w1 (D #[S (bs m0), S (bs m1), C p1 u1.length c1, C p2 u2.length c2, S (bs u3)])) (by simp) (lO.1 rfl) rfl
       have HG := Lib.hid (And.intro h3 g8)
       clear hf hu h3 g1 g2 g3 g4 g5 g6 g7 g8
       unfold gives
       go_simp
       refine ⟨⟨_, rfl⟩, fun g hg => ?_, by rw [rT_o (by decide)]; exact below_alloc1 _ _⟩
       obtain rfl : w'.heap.size = g := by simpa using hg
       obtain ⟨⟨cs, B, e3, t3, b3⟩, g8⟩ := HG.out
       injection e3 with e3
       refine ⟨by omega, cs, B, ?_, t3.below (below_alloc1 _ _), nT b3 (below_alloc1 w' _).size⟩
       rw [← e3]
       exact Blk.new _ _ _
      obtain ⟨g9, rfl⟩ := hv
      simp only [Act.put, lA, lB, lC, lD, lE]
      apply hK
      clear hK K
      refine phiU_partK (PRow (w.heap.size + 3) 5 54 (j + 1) (kx.take j) ds X) rfl rfl ⟨_, none, 0, rfl⟩ ?_ (fun K hK v hv => ?_)
      ·rintro w' ⟨g1, g2, g3, g4, g5, g6, g7, g8⟩ hf hu
       have h4 := hf (4, fun w1 => (POne wr.heap.size 54 X).fact w1 (C (some ⟨g9, 0, none⟩) 1 1)) (by simp) (lO.1 rfl) rfl
       obtain ⟨h4b, cs, B, b4, t4, l4⟩ := h4 g9 rfl
       have hu8 : w'.ownsRow (w.heap.size + 3) 54 5 (C pv j cv) j ds.flatten := hu (5, fun w' => w'.ownsRow (w.heap.size + 3) 54 5 (C pv j cv) j ds.flatten) (by simp) rfl
       have hv : ∀ g, (C pv j cv).ownBlock = some g → g < wr.heap.size := fun g hg => (HVL.out g hg).2
       clear hf hu h4
       refine gives_appAt (.tmp 39) (.tmp 42) 50 rfl (w.heap.size + 3) 54 i9 (D #[S ⟨#[]⟩, S ⟨#[]⟩, C none 0 0, C none 0 0, S ⟨#[]⟩]) 5 96 Tryz.underlying50 hi9 hy0 hy1 hy2 rfl (by decide) _ _ _ rfl hu8 _ _ _ cs rfl (by rw [t4.len, HGX.out]; rfl) (.inr ⟨g9, 0, rfl, fun i u hiu => ?_⟩) t4.one (by unfold maxLen; omega) (by omega) (by omega) ?_
       ·rw [Nat.zero_add, b4.cell]
        simpa using hiu
       intro v2 w2 ho2 hg2 hat2
       obtain ⟨p2, c2, rfl, _, _, _⟩ := owns_rd ho2
       refine ⟨⟨p2, c2, rfl⟩, prow_step hg2 hat2 hv (by omega) (by omega) g6 t4 l4 (by rw [flat_snoc]; exact ho2), ?_⟩
       rw [rT_at]
       exact ⟨⟨_, hu8⟩, hg2⟩
      obtain ⟨p8, c8, rfl⟩ := hv
      simp only [Act.put, lA, lB, lC, lD, lE]
      apply hK
      clear hK K
      repeat ((first | refine phiU_skipK rfl (fun K hK => ?_) | (refine phiU_pureK rfl rfl (fun K hK => ?_); apply xI; constructor; (focus (rintro w' ⟨g1, g2, g3, g4, g5, g6, g7, g8⟩; have k1 := (g1.cell 3).trans rfl; obtain ⟨q0, q1, q2, q3, q4, -⟩ := g2.cc; clear g1 g2 g3 g4 g5 g6 g7 g8; first | (go_simp; done) | (go_simp; (try go_bits); (try go_simp); rfl) | go_simp)))); simp only [Act.put, lA, lB, lC, lD, lE]; apply hK; clear hK K)
      refine phiU_done ?_
      rintro w9 ⟨g1, g2, g3, g4, g5, g6, g7, g8⟩ hf
      obtain ⟨cs, ho9, hk9⟩ := hf (5, fun w1 => (PRow (w.heap.size + 3) 5 54 (j + 1) (kx.take j) ds X).fact w1 (C p8 (j + 1) c8)) (by simp) rfl
      have f1 := g1.frozen 3
      have k1 := (g1.cell 3).trans rfl
      have O9 := ((Only.refl (w.heap.size + 1 + 1) w9).set_ 3 (C p8 (j + 1) c8))
      have R1 := Lib.hid (O9.blk g3 (by omega))
      have R2 := Lib.hid (O9.blk g4 (by omega))
      have R3 := Lib.hid (show Blk (w9.setCell ⟨w.heap.size + 1 + 1, 3, none⟩ (C p8 (j + 1) c8)) (w.heap.size + 1 + 1) 54 #[S (bs a0), S (bs a1), va, C p8 (j + 1) c8, S (bs tx)] from g1.set_ 3 _)
      have R4 := Lib.hid (g7.setCell (p := ⟨w.heap.size + 1 + 1, 3, none⟩) (show w.heap.size ≤ w.heap.size + 1 + 1 by omega) (C p8 (j + 1) c8))
      have R5 := Lib.hid (O9.owns2 ho9 (by omega))
      have R6 := Lib.hid (O9.owns2 g5 (by omega))
      have R7 := Lib.hid (hk9.only O9 (fun b hb => by have := hb.1; omega))
      rw [show w9.heap.size = (w9.setCell ⟨w.heap.size + 1 + 1, 3, none⟩ (C p8 (j + 1) c8)).heap.size from O9.size.symm] at R7
      rw [← HTK.out] at R7
      clear hf g1 g2 g3 g4 g5 g6 g7 g8 O9 ho9 hk9 ihc HT HVL
      go_wp2_with fail
      go_roundw
      case rel => exact ⟨j + 1, C p8 (j + 1) c8, ds ++ [cs], by omega, by go_num, R5.out, R7.out, R6.out, R1.out, R2.out, R3.out, R4.out⟩
      case measure => simp [intOf]; omega
     ·obtain rfl : j = kx.length := by omega
      rw [lQ (nR _)] at hkids
      obtain ⟨pA, cA, rfl, yy1, yy2, yy3, yy4⟩ := owns_rdP hown
      obtain ⟨pv, cv, rfl, zz1, zz2, zz3, zz4⟩ := owns_rdP hrow
      obtain ⟨r0, r1, r2, r3, r4, -⟩ := hO.cc
      have HMb := Lib.hid hM
      have HFIN := Lib.hid (show ∀ w', Only (w.heap.size + 1) wr w' → TrC w' (Bt w.heap.size w'.heap.size none) (.node [a0, a1] ax kx tx) [S (bs a0), S (bs a1), C pA ax.length cA, C pv kx.length cv, S (bs tx)] from fun w' k => by
       have e := k.size
       have q1 : Rd w' pA (acells ax) := yy3.keepP (P := fun b => w.heap.size + 3 ≤ b) (fun a ha => (yy4 a ha).1) fun a v hp hc => (World.cell?_of_block (k.block a.block (by omega))).trans hc
       have q2 : Rd w' pv ds.flatten := zz3.keepP (P := fun b => w.heap.size + 3 ≤ b) (fun a ha => (zz4 a ha).1) fun a v hp hc => (World.cell?_of_block (k.block a.block (by omega))).trans hc
       unfold TrC
       exact ⟨pA, cA, pv, cv, ds, rfl, ⟨yy1, yy2, q1, fun a ha => ⟨by have := (yy4 a ha).1; omega, by rw [e]; exact (yy4 a ha).2, by simp⟩⟩, ⟨zz1, zz2, q2, fun a ha => ⟨by have := (zz4 a ha).1; omega, by rw [e]; exact (zz4 a ha).2, by simp⟩⟩,
        (hkids.only k (fun b hb => by have := hb.1; omega)).imp fun b hb => ⟨by have := hb.1; omega, by rw [e]; exact hb.2.1, by simp⟩⟩)
      have HBW := Lib.hid hbw
      clear hM hN hO hown hrow hkids yy1 yy2 yy3 yy4 zz1 zz2 zz3 zz4 hbw
      go_wp2_with (refine wpList_store (.tmp 2) (.tmp 46) 54 rfl rfl (w.heap.size + 1) 0 _ _ #[S (bs a0), S (bs a1), C pA ax.length cA, C pv kx.length cv, S (bs tx)] rfl rfl HMb.out ?s0 ?s1 ?s2 ?_)
      case s0 => kernel_rfl
      case s1 => simp [Value.oneCell']
      case s2 => simp
      intro w8 hb8 ho8
      rw [putCells_all #[S ⟨#[]⟩, S ⟨#[]⟩, C none 0 0, C none 0 0, S ⟨#[]⟩] #[S (bs a0), S (bs a1), C pA ax.length cA, C pv kx.length cv, S (bs tx)] rfl] at hb8
      obtain ⟨z0, z1, z2, z3, z4, -⟩ := hb8.cc
      have HB8 := Lib.hid hb8; have HO8 := Lib.hid ho8
      clear r0 r1 r2 r3 r4 hb8 ho8
      go_wp2_with fail
      refine bodyPost_ret (v := D #[S (bs a0), S (bs a1), C pA ax.length cA, C pv kx.length cv, S (bs tx)]) (by simp [results, Tryz.results18, go_sem, z0, z1, z2, z3, z4]) rfl ?_
      exact ⟨[S (bs a0), S (bs a1), C pA ax.length cA, C pv kx.length cv, S (bs tx)], rfl, HFIN.out w8 HO8.out, HBW.out.trans (Only.below HO8.out (by omega))⟩
end
section
set_option maxHeartbeats 16000000
set_option maxRecDepth 20000
open Go.RowKit Go.Extern.Stop Go.Stop Go.Extern
attribute [local go_sem] bs_toList
attribute [local irreducible] wpPhi wpPhiU wpPhiJ
theorem told25_any (e : Env) (cs : Array Value) (w : World) (hc : EnvC w e cs) (hf : e.fit) :
  Calls pG 15 #[.agg cs] w fun en w' => ∃ cs', en = .returned (.agg cs') ∧ EnvC w' e cs' ∧ Below w.heap.size w w' := by
 obtain ⟨act, tt, ii, frm, rel, hds, bdy⟩ := e
 obtain ⟨ph, ch, cssH, b0, b1, bt, pa, na, ca, pk, nk, ck, rfl, hbn, hch, hcm, hrd, hH, hB⟩ := hc
 obtain ⟨⟨ok1, ok2⟩, ⟨sm1, sm2⟩, hln⟩ := hf
 simp only at hbn hch hrd hH hB ok1 ok2 sm1 sm2 hln ⊢
 obtain ⟨i9, hi9, hy0, hy1, hy2⟩ := info_parts elem25_infoE
 have HB := Lib.hid hB; have HK := Lib.hid hrd; have HL := Lib.hid (TrXL.plain _ _ hH); have HX3 := Lib.hid ok1; have HM3 := Lib.hid sm1; have HOK := Lib.hid ok2; have HSM := Lib.hid sm2; have HBN := Lib.hid hbn; have HLN := Lib.hid hln
 unfold maxLen at hcm
 have hba := below_alloc (below_alloc1 w (F #[S (bs act), S (bs tt), S (bs ii), S (bs frm), S (bs rel), C ph hds.length ch, S (bs b0), S (bs b1), C pa na ca, C pk nk ck, S (bs bt)] 46)) (F #[S ⟨#[]⟩, S ⟨#[]⟩, S ⟨#[]⟩, S ⟨#[]⟩, S ⟨#[]⟩, C none 0 0, S ⟨#[]⟩, S ⟨#[]⟩, C none 0 0, C none 0 0, S ⟨#[]⟩] 56)
 have hn1 := (Blk.new w 46 #[S (bs act), S (bs tt), S (bs ii), S (bs frm), S (bs rel), C ph hds.length ch, S (bs b0), S (bs b1), C pa na ca, C pk nk ck, S (bs bt)]).alloc (F #[S ⟨#[]⟩, S ⟨#[]⟩, S ⟨#[]⟩, S ⟨#[]⟩, S ⟨#[]⟩, C none 0 0, S ⟨#[]⟩, S ⟨#[]⟩, C none 0 0, C none 0 0, S ⟨#[]⟩] 56)
 have hn2 := Blk.new (w.alloc (F #[S (bs act), S (bs tt), S (bs ii), S (bs frm), S (bs rel), C ph hds.length ch, S (bs b0), S (bs b1), C pa na ca, C pk nk ck, S (bs bt)] 46)) 56 #[S ⟨#[]⟩, S ⟨#[]⟩, S ⟨#[]⟩, S ⟨#[]⟩, S ⟨#[]⟩, C none 0 0, S ⟨#[]⟩, S ⟨#[]⟩, C none 0 0, C none 0 0, S ⟨#[]⟩]
 rw [World.size_alloc] at hn2
 have HBA := Lib.hid hba; have HN1 := Lib.hid hn1; have HN2 := Lib.hid hn2
 clear hbn hrd hH hB ok1 ok2 sm1 sm2 hln hba hn1 hn2
 go_enter Tryz.func15, Tryz.ntmps15
 go_wp2_with fail
 generalize (w.alloc (F #[S (bs act), S (bs tt), S (bs ii), S (bs frm), S (bs rel), C ph hds.length ch, S (bs b0), S (bs b1), C pa na ca, C pk nk ck, S (bs bt)] 46)).alloc (F #[S ⟨#[]⟩, S ⟨#[]⟩, S ⟨#[]⟩, S ⟨#[]⟩, S ⟨#[]⟩, C none 0 0, S ⟨#[]⟩, S ⟨#[]⟩, C none 0 0, C none 0 0, S ⟨#[]⟩] 56) = w2 at *
 refine wp_phiJ_tail (List.take 15 _) (List.drop 15 _) (lJ 15 _).symm (fun w' => Blk w' w.heap.size 46 #[S (bs act), S (bs tt), S (bs ii), S (bs frm), S (bs rel), C ph hds.length ch, S (bs b0), S (bs b1), C pa na ca, C pk nk ck, S (bs bt)] ∧ Blk w' (w.heap.size + 1) 56 #[S ⟨#[]⟩, S ⟨#[]⟩, S ⟨#[]⟩, S ⟨#[]⟩, S ⟨#[]⟩, C none 0 0, S ⟨#[]⟩, S ⟨#[]⟩, C none 0 0, C none 0 0, S ⟨#[]⟩] ∧ Below w.heap.size w w') [(12, PTree (w.heap.size + 2) (TvT bdy) (fun v => ∃ qa ma da qk mk dk dt, v = D #[S (bs b0), S (bs b1), C qa ma da, C qk mk dk, S (bs dt)])), (14, PNew (w.heap.size + 2) 56 #[S ⟨#[]⟩, S ⟨#[]⟩, S ⟨#[]⟩, S ⟨#[]⟩, S ⟨#[]⟩, C none 0 0, S ⟨#[]⟩, S ⟨#[]⟩, C none 0 0, C none 0 0, S ⟨#[]⟩])] [] (JJ (w.heap.size + 2) [(12, TvT bdy)] [14]) (by kernel_rfl) (by kernel_rfl) ?_ ?_ (JJ_stays (fun p hp => by obtain rfl := List.mem_singleton.1 hp; exact TvT_like bdy)) ⟨HN1.out, HN2.out, HBA.out.drew⟩ ?_
 ·rintro w1' w2' ⟨f1, f2, hIB⟩ hb
  exact ⟨f1.below hb f1.lt, f2.below hb f2.lt, hIB.trans (hb.mono hIB.size)⟩
 ·simp only [lI, lG, or_false, forall_eq_or_imp, forall_eq]
  exact ⟨fun _ _ _ _ h' h => PTree_stays (TvT_like _) h' h, fun _ _ _ _ h' h => PNew_stays h' h⟩
 simp only [lK, lM, lL, lN]
 repeat ((first | refine phiJ_skipK rfl (fun K hK => ?_) | (refine phiJ_pureK rfl rfl (fun K hK => ?_); apply xI; constructor; (focus (rintro w' ⟨f1, f2, hIB⟩; obtain ⟨q0, q1, q2, q3, q4, -, q6, q7, q8, q9, q10⟩ := f1.cc; clear f1 f2 hIB; first | (go_simp; done) | (go_simp; (try go_bits); (try go_simp); rfl) | go_simp)))); simp only [Act.put, lA, lB, lC, lD, lE]; apply hK; clear hK K)
 refine phiJ_partK (PTree (w.heap.size + 2) (TvT bdy) (fun v => ∃ qa ma da qk mk dk dt, v = D #[S (bs b0), S (bs b1), C qa ma da, C qk mk dk, S (bs dt)])) rfl rfl ⟨_, none, 0, 0, none, 0, 0, [], rfl⟩ ?_ (fun K hK v hv => ?_)
 ·rintro w' ⟨f1, f2, hIB⟩ hf
  have HX := Lib.hid (TrX.plain _ _ (HB.out.below hIB))
  have HLT := Lib.hid (show w.heap.size + 2 ≤ w'.heap.size by have := f2.lt; omega)
  clear hf f1 f2 hIB
  unfold gives
  go_simp
  refine (elem25_any _ bdy (fun _ => True) [S (bs b0), S (bs b1), C pa na ca, C pk nk ck, S (bs bt)] w' (nR _) HOK.out HSM.out HX.out).mono ?_
  rintro e w'' ⟨cs, rfl, hcs, hb⟩
  obtain ⟨qa, ma, da, qk, mk, dk, dt, rfl⟩ := trx_cells (TrC.toX _ _ hcs) HBN.out
  refine ⟨_, rfl, treeJ (TvT_like _) HLT.out (fun T' h => by simpa using h) (by decide) (fun j hj q' hp v' hf g hg => ?_) ⟨qa, ma, da, qk, mk, dk, dt, rfl⟩ ⟨_, rfl, TrX.imp (fun b hb => ⟨hb.1, hb.2.1⟩) _ _ (TrC.toX _ _ hcs)⟩ hb⟩
  obtain rfl := List.mem_singleton.1 hj
  obtain rfl : PNew (w.heap.size + 2) 56 #[S ⟨#[]⟩, S ⟨#[]⟩, S ⟨#[]⟩, S ⟨#[]⟩, S ⟨#[]⟩, C none 0 0, S ⟨#[]⟩, S ⟨#[]⟩, C none 0 0, C none 0 0, S ⟨#[]⟩] = q' := Option.some.inj hp
  exact (hf g hg).2.lt
 obtain ⟨qa, ma, da, qk, mk, dk, dt, rfl⟩ := hv
 simp only [Act.put, lA, lB, lC, lD, lE]
 apply hK
 clear hK K
 repeat ((first | refine phiJ_skipK rfl (fun K hK => ?_) | (refine phiJ_pureK rfl rfl (fun K hK => ?_); apply xI; constructor; (focus (rintro w' ⟨f1, f2, hIB⟩; obtain ⟨q0, q1, q2, q3, q4, -, q6, q7, q8, q9, q10⟩ := f1.cc; clear f1 f2 hIB; first | (go_simp; done) | (go_simp; (try go_bits); (try go_simp); rfl) | go_simp)))); simp only [Act.put, lA, lB, lC, lD, lE]; apply hK; clear hK K)
 refine phiJ_partK (PNew (w.heap.size + 2) 56 #[S ⟨#[]⟩, S ⟨#[]⟩, S ⟨#[]⟩, S ⟨#[]⟩, S ⟨#[]⟩, C none 0 0, S ⟨#[]⟩, S ⟨#[]⟩, C none 0 0, C none 0 0, S ⟨#[]⟩]) rfl rfl ⟨_, 0, rfl⟩ ?_ (fun K hK v hv => ?_)
 ·rintro w' ⟨f1, f2, hIB⟩ hf
  have HLT := Lib.hid (show w.heap.size + 2 ≤ w'.heap.size by have := f2.lt; omega)
  clear hf f1 f2 hIB
  unfold gives
  go_simp
  refine allocJ HLT.out (fun T' h => by simp at h) (fun j hj hn => absurd (List.mem_singleton.1 hj) hn) (fun p hp => ?_)
  obtain rfl := List.mem_singleton.1 hp
  refine ⟨TvT_like _, fun q' hq v' hf => ?_⟩
  obtain rfl : PTree (w.heap.size + 2) (TvT bdy) (fun v => ∃ qa ma da qk mk dk dt, v = D #[S (bs b0), S (bs b1), C qa ma da, C qk mk dk, S (bs dt)]) = q' := Option.some.inj hq
  exact hf
 obtain ⟨g, rfl⟩ := hv
 simp only [Act.put, lA, lB, lC, lD, lE]
 apply hK
 clear hK K
 repeat ((first | refine phiJ_skipK rfl (fun K hK => ?_) | (refine phiJ_pureK rfl rfl (fun K hK => ?_); apply xI; constructor; (focus (rintro w' ⟨f1, f2, hIB⟩; obtain ⟨q0, q1, q2, q3, q4, -, q6, q7, q8, q9, q10⟩ := f1.cc; clear f1 f2 hIB; first | (go_simp; done) | (go_simp; (try go_bits); (try go_simp); rfl) | go_simp)))); simp only [Act.put, lA, lB, lC, lD, lE]; apply hK; clear hK K)
 refine phiJ_done ?_
 rintro w9 ⟨f1, f2, hb9⟩ hk9 hj9
 obtain ⟨hglo, hgb⟩ := hk9 (14, fun w1 => (PNew (w.heap.size + 2) 56 #[S ⟨#[]⟩, S ⟨#[]⟩, S ⟨#[]⟩, S ⟨#[]⟩, S ⟨#[]⟩, C none 0 0, S ⟨#[]⟩, S ⟨#[]⟩, C none 0 0, C none 0 0, S ⟨#[]⟩]).fact w1 (.pointer (some ⟨g, 0, none⟩))) (by simp) g rfl
 obtain ⟨csb, hcb, hbd⟩ := (hj9 (12, D #[S (bs b0), S (bs b1), C qa ma da, C qk mk dk, S (bs dt)]) (by simp) (14, .pointer (some ⟨g, 0, none⟩)) (by simp) (show (12 : Nat) ≠ 14 by decide)).1 (TvT bdy) (by simp) (by simp) g rfl
 obtain rfl : csb = [S (bs b0), S (bs b1), C qa ma da, C qk mk dk, S (bs dt)] := by
  injection hcb with hcb
  have := congrArg Array.toList hcb
  simpa using this.symm
 clear hk9 hj9 hcb
 refine wpList_store (.tmp 3) (.tmp 19) 56 rfl rfl g 0 _ _ #[S (bs act), S (bs tt), S (bs ii), S (bs frm), S (bs rel), C none 0 0, S (bs b0), S (bs b1), C qa ma da, C qk mk dk, S (bs dt)] rfl rfl hgb (by kernel_rfl) (by simp [Value.oneCell']) (by simp) ?_
 intro w6 hb6 ho6
 rw [putCells_all #[S ⟨#[]⟩, S ⟨#[]⟩, S ⟨#[]⟩, S ⟨#[]⟩, S ⟨#[]⟩, C none 0 0, S ⟨#[]⟩, S ⟨#[]⟩, C none 0 0, C none 0 0, S ⟨#[]⟩] #[S (bs act), S (bs tt), S (bs ii), S (bs frm), S (bs rel), C none 0 0, S (bs b0), S (bs b1), C qa ma da, C qk mk dk, S (bs dt)] rfl] at hb6
 have hs6 := ho6.size
 have hgl := hgb.lt
 have N1 := Lib.hid (ho6.blk f1 (by omega))
 have N2 := Lib.hid (ho6.blk f2 (by omega))
 have N3 := Lib.hid hb6
 have NB := Lib.hid (TrXL.one (TrX.imp (fun b hb => (⟨hb.1, by have := hb.2.1; omega, hb.2.2⟩ : w.heap.size + 2 ≤ b ∧ b < w6.heap.size ∧ b ≠ g)) _ _ (TrX.only hbd ho6 (fun b hb => hb.2.2))))
 have HBW := Lib.hid (hb9.trans (ho6.below (by omega)))
 have HGB := Lib.hid (show w.heap.size + 2 ≤ g ∧ g < w6.heap.size by omega)
 have q5 := (N1.out.cell 5).trans rfl
 clear f1 f2 hb9 hglo hgb hbd hb6 ho6 hs6 hgl HBA HN1 HN2
 go_wp2_with fail
 clear q5
 obtain ⟨B, hB6⟩ : ∃ B, w6.heap.size = B := ⟨_, rfl⟩
 have HB6 := Lib.hid hB6
 rw [hB6] at NB HGB
 clear hB6
 go_loopw [23] (fun i wr => ∃ (j : Nat) (v : Value) (css : List (List Value)), j ≤ hds.length ∧ i = .int .i64 j ∧ wr.ownsRow B 54 5 v j css.flatten ∧ TrL wr (Bt B wr.heap.size v.ownBlock) (hds.take j) css ∧ Blk wr w.heap.size 46 #[S (bs act), S (bs tt), S (bs ii), S (bs frm), S (bs rel), C ph hds.length ch, S (bs b0), S (bs b1), C pa na ca, C pk nk ck, S (bs bt)] ∧ Blk wr (w.heap.size + 1) 56 #[S ⟨#[]⟩, S ⟨#[]⟩, S ⟨#[]⟩, S ⟨#[]⟩, S ⟨#[]⟩, C none 0 0, S ⟨#[]⟩, S ⟨#[]⟩, C none 0 0, C none 0 0, S ⟨#[]⟩] ∧ Blk wr g 56 #[S (bs act), S (bs tt), S (bs ii), S (bs frm), S (bs rel), v, S (bs b0), S (bs b1), C qa ma da, C qk mk dk, S (bs dt)] ∧ TrXL wr (fun b => w.heap.size + 2 ≤ b ∧ b < B ∧ b ≠ g) [bdy] [[S (bs b0), S (bs b1), C qa ma da, C qk mk dk, S (bs dt)]] ∧ Below w.heap.size w wr ∧ B ≤ wr.heap.size) (fun i _ => hds.length - (intOf i).toNat)
 case atStart => exact ⟨0, C none 0 0, [], by omega, rfl, ⟨rfl, .inl ⟨rfl, rfl⟩⟩, (by unfold TrL; rfl), N1.out, N2.out, N3.out, NB.out, HBW.out, Nat.le_of_eq HB6.out.symm⟩
 case round =>
  clear N1 N2 N3 NB HBW HB6
  obtain ⟨j, v, ds, hj, rfl, hrow, hkids, hN, hM, hO, hbd, hbw, hBw⟩ := hrel
  by_cases hlt : j < hds.length
  ·obtain ⟨e1, o1, m0, m1, u1, u2, u3, u4, u5, u6, u7, rfl, hgx, hT1, hk0, hk1, hk2, hk3, hk4⟩ := kid_2 HK.out HL.out HX3.out hlt
   have ok1 := okL_get 2 hds HX3.out j hlt
   have sm1 := smL_get hds HM3.out j hlt
   have ihc := Lib.hid (fun (w' : World) (h1 : TrC w' (fun _ => True) hds[j] [S (bs m0), S (bs m1), C u4 u1.length u5, C u6 u2.length u7, S (bs u3)]) => elem25_any _ hds[j] (fun _ => True) _ w' (nR _) ok1 sm1 h1)
   have HGX := Lib.hid hgx
   have HTK := Lib.hid (lR hlt)
   clear ok1 sm1 hgx
   have hk0 := Below.keeps hbw _ _ hk0
   have hk1 := Below.keeps hbw _ _ hk1
   have hk2 := Below.keeps hbw _ _ hk2
   have hk3 := Below.keeps hbw _ _ hk3
   have hk4 := Below.keeps hbw _ _ hk4
   generalize hds[j] = X at *
   have hlt' : (j : Int) < (hds.length : Int) := by omega
   obtain ⟨pv, cv, rfl, _, _, _⟩ := owns_rd hrow
   have hvlt : ∀ g', (C pv j cv).ownBlock = some g' → B ≤ g' ∧ g' < wr.heap.size := fun g' hg => hrow.lt g' hg
   have HVL := Lib.hid hvlt
   have HT := Lib.hid hT1
   have hgb := HGB.out
   have G1 := Lib.hid (hN.alloc (F #[S (bs m0), S (bs m1), C u4 u1.length u5, C u6 u2.length u7, S (bs u3)] 44)); have G2 := Lib.hid (hM.alloc (F #[S (bs m0), S (bs m1), C u4 u1.length u5, C u6 u2.length u7, S (bs u3)] 44)); have G3 := Lib.hid (hO.alloc (F #[S (bs m0), S (bs m1), C u4 u1.length u5, C u6 u2.length u7, S (bs u3)] 44))
   have G4 := Lib.hid (Blk.new wr 44 #[S (bs m0), S (bs m1), C u4 u1.length u5, C u6 u2.length u7, S (bs u3)])
   have G5 := Lib.hid (hbd.below (below_alloc1 wr (F #[S (bs m0), S (bs m1), C u4 u1.length u5, C u6 u2.length u7, S (bs u3)] 44)))
   have G6 := Lib.hid (owns_below hrow (below_alloc1 wr (F #[S (bs m0), S (bs m1), C u4 u1.length u5, C u6 u2.length u7, S (bs u3)] 44)))
   have G7 := Lib.hid (hkids.below (below_alloc1 wr (F #[S (bs m0), S (bs m1), C u4 u1.length u5, C u6 u2.length u7, S (bs u3)] 44)))
   have G8 := Lib.hid (below_alloc hbw (F #[S (bs m0), S (bs m1), C u4 u1.length u5, C u6 u2.length u7, S (bs u3)] 44))
   clear hT1 hvlt hrow hkids hN hM hO hbd hbw
   go_wp2_with fail
   clear hk0 hk1 hk2 hk3 hk4
   have hsz : (wr.alloc (F #[S (bs m0), S (bs m1), C u4 u1.length u5, C u6 u2.length u7, S (bs u3)] 44)).heap.size = wr.heap.size + 1 := by simp
   generalize wr.alloc (F #[S (bs m0), S (bs m1), C u4 u1.length u5, C u6 u2.length u7, S (bs u3)] 44) = wa at *
   refine wp_phiU_tail (List.take 7 _) (List.drop 7 _) (lJ 7 _).symm (rT 5 B 5 54 (C pv j cv) j)
    (fun w' => Blk w' g 56 #[S (bs act), S (bs tt), S (bs ii), S (bs frm), S (bs rel), C pv j cv, S (bs b0), S (bs b1), C qa ma da, C qk mk dk, S (bs dt)] ∧ Blk w' wr.heap.size 44 #[S (bs m0), S (bs m1), C u4 u1.length u5, C u6 u2.length u7, S (bs u3)] ∧ Blk w' w.heap.size 46 #[S (bs act), S (bs tt), S (bs ii), S (bs frm), S (bs rel), C (some ⟨e1, o1, none⟩) hds.length ch, S (bs b0), S (bs b1), C pa na ca, C pk nk ck, S (bs bt)] ∧ Blk w' (w.heap.size + 1) 56 #[S ⟨#[]⟩, S ⟨#[]⟩, S ⟨#[]⟩, S ⟨#[]⟩, S ⟨#[]⟩, C none 0 0, S ⟨#[]⟩, S ⟨#[]⟩, C none 0 0, C none 0 0, S ⟨#[]⟩] ∧ TrXL w' (fun b => w.heap.size + 2 ≤ b ∧ b < B ∧ b ≠ g) [bdy] [[S (bs b0), S (bs b1), C qa ma da, C qk mk dk, S (bs dt)]] ∧ TrL w' (Bt B wr.heap.size (C pv j cv).ownBlock) (hds.take j) ds ∧ Below w.heap.size w w' ∧ wr.heap.size + 1 ≤ w'.heap.size)
    [(3, PKid (fun v => ∃ p1 c1 p2 c2, v = D #[S (bs m0), S (bs m1), C p1 u1.length c1, C p2 u2.length c2, S (bs u3)]) wr.heap.size X), (4, POne wr.heap.size 54 X), (5, PRow B 5 54 (j + 1) (hds.take j) ds X)] [(4, [3]), (5, [3, 4])] [(5, fun w' => w'.ownsRow B 54 5 (C pv j cv) j ds.flatten)] [] (by kernel_rfl) (by kernel_rfl) ?_ ?_ ?_ ?_ ?_ ?_
   ·rintro p _ w1 w2 ⟨g1, g2, g3, g4, g5, g6, g7, g8⟩ hR
    exact ⟨rT_blklo hR g1 (by omega), rT_blk hR g2 (fun e => by have := (HVL.out _ e).2; omega), rT_blklo hR g3 (by omega), rT_blklo hR g4 (by omega), rT_trxl hR g5 (fun b hb e => by have := (HVL.out _ e).1; have := hb.2.1; omega), rT_trl hR g6 (fun b hb => hb.2.2), rT_below hR g7 (by omega) (by omega), nT g8 (rT_size hR)⟩
   ·intro p hp p' hp' hne hks hns w1 w2 v hI hR hf
    have hv : ∀ g', (C pv j cv).ownBlock = some g' → g' < wr.heap.size := fun g' hg => (HVL.out g' hg).2
    simp only [lI, lG, or_false] at hp hp'
    rcases hp with rfl | rfl | rfl
    ·exact PKid_stays hR hv hf
    ·exact POne_stays hR hv hf
    ·rcases hp' with rfl | rfl | rfl
     ·exact absurd (show (3 : Nat) ∈ needs [(4, [3]), (5, [3, 4])] 5 by decide) hns
     ·exact absurd (show (4 : Nat) ∈ needs [(4, [3]), (5, [3, 4])] 5 by decide) hns
     ·exact absurd rfl hne
   ·intro p hp u hu hne w1 w2 hI hR hf
    simp only [lI, lG, or_false] at hp hu
    subst hu
    rcases hp with rfl | rfl | rfl
    ·have hR := rT_o (show (3 : Nat) ≠ 5 by decide) ▸ hR
     exact owns_below hf hR
    ·have hR := rT_o (show (4 : Nat) ≠ 5 by decide) ▸ hR
     exact owns_below hf hR
    ·exact absurd rfl hne
   ·intro u hu
    simp only [lI, lG, or_false] at hu
    subst hu
    exact owns_below G6.out (Below.refl _ _).drew
   ·exact ⟨G3.out, G4.out, G1.out, G2.out, G5.out.below (Below.refl _ _).drew, G7.out.below (Below.refl _ _).drew, G8.out.drew, by show wr.heap.size + 1 ≤ wa.heap.size; omega⟩
   simp only [lK, lM, lL, lN]
   clear G1 G2 G3 G4 G5 G6 G7 G8
   repeat ((first | refine phiU_skipK rfl (fun K hK => ?_) | (refine phiU_pureK rfl rfl (fun K hK => ?_); apply xI; constructor; (focus (rintro w' ⟨g1, g2, g3, g4, g5, g6, g7, g8⟩; have k1 := (g1.cell 5).trans rfl; obtain ⟨q0, q1, q2, q3, q4, -⟩ := g2.cc; clear g1 g2 g3 g4 g5 g6 g7 g8; first | (go_simp; done) | (go_simp; (try go_bits); (try go_simp); rfl) | go_simp)))); simp only [Act.put, lA, lB, lC, lD, lE]; apply hK; clear hK K)
   refine phiU_partK (PKid (fun v => ∃ p1 c1 p2 c2, v = D #[S (bs m0), S (bs m1), C p1 u1.length c1, C p2 u2.length c2, S (bs u3)]) wr.heap.size X) rfl rfl ⟨_, none, 0, none, 0, rfl⟩ ?_ (fun K hK v hv => ?_)
   ·rintro w' ⟨g1, g2, g3, g4, g5, g6, g7, g8⟩ hf hu
    clear hf hu
    unfold gives
    have HG := Lib.hid (And.intro g7 g8)
    clear g1 g2 g3 g4 g5 g6 g7 g8
    go_simp
    refine (ihc.out w' (HT.out.below HG.out.1)).mono ?_
    rintro e w'' ⟨cs, rfl, hcs, hb⟩
    obtain ⟨p1, c1, p2, c2, rfl⟩ : ∃ p1 c1 p2 c2, cs = [S (bs m0), S (bs m1), C p1 u1.length c1, C p2 u2.length c2, S (bs u3)] := by
     have h := hcs
     rw [HGX.out] at h
     unfold TrC at h
     obtain ⟨p1, c1, p2, c2, _, e, _⟩ := h
     exact ⟨p1, c1, p2, c2, e.trans rfl⟩
    exact ⟨_, rfl, ⟨p1, c1, p2, c2, rfl⟩, ⟨_, w''.heap.size, rfl, hcs.imp (fun b hb => ⟨nT HG.out.2 hb.1, hb.2.1, hb.2.2⟩), nR _⟩, by rw [rT_o (by decide)]; exact hb⟩
   obtain ⟨p1, c1, p2, c2, rfl⟩ := hv
   simp only [Act.put, lA, lB, lC, lD, lE]
   apply hK
   clear hK K
   refine phiU_partK (POne wr.heap.size 54 X) rfl rfl ⟨_, 0, rfl⟩ ?_ (fun K hK v hv => ?_)
   ·rintro w' ⟨g1, g2, g3, g4, g5, g6, g7, g8⟩ hf hu
    have h3 := hf (3, fun w1 => (PKid (fun v => ∃ p1 c1 p2 c2, v = D #[S (bs m0), S (bs m1), C p1 u1.length c1, C p2 u2.length c2, S (bs u3)]) wr.heap.size X).fact w1 (D #[S (bs m0), S (bs m1), C p1 u1.length c1, C p2 u2.length c2, S (bs u3)])) (by simp) (lO.1 rfl) rfl
    have HG := Lib.hid (And.intro h3 g8)
    clear hf hu h3 g1 g2 g3 g4 g5 g6 g7 g8
    unfold gives
    go_simp
    refine ⟨⟨_, rfl⟩, fun g' hg => ?_, by rw [rT_o (by decide)]; exact below_alloc1 _ _⟩
    obtain rfl : w'.heap.size = g' := by simpa using hg
    obtain ⟨⟨cs, B', e3, t3, b3⟩, g8⟩ := HG.out
    injection e3 with e3
    refine ⟨by omega, cs, B', ?_, t3.below (below_alloc1 _ _), nT b3 (below_alloc1 w' _).size⟩
    rw [← e3]
    exact Blk.new _ _ _
   obtain ⟨g9, rfl⟩ := hv
   simp only [Act.put, lA, lB, lC, lD, lE]
   apply hK
   clear hK K
   refine phiU_partK (PRow B 5 54 (j + 1) (hds.take j) ds X) rfl rfl ⟨_, none, 0, rfl⟩ ?_ (fun K hK v hv => ?_)
   ·rintro w' ⟨g1, g2, g3, g4, g5, g6, g7, g8⟩ hf hu
    have h4 := hf (4, fun w1 => (POne wr.heap.size 54 X).fact w1 (C (some ⟨g9, 0, none⟩) 1 1)) (by simp) (lO.1 rfl) rfl
    obtain ⟨h4b, cs, B', b4, t4, l4⟩ := h4 g9 rfl
    have hu8 : w'.ownsRow B 54 5 (C pv j cv) j ds.flatten := hu (5, fun w' => w'.ownsRow B 54 5 (C pv j cv) j ds.flatten) (by simp) rfl
    have hv : ∀ g', (C pv j cv).ownBlock = some g' → g' < wr.heap.size := fun g' hg => (HVL.out g' hg).2
    have hln := HLN.out
    clear hf hu h4
    refine gives_appAt (.tmp 28) (.tmp 31) 50 rfl B 54 i9 (D #[S ⟨#[]⟩, S ⟨#[]⟩, C none 0 0, C none 0 0, S ⟨#[]⟩]) 5 96 Tryz.underlying50 hi9 hy0 hy1 hy2 rfl (by decide) _ _ _ rfl hu8 _ _ _ cs rfl (by rw [t4.len, HGX.out]; rfl) (.inr ⟨g9, 0, rfl, fun i u hiu => ?_⟩) t4.one (by unfold maxLen; omega) (by omega) (by omega) ?_
    ·rw [Nat.zero_add, b4.cell]
     simpa using hiu
    intro v2 w2 ho2 hg2 hat2
    obtain ⟨p2, c2, rfl, _, _, _⟩ := owns_rd ho2
    refine ⟨⟨p2, c2, rfl⟩, prow_step hg2 hat2 hv (by omega) (by omega) g6 t4 l4 (by rw [flat_snoc]; exact ho2), ?_⟩
    rw [rT_at]
    exact ⟨⟨_, hu8⟩, hg2⟩
   obtain ⟨p8, c8, rfl⟩ := hv
   simp only [Act.put, lA, lB, lC, lD, lE]
   apply hK
   clear hK K
   repeat ((first | refine phiU_skipK rfl (fun K hK => ?_) | (refine phiU_pureK rfl rfl (fun K hK => ?_); apply xI; constructor; (focus (rintro w' ⟨g1, g2, g3, g4, g5, g6, g7, g8⟩; have k1 := (g1.cell 5).trans rfl; obtain ⟨q0, q1, q2, q3, q4, -⟩ := g2.cc; clear g1 g2 g3 g4 g5 g6 g7 g8; first | (go_simp; done) | (go_simp; (try go_bits); (try go_simp); rfl) | go_simp)))); simp only [Act.put, lA, lB, lC, lD, lE]; apply hK; clear hK K)
   refine phiU_done ?_
   rintro w9 ⟨g1, g2, g3, g4, g5, g6, g7, g8⟩ hf
   obtain ⟨cs, ho9, hk9⟩ := hf (5, fun w1 => (PRow B 5 54 (j + 1) (hds.take j) ds X).fact w1 (C p8 (j + 1) c8)) (by simp) rfl
   have f1 := g1.frozen 5
   have k1 := (g1.cell 5).trans rfl
   have O9 := ((Only.refl g w9).set_ 5 (C p8 (j + 1) c8))
   have R1 := Lib.hid (O9.blk g3 (by omega))
   have R2 := Lib.hid (O9.blk g4 (by omega))
   have R3 := Lib.hid (show Blk (w9.setCell ⟨g, 5, none⟩ (C p8 (j + 1) c8)) g 56 #[S (bs act), S (bs tt), S (bs ii), S (bs frm), S (bs rel), C p8 (j + 1) c8, S (bs b0), S (bs b1), C qa ma da, C qk mk dk, S (bs dt)] from g1.set_ 5 _)
   have R4 := Lib.hid (g7.setCell (p := ⟨g, 5, none⟩) (show w.heap.size ≤ g by omega) (C p8 (j + 1) c8))
   have R5 := Lib.hid (O9.owns2 ho9 (by omega))
   have R6 := Lib.hid (g5.only O9 (fun b hb => hb.2.2))
   have R7 := Lib.hid (hk9.only O9 (fun b hb => by have := hb.1; omega))
   have R8 := Lib.hid (show B ≤ (w9.setCell ⟨g, 5, none⟩ (C p8 (j + 1) c8)).heap.size by rw [O9.size]; omega)
   rw [show w9.heap.size = (w9.setCell ⟨g, 5, none⟩ (C p8 (j + 1) c8)).heap.size from O9.size.symm] at R7
   rw [← HTK.out] at R7
   clear hf g1 g2 g3 g4 g5 g6 g7 g8 O9 ho9 hk9 ihc HT HVL
   go_wp2_with fail
   go_roundw
   case rel => exact ⟨j + 1, C p8 (j + 1) c8, ds ++ [cs], by omega, by go_num, R5.out, R7.out, R1.out, R2.out, R3.out, R6.out, R4.out, R8.out⟩
   case measure => simp [intOf]; omega
  ·obtain rfl : j = hds.length := by omega
   rw [lQ (nR _)] at hkids
   obtain ⟨pv, cv, rfl, zz1, zz2, zz3, zz4⟩ := owns_rdP hrow
   obtain ⟨r0, r1, r2, r3, r4, r5, r6, r7, r8, r9, r10⟩ := hO.cc
   have hgb := HGB.out
   have HMb := Lib.hid hM
   have HFIN := Lib.hid (show ∀ w', Only (w.heap.size + 1) wr w' → EnvC w' ⟨act, tt, ii, frm, rel, hds, bdy⟩ #[S (bs act), S (bs tt), S (bs ii), S (bs frm), S (bs rel), C pv hds.length cv, S (bs b0), S (bs b1), C qa ma da, C qk mk dk, S (bs dt)] from fun w' k => by
    have e := k.size
    have q2 : Rd w' pv ds.flatten := zz3.keepP (P := fun b => B ≤ b) (fun a ha => (zz4 a ha).1) fun a v hp hc => (World.cell?_of_block (k.block a.block (by omega))).trans hc
    have hb1 := hbd.only k (fun b hb => by have := hb.1; omega)
    unfold TrXL at hb1
    obtain ⟨c, cs, e1, hb1, _⟩ := hb1
    injection e1 with e1
    subst e1
    exact ⟨pv, cv, ds, b0, b1, dt, qa, ma, da, qk, mk, dk, rfl, HBN.out, zz1, zz2, q2, TrXL.imp (fun b hb => by have := hb.2.1; omega) _ _ ((TrL.toX _ _ hkids).only k (fun b hb => by have := hb.1; omega)), TrX.imp (fun b hb => by have := hb.2.1; omega) _ _ hb1⟩)
   have HBW := Lib.hid hbw
   clear hM hN hO hrow hkids zz1 zz2 zz3 zz4 hbd hbw
   go_wp2_with (refine wpList_store (.tmp 2) (.tmp 35) 56 rfl rfl (w.heap.size + 1) 0 _ _ #[S (bs act), S (bs tt), S (bs ii), S (bs frm), S (bs rel), C pv hds.length cv, S (bs b0), S (bs b1), C qa ma da, C qk mk dk, S (bs dt)] rfl rfl HMb.out ?s0 ?s1 ?s2 ?_)
   case s0 => kernel_rfl
   case s1 => simp [Value.oneCell']
   case s2 => simp
   intro w8 hb8 ho8
   rw [putCells_all #[S ⟨#[]⟩, S ⟨#[]⟩, S ⟨#[]⟩, S ⟨#[]⟩, S ⟨#[]⟩, C none 0 0, S ⟨#[]⟩, S ⟨#[]⟩, C none 0 0, C none 0 0, S ⟨#[]⟩] #[S (bs act), S (bs tt), S (bs ii), S (bs frm), S (bs rel), C pv hds.length cv, S (bs b0), S (bs b1), C qa ma da, C qk mk dk, S (bs dt)] rfl] at hb8
   obtain ⟨z0, z1, z2, z3, z4, z5, z6, z7, z8, z9, z10⟩ := hb8.cc
   have HB8 := Lib.hid hb8; have HO8 := Lib.hid ho8
   clear r0 r1 r2 r3 r4 r5 r6 r7 r8 r9 r10 hb8 ho8
   go_wp2_with fail
   refine bodyPost_ret (v := D #[S (bs act), S (bs tt), S (bs ii), S (bs frm), S (bs rel), C pv hds.length cv, S (bs b0), S (bs b1), C qa ma da, C qk mk dk, S (bs dt)]) (by simp [results, Tryz.results15, go_sem, z0, z1, z2, z3, z4, z5, z6, z7, z8, z9, z10]) rfl ?_
   exact ⟨#[S (bs act), S (bs tt), S (bs ii), S (bs frm), S (bs rel), C pv hds.length cv, S (bs b0), S (bs b1), C qa ma da, C qk mk dk, S (bs dt)], rfl, HFIN.out w8 HO8.out, HBW.out.trans (Only.below HO8.out (by omega))⟩
end
end Go.Proofs.YthboiahdheehkaaGreatDoor
