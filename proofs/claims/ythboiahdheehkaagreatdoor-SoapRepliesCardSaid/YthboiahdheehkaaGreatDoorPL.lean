/- SpV2 -/
import Derived.Test.YthboiahdheehkaaGreatDoorPK
open List renaming setIfInBounds_toArray → lA, set_cons_succ → lB, set_cons_zero → lC, cons_append → lD, nil_append → lE, not_mem_nil → lG, mem_cons → lI, take_append_drop → lJ, take_succ_cons → lK, drop_succ_cons → lL, take_zero → lM, drop_zero → lN, contains_iff_mem → lO, take_of_length_le → lQ
open Exists renaming intro → xI
open Nat renaming le_refl → nR, le_trans → nT
open Go.Value renaming string → S
open Go.Value renaming slice → C
open Go.Obj renaming cells → F
namespace Go.Proofs.YthboiahdheehkaaGreatDoor
set_option maxHeartbeats 16000000
set_option maxRecDepth 20000
open Go.RowKit
attribute [local go_sem] bs_toList
attribute [local irreducible] wpPhi wpPhiU PX.wpPhi
theorem ite_iff2 {α : Type} {p q : Prop} [Decidable p] [Decidable q] (h : p ↔ q) (a b : α) : (if p then a else b) = (if q then a else b) := by
 by_cases hp : p
 ·rw [if_pos hp, if_pos (h.1 hp)]
 ·rw [if_neg hp, if_neg (fun hq => hp (h.2 hq))]
theorem welem_any (E : Nat → Addr) (b k : Nat) (f : List UInt8 → Option (List UInt8)) (hf : ∀ s v, f s = some v → shS v) : ∀ (n : Nat) (x : Tr) (P : Nat → Prop) (cx : List Value) (w : World), x.sz ≤ n → x.ok 2 → x.shr → x.few → TrC w P x cx → MapS w b k f → LibG w → Errs w E →
  Calls Tryz.prog 130 #[.map (some b), .agg cx.toArray] w (ElR E (x.wn f) w) := by
 intro n
 induction n with
 | zero => intro x P cx w hs; have := x.sz_pos; omega
 | succ n ih =>
  intro x P cx w hs hx hsh hfw hcx hm hg hE
  obtain ⟨nx, ax, kx, tx⟩ := x
  unfold TrC at hcx
  unfold Tr.ok at hx
  unfold Tr.shr at hsh
  unfold Tr.few at hfw
  obtain ⟨hx1, hx2, hx3⟩ := hx
  obtain ⟨hs1, hs2, hs3, hs4⟩ := hsh
  obtain ⟨hf1, hf2, hf3⟩ := hfw
  obtain ⟨a0, a1, rfl⟩ := two_of hx1
  obtain ⟨pa, ca, pk, ck, css, rfl, ⟨A1, A2, A3, -⟩, ⟨K1, K2, K3, -⟩, hL⟩ := hcx
  show Calls Tryz.prog 130 #[.map (some b), .agg #[S (bs a0), S (bs a1), C pa ax.length ca, C pk kx.length ck, S (bs tx)]] w _
  by_cases h0 : a0 = [] ∧ a1 = []
  ·obtain ⟨rfl, rfl⟩ := h0
   rw [wn_tx]
   refine (welem_tx E b k pa pk ca ck ax.length kx.length tx w hE).mono ?_
   rintro e w' ⟨h1, ⟨h2, h3, rfl⟩ | ⟨h2, rfl⟩⟩
   ·rw [if_pos ⟨h2, h3⟩]
    refine ⟨h1, .inl ⟨_, [S ⟨#[]⟩, C none 0 0, C none 0 0, S (bs tx)], rfl, rfl, ?_⟩⟩
    unfold TrC
    exact ⟨none, 0, none, 0, [], rfl, ⟨nR _, by unfold maxLen; omega, .inl rfl, by simp⟩, ⟨nR _, by unfold maxLen; omega, .inl rfl, by simp⟩, by unfold TrL; rfl⟩
   ·rw [if_neg h2]
    exact ⟨h1, .inr ⟨rfl, rfl⟩⟩
  rw [wn_el h0]
  have hen : ((a0 == []) && (a1 == [])) = false := by
   rw [Bool.eq_false_iff]
   intro h
   simp only [Bool.and_eq_true, beq_iff_eq] at h
   exact h0 h
  have en : ∀ w, (binOp .eql 41 (.agg #[S (bs a0), S (bs a1)]) (.agg #[S ⟨#[]⟩, S ⟨#[]⟩])).run Tryz.prog w = .ok (.bool false) w := fun w => by
   have := eqNm a0 a1 [] [] w
   rw [hen] at this
   exact this
  obtain ⟨w2, hw2⟩ : ∃ w2, w2 = (w.alloc (F #[S (bs a0), S (bs a1), C pa ax.length ca, C pk kx.length ck, S (bs tx)] 44)).alloc (F #[S ⟨#[]⟩, C none 0 0, C none 0 0, S ⟨#[]⟩] 96) := ⟨_, rfl⟩
  have hB2 : Below w.heap.size w w2 := by rw [hw2]; exact below_alloc (below_alloc1 w _) _
  have hN1 : Blk w2 w.heap.size 44 #[S (bs a0), S (bs a1), C pa ax.length ca, C pk kx.length ck, S (bs tx)] := by rw [hw2]; exact (Blk.new w _ _).alloc _
  have hN2 : Blk w2 (w.heap.size + 1) 96 #[S ⟨#[]⟩, C none 0 0, C none 0 0, S ⟨#[]⟩] := by
   rw [hw2]
   have := Blk.new (w.alloc (F #[S (bs a0), S (bs a1), C pa ax.length ca, C pk kx.length ck, S (bs tx)] 44)) 96 #[S ⟨#[]⟩, C none 0 0, C none 0 0, S ⟨#[]⟩]
   rwa [World.size_alloc] at this
  have HW2 := Lib.hid hw2
  have B2 := Lib.hid hB2
  have N1 := Lib.hid hN1
  have N2 := Lib.hid hN2
  have d0 : ∀ j, ((w.alloc (F #[S (bs a0), S (bs a1), C pa ax.length ca, C pk kx.length ck, S (bs tx)] 44)).alloc (F #[S ⟨#[]⟩, C none 0 0, C none 0 0, S ⟨#[]⟩] 96)).cell? ⟨w.heap.size, j, none⟩ = (#[S (bs a0), S (bs a1), C pa ax.length ca, C pk kx.length ck, S (bs tx)] : Array Value)[j]? := fun j => ((Blk.new w 44 #[S (bs a0), S (bs a1), C pa ax.length ca, C pk kx.length ck, S (bs tx)]).alloc _).cell j
  have e0 := (d0 0).trans rfl
  have e1 := (d0 1).trans rfl
  have HA := Lib.hid A3
  have HK := Lib.hid K3
  have HL := Lib.hid hL
  have HX2 := Lib.hid hx2
  have HX3 := Lib.hid hx3
  have HS2 := Lib.hid hs2
  have HS4 := Lib.hid hs4
  have HF3 := Lib.hid hf3
  have HG := Lib.hid hg
  have HE := Lib.hid hE
  have HMP := Lib.hid hm
  have HIH := Lib.hid ih
  have has0 : shS a0 := hs1 a0 (by simp)
  have has1 : shS a1 := hs1 a1 (by simp)
  have hca' := A2
  unfold maxLen at hca' K2
  have hks : ∀ i (hi : i < kx.length), kx[i].sz ≤ n := fun i hi => by
   have := Tr.sz_kid (.node [a0, a1] ax kx tx) i hi
   have h2 : (Tr.node [a0, a1] ax kx tx).ks[i] = kx[i] := rfl
   rw [h2] at this
   omega
  have HKS := Lib.hid hks
  have HFF := Lib.hid hf
  obtain ⟨R, hR⟩ : ∃ R, ((wnF f a0 a1).bind fun n => (wnAts f ax).bind fun bts => (Tr.wnL f kx).map fun xs => Tr.node [n] bts xs tx) = R := ⟨_, rfl⟩
  rw [hR]
  have HR := Lib.hid hR
  have HNM := Lib.hid (fun w' (hb : Below w.heap.size w w') => wname_any E b k f a0 a1 has0 has1 w' (HMP.out.below hb) HFF.out (HG.out.below hb) (HE.out.below hb))
  clear hB2 hN1 hN2 hw2 A3 K3 hL hg hE ih hx2 hx3 hs1 hs2 hs4 hf3 h0 hks d0 hen hm hR
  go_enter Tryz.func130, Tryz.ntmps130
  go_wp2_with fail
  rw [← HW2.out]
  clear e0 e1 HW2
  generalize wnF f a0 a1 = O at *
  obtain ⟨s, hO⟩ : ∃ s, O = none ∨ O = some s := by
   cases O with
   | none => exact ⟨[], .inl rfl⟩
   | some s => exact ⟨s, .inr rfl⟩
  have HOO := Lib.hid hO
  clear hO
  refine PX.wp_phi_tail (List.take 8 _) (List.drop 8 _) (lJ 8 _).symm (fun ch w' => ch = panE E 3 ∧ Below w.heap.size w w' ∧ O = none) ?_ (fun w' => Below w.heap.size w w' ∧ Below w2.heap.size w2 w' ∧ Blk w' w.heap.size 44 #[S (bs a0), S (bs a1), C pa ax.length ca, C pk kx.length ck, S (bs tx)]) [(3, PSt O s), (7, PNew w2.heap.size 96 #[S ⟨#[]⟩, C none 0 0, C none 0 0, S ⟨#[]⟩])] [] (by kernel_rfl) (by kernel_rfl) ?_ ?_ ⟨B2.out.drew, (Below.refl _ w2).drew, N1.out⟩ ?_
  ·rintro ch a w' hd ⟨rfl, hb, ho⟩
   have HR0 : R = none := by
    have h := HR.out
    rw [ho] at h; exact h.symm
   simp only [Exit.then, Exit.inBlock, bodyPost]
   exact ⟨hd, hb, .inr ⟨HR0, rfl⟩⟩
  ·rintro w1' w2' ⟨h1, h2, h3⟩ hb
   exact ⟨h1.trans (hb.mono h1.size), h2.trans (hb.mono h2.size), h3.below hb h3.lt⟩
  ·simp only [lI, lG, or_false, forall_eq_or_imp, forall_eq]
   exact ⟨fun _ _ _ _ _ h => h, fun _ _ _ _ hb h => PNew_stays hb h⟩
  simp only [lK, lM, lL, lN]
  repeat ((first | refine PX.phi_skipK rfl (fun K hK => ?_) | (refine PX.phi_pureK rfl rfl (fun K hK => ?_); apply xI; constructor; (focus (rintro w' ⟨h1, h2, h3⟩; (obtain ⟨q0, q1, -, -, q4, -⟩ := h3.cc; clear h1 h2 h3); first | (go_simp; done) | (go_simp; (try go_bits); (try go_simp); rfl) | go_simp)))); simp only [Act.put, lA, lB, lC, lD, lE]; apply hK; clear hK K)
  refine PX.phi_partK (PSt O s) rfl rfl ⟨_, rfl⟩ ?_ (fun K hK v hv => ?_)
  ·rintro w' ⟨h1, h2, h3⟩ _
   have HC := Lib.hid (HNM.out w' h1)
   have HH := Lib.hid h1
   clear h1 h2 h3
   unfold PX.gives
   go_simp
   refine HC.out.mono ?_
   rintro e w'' ⟨hb, ⟨m, hk, rfl⟩ | ⟨hk, rfl⟩⟩
   ·rcases HOO.out with h | h
    ·rw [hk] at h; cases h
    ·rw [hk] at h; cases h
     exact .inl ⟨_, rfl, rfl, hk, hb⟩
   ·exact .inr ⟨_, rfl, rfl, HH.out.trans (hb.mono HH.out.size), hk⟩
  obtain rfl : v = _ := hv
  simp only [Act.put, lA, lB, lC, lD, lE]
  apply hK
  clear hK K
  repeat ((first | refine PX.phi_skipK rfl (fun K hK => ?_) | (refine PX.phi_pureK rfl rfl (fun K hK => ?_); apply xI; constructor; (focus (rintro w' ⟨h1, h2, h3⟩; (obtain ⟨q0, q1, -, -, q4, -⟩ := h3.cc; clear h1 h2 h3); first | (go_simp; done) | (go_simp; (try go_bits); (try go_simp); rfl) | go_simp)))); simp only [Act.put, lA, lB, lC, lD, lE]; apply hK; clear hK K)
  refine PX.phi_partK (PNew w2.heap.size 96 #[S ⟨#[]⟩, C none 0 0, C none 0 0, S ⟨#[]⟩]) rfl rfl ⟨_, 0, rfl⟩ ?_ (fun K hK v hv => ?_)
  ·rintro w' ⟨h1, h2, h3⟩ _
   have HH := Lib.hid h2.size
   clear h1 h2 h3
   unfold PX.gives
   go_simp
   exact ⟨⟨_, rfl⟩, fun g hg => by
    obtain rfl : w'.heap.size = g := by simpa using hg
    exact ⟨HH.out, Blk.new _ _ _⟩, below_alloc1 _ _⟩
  obtain ⟨g6, rfl⟩ := hv
  simp only [Act.put, lA, lB, lC, lD, lE]
  apply hK
  clear hK K
  refine PX.phi_done ?_
  rintro w5 ⟨h1, h2, h3⟩ hk
  have e1 : O = some s := hk (3, fun w => (PSt O s).fact w (S (bs s))) (by simp)
  obtain ⟨hg6, hB6⟩ := hk (7, fun w1 => (PNew w2.heap.size 96 #[S ⟨#[]⟩, C none 0 0, C none 0 0, S ⟨#[]⟩]).fact w1 (.pointer (some ⟨g6, 0, none⟩))) (by simp) g6 rfl
  have HR2 : RowKit.Hid (((wnAts f ax).bind fun bts => (Tr.wnL f kx).map fun xs => Tr.node [s] bts xs tx) = R) := Lib.hid (by
   have h := HR.out
   rw [e1] at h
   exact h)
  have HB6 := Lib.hid hB6
  have H2 := Lib.hid h2
  have hgl := hB6.lt
  have hs25 := h2.size
  have hn2l := N2.out.lt
  clear hk e1 HR hB6 h1 h2 h3 HNM HOO en
  refine wpList_store (.tmp 6) (.tmp 36) 96 rfl rfl g6 0 _ _ #[S (bs s), C none 0 0, C none 0 0, S (bs tx)] rfl rfl HB6.out (by kernel_rfl) (by simp [Value.oneCell']) (by simp) ?_
  intro w6 hb6 ho6
  rw [putCells_all #[S ⟨#[]⟩, C none 0 0, C none 0 0, S ⟨#[]⟩] #[S (bs s), C none 0 0, C none 0 0, S (bs tx)] rfl] at hb6
  have N16 := Lib.hid (ho6.blk (N1.out.below H2.out N1.out.lt) (by omega))
  have B26 := Lib.hid (H2.out.trans (ho6.below hg6))
  have N66 := Lib.hid hb6
  have k2 := (N16.out.cell 2).trans rfl
  have h6l := N66.out.lt
  obtain ⟨i9, hi9, hy0, hy1, hy2⟩ := info_parts elem1_info
  obtain ⟨i8, hi8, hv0, hv1, hv2⟩ := info_parts attr1_info
  clear hb6 ho6 HB6 H2
  go_wp2_with fail
  go_loopw [40] (fun i wr => ∃ (j : Nat) (v : Value) (bts : List (List (List UInt8))), j ≤ ax.length ∧ i = .int .i64 j ∧ wnAts f (ax.take j) = some bts ∧ wr.ownsRow w6.heap.size 186 2 v j (acells bts) ∧ Blk wr g6 96 #[S (bs s), v, C none 0 0, S (bs tx)] ∧ Below w2.heap.size w2 wr ∧ w6.heap.size ≤ wr.heap.size) (fun i _ => ax.length - (intOf i).toNat)
  case atStart => exact ⟨0, C none 0 0, [], by omega, rfl, rfl, ⟨rfl, .inl ⟨rfl, rfl⟩⟩, N66.out, B26.out, nR _⟩
  case round =>
   clear N66 N16 k2 B26
   obtain ⟨j, v, bts, hj, rfl, hat, hrow, hO, hbr, hle6⟩ := hrel
   have hbw := B2.out.trans (hbr.mono B2.out.size)
   by_cases hlt : j < ax.length
   ·obtain ⟨e1, o1, x0, x1, x2, rfl, hgx, hx0, hx1, hx2⟩ := at_2 HA.out HX2.out hlt
    have hx0 := Below.keeps hbw _ _ hx0
    have hx1 := Below.keeps hbw _ _ hx1
    have hx2 := Below.keeps hbw _ _ hx2
    have hlt' : (j : Int) < (ax.length : Int) := by omega
    have hx0s : shS x0 := HS2.out _ (List.getElem_mem hlt) x0 (by rw [hgx]; simp)
    have hx1s : shS x1 := HS2.out _ (List.getElem_mem hlt) x1 (by rw [hgx]; simp)
    have hst := wnAts_step hlt hat
    rw [hgx] at hst
    have HST : RowKit.Hid (wnAts f (ax.take (j + 1)) = if ((x0 == []) && (x1 == [120, 109, 108, 110, 115])) = true then none else (wnF f x0 x1).map fun n => bts ++ [[n, x2]]) := Lib.hid (hst.trans (ite_iff2 (show (x0 = [] ∧ x1 = xmlnsL) ↔ ((x0 == []) && (x1 == [120, 109, 108, 110, 115])) = true from by rw [Bool.and_eq_true, beq_iff_eq, beq_iff_eq]; rfl) _ _))
    obtain ⟨pv, cv, rfl, _, _, _⟩ := owns_rd hrow
    have HVL := Lib.hid (fun g hg => hrow.lt g hg)
    have HAT := Lib.hid hat
    have G1 := Lib.hid (hO.alloc (F #[S (bs x0), S (bs x1), S (bs x2)] 87))
    have G2 := Lib.hid (Blk.new wr 87 #[S (bs x0), S (bs x1), S (bs x2)])
    have G6 := Lib.hid (owns_below hrow (below_alloc1 wr (F #[S (bs x0), S (bs x1), S (bs x2)] 87)))
    have G8 := Lib.hid (hbr.alloc hbr.size (F #[S (bs x0), S (bs x1), S (bs x2)] 87))
    have GW := Lib.hid (hbw.alloc hbw.size (F #[S (bs x0), S (bs x1), S (bs x2)] 87))
    obtain ⟨c0, c1, -⟩ := G2.out.cc
    have hs3r := hbr.size
    have HNA := Lib.hid (fun w' (hb : Below w.heap.size w w') => wname_any E b k f x0 x1 hx0s hx1s w' (HMP.out.below hb) HFF.out (HG.out.below hb) (HE.out.below hb))
    have HFN := Lib.hid (sfail_n _ E (HE.out.below GW.out))
    have hi0 : x0.isEmpty = (x0 == []) := by cases x0 <;> rfl
    have hi1 : (bs x0).toList.isEmpty = (x0 == []) := isE_bs x0
    clear hat hst hrow hO hbr hbw hgx
    generalize (x0 == []) = b0 at *
    obtain ⟨b1, hb1⟩ : ∃ b1, (x1 == [120, 109, 108, 110, 115]) = b1 := ⟨_, rfl⟩
    rw [hb1] at HST
    have hcs : (b0 = true ∧ b1 = true) ∨ b0 = false ∨ (b0 = true ∧ b1 = false) := by cases b0 <;> cases b1 <;> decide
    rcases hcs with ⟨rfl, rfl⟩ | rfl | ⟨rfl, rfl⟩
    ·have HR0 : RowKit.Hid (R = none) := Lib.hid (by
      rw [← HR2.out, wnAts_bad (HST.out.trans (if_pos rfl))]
      rfl)
     go_wp2_with (go_at_call 84; refine HFN.out.mono ?_; rintro e w4 ⟨rfl, rfl⟩)
     exact ⟨rfl, GW.out, .inr ⟨HR0.out, rfl⟩⟩
    ·have HST2 := Lib.hid (HST.out.trans (if_neg (fun h => by cases h)))
     go_wp2_with (go_at_call 84; refine (sfail_y _).mono ?_; rintro e w4 ⟨rfl, rfl⟩)
     clear HST HFN hx0 hx1 hx2 c0 c1 hi0 hi1 hb1
     have hsz : (wr.alloc (F #[S (bs x0), S (bs x1), S (bs x2)] 87)).heap.size = wr.heap.size + 1 := by simp
     generalize wr.alloc (F #[S (bs x0), S (bs x1), S (bs x2)] 87) = wa at *
     cases hX : wnF f x0 x1 with
     | none =>
      rw [hX] at HST2
      have HR0 : RowKit.Hid (R = none) := Lib.hid (by
       rw [← HR2.out, wnAts_bad HST2.out]
       rfl)
      have HXX := Lib.hid hX
      clear hX
      refine PX.wp_phi_tail (List.take 12 _) (List.drop 12 _) (lJ 12 _).symm (fun ch w' => ch = panE E 3 ∧ Below w.heap.size w w') ?_ (fun w' => Below w.heap.size w w' ∧ Blk w' g6 96 #[S (bs s), C pv j cv, C none 0 0, S (bs tx)] ∧ Blk w' wr.heap.size 87 #[S (bs x0), S (bs x1), S (bs x2)]) [(5, PNoS), (9, PNoL), (10, PNoL)] [(9, [5]), (10, [5])] (by kernel_rfl) (by kernel_rfl) ?_ ?_ ⟨GW.out.drew, G1.out, G2.out⟩ ?_
      ·rintro ch a w' hd ⟨rfl, hb⟩
       simp only [Exit.then, Exit.inBlock, bodyPost]
       exact ⟨hd, hb, .inr ⟨HR0.out, rfl⟩⟩
      ·rintro w1' w2' ⟨h1, h2, h3⟩ hb
       exact ⟨h1.trans (hb.mono h1.size), h2.below hb h2.lt, h3.below hb h3.lt⟩
      ·simp only [lI, lG, or_false, forall_eq_or_imp, forall_eq]
       exact ⟨fun _ _ _ _ _ h => h, fun _ _ _ _ _ h => h, fun _ _ _ _ _ h => h⟩
      simp only [lK, lM, lL, lN]
      repeat ((first | refine PX.phi_skipK rfl (fun K hK => ?_) | (refine PX.phi_pureK rfl rfl (fun K hK => ?_); apply xI; constructor; (focus (rintro w' ⟨h1, h2, h3⟩; (have q1 := (h2.cell 1).trans rfl; obtain ⟨r0, r1, r2, -⟩ := h3.cc; clear h1 h2 h3); first | (go_simp; done) | (go_simp; (try go_bits); (try go_simp); rfl) | go_simp)))); simp only [Act.put, lA, lB, lC, lD, lE]; apply hK; clear hK K)
      refine PX.phi_partK PNoS rfl rfl ⟨_, rfl⟩ ?_ (fun K hK v hv => ?_)
      ·rintro w' ⟨h1, h2, h3⟩ _
       have HC := Lib.hid (HNA.out w' h1)
       have HH := Lib.hid h1
       rw [HXX.out] at HC
       clear h1 h2 h3
       unfold PX.gives
       go_simp
       refine (HC.out.mono fun _ _ h => h.no).mono ?_
       rintro e w'' ⟨rfl, hb⟩
       exact .inr ⟨_, rfl, rfl, HH.out.trans (hb.mono HH.out.size)⟩
      obtain rfl : v = _ := hv
      simp only [Act.put, lA, lB, lC, lD, lE]
      apply hK
      clear hK K
      repeat ((first | refine PX.phi_skipK rfl (fun K hK => ?_) | (refine PX.phi_pureK rfl rfl (fun K hK => ?_); apply xI; constructor; (focus (rintro w' ⟨h1, h2, h3⟩; (have q1 := (h2.cell 1).trans rfl; obtain ⟨r0, r1, r2, -⟩ := h3.cc; clear h1 h2 h3); first | (go_simp; done) | (go_simp; (try go_bits); (try go_simp); rfl) | go_simp)))); simp only [Act.put, lA, lB, lC, lD, lE]; apply hK; clear hK K)
      refine PX.phi_partK PNoL rfl rfl ⟨_, rfl⟩ ?_ (fun K hK v hv => ?_)
      ·rintro w' _ hf
       exact (hf (5, fun w => PNoS.fact w (S ⟨#[]⟩)) (by simp) (lO.1 rfl)).elim
      obtain rfl : v = _ := hv
      simp only [Act.put, lA, lB, lC, lD, lE]
      apply hK
      clear hK K
      refine PX.phi_partK PNoL rfl rfl ⟨_, rfl⟩ ?_ (fun K hK v hv => ?_)
      ·rintro w' _ hf
       exact (hf (5, fun w => PNoS.fact w (S ⟨#[]⟩)) (by simp) (lO.1 rfl)).elim
      obtain rfl : v = _ := hv
      simp only [Act.put, lA, lB, lC, lD, lE]
      apply hK
      clear hK K
      repeat ((first | refine PX.phi_skipK rfl (fun K hK => ?_) | (refine PX.phi_pureK rfl rfl (fun K hK => ?_); apply xI; constructor; (focus (rintro w' ⟨h1, h2, h3⟩; (clear h1 h2 h3); first | (go_simp; done) | (go_simp; (try go_bits); (try go_simp); rfl) | go_simp)))); simp only [Act.put, lA, lB, lC, lD, lE]; apply hK; clear hK K)
      refine PX.phi_done ?_
      rintro w5' _ hk
      exact (hk (5, fun w => PNoS.fact w (S ⟨#[]⟩)) (by simp)).elim
     | some nn =>
      rw [hX] at HST2
      have HXX := Lib.hid hX
      clear hX
      refine wp_phiU_tail (List.take 12 _) (List.drop 12 _) (lJ 12 _).symm (rT 10 w6.heap.size 2 186 (C pv j cv) j)
       (fun w' => Blk w' g6 96 #[S (bs s), C pv j cv, C none 0 0, S (bs tx)] ∧ Blk w' wr.heap.size 87 #[S (bs x0), S (bs x1), S (bs x2)] ∧ Below w2.heap.size w2 w' ∧ wr.heap.size + 1 ≤ w'.heap.size)
       [(5, PVal (S (bs nn))), (9, PBlk wr.heap.size 186 #[S (bs nn), S (bs x2)] 1), (10, PApR w6.heap.size 2 186 (j + 1) (acells bts ++ [S (bs nn), S (bs x2)]))] [(9, [5]), (10, [5, 9])] [(10, fun w' => w'.ownsRow w6.heap.size 186 2 (C pv j cv) j (acells bts))] [] (by kernel_rfl) (by kernel_rfl) ?_ ?_ ?_ ?_ ?_ ?_
      ·rintro p _ w1 w2' ⟨g1, g2, g7, g8⟩ hR
       exact ⟨rT_blklo hR g1 h6l, rT_blk hR g2 (fun e => by have := (HVL.out _ e).2; omega), rT_below hR g7 (by omega) (by omega), nT g8 (rT_size hR)⟩
      ·intro p hp p' hp' hne hks hns w1 w2' v hI hR hf
       have hv : ∀ g, (C pv j cv).ownBlock = some g → g < wr.heap.size := fun g hg => (HVL.out g hg).2
       simp only [lI, lG, or_false] at hp hp'
       rcases hp with rfl | rfl | rfl
       ·exact hf
       ·exact fun g hg => ⟨(hf g hg).1, rT_blk hR (hf g hg).2 fun e => by (have h1 := (hf g hg).1; have h2 := hv g e; omega)⟩
       ·rcases hp' with rfl | rfl | rfl
        ·exact absurd (show (5 : Nat) ∈ needs [(9, [5]), (10, [5, 9])] 10 by decide) hns
        ·exact absurd (show (9 : Nat) ∈ needs [(9, [5]), (10, [5, 9])] 10 by decide) hns
        ·exact absurd rfl hne
      ·intro p hp u hu hne w1 w2' hI hR hf
       simp only [lI, lG, or_false] at hp hu
       subst hu
       rcases hp with rfl | rfl | rfl
       ·have hR := rT_o (show (5 : Nat) ≠ 10 by decide) ▸ hR
        exact owns_below hf hR
       ·have hR := rT_o (show (9 : Nat) ≠ 10 by decide) ▸ hR
        exact owns_below hf hR
       ·exact absurd rfl hne
      ·intro u hu
       simp only [lI, lG, or_false] at hu
       subst hu
       exact owns_below G6.out (Below.refl _ _).drew
      ·exact ⟨G1.out, G2.out, G8.out.drew, by show wr.heap.size + 1 ≤ wa.heap.size; omega⟩
      simp only [lK, lM, lL, lN]
      clear G1 G2 G6 G8 GW
      repeat ((first | refine phiU_skipK rfl (fun K hK => ?_) | (refine phiU_pureK rfl rfl (fun K hK => ?_); apply xI; constructor; (focus (rintro w' ⟨g1, g2, g7, g8⟩; have k1 := (g1.cell 1).trans rfl; obtain ⟨q0, q1, q2, -⟩ := g2.cc; clear g1 g2 g7 g8; first | (go_simp; done) | (go_simp; (try go_bits); (try go_simp); rfl) | go_simp)))); simp only [Act.put, lA, lB, lC, lD, lE]; apply hK; clear hK K)
      refine phiU_partK (PVal (S (bs nn))) rfl rfl ⟨_, rfl⟩ ?_ (fun K hK v hv => ?_)
      ·rintro w' ⟨g1, g2, g7, g8⟩ hf hu
       clear hf hu
       unfold gives
       have HC := Lib.hid (HNA.out w' (B2.out.trans (g7.mono B2.out.size)))
       rw [HXX.out] at HC
       clear g1 g2 g7 g8
       go_simp
       refine (HC.out.mono fun _ _ h => h.ok).mono ?_
       rintro e w'' ⟨rfl, hb⟩
       exact ⟨_, rfl, rfl, trivial, by rw [rT_o (by decide)]; exact hb⟩
      obtain rfl : v = _ := hv
      simp only [Act.put, lA, lB, lC, lD, lE]
      apply hK
      clear hK K
      repeat ((first | refine phiU_skipK rfl (fun K hK => ?_) | (refine phiU_pureK rfl rfl (fun K hK => ?_); apply xI; constructor; (focus (rintro w' ⟨g1, g2, g7, g8⟩; have k1 := (g1.cell 1).trans rfl; obtain ⟨q0, q1, q2, -⟩ := g2.cc; clear g1 g2 g7 g8; first | (go_simp; done) | (go_simp; (try go_bits); (try go_simp); rfl) | go_simp)))); simp only [Act.put, lA, lB, lC, lD, lE]; apply hK; clear hK K)
      refine phiU_partK (PBlk wr.heap.size 186 #[S (bs nn), S (bs x2)] 1) rfl rfl ⟨_, 0, rfl⟩ ?_ (fun K hK v hv => ?_)
      ·rintro w' ⟨g1, g2, g7, g8⟩ hf hu
       have HG := Lib.hid g8
       clear hf hu g1 g2 g7 g8
       unfold gives
       go_simp
       refine ⟨⟨_, rfl⟩, fun g hg => ?_, by rw [rT_o (by decide)]; exact below_alloc1 _ _⟩
       obtain rfl : w'.heap.size = g := by simpa using hg
       exact ⟨by have := HG.out; omega, Blk.new _ _ _⟩
      obtain ⟨g7', rfl⟩ := hv
      simp only [Act.put, lA, lB, lC, lD, lE]
      apply hK
      clear hK K
      refine phiU_partK (PApR w6.heap.size 2 186 (j + 1) (acells bts ++ [S (bs nn), S (bs x2)])) rfl rfl ⟨_, none, 0, rfl⟩ ?_ (fun K hK v hv => ?_)
      ·rintro w' ⟨g1, g2, g7, g8⟩ hf hu
       have h4 := hf (9, fun w1 => (PBlk wr.heap.size 186 #[S (bs nn), S (bs x2)] 1).fact w1 (C (some ⟨g7', 0, none⟩) 1 1)) (by simp) (lO.1 rfl) rfl
       obtain ⟨h4b, b4⟩ := h4 g7' rfl
       have hu8 : w'.ownsRow w6.heap.size 186 2 (C pv j cv) j (acells bts) := hu (10, fun w' => w'.ownsRow w6.heap.size 186 2 (C pv j cv) j (acells bts)) (by simp) rfl
       clear hf hu h4
       refine gives_appAt (.tmp 56) (.tmp 64) 93 rfl w6.heap.size 186 i8 (.agg #[S ⟨#[]⟩, S ⟨#[]⟩]) 2 32 Tryz.underlying93 hi8 hv0 hv1 hv2 rfl (by decide) _ _ _ rfl hu8 _ _ _ [S (bs nn), S (bs x2)] rfl rfl (.inr ⟨g7', 0, rfl, fun i u hiu => ?_⟩) (by simp [Value.oneCell']) (by unfold maxLen; omega) (by omega) (by omega) ?_
       ·rw [Nat.zero_add, b4.cell]
        simpa using hiu
       intro v2 w2' ho2 hg2 hat2
       obtain ⟨p2, c2, rfl, _, _, _⟩ := owns_rd ho2
       refine ⟨⟨p2, c2, rfl⟩, ho2, ?_⟩
       rw [rT_at]
       exact ⟨⟨_, hu8⟩, hg2⟩
      obtain ⟨p8, c8, rfl⟩ := hv
      simp only [Act.put, lA, lB, lC, lD, lE]
      apply hK
      clear hK K
      repeat ((first | refine phiU_skipK rfl (fun K hK => ?_) | (refine phiU_pureK rfl rfl (fun K hK => ?_); apply xI; constructor; (focus (rintro w' ⟨g1, g2, g7, g8⟩; have k1 := (g1.cell 1).trans rfl; clear g1 g2 g7 g8; first | (go_simp; done) | (go_simp; (try go_bits); (try go_simp); rfl) | go_simp)))); simp only [Act.put, lA, lB, lC, lD, lE]; apply hK; clear hK K)
      refine phiU_done ?_
      rintro w9 ⟨g1, g2, g7, g8⟩ hf
      have h10 := hf (10, fun w1 => (PApR w6.heap.size 2 186 (j + 1) (acells bts ++ [S (bs nn), S (bs x2)])).fact w1 (C p8 (j + 1) c8)) (by simp) rfl
      have ho9 : w9.ownsRow w6.heap.size 186 2 (C p8 (j + 1) c8) (j + 1) (acells bts ++ [S (bs nn), S (bs x2)]) := h10
      have f1 := g1.frozen 1
      have k1 := (g1.cell 1).trans rfl
      have O9 := ((Only.refl g6 w9).set_ 1 (C p8 (j + 1) c8))
      have R3 := Lib.hid (show Blk (w9.setCell ⟨g6, 1, none⟩ (C p8 (j + 1) c8)) g6 96 #[S (bs s), C p8 (j + 1) c8, C none 0 0, S (bs tx)] from g1.set_ 1 _)
      have R4 := Lib.hid (g7.setCell (p := ⟨g6, 1, none⟩) hg6 (C p8 (j + 1) c8))
      have R5 := Lib.hid (show (w9.setCell ⟨g6, 1, none⟩ (C p8 (j + 1) c8)).ownsRow w6.heap.size 186 2 (C p8 (j + 1) c8) (j + 1) (acells (bts ++ [[nn, x2]])) from by rw [acells_snoc]; exact O9.owns2 ho9 h6l)
      have R8 : w6.heap.size ≤ (w9.setCell ⟨g6, 1, none⟩ (C p8 (j + 1) c8)).heap.size := by rw [O9.size]; omega
      clear hf g1 g2 g7 g8 O9 ho9 h10 HVL HAT
      go_wp2_with fail
      go_roundw
      case rel => exact ⟨j + 1, C p8 (j + 1) c8, bts ++ [[nn, x2]], by omega, by go_num, HST2.out, R5.out, R3.out, R4.out, R8⟩
      case measure => simp [intOf]; omega
    ·have HST2 := Lib.hid (HST.out.trans (if_neg (fun h => by cases h)))
     go_wp2_with (go_at_call 84; refine (sfail_y _).mono ?_; rintro e w4 ⟨rfl, rfl⟩)
     clear HST HFN hx0 hx1 hx2 c0 c1 hi0 hi1 hb1
     have hsz : (wr.alloc (F #[S (bs x0), S (bs x1), S (bs x2)] 87)).heap.size = wr.heap.size + 1 := by simp
     generalize wr.alloc (F #[S (bs x0), S (bs x1), S (bs x2)] 87) = wa at *
     cases hX : wnF f x0 x1 with
     | none =>
      rw [hX] at HST2
      have HR0 : RowKit.Hid (R = none) := Lib.hid (by
       rw [← HR2.out, wnAts_bad HST2.out]
       rfl)
      have HXX := Lib.hid hX
      clear hX
      refine PX.wp_phi_tail (List.take 12 _) (List.drop 12 _) (lJ 12 _).symm (fun ch w' => ch = panE E 3 ∧ Below w.heap.size w w') ?_ (fun w' => Below w.heap.size w w' ∧ Blk w' g6 96 #[S (bs s), C pv j cv, C none 0 0, S (bs tx)] ∧ Blk w' wr.heap.size 87 #[S (bs x0), S (bs x1), S (bs x2)]) [(5, PNoS), (9, PNoL), (10, PNoL)] [(9, [5]), (10, [5])] (by kernel_rfl) (by kernel_rfl) ?_ ?_ ⟨GW.out.drew, G1.out, G2.out⟩ ?_
      ·rintro ch a w' hd ⟨rfl, hb⟩
       simp only [Exit.then, Exit.inBlock, bodyPost]
       exact ⟨hd, hb, .inr ⟨HR0.out, rfl⟩⟩
      ·rintro w1' w2' ⟨h1, h2, h3⟩ hb
       exact ⟨h1.trans (hb.mono h1.size), h2.below hb h2.lt, h3.below hb h3.lt⟩
      ·simp only [lI, lG, or_false, forall_eq_or_imp, forall_eq]
       exact ⟨fun _ _ _ _ _ h => h, fun _ _ _ _ _ h => h, fun _ _ _ _ _ h => h⟩
      simp only [lK, lM, lL, lN]
      repeat ((first | refine PX.phi_skipK rfl (fun K hK => ?_) | (refine PX.phi_pureK rfl rfl (fun K hK => ?_); apply xI; constructor; (focus (rintro w' ⟨h1, h2, h3⟩; (have q1 := (h2.cell 1).trans rfl; obtain ⟨r0, r1, r2, -⟩ := h3.cc; clear h1 h2 h3); first | (go_simp; done) | (go_simp; (try go_bits); (try go_simp); rfl) | go_simp)))); simp only [Act.put, lA, lB, lC, lD, lE]; apply hK; clear hK K)
      refine PX.phi_partK PNoS rfl rfl ⟨_, rfl⟩ ?_ (fun K hK v hv => ?_)
      ·rintro w' ⟨h1, h2, h3⟩ _
       have HC := Lib.hid (HNA.out w' h1)
       have HH := Lib.hid h1
       rw [HXX.out] at HC
       clear h1 h2 h3
       unfold PX.gives
       go_simp
       refine (HC.out.mono fun _ _ h => h.no).mono ?_
       rintro e w'' ⟨rfl, hb⟩
       exact .inr ⟨_, rfl, rfl, HH.out.trans (hb.mono HH.out.size)⟩
      obtain rfl : v = _ := hv
      simp only [Act.put, lA, lB, lC, lD, lE]
      apply hK
      clear hK K
      repeat ((first | refine PX.phi_skipK rfl (fun K hK => ?_) | (refine PX.phi_pureK rfl rfl (fun K hK => ?_); apply xI; constructor; (focus (rintro w' ⟨h1, h2, h3⟩; (have q1 := (h2.cell 1).trans rfl; obtain ⟨r0, r1, r2, -⟩ := h3.cc; clear h1 h2 h3); first | (go_simp; done) | (go_simp; (try go_bits); (try go_simp); rfl) | go_simp)))); simp only [Act.put, lA, lB, lC, lD, lE]; apply hK; clear hK K)
      refine PX.phi_partK PNoL rfl rfl ⟨_, rfl⟩ ?_ (fun K hK v hv => ?_)
      ·rintro w' _ hf
       exact (hf (5, fun w => PNoS.fact w (S ⟨#[]⟩)) (by simp) (lO.1 rfl)).elim
      obtain rfl : v = _ := hv
      simp only [Act.put, lA, lB, lC, lD, lE]
      apply hK
      clear hK K
      refine PX.phi_partK PNoL rfl rfl ⟨_, rfl⟩ ?_ (fun K hK v hv => ?_)
      ·rintro w' _ hf
       exact (hf (5, fun w => PNoS.fact w (S ⟨#[]⟩)) (by simp) (lO.1 rfl)).elim
      obtain rfl : v = _ := hv
      simp only [Act.put, lA, lB, lC, lD, lE]
      apply hK
      clear hK K
      repeat ((first | refine PX.phi_skipK rfl (fun K hK => ?_) | (refine PX.phi_pureK rfl rfl (fun K hK => ?_); apply xI; constructor; (focus (rintro w' ⟨h1, h2, h3⟩; (clear h1 h2 h3); first | (go_simp; done) | (go_simp; (try go_bits); (try go_simp); rfl) | go_simp)))); simp only [Act.put, lA, lB, lC, lD, lE]; apply hK; clear hK K)
      refine PX.phi_done ?_
      rintro w5' _ hk
      exact (hk (5, fun w => PNoS.fact w (S ⟨#[]⟩)) (by simp)).elim
     | some nn =>
      rw [hX] at HST2
      have HXX := Lib.hid hX
      clear hX
      refine wp_phiU_tail (List.take 12 _) (List.drop 12 _) (lJ 12 _).symm (rT 10 w6.heap.size 2 186 (C pv j cv) j)
       (fun w' => Blk w' g6 96 #[S (bs s), C pv j cv, C none 0 0, S (bs tx)] ∧ Blk w' wr.heap.size 87 #[S (bs x0), S (bs x1), S (bs x2)] ∧ Below w2.heap.size w2 w' ∧ wr.heap.size + 1 ≤ w'.heap.size)
       [(5, PVal (S (bs nn))), (9, PBlk wr.heap.size 186 #[S (bs nn), S (bs x2)] 1), (10, PApR w6.heap.size 2 186 (j + 1) (acells bts ++ [S (bs nn), S (bs x2)]))] [(9, [5]), (10, [5, 9])] [(10, fun w' => w'.ownsRow w6.heap.size 186 2 (C pv j cv) j (acells bts))] [] (by kernel_rfl) (by kernel_rfl) ?_ ?_ ?_ ?_ ?_ ?_
      ·rintro p _ w1 w2' ⟨g1, g2, g7, g8⟩ hR
       exact ⟨rT_blklo hR g1 h6l, rT_blk hR g2 (fun e => by have := (HVL.out _ e).2; omega), rT_below hR g7 (by omega) (by omega), nT g8 (rT_size hR)⟩
      ·intro p hp p' hp' hne hks hns w1 w2' v hI hR hf
       have hv : ∀ g, (C pv j cv).ownBlock = some g → g < wr.heap.size := fun g hg => (HVL.out g hg).2
       simp only [lI, lG, or_false] at hp hp'
       rcases hp with rfl | rfl | rfl
       ·exact hf
       ·exact fun g hg => ⟨(hf g hg).1, rT_blk hR (hf g hg).2 fun e => by (have h1 := (hf g hg).1; have h2 := hv g e; omega)⟩
       ·rcases hp' with rfl | rfl | rfl
        ·exact absurd (show (5 : Nat) ∈ needs [(9, [5]), (10, [5, 9])] 10 by decide) hns
        ·exact absurd (show (9 : Nat) ∈ needs [(9, [5]), (10, [5, 9])] 10 by decide) hns
        ·exact absurd rfl hne
      ·intro p hp u hu hne w1 w2' hI hR hf
       simp only [lI, lG, or_false] at hp hu
       subst hu
       rcases hp with rfl | rfl | rfl
       ·have hR := rT_o (show (5 : Nat) ≠ 10 by decide) ▸ hR
        exact owns_below hf hR
       ·have hR := rT_o (show (9 : Nat) ≠ 10 by decide) ▸ hR
        exact owns_below hf hR
       ·exact absurd rfl hne
      ·intro u hu
       simp only [lI, lG, or_false] at hu
       subst hu
       exact owns_below G6.out (Below.refl _ _).drew
      ·exact ⟨G1.out, G2.out, G8.out.drew, by show wr.heap.size + 1 ≤ wa.heap.size; omega⟩
      simp only [lK, lM, lL, lN]
      clear G1 G2 G6 G8 GW
      repeat ((first | refine phiU_skipK rfl (fun K hK => ?_) | (refine phiU_pureK rfl rfl (fun K hK => ?_); apply xI; constructor; (focus (rintro w' ⟨g1, g2, g7, g8⟩; have k1 := (g1.cell 1).trans rfl; obtain ⟨q0, q1, q2, -⟩ := g2.cc; clear g1 g2 g7 g8; first | (go_simp; done) | (go_simp; (try go_bits); (try go_simp); rfl) | go_simp)))); simp only [Act.put, lA, lB, lC, lD, lE]; apply hK; clear hK K)
      refine phiU_partK (PVal (S (bs nn))) rfl rfl ⟨_, rfl⟩ ?_ (fun K hK v hv => ?_)
      ·rintro w' ⟨g1, g2, g7, g8⟩ hf hu
       clear hf hu
       unfold gives
       have HC := Lib.hid (HNA.out w' (B2.out.trans (g7.mono B2.out.size)))
       rw [HXX.out] at HC
       clear g1 g2 g7 g8
       go_simp
       refine (HC.out.mono fun _ _ h => h.ok).mono ?_
       rintro e w'' ⟨rfl, hb⟩
       exact ⟨_, rfl, rfl, trivial, by rw [rT_o (by decide)]; exact hb⟩
      obtain rfl : v = _ := hv
      simp only [Act.put, lA, lB, lC, lD, lE]
      apply hK
      clear hK K
      repeat ((first | refine phiU_skipK rfl (fun K hK => ?_) | (refine phiU_pureK rfl rfl (fun K hK => ?_); apply xI; constructor; (focus (rintro w' ⟨g1, g2, g7, g8⟩; have k1 := (g1.cell 1).trans rfl; obtain ⟨q0, q1, q2, -⟩ := g2.cc; clear g1 g2 g7 g8; first | (go_simp; done) | (go_simp; (try go_bits); (try go_simp); rfl) | go_simp)))); simp only [Act.put, lA, lB, lC, lD, lE]; apply hK; clear hK K)
      refine phiU_partK (PBlk wr.heap.size 186 #[S (bs nn), S (bs x2)] 1) rfl rfl ⟨_, 0, rfl⟩ ?_ (fun K hK v hv => ?_)
      ·rintro w' ⟨g1, g2, g7, g8⟩ hf hu
       have HG := Lib.hid g8
       clear hf hu g1 g2 g7 g8
       unfold gives
       go_simp
       refine ⟨⟨_, rfl⟩, fun g hg => ?_, by rw [rT_o (by decide)]; exact below_alloc1 _ _⟩
       obtain rfl : w'.heap.size = g := by simpa using hg
       exact ⟨by have := HG.out; omega, Blk.new _ _ _⟩
      obtain ⟨g7', rfl⟩ := hv
      simp only [Act.put, lA, lB, lC, lD, lE]
      apply hK
      clear hK K
      refine phiU_partK (PApR w6.heap.size 2 186 (j + 1) (acells bts ++ [S (bs nn), S (bs x2)])) rfl rfl ⟨_, none, 0, rfl⟩ ?_ (fun K hK v hv => ?_)
      ·rintro w' ⟨g1, g2, g7, g8⟩ hf hu
       have h4 := hf (9, fun w1 => (PBlk wr.heap.size 186 #[S (bs nn), S (bs x2)] 1).fact w1 (C (some ⟨g7', 0, none⟩) 1 1)) (by simp) (lO.1 rfl) rfl
       obtain ⟨h4b, b4⟩ := h4 g7' rfl
       have hu8 : w'.ownsRow w6.heap.size 186 2 (C pv j cv) j (acells bts) := hu (10, fun w' => w'.ownsRow w6.heap.size 186 2 (C pv j cv) j (acells bts)) (by simp) rfl
       clear hf hu h4
       refine gives_appAt (.tmp 56) (.tmp 64) 93 rfl w6.heap.size 186 i8 (.agg #[S ⟨#[]⟩, S ⟨#[]⟩]) 2 32 Tryz.underlying93 hi8 hv0 hv1 hv2 rfl (by decide) _ _ _ rfl hu8 _ _ _ [S (bs nn), S (bs x2)] rfl rfl (.inr ⟨g7', 0, rfl, fun i u hiu => ?_⟩) (by simp [Value.oneCell']) (by unfold maxLen; omega) (by omega) (by omega) ?_
       ·rw [Nat.zero_add, b4.cell]
        simpa using hiu
       intro v2 w2' ho2 hg2 hat2
       obtain ⟨p2, c2, rfl, _, _, _⟩ := owns_rd ho2
       refine ⟨⟨p2, c2, rfl⟩, ho2, ?_⟩
       rw [rT_at]
       exact ⟨⟨_, hu8⟩, hg2⟩
      obtain ⟨p8, c8, rfl⟩ := hv
      simp only [Act.put, lA, lB, lC, lD, lE]
      apply hK
      clear hK K
      repeat ((first | refine phiU_skipK rfl (fun K hK => ?_) | (refine phiU_pureK rfl rfl (fun K hK => ?_); apply xI; constructor; (focus (rintro w' ⟨g1, g2, g7, g8⟩; have k1 := (g1.cell 1).trans rfl; clear g1 g2 g7 g8; first | (go_simp; done) | (go_simp; (try go_bits); (try go_simp); rfl) | go_simp)))); simp only [Act.put, lA, lB, lC, lD, lE]; apply hK; clear hK K)
      refine phiU_done ?_
      rintro w9 ⟨g1, g2, g7, g8⟩ hf
      have h10 := hf (10, fun w1 => (PApR w6.heap.size 2 186 (j + 1) (acells bts ++ [S (bs nn), S (bs x2)])).fact w1 (C p8 (j + 1) c8)) (by simp) rfl
      have ho9 : w9.ownsRow w6.heap.size 186 2 (C p8 (j + 1) c8) (j + 1) (acells bts ++ [S (bs nn), S (bs x2)]) := h10
      have f1 := g1.frozen 1
      have k1 := (g1.cell 1).trans rfl
      have O9 := ((Only.refl g6 w9).set_ 1 (C p8 (j + 1) c8))
      have R3 := Lib.hid (show Blk (w9.setCell ⟨g6, 1, none⟩ (C p8 (j + 1) c8)) g6 96 #[S (bs s), C p8 (j + 1) c8, C none 0 0, S (bs tx)] from g1.set_ 1 _)
      have R4 := Lib.hid (g7.setCell (p := ⟨g6, 1, none⟩) hg6 (C p8 (j + 1) c8))
      have R5 := Lib.hid (show (w9.setCell ⟨g6, 1, none⟩ (C p8 (j + 1) c8)).ownsRow w6.heap.size 186 2 (C p8 (j + 1) c8) (j + 1) (acells (bts ++ [[nn, x2]])) from by rw [acells_snoc]; exact O9.owns2 ho9 h6l)
      have R8 : w6.heap.size ≤ (w9.setCell ⟨g6, 1, none⟩ (C p8 (j + 1) c8)).heap.size := by rw [O9.size]; omega
      clear hf g1 g2 g7 g8 O9 ho9 h10 HVL HAT
      go_wp2_with fail
      go_roundw
      case rel => exact ⟨j + 1, C p8 (j + 1) c8, bts ++ [[nn, x2]], by omega, by go_num, HST2.out, R5.out, R3.out, R4.out, R8⟩
      case measure => simp [intOf]; omega
   ·obtain rfl : j = ax.length := by omega
    rw [lQ (nR _)] at hat
    have HR3 : RowKit.Hid (((Tr.wnL f kx).map fun xs => Tr.node [s] bts xs tx) = R) := Lib.hid (by
     have h := HR2.out
     rw [hat] at h
     exact h)
    have HAS := Lib.hid hat
    have k3 := ((N1.out.below hbr N1.out.lt).cell 3).trans rfl
    obtain ⟨wl, rfl⟩ : ∃ wl, wl = wr := ⟨_, rfl⟩
    obtain ⟨va, rfl⟩ : ∃ va, va = v := ⟨_, rfl⟩
    have hlw2 := hbr.size
    have h6w : g6 < wl.heap.size := hO.lt
    clear hat HR2
    go_wp2_with fail
    clear k3
    go_loopw [71] (fun i wr => ∃ (j : Nat) (v : Value) (ys : List Tr) (ds : List (List Value)), j ≤ kx.length ∧ i = .int .i64 j ∧ Tr.wnL f (kx.take j) = some ys ∧ wr.ownsRow wl.heap.size 96 4 v j ds.flatten ∧ TrL wr (Bt wl.heap.size wr.heap.size v.ownBlock) ys ds ∧ wr.ownsRow w6.heap.size 186 2 va ax.length (acells bts) ∧ Blk wr g6 96 #[S (bs s), va, v, S (bs tx)] ∧ Below w2.heap.size w2 wr ∧ wl.heap.size ≤ wr.heap.size) (fun i _ => kx.length - (intOf i).toNat)
    case atStart => exact ⟨0, C none 0 0, [], [], by omega, rfl, wnL_nil _, ⟨rfl, .inl ⟨rfl, rfl⟩⟩, (by unfold TrL; rfl), hrow, hO, hbr, nR _⟩
    case round =>
     clear hrow hO hbr hbw
     obtain ⟨j, v, ys, ds, hj, rfl, hrl, hrow, hkids, hown, hO, hbr, hle6⟩ := hrel
     have hbw := B2.out.trans (hbr.mono B2.out.size)
     by_cases hlt : j < kx.length
     ·obtain ⟨e1, o1, m0, m1, u1, u2, u3, u4, u5, u6, u7, rfl, hgx, hT1, hk0, hk1, hk2, hk3, hk4⟩ := kid_2 HK.out HL.out HX3.out hlt
      have ok1 := okL_get 2 kx HX3.out j hlt
      have sh1 := shrL_get kx HS4.out j hlt
      have fw1 := fewL_get kx HF3.out j hlt
      have hst := wnL_step hlt hrl
      have hk0 := Below.keeps hbw _ _ hk0
      have hk1 := Below.keeps hbw _ _ hk1
      have hk2 := Below.keeps hbw _ _ hk2
      have hk3 := Below.keeps hbw _ _ hk3
      have hk4 := Below.keeps hbw _ _ hk4
      have ihc := Lib.hid (fun (w' : World) (hb : Below w2.heap.size w2 w') => HIH.out kx[j] P _ w' (HKS.out j hlt) ok1 sh1 fw1 (hT1.below (B2.out.trans (hb.mono B2.out.size))) (HMP.out.below (B2.out.trans (hb.mono B2.out.size))) (HG.out.below (B2.out.trans (hb.mono B2.out.size))) (HE.out.below (B2.out.trans (hb.mono B2.out.size))))
      have hlt' : (j : Int) < (kx.length : Int) := by omega
      obtain ⟨pv, cv, rfl, _, _, _⟩ := owns_rd hrow
      have HVL := Lib.hid (fun g hg => hrow.lt g hg)
      have HST := Lib.hid hst
      have HRL := Lib.hid hrl
      have G3 := Lib.hid (hO.alloc (F #[S (bs m0), S (bs m1), C u4 u1.length u5, C u6 u2.length u7, S (bs u3)] 44))
      have G4 := Lib.hid (Blk.new wr 44 #[S (bs m0), S (bs m1), C u4 u1.length u5, C u6 u2.length u7, S (bs u3)])
      have G5 := Lib.hid (owns_below hown (below_alloc1 wr (F #[S (bs m0), S (bs m1), C u4 u1.length u5, C u6 u2.length u7, S (bs u3)] 44)))
      have G6 := Lib.hid (owns_below hrow (below_alloc1 wr (F #[S (bs m0), S (bs m1), C u4 u1.length u5, C u6 u2.length u7, S (bs u3)] 44)))
      have G7 := Lib.hid (hkids.below (below_alloc1 wr (F #[S (bs m0), S (bs m1), C u4 u1.length u5, C u6 u2.length u7, S (bs u3)] 44)))
      have G8 := Lib.hid (hbr.alloc hbr.size (F #[S (bs m0), S (bs m1), C u4 u1.length u5, C u6 u2.length u7, S (bs u3)] 44))
      have hs3r := hbr.size
      have hs36 : w2.heap.size ≤ wl.heap.size := by omega
      clear hT1 hown hrow hkids hO hbw hbr hst hrl ok1 sh1 fw1 hgx
      go_wp2_with fail
      clear hk0 hk1 hk2 hk3 hk4
      have hsz : (wr.alloc (F #[S (bs m0), S (bs m1), C u4 u1.length u5, C u6 u2.length u7, S (bs u3)] 44)).heap.size = wr.heap.size + 1 := by simp
      generalize wr.alloc (F #[S (bs m0), S (bs m1), C u4 u1.length u5, C u6 u2.length u7, S (bs u3)] 44) = wa at *
      cases hX : kx[j].wn f with
      | none =>
       rw [hX] at ihc HST
       have HR0 : RowKit.Hid (R = none) := Lib.hid (by
        rw [← HR3.out, wnL_bad HST.out]
        rfl)
       refine PX.wp_phi_tail (List.take 8 _) (List.drop 8 _) (lJ 8 _).symm (fun ch w' => ch = panE E 3 ∧ Below w.heap.size w w') ?_ (fun w' => Below w2.heap.size w2 w' ∧ Blk w' g6 96 #[S (bs s), va, C pv j cv, S (bs tx)] ∧ Blk w' wr.heap.size 44 #[S (bs m0), S (bs m1), C u4 u1.length u5, C u6 u2.length u7, S (bs u3)]) [(4, PNo), (5, PNo), (6, PNo)] [(5, [4]), (6, [4])] (by kernel_rfl) (by kernel_rfl) ?_ ?_ ⟨G8.out.drew, G3.out, G4.out⟩ ?_
       ·rintro ch a w' hd ⟨rfl, hb⟩
        simp only [Exit.then, Exit.inBlock, bodyPost]
        exact ⟨hd, hb, .inr ⟨HR0.out, rfl⟩⟩
       ·rintro w1' w2' ⟨h1, h2, h3⟩ hb
        exact ⟨h1.trans (hb.mono h1.size), h2.below hb h2.lt, h3.below hb h3.lt⟩
       ·simp only [lI, lG, or_false, forall_eq_or_imp, forall_eq]
        exact ⟨fun _ _ _ _ _ h => h, fun _ _ _ _ _ h => h, fun _ _ _ _ _ h => h⟩
       simp only [lK, lM, lL, lN]
       repeat ((first | refine PX.phi_skipK rfl (fun K hK => ?_) | (refine PX.phi_pureK rfl rfl (fun K hK => ?_); apply xI; constructor; (focus (rintro w' ⟨h1, h2, h3⟩; (have q3 := (h2.cell 2).trans rfl; obtain ⟨r0, r1, r2, r3, r4, -⟩ := h3.cc; clear h1 h2 h3); first | (go_simp; done) | (go_simp; (try go_bits); (try go_simp); rfl) | go_simp)))); simp only [Act.put, lA, lB, lC, lD, lE]; apply hK; clear hK K)
       refine PX.phi_partK PNo rfl rfl ⟨_, rfl⟩ ?_ (fun K hK v hv => ?_)
       ·rintro w' ⟨h1, h2, h3⟩ _
        have HC := Lib.hid (ihc.out w' h1)
        have HH := Lib.hid (B2.out.trans (h1.mono B2.out.size))
        clear h1 h2 h3
        unfold PX.gives
        go_simp
        refine HC.out.mono ?_
        rintro e w'' ⟨hb, ⟨y, cs, hy, _⟩ | ⟨_, rfl⟩⟩
        ·cases hy
        ·exact .inr ⟨_, rfl, rfl, HH.out.trans (hb.mono HH.out.size)⟩
       obtain rfl : v = _ := hv
       simp only [Act.put, lA, lB, lC, lD, lE]
       apply hK
       clear hK K
       refine PX.phi_partK PNo rfl rfl ⟨_, rfl⟩ ?_ (fun K hK v hv => ?_)
       ·rintro w' _ hf
        exact (hf (4, fun w => PNo.fact w .nilIface) (by simp) (lO.1 rfl)).elim
       obtain rfl : v = _ := hv
       simp only [Act.put, lA, lB, lC, lD, lE]
       apply hK
       clear hK K
       refine PX.phi_partK PNo rfl rfl ⟨_, rfl⟩ ?_ (fun K hK v hv => ?_)
       ·rintro w' _ hf
        exact (hf (4, fun w => PNo.fact w .nilIface) (by simp) (lO.1 rfl)).elim
       obtain rfl : v = _ := hv
       simp only [Act.put, lA, lB, lC, lD, lE]
       apply hK
       clear hK K
       repeat ((first | refine PX.phi_skipK rfl (fun K hK => ?_) | (refine PX.phi_pureK rfl rfl (fun K hK => ?_); apply xI; constructor; (focus (rintro w' ⟨h1, h2, h3⟩; (clear h1 h2 h3); first | (go_simp; done) | (go_simp; (try go_bits); (try go_simp); rfl) | go_simp)))); simp only [Act.put, lA, lB, lC, lD, lE]; apply hK; clear hK K)
       refine PX.phi_done ?_
       rintro w5' _ hk
       exact (hk (4, fun w => PNo.fact w .nilIface) (by simp)).elim
      | some X =>
       rw [hX] at ihc HST
       have hnm2 := wn_nm hX
       clear hX
       refine wp_phiU_tail (List.take 8 _) (List.drop 8 _) (lJ 8 _).symm (rT 6 wl.heap.size 4 96 (C pv j cv) j)
        (fun w' => Blk w' g6 96 #[S (bs s), va, C pv j cv, S (bs tx)] ∧ Blk w' wr.heap.size 44 #[S (bs m0), S (bs m1), C u4 u1.length u5, C u6 u2.length u7, S (bs u3)] ∧ w'.ownsRow w6.heap.size 186 2 va ax.length (acells bts) ∧ TrL w' (Bt wl.heap.size wr.heap.size (C pv j cv).ownBlock) ys ds ∧ Below w2.heap.size w2 w' ∧ wr.heap.size + 1 ≤ w'.heap.size)
        [(4, PKid (fun v => ∃ c0 c1 c2 c3, v = Value.agg #[c0, c1, c2, c3]) wr.heap.size X), (5, POne wr.heap.size 96 X), (6, PRow wl.heap.size 4 96 (j + 1) ys ds X)] [(5, [4]), (6, [4, 5])] [(6, fun w' => w'.ownsRow wl.heap.size 96 4 (C pv j cv) j ds.flatten)] [] (by kernel_rfl) (by kernel_rfl) ?_ ?_ ?_ ?_ ?_ ?_
       ·rintro p _ w1 w2 ⟨g1, g2, g5, gk, g7, g8⟩ hR
        exact ⟨rT_blklo hR g1 h6w, rT_blk hR g2 (fun e => by have := (HVL.out _ e).2; omega), rT_owns hR g5 (by decide), rT_trl hR gk (fun b hb => hb.2.2), rT_below hR g7 (by omega) (by omega), nT g8 (rT_size hR)⟩
       ·intro p hp p' hp' hne hks hns w1 w2 v hI hR hf
        have hv : ∀ g, (C pv j cv).ownBlock = some g → g < wr.heap.size := fun g hg => (HVL.out g hg).2
        simp only [lI, lG, or_false] at hp hp'
        rcases hp with rfl | rfl | rfl
        ·exact PKid_stays hR hv hf
        ·exact POne_stays hR hv hf
        ·rcases hp' with rfl | rfl | rfl
         ·exact absurd (show (4 : Nat) ∈ needs [(5, [4]), (6, [4, 5])] 6 by decide) hns
         ·exact absurd (show (5 : Nat) ∈ needs [(5, [4]), (6, [4, 5])] 6 by decide) hns
         ·exact absurd rfl hne
       ·intro p hp u hu hne w1 w2 hI hR hf
        simp only [lI, lG, or_false] at hp hu
        subst hu
        rcases hp with rfl | rfl | rfl
        ·have hR := rT_o (show (4 : Nat) ≠ 6 by decide) ▸ hR
         exact owns_below hf hR
        ·have hR := rT_o (show (5 : Nat) ≠ 6 by decide) ▸ hR
         exact owns_below hf hR
        ·exact absurd rfl hne
       ·intro u hu
        simp only [lI, lG, or_false] at hu
        subst hu
        exact owns_below G6.out (Below.refl _ _).drew
       ·exact ⟨G3.out, G4.out, owns_below G5.out (Below.refl _ _).drew, G7.out.below (Below.refl _ _).drew, G8.out.drew, by show wr.heap.size + 1 ≤ wa.heap.size; omega⟩
       simp only [lK, lM, lL, lN]
       clear G3 G4 G5 G6 G7 G8
       repeat ((first | refine phiU_skipK rfl (fun K hK => ?_) | (refine phiU_pureK rfl rfl (fun K hK => ?_); apply xI; constructor; (focus (rintro w' ⟨g1, g2, g5, gk, g7, g8⟩; have k1 := (g1.cell 2).trans rfl; obtain ⟨q0, q1, q2, q3, q4, -⟩ := g2.cc; clear g1 g2 g5 gk g7 g8; first | (go_simp; done) | (go_simp; (try go_bits); (try go_simp); rfl) | go_simp)))); simp only [Act.put, lA, lB, lC, lD, lE]; apply hK; clear hK K)
       refine phiU_partK (PKid (fun v => ∃ c0 c1 c2 c3, v = Value.agg #[c0, c1, c2, c3]) wr.heap.size X) rfl rfl ⟨_, .nilIface, .nilIface, .nilIface, .nilIface, rfl⟩ ?_ (fun K hK v hv => ?_)
       ·rintro w' ⟨g1, g2, g5, gk, g7, g8⟩ hf hu
        clear hf hu
        unfold gives
        have HC := Lib.hid (ihc.out w' g7)
        have HG8 := Lib.hid g8
        clear g1 g2 g5 gk g7 g8
        go_simp
        refine HC.out.mono ?_
        rintro e w'' ⟨hb, ⟨y, cs, hy, rfl, hcs⟩ | ⟨hy, _⟩⟩
        ·cases hy
         obtain ⟨c0, c1, c2, c3, rfl⟩ := four_of (l := cs) (by rw [hcs.len, hnm2])
         exact ⟨_, rfl, ⟨c0, c1, c2, c3, rfl⟩, ⟨_, w''.heap.size, rfl, hcs.imp (fun b hb => ⟨nT HG8.out hb.1, hb.2.1, hb.2.2⟩), nR _⟩, by rw [rT_o (by decide)]; exact hb⟩
        ·cases hy
       obtain ⟨c0, c1, c2, c3, rfl⟩ := hv
       simp only [Act.put, lA, lB, lC, lD, lE]
       apply hK
       clear hK K
       refine phiU_partK (POne wr.heap.size 96 X) rfl rfl ⟨_, 0, rfl⟩ ?_ (fun K hK v hv => ?_)
       ·rintro w' ⟨g1, g2, g5, gk, g7, g8⟩ hf hu
        have h3 := hf (4, fun w1 => (PKid (fun v => ∃ c0 c1 c2 c3, v = Value.agg #[c0, c1, c2, c3]) wr.heap.size X).fact w1 (.agg #[c0, c1, c2, c3])) (by simp) (lO.1 rfl) rfl
        have HG := Lib.hid (And.intro h3 g8)
        clear hf hu h3 g1 g2 g5 gk g7 g8
        unfold gives
        go_simp
        refine ⟨⟨_, rfl⟩, fun g hg => ?_, by rw [rT_o (by decide)]; exact below_alloc1 _ _⟩
        obtain rfl : w'.heap.size = g := by simpa using hg
        obtain ⟨⟨cs, B, e3, t3, b3⟩, g8⟩ := HG.out
        injection e3 with e3
        refine ⟨by omega, cs, B, ?_, t3.below (below_alloc1 _ _), nT b3 (below_alloc1 w' _).size⟩
        rw [← e3]
        exact Blk.new _ _ _
       obtain ⟨g7', rfl⟩ := hv
       simp only [Act.put, lA, lB, lC, lD, lE]
       apply hK
       clear hK K
       refine phiU_partK (PRow wl.heap.size 4 96 (j + 1) ys ds X) rfl rfl ⟨_, none, 0, rfl⟩ ?_ (fun K hK v hv => ?_)
       ·rintro w' ⟨g1, g2, g5, gk, g7, g8⟩ hf hu
        have h4 := hf (5, fun w1 => (POne wr.heap.size 96 X).fact w1 (C (some ⟨g7', 0, none⟩) 1 1)) (by simp) (lO.1 rfl) rfl
        obtain ⟨h4b, cs, B, b4, t4, l4⟩ := h4 g7' rfl
        have hu8 : w'.ownsRow wl.heap.size 96 4 (C pv j cv) j ds.flatten := hu (6, fun w' => w'.ownsRow wl.heap.size 96 4 (C pv j cv) j ds.flatten) (by simp) rfl
        have hv : ∀ g, (C pv j cv).ownBlock = some g → g < wr.heap.size := fun g hg => (HVL.out g hg).2
        clear hf hu h4
        refine gives_appAt (.tmp 76) (.tmp 80) 94 rfl wl.heap.size 96 i9 (.agg #[S ⟨#[]⟩, C none 0 0, C none 0 0, S ⟨#[]⟩]) 4 80 Tryz.underlying94 hi9 hy0 hy1 hy2 rfl (by decide) _ _ _ rfl hu8 _ _ _ cs rfl (by rw [t4.len, hnm2]) (.inr ⟨g7', 0, rfl, fun i u hiu => ?_⟩) t4.one (by unfold maxLen; omega) (by omega) (by omega) ?_
        ·rw [Nat.zero_add, b4.cell]
         simpa using hiu
        intro v2 w2 ho2 hg2 hat2
        obtain ⟨p2, c2, rfl, _, _, _⟩ := owns_rd ho2
        refine ⟨⟨p2, c2, rfl⟩, prow_step hg2 hat2 hv (by omega) (by omega) gk t4 l4 (by rw [flat_snoc]; exact ho2), ?_⟩
        rw [rT_at]
        exact ⟨⟨_, hu8⟩, hg2⟩
       obtain ⟨p8, c8, rfl⟩ := hv
       simp only [Act.put, lA, lB, lC, lD, lE]
       apply hK
       clear hK K
       repeat ((first | refine phiU_skipK rfl (fun K hK => ?_) | (refine phiU_pureK rfl rfl (fun K hK => ?_); apply xI; constructor; (focus (rintro w' ⟨g1, g2, g5, gk, g7, g8⟩; have k1 := (g1.cell 2).trans rfl; clear g1 g2 g5 gk g7 g8; first | (go_simp; done) | (go_simp; (try go_bits); (try go_simp); rfl) | go_simp)))); simp only [Act.put, lA, lB, lC, lD, lE]; apply hK; clear hK K)
       refine phiU_done ?_
       rintro w9 ⟨g1, g2, g5, gk, g7, g8⟩ hf
       obtain ⟨cs, ho9, hk9⟩ := hf (6, fun w1 => (PRow wl.heap.size 4 96 (j + 1) ys ds X).fact w1 (C p8 (j + 1) c8)) (by simp) rfl
       have f1 := g1.frozen 2
       have k1 := (g1.cell 2).trans rfl
       have O9 := ((Only.refl g6 w9).set_ 2 (C p8 (j + 1) c8))
       have R3 := Lib.hid (show Blk (w9.setCell ⟨g6, 2, none⟩ (C p8 (j + 1) c8)) g6 96 #[S (bs s), va, C p8 (j + 1) c8, S (bs tx)] from g1.set_ 2 _)
       have R4 := Lib.hid (g7.setCell (p := ⟨g6, 2, none⟩) hg6 (C p8 (j + 1) c8))
       have R5 := Lib.hid (O9.owns2 ho9 h6w)
       have R6 := Lib.hid (O9.owns g1 g5 (by decide))
       have R7 := Lib.hid (hk9.only O9 (fun b hb => by have := hb.1; omega))
       rw [show w9.heap.size = (w9.setCell ⟨g6, 2, none⟩ (C p8 (j + 1) c8)).heap.size from O9.size.symm] at R7
       have R8 : wl.heap.size ≤ (w9.setCell ⟨g6, 2, none⟩ (C p8 (j + 1) c8)).heap.size := by rw [O9.size]; omega
       clear hf g1 g2 g5 gk g7 g8 O9 ho9 hk9 ihc HVL
       go_wp2_with fail
       go_roundw
       case rel => exact ⟨j + 1, C p8 (j + 1) c8, ys ++ [X], ds ++ [cs], by omega, by go_num, HST.out, R5.out, R7.out, R6.out, R3.out, R4.out, R8⟩
       case measure => simp [intOf]; omega
     ·obtain rfl : j = kx.length := by omega
      rw [lQ (nR _)] at hrl
      have HR0 : RowKit.Hid (R = some (.node [s] bts ys tx)) := Lib.hid (by rw [← HR3.out, hrl]; rfl)
      have hyl := wnL_len hrl
      obtain ⟨pA, cA, rfl, yy1, yy2, yy3, yy4⟩ := owns_rdP hown
      obtain ⟨pv, cv, rfl, zz1, zz2, zz3, zz4⟩ := owns_rdP hrow
      obtain ⟨r0, r1, r2, r3, -⟩ := hO.cc
      have HMb := Lib.hid (N2.out.below hbr N2.out.lt)
      have hs3r := hbr.size
      have HFIN := Lib.hid (show ∀ w', Only (w.heap.size + 1) wr w' → TrC w' (Bt w.heap.size w'.heap.size none) (.node [s] bts ys tx) [S (bs s), C pA ax.length cA, C pv kx.length cv, S (bs tx)] from fun w' k => by
       have e := k.size
       have q1 : Rd w' pA (acells bts) := yy3.keepP (P := fun b => w6.heap.size ≤ b) (fun a ha => (yy4 a ha).1) fun a v hp hc => (World.cell?_of_block (k.block a.block (by omega))).trans hc
       have q2 : Rd w' pv ds.flatten := zz3.keepP (P := fun b => wl.heap.size ≤ b) (fun a ha => (zz4 a ha).1) fun a v hp hc => (World.cell?_of_block (k.block a.block (by omega))).trans hc
       unfold TrC
       rw [hyl, (wnAts_len HAS.out).1]
       exact ⟨pA, cA, pv, cv, ds, rfl, ⟨yy1, yy2, q1, fun a ha => ⟨by have := (yy4 a ha).1; omega, by rw [e]; exact (yy4 a ha).2, by simp⟩⟩, ⟨zz1, zz2, q2, fun a ha => ⟨by have := (zz4 a ha).1; omega, by rw [e]; exact (zz4 a ha).2, by simp⟩⟩,
        (hkids.only k (fun b hb => by have := hb.1; omega)).imp fun b hb => ⟨by have := hb.1; omega, by rw [e]; exact hb.2.1, by simp⟩⟩)
      have HBW := Lib.hid hbw
      clear hO hown hrow hkids hbw hbr hrl yy1 yy2 yy3 yy4 zz1 zz2 zz3 zz4
      go_wp2_with (refine wpList_store (.tmp 4) (.tmp 84) 96 rfl rfl (w.heap.size + 1) 0 _ _ #[S (bs s), C pA ax.length cA, C pv kx.length cv, S (bs tx)] rfl rfl HMb.out ?s0 ?s1 ?s2 ?_)
      case s0 => kernel_rfl
      case s1 => simp [Value.oneCell']
      case s2 => simp
      intro w8 hb8 ho8
      rw [putCells_all #[S ⟨#[]⟩, C none 0 0, C none 0 0, S ⟨#[]⟩] #[S (bs s), C pA ax.length cA, C pv kx.length cv, S (bs tx)] rfl] at hb8
      obtain ⟨z0, z1, z2, z3, -⟩ := hb8.cc
      have HO8 := Lib.hid ho8
      clear r0 r1 r2 r3 hb8 ho8
      go_wp2_with fail
      refine bodyPost_ret (v := .agg #[S (bs s), C pA ax.length cA, C pv kx.length cv, S (bs tx)]) (by simp [results, Tryz.results130, go_sem, z0, z1, z2, z3]) rfl ?_
      exact ⟨HBW.out.trans (Only.below HO8.out (by omega)), .inl ⟨_, [S (bs s), C pA ax.length cA, C pv kx.length cv, S (bs tx)], HR0.out, rfl, HFIN.out w8 HO8.out⟩⟩
end Go.Proofs.YthboiahdheehkaaGreatDoor
