/-
  Told23: the walk of the law's told (chapter 23).
-/
import Derived.Test.YtkghpmpmcafhkaaGreatDoorPD
import Derived.Test.YtkghpmpmcafhkaaGreatDoorPA
namespace Go.Proofs.YtkghpmpmcafhkaaGreatDoor
open Go.RowKit Go.Extern.Stop Go.Stop Go.Extern

attribute [local go_sem] bs_toList
attribute [local irreducible] wpPhi wpPhiU
theorem told23_infoA : (Tryz.prog.info? 91).map (fun i => (i.zero, i.size, i.bytes)) = some (some (.agg #[.string ⟨#[]⟩, .string ⟨#[]⟩]), 2, 32) := by kernel_rfl
theorem told23_infoE : (Tryz.prog.info? 50).map (fun i => (i.zero, i.size, i.bytes)) = some (some (.agg #[.string ⟨#[]⟩, .slice none 0 0, .slice none 0 0, .string ⟨#[]⟩]), 4, 80) := by kernel_rfl
set_option maxRecDepth 20000 in
set_option maxHeartbeats 8000000 in
theorem told23_any : ∀ (n : Nat) (x : Tr) (P : Nat → Prop) (cx : List Value) (w : World), x.sz ≤ n → x.ok 1 → x.sm → TrC w P x cx →
    Calls Tryz.prog 34 #[.agg cx.toArray] w (TrR x w) := by
  intro n
  induction n with
  | zero => intro x P cx w hs; have := x.sz_pos; omega
  | succ n ih =>
    intro x P cx w hs hx hsm hcx
    obtain ⟨nx, ax, kx, tx⟩ := x
    unfold TrC at hcx
    unfold Tr.ok at hx
    unfold Tr.sm at hsm
    obtain ⟨hx1, hx2, hx3⟩ := hx
    obtain ⟨hm1, hm2, hm3⟩ := hsm
    obtain ⟨a0, rfl⟩ := one_of hx1
    obtain ⟨pa, ca, pk, ck, css, rfl, ⟨A1, A2, A3, -⟩, ⟨K1, K2, K3, -⟩, hL⟩ := hcx
    show Calls Tryz.prog 34 #[.agg #[.string (bs a0), .slice pa ax.length ca, .slice pk kx.length ck, .string (bs tx)]] w _
    obtain ⟨i0, hi0, hz0, hz1, hz2⟩ := info_parts told23_infoA
    obtain ⟨i9, hi9, hy0, hy1, hy2⟩ := info_parts told23_infoE
    have hs' : ∀ i (hi : i < kx.length), kx[i].sz ≤ n := fun i hi => by
      have := Tr.sz_kid (.node [a0] ax kx tx) i hi
      simp only [Tr.ks] at this
      omega
    have HS := Lib.hid hs'
    have HA := Lib.hid A3; have HK := Lib.hid K3; have HL := Lib.hid hL
    have HX2 := Lib.hid hx2; have HX3 := Lib.hid hx3; have HM3 := Lib.hid hm3
    have IH := Lib.hid ih
    unfold maxLen at A2 K2
    obtain ⟨w3, hw3⟩ : ∃ w3, w3 = ((w.alloc (.cells #[.string (bs a0), .slice pa ax.length ca, .slice pk kx.length ck, .string (bs tx)] 28)).alloc (.cells #[.string ⟨#[]⟩, .slice none 0 0, .slice none 0 0, .string ⟨#[]⟩] 50)).alloc (.cells #[.string (bs a0), .slice none 0 0, .slice none 0 0, .string (bs tx)] 50) := ⟨_, rfl⟩
    have B3 := Lib.hid (show Below w.heap.size w w3 by rw [hw3]; exact below_alloc (below_alloc (below_alloc1 w _) _) _)
    have N1 := Lib.hid (show Blk w3 w.heap.size 28 #[.string (bs a0), .slice pa ax.length ca, .slice pk kx.length ck, .string (bs tx)] by rw [hw3]; exact ((Blk.new w _ _).alloc _).alloc _)
    have N2 := Lib.hid (show Blk w3 (w.heap.size + 1) 50 #[.string ⟨#[]⟩, .slice none 0 0, .slice none 0 0, .string ⟨#[]⟩] by
      rw [hw3]
      have := (Blk.new (w.alloc (.cells #[.string (bs a0), .slice pa ax.length ca, .slice pk kx.length ck, .string (bs tx)] 28)) 50 #[.string ⟨#[]⟩, .slice none 0 0, .slice none 0 0, .string ⟨#[]⟩]).alloc (.cells #[.string (bs a0), .slice none 0 0, .slice none 0 0, .string (bs tx)] 50)
      rwa [World.size_alloc] at this)
    have N3 := Lib.hid (show Blk w3 (w.heap.size + 1 + 1) 50 #[.string (bs a0), .slice none 0 0, .slice none 0 0, .string (bs tx)] by
      rw [hw3]
      have := Blk.new ((w.alloc (.cells #[.string (bs a0), .slice pa ax.length ca, .slice pk kx.length ck, .string (bs tx)] 28)).alloc (.cells #[.string ⟨#[]⟩, .slice none 0 0, .slice none 0 0, .string ⟨#[]⟩] 50)) 50 #[.string (bs a0), .slice none 0 0, .slice none 0 0, .string (bs tx)]
      rwa [World.size_alloc, World.size_alloc] at this)
    have HW3 := Lib.hid hw3
    have hc : ∀ i, ((w.alloc (.cells #[.string (bs a0), .slice pa ax.length ca, .slice pk kx.length ck, .string (bs tx)] 28)).alloc (.cells #[.string ⟨#[]⟩, .slice none 0 0, .slice none 0 0, .string ⟨#[]⟩] 50)).cell? ⟨w.heap.size, i, none⟩ = (#[.string (bs a0), .slice pa ax.length ca, .slice pk kx.length ck, .string (bs tx)] : Array Value)[i]? := fun i => ((Blk.new w 28 #[.string (bs a0), .slice pa ax.length ca, .slice pk kx.length ck, .string (bs tx)]).alloc _).cell i
    have hc3 : ∀ i, (((w.alloc (.cells #[.string (bs a0), .slice pa ax.length ca, .slice pk kx.length ck, .string (bs tx)] 28)).alloc (.cells #[.string ⟨#[]⟩, .slice none 0 0, .slice none 0 0, .string ⟨#[]⟩] 50)).alloc (.cells #[.string (bs a0), .slice none 0 0, .slice none 0 0, .string (bs tx)] 50)).cell? ⟨w.heap.size, i, none⟩ = (#[.string (bs a0), .slice pa ax.length ca, .slice pk kx.length ck, .string (bs tx)] : Array Value)[i]? := fun i => (((Blk.new w 28 #[.string (bs a0), .slice pa ax.length ca, .slice pk kx.length ck, .string (bs tx)]).alloc _).alloc _).cell i
    have c0 := (hc 0).trans rfl
    have c3 := (hc 3).trans rfl
    have d1 := (hc3 1).trans rfl
    clear A3 K3 hL hx1 hx2 hx3 hm3 ih hs hs' hw3 hc hc3
    go_enter Tryz.func34, Tryz.ntmps34
    go_wp2_with fail
    rw [← HW3.out]
    clear c0 c3 d1
    go_loopw [16] (fun i wr => ∃ (j : Nat) (v : Value), j ≤ ax.length ∧ i = .int .i64 j ∧ wr.ownsRow (w.heap.size + 3) 91 2 v j (acells (ax.take j)) ∧ Blk wr w.heap.size 28 #[.string (bs a0), .slice pa ax.length ca, .slice pk kx.length ck, .string (bs tx)] ∧ Blk wr (w.heap.size + 1) 50 #[.string ⟨#[]⟩, .slice none 0 0, .slice none 0 0, .string ⟨#[]⟩] ∧ Blk wr (w.heap.size + 1 + 1) 50 #[.string (bs a0), v, .slice none 0 0, .string (bs tx)] ∧ Below w.heap.size w wr) (fun i _ => ax.length - (intOf i).toNat)
    case atStart => exact ⟨0, .slice none 0 0, by omega, rfl, ⟨by simp [acells], .inl ⟨rfl, rfl⟩⟩, N1.out, N2.out, N3.out, B3.out⟩
    case round =>
      clear N1 N2 N3 B3 HW3
      obtain ⟨j, v, hj, rfl, hown, hN, hM, hO, hbw⟩ := hrel
      by_cases hlt : j < ax.length
      · obtain ⟨e1, o1, x0, x1, rfl, hgx, hx0, hx1⟩ := at_1 HA.out HX2.out hlt
        have hx0 := Below.keeps hbw _ _ hx0
        have hx1 := Below.keeps hbw _ _ hx1
        have hat : acells (ax.take (j + 1)) = acells (ax.take j) ++ [.string (bs x0), .string (bs x1)] := by
          rw [List.take_succ_eq_append_getElem hlt, acells_snoc, hgx]; rfl
        have HAT := Lib.hid hat
        have hlt' : (j : Int) < (ax.length : Int) := by omega
        obtain ⟨pv, cv, rfl, _, _, _⟩ := owns_rd hown
        have hs1 : w.heap.size + 3 ≤ wr.heap.size := by have := hO.lt; omega
        have hs2 : w.heap.size + 3 ≤ ((wr.alloc (.cells #[.string (bs x0), .string (bs x1)] 69)).alloc (.cells #[.string (bs x0), .string (bs x1)] 91)).heap.size := by simp; omega
        have k1 : (wr.alloc (.cells #[.string (bs x0), .string (bs x1)] 69)).cell? ⟨w.heap.size + 1 + 1, 1, none⟩ = some (.slice pv j cv) := ((hO.alloc _).cell 1).trans rfl
        have hown2 := owns_below (owns_below hown (below_alloc1 wr (.cells #[.string (bs x0), .string (bs x1)] 69))) (below_alloc1 _ (.cells #[.string (bs x0), .string (bs x1)] 91))
        have hN2 := (hN.alloc (.cells #[.string (bs x0), .string (bs x1)] 69)).alloc (.cells #[.string (bs x0), .string (bs x1)] 91)
        have hM2 := (hM.alloc (.cells #[.string (bs x0), .string (bs x1)] 69)).alloc (.cells #[.string (bs x0), .string (bs x1)] 91)
        have hO2 := (hO.alloc (.cells #[.string (bs x0), .string (bs x1)] 69)).alloc (.cells #[.string (bs x0), .string (bs x1)] 91)
        have hb2 := below_alloc (below_alloc hbw (.cells #[.string (bs x0), .string (bs x1)] 69)) (.cells #[.string (bs x0), .string (bs x1)] 91)
        have HN2 := Lib.hid hN2; have HM2 := Lib.hid hM2; have HO2 := Lib.hid hO2; have HB2 := Lib.hid hb2; have HOW := Lib.hid hown2
        clear hgx hat hown hN hM hO hbw hN2 hM2 hO2 hb2 hown2
        go_wp2_with (at_builtin; refine wpList_app (.tmp 21) (.tmp 23) 47 rfl rfl (w.heap.size + 3) 91 i0 (.agg #[.string ⟨#[]⟩, .string ⟨#[]⟩]) 2 32 Tryz.underlying47 hi0 hz0 hz1 hz2 rfl (by decide) _ _ _ rfl HOW.out _ _ _ [.string (bs x0), .string (bs x1)] rfl rfl (rd_at _ #[_, _] _ _ _ (by simp)) ?b1 ?b2 ?b3 hs2 ?_)
        case b1 => simp [Value.oneCell']
        case b2 => unfold maxLen; omega
        case b3 => omega
        intro v1 w1 ho1 hg1
        obtain ⟨p1, cp1, rfl, _, _, _⟩ := owns_rd ho1
        have hlo : ∀ g, (Value.slice pv j cv).ownBlock = some g → w.heap.size + 3 ≤ g := fun g hg => (HOW.out.lt g hg).1
        have hN1 : Blk w1 w.heap.size 28 #[.string (bs a0), .slice (some ⟨e1, o1, none⟩) ax.length ca, .slice pk kx.length ck, .string (bs tx)] := (hg1.block _ HN2.out.lt fun e => by have := hlo _ e.symm; omega).trans HN2.out
        have hM1 : Blk w1 (w.heap.size + 1) 50 #[.string ⟨#[]⟩, .slice none 0 0, .slice none 0 0, .string ⟨#[]⟩] := (hg1.block _ HM2.out.lt fun e => by have := hlo _ e.symm; omega).trans HM2.out
        have hO1 : Blk w1 (w.heap.size + 1 + 1) 50 #[.string (bs a0), .slice pv j cv, .slice none 0 0, .string (bs tx)] := (hg1.block _ HO2.out.lt fun e => by have := hlo _ e.symm; omega).trans HO2.out
        have hb1 := HB2.out.grown hg1 (by simp; omega) fun g hg => by have := hlo g hg; omega
        have c1 := (hO1.cell 1).trans rfl
        have f1 := hO1.frozen 1
        have R1 := Lib.hid (show Blk (w1.setCell ⟨w.heap.size + 1 + 1, 1, none⟩ (.slice p1 (j + 1) cp1)) w.heap.size 28 #[.string (bs a0), .slice (some ⟨e1, o1, none⟩) ax.length ca, .slice pk kx.length ck, .string (bs tx)] from hN1.far (by omega) _ _)
        have R2 := Lib.hid (show Blk (w1.setCell ⟨w.heap.size + 1 + 1, 1, none⟩ (.slice p1 (j + 1) cp1)) (w.heap.size + 1) 50 #[.string ⟨#[]⟩, .slice none 0 0, .slice none 0 0, .string ⟨#[]⟩] from hM1.far (by omega) _ _)
        have R3 := Lib.hid (show Blk (w1.setCell ⟨w.heap.size + 1 + 1, 1, none⟩ (.slice p1 (j + 1) cp1)) (w.heap.size + 1 + 1) 50 #[.string (bs a0), .slice p1 (j + 1) cp1, .slice none 0 0, .string (bs tx)] from hO1.set_ 1 (.slice p1 (j + 1) cp1))
        have R4 := Lib.hid (show Below w.heap.size w (w1.setCell ⟨w.heap.size + 1 + 1, 1, none⟩ (.slice p1 (j + 1) cp1)) from hb1.setCell (show w.heap.size ≤ w.heap.size + 1 + 1 by omega) _)
        have R5 := Lib.hid (show (w1.setCell ⟨w.heap.size + 1 + 1, 1, none⟩ (.slice p1 (j + 1) cp1)).ownsRow (w.heap.size + 3) 91 2 (.slice p1 (j + 1) cp1) (j + 1) (acells (ax.take (j + 1))) from ((Only.refl _ w1).set_ 1 (.slice p1 (j + 1) cp1)).owns2 (by rw [HAT.out]; exact ho1) (by omega))
        clear hx0 hx1 k1 hlo hN1 hM1 hO1 hb1 ho1 hg1 HN2 HM2 HO2 HB2 HOW HAT
        go_wp2_with fail
        go_roundw
        case rel => exact ⟨j + 1, .slice p1 (j + 1) cp1, by omega, by go_num, R5.out, R1.out, R2.out, R3.out, R4.out⟩
        case measure => simp [intOf]; omega
      · obtain rfl : j = ax.length := by omega
        rw [List.take_of_length_le (Nat.le_refl _)] at hown
        have k1 := (hN.cell 2).trans rfl
        go_wp2_with fail
        clear k1
        obtain ⟨wo, rfl⟩ : ∃ wo, wo = wr := ⟨_, rfl⟩
        obtain ⟨va, rfl⟩ : ∃ va, va = v := ⟨_, rfl⟩
        go_loopw [30] (fun i wr => ∃ (j : Nat) (v : Value) (css : List (List Value)), j ≤ kx.length ∧ i = .int .i64 j ∧ wr.ownsRow (w.heap.size + 3) 50 4 v j css.flatten ∧ TrL wr (Bt (w.heap.size + 3) wr.heap.size v.ownBlock) (kx.take j) css ∧ wr.ownsRow (w.heap.size + 3) 91 2 va ax.length (acells ax) ∧ Blk wr w.heap.size 28 #[.string (bs a0), .slice pa ax.length ca, .slice pk kx.length ck, .string (bs tx)] ∧ Blk wr (w.heap.size + 1) 50 #[.string ⟨#[]⟩, .slice none 0 0, .slice none 0 0, .string ⟨#[]⟩] ∧ Blk wr (w.heap.size + 1 + 1) 50 #[.string (bs a0), va, v, .string (bs tx)] ∧ Below w.heap.size w wr) (fun i _ => kx.length - (intOf i).toNat)
        case atStart => exact ⟨0, .slice none 0 0, [], by omega, rfl, ⟨rfl, .inl ⟨rfl, rfl⟩⟩, (by unfold TrL; rfl), hown, hN, hM, hO, hbw⟩
        case round =>
          clear hown hN hM hO hbw
          obtain ⟨j, v, ds, hj, rfl, hrow, hkids, hown, hN, hM, hO, hbw⟩ := hrel
          by_cases hlt : j < kx.length
          · obtain ⟨e1, o1, m0, u1, u2, u3, u4, u5, u6, u7, rfl, hgx, hT1, hk0, hk1, hk2, hk3⟩ := kid_1 HK.out HL.out HX3.out hlt
            have ok1 := okL_get 1 kx HX3.out j hlt
            have sm1 := smL_get kx HM3.out j hlt
            have ihc := Lib.hid (fun (w' : World) (h1 : TrC w' P kx[j] [.string (bs m0), .slice u4 u1.length u5, .slice u6 u2.length u7, .string (bs u3)]) => IH.out kx[j] P _ w' (HS.out j hlt) ok1 sm1 h1)
            have HGX := Lib.hid hgx
            have HTK := Lib.hid (List.take_succ_eq_append_getElem hlt)
            clear ok1 sm1 hgx
            have hk0 := Below.keeps hbw _ _ hk0
            have hk1 := Below.keeps hbw _ _ hk1
            have hk2 := Below.keeps hbw _ _ hk2
            have hk3 := Below.keeps hbw _ _ hk3
            generalize kx[j] = X at *
            have hlt' : (j : Int) < (kx.length : Int) := by omega
            obtain ⟨pv, cv, rfl, _, _, _⟩ := owns_rd hrow
            have hs1 : w.heap.size + 3 ≤ wr.heap.size := by have := hO.lt; omega
            have hvlt : ∀ g, (Value.slice pv j cv).ownBlock = some g → w.heap.size + 3 ≤ g ∧ g < wr.heap.size := fun g hg => hrow.lt g hg
            have HVL := Lib.hid hvlt
            have HT := Lib.hid hT1
            have G1 := Lib.hid (hN.alloc (.cells #[.string (bs m0), .slice u4 u1.length u5, .slice u6 u2.length u7, .string (bs u3)] 28)); have G2 := Lib.hid (hM.alloc (.cells #[.string (bs m0), .slice u4 u1.length u5, .slice u6 u2.length u7, .string (bs u3)] 28)); have G3 := Lib.hid (hO.alloc (.cells #[.string (bs m0), .slice u4 u1.length u5, .slice u6 u2.length u7, .string (bs u3)] 28))
            have G4 := Lib.hid (Blk.new wr 28 #[.string (bs m0), .slice u4 u1.length u5, .slice u6 u2.length u7, .string (bs u3)])
            have G5 := Lib.hid (owns_below hown (below_alloc1 wr (.cells #[.string (bs m0), .slice u4 u1.length u5, .slice u6 u2.length u7, .string (bs u3)] 28)))
            have G6 := Lib.hid (owns_below hrow (below_alloc1 wr (.cells #[.string (bs m0), .slice u4 u1.length u5, .slice u6 u2.length u7, .string (bs u3)] 28)))
            have G7 := Lib.hid (hkids.below (below_alloc1 wr (.cells #[.string (bs m0), .slice u4 u1.length u5, .slice u6 u2.length u7, .string (bs u3)] 28)))
            have G8 := Lib.hid (below_alloc hbw (.cells #[.string (bs m0), .slice u4 u1.length u5, .slice u6 u2.length u7, .string (bs u3)] 28))
            clear hT1 hvlt hown hrow hkids hN hM hO hbw
            go_wp2_with fail
            clear hk0 hk1 hk2 hk3
            have hsz : (wr.alloc (.cells #[.string (bs m0), .slice u4 u1.length u5, .slice u6 u2.length u7, .string (bs u3)] 28)).heap.size = wr.heap.size + 1 := by simp
            generalize wr.alloc (.cells #[.string (bs m0), .slice u4 u1.length u5, .slice u6 u2.length u7, .string (bs u3)] 28) = wa at *
            refine wp_phiU_tail (List.take 7 _) (List.drop 7 _) (List.take_append_drop 7 _).symm (rT 5 (w.heap.size + 3) 4 50 (.slice pv j cv) j)
              (fun w' => Blk w' (w.heap.size + 1 + 1) 50 #[.string (bs a0), va, .slice pv j cv, .string (bs tx)] ∧ Blk w' wr.heap.size 28 #[.string (bs m0), .slice u4 u1.length u5, .slice u6 u2.length u7, .string (bs u3)] ∧ Blk w' w.heap.size 28 #[.string (bs a0), .slice pa ax.length ca, .slice (some ⟨e1, o1, none⟩) kx.length ck, .string (bs tx)] ∧ Blk w' (w.heap.size + 1) 50 #[.string ⟨#[]⟩, .slice none 0 0, .slice none 0 0, .string ⟨#[]⟩] ∧ w'.ownsRow (w.heap.size + 3) 91 2 va ax.length (acells ax) ∧ TrL w' (Bt (w.heap.size + 3) wr.heap.size (Value.slice pv j cv).ownBlock) (kx.take j) ds ∧ Below w.heap.size w w' ∧ wr.heap.size + 1 ≤ w'.heap.size)
              [(3, PKid (fun v => ∃ p1 c1 p2 c2, v = Value.agg #[.string (bs m0), .slice p1 u1.length c1, .slice p2 u2.length c2, .string (bs u3)]) wr.heap.size X), (4, POne wr.heap.size 50 X), (5, PRow (w.heap.size + 3) 4 50 (j + 1) (kx.take j) ds X)] [(4, [3]), (5, [3, 4])] [(5, fun w' => w'.ownsRow (w.heap.size + 3) 50 4 (.slice pv j cv) j ds.flatten)] [] (by kernel_rfl) (by kernel_rfl) ?_ ?_ ?_ ?_ ?_ ?_
            · rintro p _ w1 w2 ⟨g1, g2, g3, g4, g5, g6, g7, g8⟩ hR
              exact ⟨rT_blklo hR g1 (by omega), rT_blk hR g2 (fun e => by have := (HVL.out _ e).2; omega), rT_blklo hR g3 (by omega), rT_blklo hR g4 (by omega), rT_owns hR g5 (by decide), rT_trl hR g6 (fun b hb => hb.2.2), rT_below hR g7 (by omega) (by omega), Nat.le_trans g8 (rT_size hR)⟩
            · intro p hp p' hp' hne hks hns w1 w2 v hI hR hf
              have hv : ∀ g, (Value.slice pv j cv).ownBlock = some g → g < wr.heap.size := fun g hg => (HVL.out g hg).2
              simp only [List.mem_cons, List.not_mem_nil, or_false] at hp hp'
              rcases hp with rfl | rfl | rfl
              · exact PKid_stays hR hv hf
              · exact POne_stays hR hv hf
              · rcases hp' with rfl | rfl | rfl
                · exact absurd (show (3 : Nat) ∈ needs [(4, [3]), (5, [3, 4])] 5 by decide) hns
                · exact absurd (show (4 : Nat) ∈ needs [(4, [3]), (5, [3, 4])] 5 by decide) hns
                · exact absurd rfl hne
            · intro p hp u hu hne w1 w2 hI hR hf
              simp only [List.mem_cons, List.not_mem_nil, or_false] at hp hu
              subst hu
              rcases hp with rfl | rfl | rfl
              · have hR := rT_o (show (3 : Nat) ≠ 5 by decide) ▸ hR
                exact owns_below hf hR
              · have hR := rT_o (show (4 : Nat) ≠ 5 by decide) ▸ hR
                exact owns_below hf hR
              · exact absurd rfl hne
            · intro u hu
              simp only [List.mem_cons, List.not_mem_nil, or_false] at hu
              subst hu
              exact owns_below G6.out (Below.refl _ _).drew
            · exact ⟨G3.out, G4.out, G1.out, G2.out, owns_below G5.out (Below.refl _ _).drew, G7.out.below (Below.refl _ _).drew, G8.out.drew, by show wr.heap.size + 1 ≤ wa.heap.size; omega⟩
            simp only [List.take_succ_cons, List.take_zero, List.drop_succ_cons, List.drop_zero]
            clear G1 G2 G3 G4 G5 G6 G7 G8
            repeat (first | (refine phiU_skipK rfl (fun K hK => ?_); simp only [Act.put, List.setIfInBounds_toArray, List.set_cons_succ, List.set_cons_zero]; (try simp only [List.cons_append]); (try simp only [List.nil_append]); apply hK; clear hK K) | (refine phiU_pureK rfl rfl (fun K hK => ?_); apply Exists.intro; constructor; (focus (rintro w' ⟨g1, g2, g3, g4, g5, g6, g7, g8⟩; have k1 := (g1.cell 2).trans rfl; have q0 := (g2.cell 0).trans rfl; have q1 := (g2.cell 1).trans rfl; have q2 := (g2.cell 2).trans rfl; have q3 := (g2.cell 3).trans rfl; clear g1 g2 g3 g4 g5 g6 g7 g8; first | (go_simp; done) | (go_simp; (try go_bits); (try go_simp); rfl) | go_simp)); simp only [Act.put, List.setIfInBounds_toArray, List.set_cons_succ, List.set_cons_zero]; (try simp only [List.cons_append]); (try simp only [List.nil_append]); apply hK; clear hK K))
            refine phiU_partK (PKid (fun v => ∃ p1 c1 p2 c2, v = Value.agg #[.string (bs m0), .slice p1 u1.length c1, .slice p2 u2.length c2, .string (bs u3)]) wr.heap.size X) rfl rfl ⟨_, none, 0, none, 0, rfl⟩ ?_ (fun K hK v hv => ?_)
            · rintro w' ⟨g1, g2, g3, g4, g5, g6, g7, g8⟩ hf hu
              clear hf hu
              unfold gives
              have HG := Lib.hid (And.intro g7 g8)
              clear g1 g2 g3 g4 g5 g6 g7 g8
              go_simp
              refine (ihc.out w' (HT.out.below HG.out.1)).mono ?_
              rintro e w'' ⟨cs, rfl, hcs, hb⟩
              obtain ⟨p1, c1, p2, c2, rfl⟩ : ∃ p1 c1 p2 c2, cs = [.string (bs m0), .slice p1 u1.length c1, .slice p2 u2.length c2, .string (bs u3)] := by
                have h := hcs
                rw [HGX.out] at h
                unfold TrC at h
                obtain ⟨p1, c1, p2, c2, _, e, _⟩ := h
                exact ⟨p1, c1, p2, c2, e.trans rfl⟩
              exact ⟨_, rfl, ⟨p1, c1, p2, c2, rfl⟩, ⟨_, w''.heap.size, rfl, hcs.imp (fun b hb => ⟨Nat.le_trans HG.out.2 hb.1, hb.2.1, hb.2.2⟩), Nat.le_refl _⟩, by rw [rT_o (by decide)]; exact hb⟩
            obtain ⟨p1, c1, p2, c2, rfl⟩ := hv
            simp only [Act.put, List.setIfInBounds_toArray, List.set_cons_succ, List.set_cons_zero]; (try simp only [List.cons_append]); (try simp only [List.nil_append])
            apply hK
            clear hK K
            refine phiU_partK (POne wr.heap.size 50 X) rfl rfl ⟨_, 0, rfl⟩ ?_ (fun K hK v hv => ?_)
            · rintro w' ⟨g1, g2, g3, g4, g5, g6, g7, g8⟩ hf hu
              have h3 := hf (3, fun w1 => (PKid (fun v => ∃ p1 c1 p2 c2, v = Value.agg #[.string (bs m0), .slice p1 u1.length c1, .slice p2 u2.length c2, .string (bs u3)]) wr.heap.size X).fact w1 (.agg #[.string (bs m0), .slice p1 u1.length c1, .slice p2 u2.length c2, .string (bs u3)])) (by simp) (List.contains_iff_mem.1 rfl) rfl
              have HG := Lib.hid (And.intro h3 g8)
              clear hf hu h3 g1 g2 g3 g4 g5 g6 g7 g8
              unfold gives
              go_simp
              refine ⟨⟨_, rfl⟩, fun g hg => ?_, by rw [rT_o (by decide)]; exact below_alloc1 _ _⟩
              obtain rfl : w'.heap.size = g := by simpa using hg
              obtain ⟨⟨cs, B, e3, t3, b3⟩, g8⟩ := HG.out
              injection e3 with e3
              refine ⟨by omega, cs, B, ?_, t3.below (below_alloc1 _ _), Nat.le_trans b3 (below_alloc1 w' _).size⟩
              rw [← e3]
              exact Blk.new _ _ _
            obtain ⟨g9, rfl⟩ := hv
            simp only [Act.put, List.setIfInBounds_toArray, List.set_cons_succ, List.set_cons_zero]; (try simp only [List.cons_append]); (try simp only [List.nil_append])
            apply hK
            clear hK K
            refine phiU_partK (PRow (w.heap.size + 3) 4 50 (j + 1) (kx.take j) ds X) rfl rfl ⟨_, none, 0, rfl⟩ ?_ (fun K hK v hv => ?_)
            · rintro w' ⟨g1, g2, g3, g4, g5, g6, g7, g8⟩ hf hu
              have h4 := hf (4, fun w1 => (POne wr.heap.size 50 X).fact w1 (.slice (some ⟨g9, 0, none⟩) 1 1)) (by simp) (List.contains_iff_mem.1 rfl) rfl
              obtain ⟨h4b, cs, B, b4, t4, l4⟩ := h4 g9 rfl
              have hu8 : w'.ownsRow (w.heap.size + 3) 50 4 (.slice pv j cv) j ds.flatten := hu (5, fun w' => w'.ownsRow (w.heap.size + 3) 50 4 (.slice pv j cv) j ds.flatten) (by simp) rfl
              have hv : ∀ g, (Value.slice pv j cv).ownBlock = some g → g < wr.heap.size := fun g hg => (HVL.out g hg).2
              clear hf hu h4
              refine gives_appAt (.tmp 35) (.tmp 38) 48 rfl (w.heap.size + 3) 50 i9 (.agg #[.string ⟨#[]⟩, .slice none 0 0, .slice none 0 0, .string ⟨#[]⟩]) 4 80 Tryz.underlying48 hi9 hy0 hy1 hy2 rfl (by decide) _ _ _ rfl hu8 _ _ _ cs rfl (by rw [t4.len, HGX.out]; rfl) (.inr ⟨g9, 0, rfl, fun i u hiu => ?_⟩) t4.one (by unfold maxLen; omega) (by omega) (by omega) ?_
              · rw [Nat.zero_add, b4.cell]
                simpa using hiu
              intro v2 w2 ho2 hg2 hat2
              obtain ⟨p2, c2, rfl, _, _, _⟩ := owns_rd ho2
              refine ⟨⟨p2, c2, rfl⟩, prow_step hg2 hat2 hv (by omega) (by omega) g6 t4 l4 (by rw [flat_snoc]; exact ho2), ?_⟩
              rw [rT_at]
              exact ⟨⟨_, hu8⟩, hg2⟩
            obtain ⟨p8, c8, rfl⟩ := hv
            simp only [Act.put, List.setIfInBounds_toArray, List.set_cons_succ, List.set_cons_zero]; (try simp only [List.cons_append]); (try simp only [List.nil_append])
            apply hK
            clear hK K
            repeat (first | (refine phiU_skipK rfl (fun K hK => ?_); simp only [Act.put, List.setIfInBounds_toArray, List.set_cons_succ, List.set_cons_zero]; (try simp only [List.cons_append]); (try simp only [List.nil_append]); apply hK; clear hK K) | (refine phiU_pureK rfl rfl (fun K hK => ?_); apply Exists.intro; constructor; (focus (rintro w' ⟨g1, g2, g3, g4, g5, g6, g7, g8⟩; have k1 := (g1.cell 2).trans rfl; have q0 := (g2.cell 0).trans rfl; have q1 := (g2.cell 1).trans rfl; have q2 := (g2.cell 2).trans rfl; have q3 := (g2.cell 3).trans rfl; clear g1 g2 g3 g4 g5 g6 g7 g8; first | (go_simp; done) | (go_simp; (try go_bits); (try go_simp); rfl) | go_simp)); simp only [Act.put, List.setIfInBounds_toArray, List.set_cons_succ, List.set_cons_zero]; (try simp only [List.cons_append]); (try simp only [List.nil_append]); apply hK; clear hK K))
            refine phiU_done ?_
            rintro w9 ⟨g1, g2, g3, g4, g5, g6, g7, g8⟩ hf
            obtain ⟨cs, ho9, hk9⟩ := hf (5, fun w1 => (PRow (w.heap.size + 3) 4 50 (j + 1) (kx.take j) ds X).fact w1 (.slice p8 (j + 1) c8)) (by simp) rfl
            have f1 := g1.frozen 2
            have k1 := (g1.cell 2).trans rfl
            have O9 := ((Only.refl (w.heap.size + 1 + 1) w9).set_ 2 (.slice p8 (j + 1) c8))
            have R1 := Lib.hid (O9.blk g3 (by omega))
            have R2 := Lib.hid (O9.blk g4 (by omega))
            have R3 := Lib.hid (show Blk (w9.setCell ⟨w.heap.size + 1 + 1, 2, none⟩ (.slice p8 (j + 1) c8)) (w.heap.size + 1 + 1) 50 #[.string (bs a0), va, .slice p8 (j + 1) c8, .string (bs tx)] from g1.set_ 2 _)
            have R4 := Lib.hid (g7.setCell (p := ⟨w.heap.size + 1 + 1, 2, none⟩) (show w.heap.size ≤ w.heap.size + 1 + 1 by omega) (.slice p8 (j + 1) c8))
            have R5 := Lib.hid (O9.owns2 ho9 (by omega))
            have R6 := Lib.hid (O9.owns2 g5 (by omega))
            have R7 := Lib.hid (hk9.only O9 (fun b hb => by have := hb.1; omega))
            rw [show w9.heap.size = (w9.setCell ⟨w.heap.size + 1 + 1, 2, none⟩ (.slice p8 (j + 1) c8)).heap.size from O9.size.symm] at R7
            rw [← HTK.out] at R7
            clear hf g1 g2 g3 g4 g5 g6 g7 g8 O9 ho9 hk9 ihc HT HVL
            go_wp2_with fail
            go_roundw
            case rel => exact ⟨j + 1, .slice p8 (j + 1) c8, ds ++ [cs], by omega, by go_num, R5.out, R7.out, R6.out, R1.out, R2.out, R3.out, R4.out⟩
            case measure => simp [intOf]; omega
          · obtain rfl : j = kx.length := by omega
            rw [List.take_of_length_le (Nat.le_refl _)] at hkids
            obtain ⟨pA, cA, rfl, yy1, yy2, yy3, yy4⟩ := owns_rdP hown
            obtain ⟨pv, cv, rfl, zz1, zz2, zz3, zz4⟩ := owns_rdP hrow
            have r0 := (hO.cell 0).trans rfl
            have r1 := (hO.cell 1).trans rfl
            have r2 := (hO.cell 2).trans rfl
            have r3 := (hO.cell 3).trans rfl
            have HMb := Lib.hid hM
            have HFIN := Lib.hid (show ∀ w', Only (w.heap.size + 1) wr w' → TrC w' (Bt w.heap.size w'.heap.size none) (.node [a0] ax kx tx) [.string (bs a0), .slice pA ax.length cA, .slice pv kx.length cv, .string (bs tx)] from fun w' k => by
              have e := k.size
              have q1 : Rd w' pA (acells ax) := yy3.keepP (P := fun b => w.heap.size + 3 ≤ b) (fun a ha => (yy4 a ha).1) fun a v hp hc => (World.cell?_of_block (k.block a.block (by omega))).trans hc
              have q2 : Rd w' pv ds.flatten := zz3.keepP (P := fun b => w.heap.size + 3 ≤ b) (fun a ha => (zz4 a ha).1) fun a v hp hc => (World.cell?_of_block (k.block a.block (by omega))).trans hc
              unfold TrC
              exact ⟨pA, cA, pv, cv, ds, rfl, ⟨yy1, yy2, q1, fun a ha => ⟨by have := (yy4 a ha).1; omega, by rw [e]; exact (yy4 a ha).2, by simp⟩⟩, ⟨zz1, zz2, q2, fun a ha => ⟨by have := (zz4 a ha).1; omega, by rw [e]; exact (zz4 a ha).2, by simp⟩⟩,
                (hkids.only k (fun b hb => by have := hb.1; omega)).imp fun b hb => ⟨by have := hb.1; omega, by rw [e]; exact hb.2.1, by simp⟩⟩)
            have HBW := Lib.hid hbw
            clear hM hN hO hown hrow hkids yy1 yy2 yy3 yy4 zz1 zz2 zz3 zz4 hbw
            go_wp2_with (refine wpList_store (.tmp 2) (.tmp 42) 50 rfl rfl (w.heap.size + 1) 0 _ _ #[.string (bs a0), .slice pA ax.length cA, .slice pv kx.length cv, .string (bs tx)] rfl rfl HMb.out ?s0 ?s1 ?s2 ?_)
            case s0 => kernel_rfl
            case s1 => simp [Value.oneCell']
            case s2 => simp
            intro w8 hb8 ho8
            rw [putCells_all #[.string ⟨#[]⟩, .slice none 0 0, .slice none 0 0, .string ⟨#[]⟩] #[.string (bs a0), .slice pA ax.length cA, .slice pv kx.length cv, .string (bs tx)] rfl] at hb8
            have z0 := (hb8.cell 0).trans rfl
            have z1 := (hb8.cell 1).trans rfl
            have z2 := (hb8.cell 2).trans rfl
            have z3 := (hb8.cell 3).trans rfl
            have HB8 := Lib.hid hb8; have HO8 := Lib.hid ho8
            clear r0 r1 r2 r3 hb8 ho8
            go_wp2_with fail
            refine bodyPost_ret (v := .agg #[.string (bs a0), .slice pA ax.length cA, .slice pv kx.length cv, .string (bs tx)]) (by simp [results, Tryz.results34, go_sem, z0, z1, z2, z3]) rfl ?_
            exact ⟨[.string (bs a0), .slice pA ax.length cA, .slice pv kx.length cv, .string (bs tx)], rfl, HFIN.out w8 HO8.out, HBW.out.trans (Only.below HO8.out (by omega))⟩
end Go.Proofs.YtkghpmpmcafhkaaGreatDoor
