/-
  RefXE: which elements are right: the document's walk.
  RefXF: a right tree's text: the document's walks.
-/
import Derived.Test.YtkghpmpmcafhkaaGreatDoorRB
import Derived.Test.YtkghpmpmcafhkaaGreatDoorPE
import Derived.Test.YtkghpmpmcafhkaaGreatDoorPF
namespace Go.Proofs.YtkghpmpmcafhkaaGreatDoor
open Go.RowKit
attribute [local go_sem] bs_toList

theorem names_has {ats : List (List (List UInt8))} {m : Nat} {x0 x1 nm : List UInt8} (h : m < ats.length) (hg : ats[m] = [x0, x1]) (hno : (namesA (ats.take m)).contains nm = false) : (namesA (ats.take (m + 1))).contains nm = (x0 == nm) := by
  unfold namesA at hno ⊢
  rw [List.take_succ_eq_append_getElem h, List.map_append, hg]
  exact has_snoc hno
theorem names_more {ats : List (List (List UInt8))} {m j : Nat} {nm : List UInt8} (h : m ≤ j) (hh : (namesA (ats.take m)).contains nm = true) : (namesA (ats.take j)).contains nm = true := by
  rw [List.contains_iff_mem] at hh ⊢
  unfold namesA at hh ⊢
  rw [List.map_take] at hh ⊢
  exact List.take_subset_take_left _ h hh
set_option maxRecDepth 20000 in
set_option maxHeartbeats 8000000 in
theorem rright_any : ∀ (n : Nat) (x : Tr) (d : Nat) (P : Nat → Prop) (cx : List Value) (w : World), x.sz ≤ n → x.ok 1 → x.shr → d ≤ 13 → TrC w P x cx →
    Calls Tryz.prog 75 #[.agg cx.toArray, .int .i64 d] w (Gives w (.bool (x.rgt d))) := by
  intro n
  induction n with
  | zero => intro x d P cx w hs; have := x.sz_pos; omega
  | succ n ih =>
    intro x d P cx w hs hx hsh hd hcx
    obtain ⟨nx, ax, kx, tx⟩ := x
    unfold TrC at hcx
    unfold Tr.ok at hx
    unfold Tr.shr at hsh
    obtain ⟨hx1, hx2, hx3⟩ := hx
    obtain ⟨hs1, hs2, hs3, hs4⟩ := hsh
    obtain ⟨a0, rfl⟩ := one_of hx1
    obtain ⟨pa, ca, pk, ck, css, rfl, ⟨A1, A2, A3, -⟩, ⟨K1, K2, K3, -⟩, hL⟩ := hcx
    show Calls Tryz.prog 75 #[.agg #[.string (bs a0), .slice pa ax.length ca, .slice pk kx.length ck, .string (bs tx)], .int .i64 d] w _
    obtain ⟨R, hR⟩ : ∃ R, Tr.rgt d (.node [a0] ax kx tx) = R := ⟨_, rfl⟩
    unfold Gives
    rw [hR]
    have HR : RowKit.Hid ((decide (d ≤ 12) && nameB a0 && (tx == []) && (atsB [] ax && decide (ax.length ≤ 12)) && Tr.rgtL d false kx) = R) := Lib.hid ((rgt_eq d a0 ax kx tx).symm.trans hR)
    clear hR
    have HB := Lib.hid (below_alloc1 w (.cells #[.string (bs a0), .slice pa ax.length ca, .slice pk kx.length ck, .string (bs tx)] 50))
    have HNB := Lib.hid (Blk.new w 50 #[.string (bs a0), .slice pa ax.length ca, .slice pk kx.length ck, .string (bs tx)])
    unfold maxLen at K2 A2
    have hsa := hs1 a0 (by simp)
    clear hs1
    by_cases hd12 : d ≤ 12
    rotate_left 1
    · have hdz : decide ((12 : Int) < (d : Int)) = true := decide_eq_true (by omega)
      have hR0 : R = false := by rw [← HR.out, decide_eq_false hd12]; rfl
      clear A3 K3 hL hs2 hs4 hx2 hx3 ih HNB
      go_enter Tryz.func75, Tryz.ntmps75
      go_wp2_with fail
      go_ret
      exact ⟨by rw [hR0]; rfl, HB.out⟩
    have hdz : decide ((12 : Int) < (d : Int)) = false := decide_eq_false (by omega)
    rw [decide_eq_true hd12, Bool.true_and] at HR
    have HN := Lib.hid (fun w2 => rname_any a0 (by omega) w2)
    have c0 := (HNB.out.cell 0).trans rfl
    have c1 := (HNB.out.cell 1).trans rfl
    have c2 := (HNB.out.cell 2).trans rfl
    have c3 := (HNB.out.cell 3).trans rfl
    have HA := Lib.hid A3
    have HK := Lib.hid K3
    have HL := Lib.hid hL
    have HX2 := Lib.hid hx2
    have HX3 := Lib.hid hx3
    have HS2 := Lib.hid hs2
    have HS4 := Lib.hid hs4
    have HIH := Lib.hid ih
    have hks : ∀ i (hi : i < kx.length), kx[i].sz ≤ n := fun i hi => by
      have := Tr.sz_kid (.node [a0] ax kx tx) i hi
      have h2 : (Tr.node [a0] ax kx tx).ks[i] = kx[i] := rfl
      rw [h2] at this
      omega
    have HKS := Lib.hid hks
    clear A3 K3 hL hx2 hx3 hs2 hs4 ih hks
    go_enter Tryz.func75, Tryz.ntmps75
    cases hn : nameB a0 <;> rw [hn] at HN HR
    · have hR0 : R = false := HR.out.symm
      go_wp2_with (go_at_call 114; refine (HN.out _).mono ?_; rintro e w2 ⟨rfl, rfl⟩)
      go_ret
      exact ⟨by rw [hR0]; rfl, HB.out⟩
    rw [Bool.true_and] at HR
    have hi0 : tx.isEmpty = (tx == []) := by cases tx <;> rfl
    have hi1 : (bs tx).toList.isEmpty = (tx == []) := isE_bs tx
    cases ht : (tx == []) <;> rw [ht] at HR hi0 hi1
    · have hR0 : R = false := HR.out.symm
      go_wp2_with (go_at_call 114; refine (HN.out _).mono ?_; rintro e w2 ⟨rfl, rfl⟩)
      go_ret
      exact ⟨by rw [hR0]; rfl, HB.out⟩
    rw [Bool.true_and] at HR
    clear ht
    by_cases h12 : ax.length ≤ 12
    rotate_left 1
    · have h12z : decide ((12 : Int) < (ax.length : Int)) = true := decide_eq_true (by omega)
      rw [decide_eq_false h12, Bool.and_false] at HR
      have hR0 : R = false := HR.out.symm
      go_wp2_with (go_at_call 114; refine (HN.out _).mono ?_; rintro e w2 ⟨rfl, rfl⟩)
      go_ret
      exact ⟨by rw [hR0]; rfl, HB.out⟩
    have h12z : decide ((12 : Int) < (ax.length : Int)) = false := decide_eq_false (by omega)
    rw [decide_eq_true h12, Bool.and_true] at HR
    go_wp2_with (go_at_call 114; refine (HN.out _).mono ?_; rintro e w2 ⟨rfl, rfl⟩)
    clear c0 c1 c2 c3
    go_loopw [5, 33] (fun _ i wr => ∃ j : Nat, j ≤ ax.length ∧ i = .int .i64 j ∧ atsB [] ax = atsB (namesA (ax.take j)) (ax.drop j) ∧ Blk wr w.heap.size 50 #[.string (bs a0), .slice pa ax.length ca, .slice pk kx.length ck, .string (bs tx)] ∧ Below w.heap.size w wr) (fun _ i _ => ax.length - (intOf i).toNat)
    case atStart => exact ⟨0, by omega, rfl, rfl, HNB.out, HB.out⟩
    case round =>
      obtain ⟨j, hj, rfl, hno, hblk, hbw⟩ := hrel
      obtain ⟨wo, rfl⟩ : ∃ wo, wo = wr := ⟨_, rfl⟩
      by_cases hlt : j < ax.length
      · obtain ⟨e1, o1, x0, x1, rfl, hgx, hx0, hx1⟩ := at_1 HA.out HX2.out hlt
        have hx0 := Below.keeps hbw _ _ hx0
        have hx1 := Below.keeps hbw _ _ hx1
        have hlt' : (j : Int) < (ax.length : Int) := by omega
        have hst := atsB_drop hlt
        rw [hgx] at hst
        have HST := Lib.hid (hno.trans hst)
        clear hst hno
        have hx0s : shS x0 := HS2.out _ (List.getElem_mem hlt) x0 (by rw [hgx]; simp)
        have hx1s : shS x1 := HS2.out _ (List.getElem_mem hlt) x1 (by rw [hgx]; simp)
        have hbA := hbw.alloc hbw.size (.cells #[.string (bs x0), .string (bs x1)] 91)
        have hNA := Blk.new wo 91 #[.string (bs x0), .string (bs x1)]
        have hNE := hblk.alloc (.cells #[.string (bs x0), .string (bs x1)] 91)
        have c0 := (hNA.cell 0).trans rfl
        have c1 := (hNA.cell 1).trans rfl
        have k1 := (hNE.cell 1).trans rfl
        have HN0 := Lib.hid (rname_any x0 (by have := hx0s; omega) (wo.alloc (.cells #[.string (bs x0), .string (bs x1)] 91)))
        have HSG := Lib.hid (rsigns_any x1 (by have := hx1s; omega) (wo.alloc (.cells #[.string (bs x0), .string (bs x1)] 91)))
        have HNA := Lib.hid hNA
        have HNE := Lib.hid hNE
        have HBA := Lib.hid hbA
        have hfin : ∀ b, (nameB x0 && sigB x1 && !(namesA (ax.take j)).contains x0) = b → b = false → R = false := fun b h1 h2 => by
          rw [← HR.out, HST.out]
          show ((nameB x0 && sigB x1 && !(namesA (ax.take j)).contains x0 && _) && _) = false
          rw [h1, h2]
          rfl
        have HF := Lib.hid hfin
        clear hfin hNA hNE hbA hblk hgx
        cases hn : nameB x0 <;> rw [hn] at HN0 HF
        · have hR0 := HF.out false rfl rfl
          go_wp2_with (go_at_call 114; refine HN0.out.mono ?_; rintro e w2 ⟨rfl, rfl⟩)
          go_ret
          exact ⟨by rw [hR0]; rfl, HBA.out⟩
        cases hsg : sigB x1 <;> rw [hsg] at HSG HF
        · have hR0 := HF.out false rfl rfl
          go_wp2_with (first | (go_at_call 114; refine HN0.out.mono ?_; rintro e w2 ⟨rfl, rfl⟩) | (go_at_call 115; refine HSG.out.mono ?_; rintro e w2 ⟨rfl, rfl⟩))
          go_ret
          exact ⟨by rw [hR0]; rfl, HBA.out⟩
        have hjn : (j : Int) ≤ (ax.length : Int) := by omega
        have hjc : (j : Int) ≤ (ca : Int) := by omega
        go_wp2_with (first | (go_at_call 114; refine HN0.out.mono ?_; rintro e w2 ⟨rfl, rfl⟩) | (go_at_call 115; refine HSG.out.mono ?_; rintro e w2 ⟨rfl, rfl⟩))
        have hwo := hbw.size
        clear c0 c1 k1 hx0 hx1 HN0 HSG
        have HBW := Lib.hid hbw
        clear hbw
        go_loopw [53] (fun i wr => ∃ m : Nat, m ≤ j ∧ i = .int .i64 m ∧ (namesA (ax.take m)).contains x0 = false ∧ Blk wr wo.heap.size 91 #[.string (bs x0), .string (bs x1)] ∧ Blk wr w.heap.size 50 #[.string (bs a0), .slice (some ⟨e1, o1, none⟩) ax.length ca, .slice pk kx.length ck, .string (bs tx)] ∧ Below w.heap.size w wr) (fun i _ => j - (intOf i).toNat)
        case atStart => exact ⟨0, by omega, rfl, rfl, HNA.out, HNE.out, HBA.out⟩
        case round =>
          obtain ⟨m, hm, rfl, hct, hbN, hbE, hbw⟩ := hrel
          by_cases hlm : m < j
          · obtain ⟨f1, p1, y0, y1, hq, hgy, hy0, hy1⟩ := at_1 HA.out HX2.out (show m < ax.length by omega)
            obtain ⟨rfl, rfl⟩ : e1 = f1 ∧ o1 = p1 := by cases hq; exact ⟨rfl, rfl⟩
            have hy0 := Below.keeps hbw _ _ hy0
            have hy1 := Below.keeps hbw _ _ hy1
            have hlm' : (m : Int) < (j : Int) := by omega
            have hbA2 := hbw.alloc hbw.size (.cells #[.string (bs y0), .string (bs y1)] 91)
            have hNB2 := Blk.new wr 91 #[.string (bs y0), .string (bs y1)]
            have hbN2 := hbN.alloc (.cells #[.string (bs y0), .string (bs y1)] 91)
            have hbE2 := hbE.alloc (.cells #[.string (bs y0), .string (bs y1)] 91)
            have HST2 := Lib.hid (names_has (show m < ax.length by omega) hgy hct)
            have d0 := (hNB2.cell 0).trans rfl
            have d1 := (hbN2.cell 0).trans rfl
            have HBN := Lib.hid hbN2
            have HBE := Lib.hid hbE2
            have HB2 := Lib.hid hbA2
            clear hNB2 hbN2 hbE2 hbA2 hq hgy hct hbN hbE
            have hxy : (x0 == y0) = (y0 == x0) := by rw [Bool.eq_iff_iff, beq_iff_eq, beq_iff_eq]; exact eq_comm
            cases hE : (y0 == x0) <;> rw [hE] at HST2 hxy
            · go_wp2_with fail
              go_roundw
              case rel => exact ⟨m + 1, by omega, by go_num, HST2.out, HBN.out, HBE.out, HB2.out⟩
              case measure => simp [intOf]; omega
            · have hR0 := HF.out _ rfl (by rw [names_more (show m + 1 ≤ j by omega) HST2.out]; rfl)
              go_wp2_with fail
              go_ret
              exact ⟨by rw [hR0]; rfl, HB2.out⟩
          · obtain rfl : m = j := by omega
            go_wp2_with fail
            go_roundw
            case rel =>
              refine ⟨m + 1, by omega, by go_num, ?_, hbE, hbw⟩
              rw [HST.out]
              show (nameB x0 && sigB x1 && !(namesA (ax.take m)).contains x0 && _) = _
              rw [hn, hsg, hct]
              rfl
            case measure => simp [intOf]; omega
      · obtain rfl : j = ax.length := by omega
        have hno' : atsB [] ax = true := by
          rw [hno, List.drop_of_length_le (Nat.le_refl _)]
          unfold atsB
          rfl
        rw [hno', Bool.true_and] at HR
        have k2 := (hblk.cell 2).trans rfl
        have HBLK := Lib.hid hblk
        have HBW := Lib.hid hbw
        clear hno hno' hblk hbw
        go_wp2_with fail
        go_loopw [9, 67] (fun _ i wr => ∃ j : Nat, j ≤ kx.length ∧ i = .int .i64 j ∧ Tr.rgtL d (prevB kx j) (kx.drop j) = R ∧ Blk wr w.heap.size 50 #[.string (bs a0), .slice pa ax.length ca, .slice pk kx.length ck, .string (bs tx)] ∧ Below w.heap.size w wr) (fun _ i _ => kx.length - (intOf i).toNat)
        case atStart => exact ⟨0, by omega, rfl, HR.out, HBLK.out, HBW.out⟩
        case round =>
          obtain ⟨j, hj, rfl, hno, hblk, hbw⟩ := hrel
          clear k2
          by_cases hlt : j < kx.length
          · obtain ⟨e1, o1, m0, u1, u2, u3, u4, u5, u6, u7, rfl, hgx, hT1, hk0, hk1, hk2, hk3⟩ := kid_1 HK.out HL.out HX3.out hlt
            have hk0 := Below.keeps hbw _ _ hk0
            have hk1 := Below.keeps hbw _ _ hk1
            have hk2 := Below.keeps hbw _ _ hk2
            have hk3 := Below.keeps hbw _ _ hk3
            have hlt' : (j : Int) < (kx.length : Int) := by omega
            have hst := rgtL_at (d := d) hlt
            have hsk := shrL_get kx HS4.out j hlt
            have hok := okL_get 1 kx HX3.out j hlt
            have hsz := HKS.out j hlt
            have hbK := hbw.alloc hbw.size (.cells #[.string (bs m0), .slice u4 u1.length u5, .slice u6 u2.length u7, .string (bs u3)] 50)
            have hNK := Blk.new wr 50 #[.string (bs m0), .slice u4 u1.length u5, .slice u6 u2.length u7, .string (bs u3)]
            have hNE := hblk.alloc (.cells #[.string (bs m0), .slice u4 u1.length u5, .slice u6 u2.length u7, .string (bs u3)] 50)
            have hTK := hT1.below hbK
            have hIH := HIH.out kx[j] (d + 1) P _ _ hsz hok hsk (by omega) hTK
            rw [hgx] at hst hIH hsk
            have hnm : (Tr.node [m0] u1 u2 u3).name = m0 := rfl
            rw [hnm] at hst
            have HIC : RowKit.Hid (Calls Tryz.prog 75 #[.agg #[.string (bs m0), .slice u4 u1.length u5, .slice u6 u2.length u7, .string (bs u3)], .int .i64 ((d : Int) + 1)] (wr.alloc (.cells #[.string (bs m0), .slice u4 u1.length u5, .slice u6 u2.length u7, .string (bs u3)] 50)) (Gives (wr.alloc (.cells #[.string (bs m0), .slice u4 u1.length u5, .slice u6 u2.length u7, .string (bs u3)] 50)) (.bool ((Tr.node [m0] u1 u2 u3).rgt (d + 1))))) := Lib.hid hIH
            have hs3 : shS u3 := by unfold Tr.shr at hsk; exact hsk.2.2.1
            have HSG := Lib.hid (rsigns_any u3 (by have := hs3; omega) (wr.alloc (.cells #[.string (bs m0), .slice u4 u1.length u5, .slice u6 u2.length u7, .string (bs u3)] 50)))
            rw [hno] at hst
            have c0 := (hNK.cell 0).trans rfl
            have c1 := (hNK.cell 1).trans rfl
            have c2 := (hNK.cell 2).trans rfl
            have c3 := (hNK.cell 3).trans rfl
            have e2 := (hNE.cell 2).trans rfl
            have HST := Lib.hid hst
            have HNE := Lib.hid hNE
            have im0 : m0.isEmpty = (m0 == []) := by cases m0 <;> rfl
            have im1 : (bs m0).toList.isEmpty = (m0 == []) := isE_bs m0
            have it0 : u3.isEmpty = (u3 == []) := by cases u3 <;> rfl
            have it1 : (bs u3).toList.isEmpty = (u3 == []) := isE_bs u3
            clear hno hst hsk hok hsz hNK hNE hTK hIH hnm hs3 hT1 hblk
            generalize hRn : Tr.rgtL d (prevB kx (j + 1)) (kx.drop (j + 1)) = Rn at HST
            have HRN := Lib.hid hRn
            clear hRn
            have HBK := Lib.hid hbK
            cases hm : (m0 == []) <;> rw [hm] at HST im0 im1
            · rw [if_pos rfl] at HST
              clear HSG it0 it1 hgx
              generalize hb1 : (Tr.node [m0] u1 u2 u3).rgt (d + 1) = b1 at HST HIC
              clear hb1
              cases b1
              · have hR0 : R = false := HST.out
                go_wp2_with (go_at_call 75; refine HIC.out.mono ?_; rintro e w5 ⟨rfl, hb5⟩)
                go_ret
                exact ⟨by rw [hR0]; rfl, HBK.out.trans (hb5.mono HBK.out.size)⟩
              · rw [Bool.true_and] at HST
                go_wp2_with (go_at_call 75; refine HIC.out.mono ?_; rintro e w5 ⟨rfl, hb5⟩)
                go_roundw
                case rel => exact ⟨j + 1, by omega, by go_num, HRN.out.trans HST.out.symm, HNE.out.below hb5 HNE.out.lt, HBK.out.trans (hb5.mono HBK.out.size)⟩
                case measure => simp [intOf]; omega
            · rw [if_neg (by decide)] at HST
              clear HIC hgx hbK
              have HST : RowKit.Hid (R = (!(u3 == []) && !prevB kx j && decide (u1.length = 0) && decide (u2.length = 0) && sigB u3 && Rn)) := Lib.hid HST.out
              generalize u1.length = na at *
              generalize u2.length = nk at *
              cases hT : (u3 == []) <;> rw [hT] at HST it0 it1
              rotate_left 1
              · have hR0 : R = false := HST.out
                go_wp2_with fail
                go_ret
                exact ⟨by first | (rw [hR0]; rfl) | rfl, HBK.out⟩
              rcases Nat.eq_zero_or_pos na with rfl | hA
              rotate_left 1
              · have hR0 : R = false := by rw [HST.out, decide_eq_false (by omega : ¬ na = 0)]; simp
                have hAz : ((na : Int) == 0) = false := beq_eq_false_iff_ne.2 (by omega)
                have hAy : ((na : Int) != 0) = true := by rw [bne, hAz]; rfl
                go_wp2_with fail
                go_ret
                exact ⟨by first | (rw [hR0]; rfl) | rfl, HBK.out⟩
              rcases Nat.eq_zero_or_pos nk with rfl | hK
              rotate_left 1
              · have hR0 : R = false := by rw [HST.out, decide_eq_false (by omega : ¬ nk = 0)]; simp
                have hKz : ((nk : Int) == 0) = false := beq_eq_false_iff_ne.2 (by omega)
                have hKy : ((nk : Int) != 0) = true := by rw [bne, hKz]; rfl
                go_wp2_with fail
                go_ret
                exact ⟨by first | (rw [hR0]; rfl) | rfl, HBK.out⟩
              cases hS : sigB u3 <;> rw [hS] at HST HSG
              · have hR0 : R = false := by rw [HST.out]; simp
                go_wp2_with (go_at_call 115; refine HSG.out.mono ?_; rintro e w5 ⟨rfl, rfl⟩)
                go_ret
                exact ⟨by first | (rw [hR0]; rfl) | rfl, HBK.out⟩
              cases j with
              | zero =>
                have hRR : R = Rn := by rw [HST.out]; rfl
                simp only [Nat.zero_mul, Nat.add_zero] at hk0 hk1 hk2 hk3
                go_wp2_with (go_at_call 115; refine HSG.out.mono ?_; rintro e w5 ⟨rfl, rfl⟩)
                go_roundw
                case rel => exact ⟨1, by omega, by go_num, HRN.out.trans hRR.symm, HNE.out, HBK.out⟩
                case measure => simp [intOf]; omega
              | succ i =>
                obtain ⟨f1, p1, q0, q1, q2, q3, q4, q5, q6, q7, hq, hgq, -, hq0, -⟩ := kid_1 HK.out HL.out HX3.out (show i < kx.length by omega)
                obtain ⟨rfl, rfl⟩ : e1 = f1 ∧ o1 = p1 := by cases hq; exact ⟨rfl, rfl⟩
                have hq0 := Below.keeps hbw _ _ hq0
                have hq1 := Below.keeps (below_alloc1 wr (.cells #[.string (bs m0), .slice u4 0 u5, .slice u6 0 u7, .string (bs u3)] 50)) _ _ hq0
                have hpv : prevB kx (i + 1) = (q0 == []) := by rw [prevB_succ (show i < kx.length by omega), hgq]; rfl
                rw [hpv] at HST
                have iq0 : q0.isEmpty = (q0 == []) := by cases q0 <;> rfl
                have iq1 : (bs q0).toList.isEmpty = (q0 == []) := isE_bs q0
                have hiz : (i : Int) < (kx.length : Int) := by omega
                clear hq hgq hpv hq0
                cases hQ : (q0 == []) <;> rw [hQ] at HST iq0 iq1
                · have hRR : R = Rn := HST.out
                  go_wp2_with (go_at_call 115; refine HSG.out.mono ?_; rintro e w5 ⟨rfl, rfl⟩)
                  go_roundw
                  case rel => exact ⟨i + 1 + 1, by omega, by go_num, HRN.out.trans hRR.symm, HNE.out, HBK.out⟩
                  case measure => simp [intOf]; omega
                · have hR0 : R = false := HST.out
                  go_wp2_with (go_at_call 115; refine HSG.out.mono ?_; rintro e w5 ⟨rfl, rfl⟩)
                  go_ret
                  exact ⟨by first | (rw [hR0]; rfl) | rfl, HBK.out⟩
          · obtain rfl : j = kx.length := by omega
            have hR0 : R = true := by
              rw [← hno, List.drop_of_length_le (Nat.le_refl _)]
              unfold Tr.rgtL
              rfl
            clear hno
            go_wp2_with fail
            go_ret
            exact ⟨by rw [hR0]; rfl, hbw⟩
end Go.Proofs.YtkghpmpmcafhkaaGreatDoor

namespace Go.Proofs.YtkghpmpmcafhkaaGreatDoor
open Go.RowKit
attribute [local go_sem] bs_toList

theorem wrtL_get {xs : List Tr} {i : Nat} (h : i < xs.length) : (Tr.wrtL (xs.take i)).length + (xs[i].wrt).length ≤ (Tr.wrtL xs).length := by
  have h1 := wrtL_take h
  have h2 := wrtL_le (xs := xs) (i := i + 1)
  rw [h1, List.length_append] at h2
  exact h2
theorem at_len {xs : List (List (List UInt8))} {i : Nat} (h : i < xs.length) : ((xs.take i).flatMap atT).length + (atT xs[i]).length ≤ (xs.flatMap atT).length := by
  have h1 := atT_take h
  have h2 := atT_le (xs := xs) (i := i + 1)
  rw [h1, List.length_append] at h2
  exact h2
theorem calls_gives {f : FuncId} {args : Array Value} {w : World} {v : Value} (h : Calls Tryz.prog f args w fun e w' => e = .returned v ∧ w' = w) : Calls Tryz.prog f args w (Gives w v) :=
  h.mono fun e w2 h => ⟨h.1, by rw [h.2]; exact Below.refl _ _⟩
set_option maxRecDepth 20000 in
set_option maxHeartbeats 8000000 in
theorem rwrite_any : ∀ (n : Nat) (x : Tr) (P : Nat → Prop) (cx : List Value) (w : World), x.sz ≤ n → x.ok 1 → x.shr → x.wrt.length ≤ 100000000 → TrC w P x cx →
    Calls Tryz.prog 76 #[.agg cx.toArray] w (Gives w (.string (bs x.wrt))) := by
  intro n
  induction n with
  | zero => intro x P cx w hs; have := x.sz_pos; omega
  | succ n ih =>
    intro x P cx w hs hx hsh hbig hcx
    obtain ⟨nx, ax, kx, tx⟩ := x
    unfold TrC at hcx
    unfold Tr.ok at hx
    unfold Tr.shr at hsh
    obtain ⟨hx1, hx2, hx3⟩ := hx
    obtain ⟨hs1, hs2, hs3, hs4⟩ := hsh
    obtain ⟨a0, rfl⟩ := one_of hx1
    obtain ⟨pa, ca, pk, ck, css, rfl, ⟨A1, A2, A3, -⟩, ⟨K1, K2, K3, -⟩, hL⟩ := hcx
    show Calls Tryz.prog 76 #[.agg #[.string (bs a0), .slice pa ax.length ca, .slice pk kx.length ck, .string (bs tx)]] w _
    have HB := Lib.hid (below_alloc1 w (.cells #[.string (bs a0), .slice pa ax.length ca, .slice pk kx.length ck, .string (bs tx)] 50))
    have HNB := Lib.hid (Blk.new w 50 #[.string (bs a0), .slice pa ax.length ca, .slice pk kx.length ck, .string (bs tx)])
    unfold maxLen at K2 A2
    unfold Gives
    have hsa := hs1 a0 (by simp)
    have c0 := (HNB.out.cell 0).trans rfl
    have c1 := (HNB.out.cell 1).trans rfl
    have c3 := (HNB.out.cell 3).trans rfl
    have HA := Lib.hid A3
    have HK := Lib.hid K3
    have HL := Lib.hid hL
    have HX2 := Lib.hid hx2
    have HX3 := Lib.hid hx3
    have HS2 := Lib.hid hs2
    have HS4 := Lib.hid hs4
    have HIH := Lib.hid ih
    have hks : ∀ i (hi : i < kx.length), kx[i].sz ≤ n := fun i hi => by
      have := Tr.sz_kid (.node [a0] ax kx tx) i hi
      have h2 : (Tr.node [a0] ax kx tx).ks[i] = kx[i] := rfl
      rw [h2] at this
      omega
    have HKS := Lib.hid hks
    clear A3 K3 hL hx2 hx3 hs2 hs4 ih hks hs1
    by_cases h0 : a0 = []
    · subst h0
      rw [wrt_tx]
      have HES := Lib.hid (fun w2 => resc_any tx false hs3 w2)
      have c0' : (w.alloc (.cells #[.string (bs []), .slice pa ax.length ca, .slice pk kx.length ck, .string (bs tx)] 50)).cell? ⟨w.heap.size, 0, none⟩ = some (.string ⟨#[]⟩) := c0
      clear c0 c1
      go_enter Tryz.func76, Tryz.ntmps76
      go_wp2_with (go_at_call 26; refine (HES.out _).mono ?_; rintro e w2 ⟨rfl, rfl⟩)
      go_ret
      exact ⟨rfl, HB.out⟩
    · have hM := wrt_el h0 ax kx tx
      obtain ⟨M, hMM⟩ : ∃ M, (Tr.node [a0] ax kx tx).wrt = M := ⟨_, rfl⟩
      rw [hMM] at hM hbig ⊢
      obtain ⟨T, hT⟩ : ∃ T, (if kx.length = 0 then [47, 62] else [62] ++ Tr.wrtL kx ++ ([60, 47] ++ a0 ++ [62])) = T := ⟨_, rfl⟩
      rw [hT] at hM
      have hML : M.length = 1 + a0.length + (ax.flatMap atT).length + T.length := by rw [hM]; simp; omega
      have HM := Lib.hid hM
      have HT := Lib.hid hT
      have hi0 : a0.isEmpty = false := by cases a0 with
        | nil => exact absurd rfl h0
        | cons c t => rfl
      have hi1 : (bs a0).toList.isEmpty = false := by rw [bs_toList]; exact hi0
      obtain ⟨S0, hS0⟩ : ∃ S0, S0 = [60] ++ a0 := ⟨_, rfl⟩
      have p1 : ∀ w, (Op.stringOp .add ⟨#[60]⟩ (bs a0)).run Tryz.prog w = .ok (.string (bs S0)) w := by rw [hS0]; exact fun w => run_str_add (P := Tryz.prog) w [60] a0 (by simp; omega)
      have HS0 := Lib.hid hS0
      have HML := Lib.hid (And.intro hML hbig)
      clear hM hT hMM h0 hML hS0 hbig
      go_enter Tryz.func76, Tryz.ntmps76
      go_wp2_with fail
      clear c0 c1 c3 hi0 hi1 p1
      go_loopw [3, 20] (fun s i wr => ∃ (j : Nat) (acc : List UInt8), j ≤ ax.length ∧ i = .int .i64 j ∧ s = .string (bs acc) ∧ acc = S0 ++ (ax.take j).flatMap atT ∧ Blk wr w.heap.size 50 #[.string (bs a0), .slice pa ax.length ca, .slice pk kx.length ck, .string (bs tx)] ∧ Below w.heap.size w wr) (fun _ i _ => ax.length - (intOf i).toNat)
      case atStart => exact ⟨0, S0, by omega, rfl, rfl, by simp, HNB.out, HB.out⟩
      case round =>
        obtain ⟨j, acc, hj, rfl, rfl, hacc, hblk, hbw⟩ := hrel
        by_cases hlt : j < ax.length
        · obtain ⟨e1, o1, x0, x1, rfl, hgx, hx0, hx1⟩ := at_1 HA.out HX2.out hlt
          have hx0 := Below.keeps hbw _ _ hx0
          have hx1 := Below.keeps hbw _ _ hx1
          have hlt' : (j : Int) < (ax.length : Int) := by omega
          have hx1s : shS x1 := HS2.out _ (List.getElem_mem hlt) x1 (by rw [hgx]; simp)
          have hnx : S0 ++ (ax.take (j + 1)).flatMap atT = acc ++ atT [x0, x1] := by
            rw [atT_take hlt, hgx, hacc]; simp
          have hle := at_len hlt
          rw [hgx] at hle
          have hla : acc.length + (atT [x0, x1]).length ≤ 100000000 := by
            obtain ⟨h1, h2⟩ := HML.out
            rw [hacc, HS0.out]
            simp only [List.length_append, List.length_singleton]
            omega
          have hNA := Blk.new wr 91 #[.string (bs x0), .string (bs x1)]
          have hbA := hbw.alloc hbw.size (.cells #[.string (bs x0), .string (bs x1)] 91)
          have hNE := hblk.alloc (.cells #[.string (bs x0), .string (bs x1)] 91)
          have HNX := Lib.hid hnx
          obtain ⟨T4, hT4⟩ : ∃ T4, atT [x0, x1] = T4 := ⟨_, rfl⟩
          have hT4l : T4.length = 1 + x0.length + 2 + (escF true x1).length + 1 := by rw [← hT4]; unfold atT; simp; omega
          rw [hT4] at hla HNX
          obtain ⟨T1, hT1⟩ : ∃ T1, T1 = [32] ++ x0 := ⟨_, rfl⟩
          obtain ⟨T2, hT2⟩ : ∃ T2, T2 = T1 ++ [61, 34] := ⟨_, rfl⟩
          obtain ⟨T3, hT3⟩ : ∃ T3, T3 = T2 ++ escF true x1 := ⟨_, rfl⟩
          have hT5 : T3 ++ [34] = T4 := by rw [hT3, hT2, hT1, ← hT4]; rfl
          have q1 : ∀ w, (Op.stringOp .add ⟨#[32]⟩ (bs x0)).run Tryz.prog w = .ok (.string (bs T1)) w := by rw [hT1]; exact fun w => run_str_add (P := Tryz.prog) w [32] x0 (by simp; omega)
          have q2 : ∀ w, (Op.stringOp .add (bs T1) ⟨#[61, 34]⟩).run Tryz.prog w = .ok (.string (bs T2)) w := by rw [hT2]; exact fun w => run_str_add (P := Tryz.prog) w T1 [61, 34] (by rw [hT1]; simp; omega)
          have q3 : ∀ w, (Op.stringOp .add (bs T2) (bs (escF true x1))).run Tryz.prog w = .ok (.string (bs T3)) w := by rw [hT3]; exact fun w => run_str_add (P := Tryz.prog) w T2 _ (by rw [hT2, hT1]; simp; omega)
          have q4 : ∀ w, (Op.stringOp .add (bs T3) ⟨#[34]⟩).run Tryz.prog w = .ok (.string (bs T4)) w := by rw [← hT5]; exact fun w => run_str_add (P := Tryz.prog) w T3 [34] (by rw [hT3, hT2, hT1]; simp; omega)
          have q5 : ∀ w, (Op.stringOp .add (bs acc) (bs T4)).run Tryz.prog w = .ok (.string (bs (acc ++ T4))) w := fun w => run_str_add (P := Tryz.prog) w acc T4 (by omega)
          clear hgx hnx hbw hacc hT1 hT2 hT3 hT4 hT5 hT4l hla hle hblk
          go_wp2_with fail
          generalize wr.alloc (.cells #[.string (bs x0), .string (bs x1)] 91) = wa at *
          have d0 := (hNA.cell 0).trans rfl
          have d1 := (hNA.cell 1).trans rfl
          have HBA := Lib.hid hbA
          have HNE := Lib.hid hNE
          clear hNA hbA hNE hx0 hx1
          refine wp_phi (fun w' => (w'.cell? ⟨wr.heap.size, 0, none⟩ = some (.string (bs x0))) ∧ (w'.cell? ⟨wr.heap.size, 0 + 1, none⟩ = some (.string (bs x1))) ∧ Below wa.heap.size wa w') [(7, PVal (.string (bs (escF true x1))))] [] (by kernel_rfl) (by kernel_rfl) ?_ ?_ ⟨d0, d1, ((Below.refl _ wa)).drew⟩ ?_
          · rintro w1' w2' ⟨g0, g1, hIB⟩ hb
            exact ⟨(by first | exact g0.below hb | exact g0.keep (Below.keeps hb) | exact Below.keeps hb _ _ g0 | exact Blk.below g0 hb (Blk.lt g0)), (by first | exact g1.below hb | exact g1.keep (Below.keeps hb) | exact Below.keeps hb _ _ g1 | exact Blk.below g1 hb (Blk.lt g1)), hIB.trans (hb.mono hIB.size)⟩
          · simp only [List.mem_cons, List.not_mem_nil, or_false, forall_eq_or_imp, forall_eq]
            exact fun _ _ _ _ h' h => PVal_stays _ _ _ _ h' h
          repeat (first | (refine phi_skipK rfl (fun K hK => ?_); simp only [Act.put, List.setIfInBounds_toArray, List.set_cons_succ, List.set_cons_zero]; (try simp only [List.cons_append]); (try simp only [List.nil_append]); apply hK; clear hK K) | (refine phi_pureK rfl rfl (fun K hK => ?_); apply Exists.intro; constructor; (focus (rintro w' ⟨g0, g1, hIB⟩; skip; first | (go_simp; done) | (go_simp; (try go_bits); (try go_simp); rfl) | go_simp)); simp only [Act.put, List.setIfInBounds_toArray, List.set_cons_succ, List.set_cons_zero]; (try simp only [List.cons_append]); (try simp only [List.nil_append]); apply hK; clear hK K))
          refine phi_partK (PVal (.string (bs (escF true x1)))) rfl rfl ⟨_, rfl⟩ ?_ (fun K hK v hv => ?_)
          · rintro w' ⟨g0, g1, hIB⟩ hf
            unfold gives
            clear hf
            go_simp
            refine (calls_gives (resc_any x1 true hx1s w')).mono ?_
            rintro e w'' ⟨rfl, hb⟩
            exact ⟨_, rfl, rfl, trivial, hb⟩
          obtain rfl : v = _ := hv
          simp only [Act.put, List.setIfInBounds_toArray, List.set_cons_succ, List.set_cons_zero]; (try simp only [List.cons_append]); (try simp only [List.nil_append])
          apply hK
          clear hK K
          repeat (first | (refine phi_skipK rfl (fun K hK => ?_); simp only [Act.put, List.setIfInBounds_toArray, List.set_cons_succ, List.set_cons_zero]; (try simp only [List.cons_append]); (try simp only [List.nil_append]); apply hK; clear hK K) | (refine phi_pureK rfl rfl (fun K hK => ?_); apply Exists.intro; constructor; (focus (rintro w' ⟨g0, g1, hIB⟩; skip; first | (go_simp; done) | (go_simp; (try go_bits); (try go_simp); rfl) | go_simp)); simp only [Act.put, List.setIfInBounds_toArray, List.set_cons_succ, List.set_cons_zero]; (try simp only [List.cons_append]); (try simp only [List.nil_append]); apply hK; clear hK K))
          refine phi_done ?_
          rintro w2 ⟨g0, g1, hb2⟩ _
          refine wpList_nil ?_
          go_wp2_with fail
          go_roundw
          case rel => exact ⟨j + 1, acc ++ T4, by omega, by go_num, rfl, HNX.out.symm, HNE.out.below hb2 HNE.out.lt, HBA.out.trans (hb2.mono HBA.out.size)⟩
          case measure => simp [intOf]; omega
        · obtain rfl : j = ax.length := by omega
          rw [List.take_of_length_le (Nat.le_refl _)] at hacc
          have k0 := (hblk.cell 0).trans rfl
          have k2 := (hblk.cell 2).trans rfl
          have HBLK := Lib.hid hblk
          have HBW := Lib.hid hbw
          have hac : acc.length = 1 + a0.length + (ax.flatMap atT).length := by rw [hacc, HS0.out]; simp; omega
          by_cases hk0 : kx.length = 0
          · have hT := HT.out
            rw [if_pos hk0] at hT
            have hkz : ((kx.length : Int) == 0) = true := by rw [hk0]; rfl
            have q1 : ∀ w, (Op.stringOp .add (bs acc) ⟨#[47, 62]⟩).run Tryz.prog w = .ok (.string (bs (acc ++ [47, 62]))) w := fun w => run_str_add (P := Tryz.prog) w acc [47, 62] (by obtain ⟨h1, h2⟩ := HML.out; simp; omega)
            have hfin : M = acc ++ [47, 62] := by rw [HM.out, ← hT, hacc, HS0.out]
            have HF := Lib.hid hfin
            clear hfin hT hacc hac hblk hbw
            go_wp2_with fail
            go_ret
            exact ⟨congrArg (fun l => Ending.returned (.string (bs l))) HF.out.symm, HBW.out⟩
          · have hT := HT.out
            rw [if_neg hk0] at hT
            have hkz : ((kx.length : Int) == 0) = false := beq_eq_false_iff_ne.2 (by omega)
            have hTL : 1 ≤ T.length := by rw [← hT]; simp
            obtain ⟨S1, hS1⟩ : ∃ S1, S1 = acc ++ [62] := ⟨_, rfl⟩
            have q1 : ∀ w, (Op.stringOp .add (bs acc) ⟨#[62]⟩).run Tryz.prog w = .ok (.string (bs S1)) w := by rw [hS1]; exact fun w => run_str_add (P := Tryz.prog) w acc [62] (by obtain ⟨h1, h2⟩ := HML.out; simp; omega)
            have hMl : M.length = S1.length + (Tr.wrtL kx).length + (2 + a0.length + 1) := by
              obtain ⟨h1, h2⟩ := HML.out
              rw [h1, ← hT, hS1]
              simp only [List.length_append, List.length_singleton, List.length_cons, List.length_nil]
              omega
            have hfin : M = S1 ++ Tr.wrtL kx ++ [60, 47] ++ a0 ++ [62] := by rw [HM.out, ← hT, hS1, hacc, HS0.out]; simp
            have HF := Lib.hid (And.intro hfin (And.intro hMl HML.out.2))
            clear hfin hT hacc hac hblk hbw hS1 hMl
            go_wp2_with fail
            clear k0 k2 q1 hkz
            go_loopw [3, 47] (fun s i wr => ∃ (j : Nat) (acc : List UInt8), j ≤ kx.length ∧ i = .int .i64 j ∧ s = .string (bs acc) ∧ acc = S1 ++ Tr.wrtL (kx.take j) ∧ Blk wr w.heap.size 50 #[.string (bs a0), .slice pa ax.length ca, .slice pk kx.length ck, .string (bs tx)] ∧ Below w.heap.size w wr) (fun _ i _ => kx.length - (intOf i).toNat)
            case atStart => exact ⟨0, S1, by omega, rfl, rfl, by simp [wrtL_nil], HBLK.out, HBW.out⟩
            case round =>
              obtain ⟨j, acc, hj, rfl, rfl, hacc, hblk, hbw⟩ := hrel
              by_cases hlt : j < kx.length
              · obtain ⟨e1, o1, m0, u1, u2, u3, u4, u5, u6, u7, rfl, hgx, hT1, hk0, hk1, hk2, hk3⟩ := kid_1 HK.out HL.out HX3.out hlt
                have hk0 := Below.keeps hbw _ _ hk0
                have hk1 := Below.keeps hbw _ _ hk1
                have hk2 := Below.keeps hbw _ _ hk2
                have hk3 := Below.keeps hbw _ _ hk3
                have hlt' : (j : Int) < (kx.length : Int) := by omega
                have hle := wrtL_get hlt
                have hnx : S1 ++ Tr.wrtL (kx.take (j + 1)) = acc ++ kx[j].wrt := by rw [wrtL_take hlt, hacc, List.append_assoc]
                have hbK := hbw.alloc hbw.size (.cells #[.string (bs m0), .slice u4 u1.length u5, .slice u6 u2.length u7, .string (bs u3)] 50)
                have hNK := Blk.new wr 50 #[.string (bs m0), .slice u4 u1.length u5, .slice u6 u2.length u7, .string (bs u3)]
                have hNE := hblk.alloc (.cells #[.string (bs m0), .slice u4 u1.length u5, .slice u6 u2.length u7, .string (bs u3)] 50)
                have hla : acc.length = S1.length + (Tr.wrtL (kx.take j)).length := by rw [hacc]; simp
                obtain ⟨-, h1, h2⟩ := HF.out
                have HIC := Lib.hid (HIH.out kx[j] P _ _ (HKS.out j hlt) (okL_get 1 kx HX3.out j hlt) (shrL_get kx HS4.out j hlt) (by omega) (hT1.below hbK))
                obtain ⟨Z, hZ⟩ : ∃ Z, kx[j].wrt = Z := ⟨_, rfl⟩
                rw [hZ] at HIC hnx hle
                have q1 : ∀ w, (Op.stringOp .add (bs acc) (bs Z)).run Tryz.prog w = .ok (.string (bs (acc ++ Z))) w := fun w => run_str_add (P := Tryz.prog) w acc Z (by omega)
                have HIC : RowKit.Hid (Calls Tryz.prog 76 #[.agg #[.string (bs m0), .slice u4 u1.length u5, .slice u6 u2.length u7, .string (bs u3)]] (wr.alloc (.cells #[.string (bs m0), .slice u4 u1.length u5, .slice u6 u2.length u7, .string (bs u3)] 50)) (Gives (wr.alloc (.cells #[.string (bs m0), .slice u4 u1.length u5, .slice u6 u2.length u7, .string (bs u3)] 50)) (.string (bs Z)))) := Lib.hid HIC.out
                have c0 := (hNK.cell 0).trans rfl
                have c1 := (hNK.cell 1).trans rfl
                have c2 := (hNK.cell 2).trans rfl
                have c3 := (hNK.cell 3).trans rfl
                have HNX := Lib.hid hnx
                have HNE := Lib.hid hNE
                have HBK := Lib.hid hbK
                clear hgx hT1 hle hnx hNK hNE hbK hla h1 h2 hacc hblk hbw
                go_wp2_with (go_at_call 76; refine HIC.out.mono ?_; rintro e w5 ⟨rfl, hb5⟩)
                go_roundw
                case rel => exact ⟨j + 1, acc ++ Z, by omega, by go_num, rfl, HNX.out.symm, HNE.out.below hb5 HNE.out.lt, HBK.out.trans (hb5.mono HBK.out.size)⟩
                case measure => simp [intOf]; omega
              · obtain rfl : j = kx.length := by omega
                rw [List.take_of_length_le (Nat.le_refl _)] at hacc
                have k0 := (hblk.cell 0).trans rfl
                obtain ⟨hfin, h1, h2⟩ := HF.out
                have hla : acc.length = S1.length + (Tr.wrtL kx).length := by rw [hacc]; simp
                have q1 : ∀ w, (Op.stringOp .add (bs acc) ⟨#[60, 47]⟩).run Tryz.prog w = .ok (.string (bs (acc ++ [60, 47]))) w := fun w => run_str_add (P := Tryz.prog) w acc [60, 47] (by simp; omega)
                have q2 : ∀ w, (Op.stringOp .add (bs (acc ++ [60, 47])) (bs a0)).run Tryz.prog w = .ok (.string (bs (acc ++ [60, 47] ++ a0))) w := fun w => run_str_add (P := Tryz.prog) w _ a0 (by simp; omega)
                have q3 : ∀ w, (Op.stringOp .add (bs (acc ++ [60, 47] ++ a0)) ⟨#[62]⟩).run Tryz.prog w = .ok (.string (bs (acc ++ [60, 47] ++ a0 ++ [62]))) w := fun w => run_str_add (P := Tryz.prog) w _ [62] (by simp; omega)
                obtain ⟨A1, hA1⟩ : ∃ A1, acc ++ [60, 47] = A1 := ⟨_, rfl⟩
                rw [hA1] at q1 q2 q3
                obtain ⟨A2, hA2⟩ : ∃ A2, A1 ++ a0 = A2 := ⟨_, rfl⟩
                rw [hA2] at q2 q3
                obtain ⟨A3, hA3⟩ : ∃ A3, A2 ++ [62] = A3 := ⟨_, rfl⟩
                rw [hA3] at q3
                have HFF : RowKit.Hid (M = A3) := Lib.hid (by rw [hfin, ← hA3, ← hA2, ← hA1, hacc])
                have HBW2 := Lib.hid hbw
                clear hfin h1 h2 hla hA1 hA2 hA3 hacc hblk hbw
                go_wp2_with fail
                go_ret
                exact ⟨congrArg (fun l => Ending.returned (.string (bs l))) HFF.out.symm, HBW2.out⟩
theorem cells4b {w : World} {P : Nat → Prop} {x : Tr} {cs : List Value} (h : TrC w P x cs) (hx : x.ok 1) : ∃ c0 c1 c2 c3, cs = [c0, c1, c2, c3] := by
  have hl := h.len
  obtain ⟨nm, ats, ks, t⟩ := x
  unfold Tr.ok at hx
  have h1 : nm.length = 1 := hx.1
  have h2 : cs.length = 4 := by rw [hl]; show nm.length + 3 = 4; omega
  match cs, h2 with
  | [a, b, c, d], _ => exact ⟨a, b, c, d, rfl⟩
set_option maxRecDepth 20000 in
set_option maxHeartbeats 4000000 in
theorem rtext_any (x : Tr) (P : Nat → Prop) (cx : List Value) (w : World) (hx : x.ok 1) (hsh : x.shr) (hbig : x.wrt.length ≤ 100000000) (hcx : TrC w P x cx) :
    Calls Tryz.prog 33 #[.agg cx.toArray] w (Gives w (.tuple #[.string (bs (textS x)), .int .i64 (textE x)])) := by
  obtain ⟨c0, c1, c2, c3, rfl⟩ := cells4b hcx hx
  show Calls Tryz.prog 33 #[.agg #[c0, c1, c2, c3]] w _
  have hone := hcx.one
  have h0 := hone c0 (by simp)
  have h1 := hone c1 (by simp)
  have h2 := hone c2 (by simp)
  have h3 := hone c3 (by simp)
  have HB := Lib.hid (below_alloc1 w (.cells #[c0, c1, c2, c3] 50))
  have HNB := Lib.hid (Blk.new w 50 #[c0, c1, c2, c3])
  have HR := Lib.hid (rright_any x.sz x 1 P _ (w.alloc (.cells #[c0, c1, c2, c3] 50)) (Nat.le_refl _) hx hsh (by omega) (hcx.below HB.out))
  have HW := Lib.hid (fun w2 (hb : Below w.heap.size w w2) => rwrite_any x.sz x P _ w2 (Nat.le_refl _) hx hsh hbig (hcx.below hb))
  have k0 := (HNB.out.cell 0).trans rfl
  have k1 := (HNB.out.cell 1).trans rfl
  have k2 := (HNB.out.cell 2).trans rfl
  have k3 := (HNB.out.cell 3).trans rfl
  unfold Gives
  clear hone
  cases hr : x.rgt 1 <;> rw [hr] at HR
  · have hE : textE x = 4 := by unfold textE; rw [hr]; rfl
    have hS : textS x = [] := by unfold textS; rw [hE]; rfl
    rw [hE, hS]
    go_enter Tryz.func33, Tryz.ntmps33
    go_wp2_with (go_at_call 75; refine HR.out.mono ?_; rintro e w5 ⟨rfl, hb5⟩)
    go_ret2
    exact ⟨rfl, HB.out.trans (hb5.mono HB.out.size)⟩
  · have hE : textE x = if 20000 < x.wrt.length then 3 else 0 := by unfold textE; rw [hr, if_neg (by decide)]
    have hS : textS x = if textE x = 0 then x.wrt else [] := rfl
    rw [hE] at hS ⊢
    rw [hS]
    clear hE hS
    go_enter Tryz.func33, Tryz.ntmps33
    obtain ⟨M, hM⟩ : ∃ M, x.wrt = M := ⟨_, rfl⟩
    rw [hM] at HW hbig ⊢
    have hsz := bs_size M
    by_cases hlong : 20000 < M.length
    · rw [if_pos hlong]
      rw [if_neg (by decide)]
      have hl : decide ((20000 : Int) < (M.length : Int)) = true := decide_eq_true (by omega)
      go_wp2_with (first | (go_at_call 75; refine HR.out.mono ?_; rintro e w5 ⟨rfl, hb5⟩; have hbb := HB.out.trans (hb5.mono HB.out.size); have hbn := HNB.out.below hb5 HNB.out.lt; have m0 := (hbn.cell 0).trans rfl; have m1 := (hbn.cell 1).trans rfl; have m2 := (hbn.cell 2).trans rfl; have m3 := (hbn.cell 3).trans rfl; clear k0 k1 k2 k3) | (go_at_call 76; refine (HW.out _ hbb).mono ?_; rintro e w6 ⟨rfl, hb6⟩))
      go_ret2
      exact ⟨rfl, hbb.trans (hb6.mono hbb.size)⟩
    · rw [if_neg hlong, if_pos rfl]
      have hl : decide ((20000 : Int) < (M.length : Int)) = false := decide_eq_false (by omega)
      go_wp2_with (first | (go_at_call 75; refine HR.out.mono ?_; rintro e w5 ⟨rfl, hb5⟩; have hbb := HB.out.trans (hb5.mono HB.out.size); have hbn := HNB.out.below hb5 HNB.out.lt; have m0 := (hbn.cell 0).trans rfl; have m1 := (hbn.cell 1).trans rfl; have m2 := (hbn.cell 2).trans rfl; have m3 := (hbn.cell 3).trans rfl; clear k0 k1 k2 k3) | (go_at_call 76; refine (HW.out _ hbb).mono ?_; rintro e w6 ⟨rfl, hb6⟩))
      go_ret2
      exact ⟨rfl, hbb.trans (hb6.mono hbb.size)⟩
end Go.Proofs.YtkghpmpmcafhkaaGreatDoor
