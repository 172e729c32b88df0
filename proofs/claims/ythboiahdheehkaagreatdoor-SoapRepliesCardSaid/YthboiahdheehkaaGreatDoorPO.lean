/- SpV6 -/
import Derived.Test.YthboiahdheehkaaGreatDoorPN
import Derived.Test.YthboiahdheehkaaGreatDoorBA
open List renaming setIfInBounds_toArray → lA, set_cons_succ → lB, set_cons_zero → lC, cons_append → lD, nil_append → lE, length_nil → lP
open Go.Lib renaming hid → hI
open Option renaming bind_eq_some_iff → oA
open Nat renaming le_refl → nR
open Go.Proofs.Tryz renaming prog → pG
open Go.Value renaming string → V
open Go.Value renaming slice → C
open Go.Value renaming pointer → N
open Go.Value renaming agg → U
open Go.Ending renaming returned → EE
open Go.Obj renaming cells → B
namespace Go.Proofs.YthboiahdheehkaaGreatDoor
section
set_option maxHeartbeats 8000000
set_option maxRecDepth 20000
open Go.RowKit
attribute [local go_sem] bs_toList
attribute [local go_sem] Oper.semAt_some
def KnW (x : Tr) (k : Nat) (args : Array Value) (_ _ : World) : Prop := ∃ n0 n1, x.nms[k]? = some [n0, n1] ∧ args = #[U #[V (bs n0), V (bs n1)]]
def BdW (x : Tr) (ga g0 gm gw gl ge : Nat) (c0 c1 c2 c3 c4 : Value) (k : Nat) (_ : Array Value) (a' : Act) (_ W : World) : Prop :=
 ∃ n0 n1 g4, x.nms[k]? = some [n0, n1] ∧ Blk W g4 41 #[V (bs n0), V (bs n1)] ∧ a' = { tmps := #[N (some ⟨ga, 0, none⟩), N (some ⟨g0, 0, none⟩), N (some ⟨gw, 0, none⟩), N (some ⟨gl, 0, none⟩), N (some ⟨g4, 0, none⟩), undef, undef, undef, undef, undef, .map (some gm), U #[c0, c1, c2, c3, c4], .func (.func 180) #[] #[N (some ⟨ge, 0, none⟩)], U #[V (bs n0), V (bs n1)], undef, undef, undef, undef, undef, undef, undef, undef, undef, undef, undef, undef, undef, undef, undef, undef, undef, undef, undef, undef, undef, undef, undef, undef, undef, undef, undef, undef, undef, undef, undef, undef, undef, undef, undef, undef, undef, undef, undef, undef, undef, undef, undef, undef, undef, undef, undef, undef], defers := [] }
theorem write1_any (E : Nat → Addr) (ga : Nat) (x : Tr) (P : Nat → Prop) (c0 c1 c2 c3 c4 : Value) (w : World) (hg : LibG w) (hE : Errs w E) (hok : x.ok 2) (hsz : x.ssz 1000) (hnm : x.nms.length ≤ 40000) (hT : TrC w P x [c0, c1, c2, c3, c4]) (hk : Blk w ga 44 #[c0, c1, c2, c3, c4]) :
  Calls pG 128 #[N (some ⟨ga, 0, none⟩)] w (ElR E (writeF x) w) := by
 obtain ⟨wa, hwa⟩ : ∃ wa, (((w.alloc (B #[V ⟨#[]⟩, C none 0 0, C none 0 0, V ⟨#[]⟩] 96)).alloc (.map #[] 0)).alloc (B #[.map (some (w.heap.size + 1))] 190)).alloc (B #[C none 0 0] 93) = wa := ⟨_, rfl⟩
 have hsa : wa.heap.size = w.heap.size + 1 + 1 + 1 + 1 := by rw [← hwa]; simp
 have hba : Below w.heap.size w wa := by rw [← hwa]; exact below_alloc (below_alloc (below_alloc (below_alloc1 w _) _) _) _
 have hn0 : Blk wa w.heap.size 96 #[V ⟨#[]⟩, C none 0 0, C none 0 0, V ⟨#[]⟩] := by rw [← hwa]; exact (((Blk.new w _ _).alloc _).alloc _).alloc _
 have hn2 : Blk wa (w.heap.size + 1 + 1) 190 #[.map (some (w.heap.size + 1))] := by
  rw [← hwa]
  have := (Blk.new ((w.alloc (B #[V ⟨#[]⟩, C none 0 0, C none 0 0, V ⟨#[]⟩] 96)).alloc (.map #[] 0)) 190 #[.map (some (w.heap.size + 1))]).alloc (B #[C none 0 0] 93)
  rwa [World.size_alloc, World.size_alloc] at this
 have hn3 : Blk wa (w.heap.size + 1 + 1 + 1) 93 #[C none 0 0] := by
  rw [← hwa]
  have := Blk.new (((w.alloc (B #[V ⟨#[]⟩, C none 0 0, C none 0 0, V ⟨#[]⟩] 96)).alloc (.map #[] 0)).alloc (B #[.map (some (w.heap.size + 1))] 190)) 93 #[C none 0 0]
  rwa [World.size_alloc, World.size_alloc, World.size_alloc] at this
 have hnm0 : MapX wa (w.heap.size + 1) 0 (prefOf []) := by
  rw [prefOf_nil, ← hwa]
  have := mapx_made (w.alloc (B #[V ⟨#[]⟩, C none 0 0, C none 0 0, V ⟨#[]⟩] 96))
  rw [World.size_alloc] at this
  exact (this.below (below_alloc1 _ _)).below (below_alloc1 _ _)
 have HWA := hI hwa
 have HBA := hI hba
 have HSA := hI hsa
 have HN0 := hI hn0
 have HN2 := hI hn2
 have HN3 := hI hn3
 have HNM := hI hnm0
 have HG := hI hg
 have HE := hI hE
 have HT := hI hT
 have HK := hI hk
 have hka := hk.below hba hk.lt
 obtain ⟨a0, a1, a2, a3, a4, -⟩ := hka.cc
 rw [← hwa] at a0 a1 a2 a3 a4
 have HNA := hI (names_any c0 c1 c2 c3 c4 wa)
 rw [← hwa] at HNA
 have HOK := hI hok
 have HSZ := hI hsz
 have HNL := hI hnm
 clear hwa hba hsa hn0 hn2 hn3 hnm0 hg hE hT hk hka hok hsz hnm
 have hmm := @run_makeMap pG
 refine (callsIn_wide (n := 5)).1 (callsIn_of_wp_marks (F := Fence.wide) Tryz.func128 rfl trivial (wpIn_wide.2 ?_))
 simp only [Tryz.ntmps128, List.size_toArray, List.length_cons, lP, Nat.reduceAdd, Nat.reduceSub, Array.replicate_succ, Array.replicate_zero, List.push_toArray, List.append_toArray, lE, lD]
 go_wp2_with (go_at_call 129; refine HNA.out.mono ?_; rintro e w5 ⟨rfl, rfl⟩)
 clear a0 a1 a2 a3 a4 HNA
 rw [HWA.out]
 have hb5 := below_alloc1 wa (B #[c0, c1, c2, c3, c4] 44)
 have hel := Blk.new wa 44 #[c0, c1, c2, c3, c4]
 have hs5 : (wa.alloc (B #[c0, c1, c2, c3, c4] 44)).heap.size = w.heap.size + 5 := by simp [HSA.out]
 rw [HSA.out] at hel
 obtain ⟨g0, hg0⟩ : ∃ g0, w.heap.size = g0 := ⟨_, rfl⟩
 have HBG := hI (show Below w.heap.size w (wa.alloc (B #[c0, c1, c2, c3, c4] 44)) from HBA.out.trans (hb5.mono HBA.out.size))
 have HJ0 := hI (show WJ x #[c0, c1, c2, c3, c4] g0 (g0 + 1) (g0 + 1 + 1) (g0 + 1 + 1 + 1) (g0 + 1 + 1 + 1 + 1) (wa.alloc (B #[c0, c1, c2, c3, c4] 44)).heap.size w 0 (wa.alloc (B #[c0, c1, c2, c3, c4] 44)) from by
  rw [← hg0]
  exact ⟨HBG.out, HN0.out.alloc _, HN2.out.alloc _, hel, HNM.out.below hb5, C none 0 0, HN3.out.alloc _, rfl, .inl ⟨rfl, rfl⟩⟩)
 generalize wa.alloc (B #[c0, c1, c2, c3, c4] 44) = w5 at *
 clear hb5 hel HWA HN0 HN2 HN3 HNM HSA HBA
 rw [hg0]
 rw [hg0] at hs5
 have HS5 := hI hs5
 have HG0 := hI hg0
 clear hs5 hg0
 generalize hgm : g0 + 1 = gm at *
 generalize hgw : gm + 1 = gw at *
 generalize hgl : gw + 1 = gl at *
 generalize hge : gl + 1 = ge at *
 have HNU := hI (show g0 < gm ∧ gm < w5.heap.size ∧ g0 < gl ∧ gl < w5.heap.size ∧ g0 < w5.heap.size ∧ ge + 1 = w5.heap.size from by have := HS5.out; omega)
 clear hgm hgw hgl hge
 refine (wpIn_wide (n := 5)).1 ?_
 refine wpIn_rangeM XAT rfl (by omega) (gf := 180) (lb := #[N (some ⟨ge, 0, none⟩)]) rfl trivial (enters_of Tryz.func180 (by kernel_rfl) rfl)
  (WJ x #[c0, c1, c2, c3, c4] g0 gm gw gl ge w5.heap.size w) (KnW x) x.nms.length (fun k W W' h k' => h.sees k' HNU.out.2.1 (Nat.le_of_lt HNU.out.2.2.2.2.1)) HJ0.out (BdW x ga g0 gm gw gl ge c0 c1 c2 c3 c4) (fun k args a' A W W' h k' => ?hBd) ?hps ?hiter ?hassign ?hbody ?hdone
 case hBd =>
  obtain ⟨n0, n1, g4, h1, h2, h3⟩ := h
  exact ⟨n0, n1, g4, h1, k'.blk h2, h3⟩
 case hps =>
  rintro k args A W ⟨n0, n1, h1, rfl⟩
  rfl
 case hiter =>
  intro l W J' hbW hJ1 hJ2 hY h0
  exact names1_in Fence.wide FreeF.wide rfl _ l w5.heap.size ge w J' (fun k A h => by rw [HG0.out]; exact (hJ2 k A h).low) hJ1 x P c0 c1 c2 c3 c4 HOK.out HT.out (fun k A h => (hJ2 k A h).el)
   (fun i mm A W n0 n1 hi hA hAW => yield_any rfl mm (hY i _ A W (List.getElem?_eq_some_iff.1 hi).1 hA hAW ⟨n0, n1, hi, rfl⟩)) W hbW.size h0
 case hassign =>
  rintro l k args A W K ⟨n0, n1, h1, rfl⟩ hjA hAW hK
  gi_wp2
  refine hK _ _ (below_alloc1 _ _) ?_
  exact ⟨n0, n1, W.heap.size, h1, Blk.new _ _ _, rfl⟩
 case hbody =>
  rintro l k args a' A W hk hjA hs ⟨n0, n1, g4, h1, hb4, rfl⟩
  have hj := hjA.sees hs HNU.out.2.1 (Nat.le_of_lt HNU.out.2.2.2.2.1)
  have hstep := met_step (l := []) h1
  have hn0 : n0.length ≤ 1000 := ssz_nms x HSZ.out _ (List.mem_of_getElem? h1) n0 (by simp)
  have hl4 : (metF [] (x.nms.take k)).length ≤ 40000 := by
   have := met_len (x.nms.take k) []
   have h2 := HNL.out
   rw [List.length_take, lP] at this
   omega
  obtain ⟨v, hv, hown⟩ := hj.row
  have hmp := hj.mp
  have hlk := hmp.s.lookW (s := n0) (by show _ ≤ _; omega)
  rw [prefOf_no] at hlk
  have b0 := (hj.box.cell 0).trans rfl; have k0 := (hb4.cell 0).trans rfl
  have HJ := hI hj
  generalize hll : metF [] (x.nms.take k) = l at *
  have HST := hI hstep
  have HLL := hI hll
  have HMP := hI hmp
  have HV := hI hv
  have HOW := hI hown
  have HB4 := hI hb4
  have HL4 := hI hl4
  have HNN := hI hn0
  clear hj hstep hll hmp hv hown hb4 hjA hs h1 hl4 hn0 HJ0 HBG
  cases hc : l.contains n0 <;> rw [hc] at hlk
  rotate_left 1
  ·have hsame : addF l n0 = l := by unfold addF; rw [if_pos (.inl hc)]
   have HSM := hI (HST.out.trans hsame)
   clear hsame hc
   gi_wp2
   exact ⟨KeepsFrom.refl _ _, HJ.out.step (HSM.out.trans HLL.out.symm), KT.refl _ _ _⟩
  have hi0 : n0.isEmpty = (n0 == []) := by cases n0 <;> rfl
  have hi1 : (bs n0).toList.isEmpty = (n0 == []) := isE_bs n0
  cases hz : (n0 == []) <;> rw [hz] at hi0 hi1
  rotate_left 1
  ·have hsame : addF l n0 = l := by unfold addF; rw [if_pos (.inr (by simpa using hz))]
   have HSM := hI (HST.out.trans hsame)
   clear hsame hc hz
   gi_wp2
   exact ⟨KeepsFrom.refl _ _, HJ.out.step (HSM.out.trans HLL.out.symm), KT.refl _ _ _⟩
  have hnot : n0 ∉ l := by simpa using hc
  have hadd : addF l n0 = l ++ [n0] := by unfold addF; rw [if_neg (by rintro (h | h); exact hnot (by simpa using h); exact (by simpa using hz : n0 ≠ []) h)]
  have HAD := hI (HST.out.trans hadd)
  have HNT := hI hnot
  clear hc hz hnot hadd
  have hln := fun ty => HMP.out.len ty
  obtain ⟨i8, hi8, hv0, hv1, hv2⟩ := info_parts attr1_info
  have hlw : Below w.heap.size w W := by rw [HG0.out]; exact HJ.out.low
  have HI := hI (show Calls pG 119 #[.int .i64 ((l.length + 1 : Nat) : Int)] W (fun e w' => e = EE (V (bs (Lib.decDigits (l.length + 1)))) ∧ Below W.heap.size W w') from
   (Tryz.strconv_Itoa _ (by omega) (by have := HL4.out; omega) W (HG.out.below hlw).pow).mono (by
    rintro e w' ⟨rfl, kk, os, rfl⟩
    rw [Lib.itoa_nonneg]
    exact ⟨rfl, (below_drewN W kk).trans (below_grow (W.drewN kk) os)⟩))
  have hw64 : wrap64 ((l.length : Int) + 1) = ((l.length + 1 : Nat) : Int) := by have := HL4.out; unfold wrap64; omega
  have HW64 := hI hw64
  clear hw64 hlw
  gi_wp2
  refine ⟨trivial, ?_⟩
  rw [HW64.out]
  refine ((FreeF.wide.inRound _).calls _ _ _ _ _ _ HI.out).mono ?_
  rintro e w1 ⟨rfl, hb1⟩
  clear HI b0 k0 hln hlk hi0 hi1
  obtain ⟨pv, cv, rfl, -⟩ := owns_rd HOW.out
  have hdd := dd_len (l.length + 1)
  have hpl := pref_len l.length
  have h40 := HL4.out
  have hn1000 := HNN.out
  have hs1 : ∀ w, (Op.stringOp .add ⟨#[110]⟩ (bs (Lib.decDigits (l.length + 1)))).run pG w = .ok (V (bs (prefF l.length))) w := fun w => run_str_add (P := pG) w [110] (Lib.decDigits (l.length + 1)) (by simp; omega)
  have hs2 : ∀ w, (Op.stringOp .add ⟨#[120, 109, 108, 110, 115, 58]⟩ (bs (prefF l.length))).run pG w = .ok (V (bs (xmlnsL ++ 58 :: prefF l.length))) w := fun w => run_str_add (P := pG) w [120, 109, 108, 110, 115, 58] (prefF l.length) (by simp; omega)
  obtain ⟨w2, hrun2, hm2, hk2⟩ := (HMP.out.below hb1).store (by omega) (s := n0) (v := prefF l.length) (by show _ ≤ _; omega) (by show _ ≤ _; omega) (if_neg HNT.out)
  rw [prefOf_snoc HNT.out] at hm2
  have hbx1 := HJ.out.box.below hb1 HJ.out.box.lt
  have hb41 := HB4.out.below hb1 HB4.out.lt
  have hgl1 := HV.out.below hb1 HV.out.lt
  have hmp1 := HMP.out.below hb1
  have hb42 := hk2.blk hb41 (by simpa using hmp1.ne hb41)
  have hgl2 := hk2.blk hgl1 (by simpa using hmp1.ne hgl1)
  have hgmB : gm < w5.heap.size := HNU.out.2.1
  have how2 := hk2.owns2 (fun g hg => by have := (owns_blk HOW.out g hg).1; simp; omega) (owns_below HOW.out hb1)
  have hb3 := below_alloc1 w2 (B #[V (bs (xmlnsL ++ 58 :: prefF l.length)), V (bs n0)] 186)
  have how3 := owns_below how2 hb3
  have hB3 : w5.heap.size ≤ w2.heap.size := by have := HJ.out.el.lt; have := hb1.size; have := hk2.size; have := HNU.out.2.2.2.2.2; omega
  have q0 := (hbx1.cell 0).trans rfl; have q1 := (hb41.cell 0).trans rfl; have q2 := (hgl2.cell 0).trans rfl; have q3 := (hb42.cell 0).trans rfl
  have HO3 := hI how3
  have HM2 := hI hm2
  have HK2 := hI hk2
  have HB3 := hI hb3
  have HB1 := hI hb1
  have HGL := hI hgl2
  have HB3S := hI hB3
  have HNA2 := hI (Blk.new w2 186 #[V (bs (xmlnsL ++ 58 :: prefF l.length)), V (bs n0)])
  clear how3 how2 hb3 hB3 hgl2 hb42 hmp1 hgl1 hb41 hbx1 hk2 hm2 hb1 hdd hpl h40 hn1000 hgmB
  have hrd : Rd (w2.alloc (B #[V (bs (xmlnsL ++ 58 :: prefF l.length)), V (bs n0)] 186)) (some ⟨w2.heap.size, 0, none⟩) [V (bs (xmlnsL ++ 58 :: prefF l.length)), V (bs n0)] := .inr ⟨w2.heap.size, 0, rfl, fun i u hiu => by
   rw [Nat.zero_add, HNA2.out.cell i]
   simpa using hiu⟩
  have HRD := hI hrd
  clear hrd
  gi_wp2_with (refine wpListIn_appAt (.tmp 36) (.tmp 42) 93 rfl rfl w5.heap.size 186 i8 (U #[V ⟨#[]⟩, V ⟨#[]⟩]) 2 32 Tryz.underlying93 hi8 hv0 hv1 hv2 rfl (by decide) _ _ _ rfl HO3.out (some ⟨w2.heap.size, 0, none⟩) 1 1 [V (bs (xmlnsL ++ 58 :: prefF l.length)), V (bs n0)] rfl rfl HRD.out (by simp [Value.oneCell']) (by have := HL4.out; unfold maxLen; omega) (by have := HL4.out; omega) (by have := HB3S.out; rw [World.size_alloc]; omega) ?_; intro v' w4 ho4 hg4 _; obtain ⟨pv', cv', rfl, -⟩ := owns_rd ho4; have HFIN := hI (HJ.out.snoc HAD.out ⟨Nat.le_of_lt HNU.out.1, HNU.out.2.1⟩ ⟨Nat.le_of_lt HNU.out.2.2.1, HNU.out.2.2.2.1⟩ HB1.out HM2.out HK2.out HB3.out HV.out HOW.out ho4 (by rw [decl_snoc, acells_snoc]; rfl) hg4); have hgl4 : Blk w4 gl 93 #[C pv l.length cv] := (hg4.block gl (by rw [World.size_alloc]; have := HGL.out.lt; omega) (fun e => by have := (owns_blk HOW.out gl e.symm).1; have := HNU.out.2.2.2.1; omega)).trans (HGL.out.below HB3.out HGL.out.lt); have q4 := (hgl4.cell 0).trans rfl; have q5 := hgl4.frozen 0; clear hgl4 ho4 hg4)
  exact ⟨HFIN.out.2.1, HFIN.out.1, HFIN.out.2.2⟩
 case hdone =>
  intro D W hD hj hW
  have hall : metF [] (x.nms.take x.nms.length) = x.spc := by rw [List.take_length]; rfl
  obtain ⟨v, hv, hown⟩ := hj.row
  have hmp := hj.mp
  rw [hall] at hmp hown
  have hll : x.spc.length ≤ 40000 := by
   have := met_len x.nms []
   have h2 := HNL.out
   rw [lP] at this
   unfold Tr.spc
   omega
  have hlow : Below w.heap.size w W := by rw [HG0.out]; exact hj.low
  have HWD := hI (show WD g0 D w W from ⟨hj.low, hj.out, hW⟩)
  have HEL := hI (show w5.heap.size ≤ W.heap.size ∧ ∀ g, v.ownBlock = some g → g < W.heap.size from ⟨by have := hj.el.lt; have := HNU.out.2.2.2.2.2; omega, fun g hg => (hown.lt g hg).2⟩)
  have HWR := hI (write_of HOK.out)
  have hf : ∀ s u, prefOf x.spc s = some u → shS u := fun s u h => by have := prefOf_len h; show _ ≤ _; omega
  have HWE := hI (welem_any E gm x.spc.length (prefOf x.spc) hf x.sz x P [c0, c1, c2, c3, c4] W (nR _) HOK.out (ssz_shr (by omega) x HSZ.out) (nms_few (by omega) x HNL.out) (HT.out.below hlow) hmp.s (HG.out.below hlow) (HE.out.below hlow))
  have HV := hI hv
  have HOW := hI hown
  have HLL := hI hll
  have hka := HK.out.below hlow HK.out.lt
  obtain ⟨a0, a1, a2, a3, a4, -⟩ := hka.cc; have b0 := (hj.box.cell 0).trans rfl
  obtain ⟨R, hR⟩ : ∃ R, writeF x = R := ⟨_, rfl⟩
  have HRR := hI hR
  rw [hR]
  obtain ⟨O, hO⟩ : ∃ O, x.wn (prefOf x.spc) = O := ⟨_, rfl⟩
  have HO := hI hO
  rw [hO] at HWE
  clear hall hmp hown hv hll hlow hf hj hW hka hR hO HJ0 HBG
  cases O with
  | none =>
   have HR0 : RowKit.Hid (R = none) := hI (by rw [← HRR.out, HWR.out, HO.out]; rfl)
   have HWE2 := hI (HWE.out.mono (R' := fun e w' => e = .panicked (panE E 3) ∧ Below W.heap.size W w') fun e w' h => ⟨h.2.elim (fun ⟨y, cs, h1, _⟩ => by cases h1) fun h2 => h2.2, h.1⟩)
   clear HWE
   go_wp2_with (go_at_call 130; refine HWE2.out.mono ?_; rintro e w6 ⟨rfl, hb6⟩)
   exact (HWD.out.below hb6).panics HG0.out HNU.out.2.2.2.2.1 hD (HRR.out.trans HR0.out)
  | some y =>
   obtain ⟨hys, hyf, hyo, hya⟩ := wn_ssz (M := x.spc.length + 2) (L := 1000) (fun s u h => prefOf_len h) x HSZ.out (nms_few (by omega) x HNL.out) HO.out
   have hya2 : y.ats.length ≤ 40000 := by have := nms_ats x; have := HNL.out; omega
   have hwd := wd_all (l := x.spc) (L := 1000) (M := x.spc.length + 2 + 1 + 1000) (met_small x.nms [] (by simp) (ssz_nms x HSZ.out)) hys hyf hyo (by have := HLL.out; omega) (by have := HLL.out; omega) (by have := HLL.out; omega)
   have HYO := hI hyo
   have HY2 := hI hya2
   have HWD2 := hI hwd
   have HWE2 := hI (HWE.out.mono (R' := fun e w' => ∃ e0 pa ca e2 e3, e = EE (U #[e0, C pa y.ats.length ca, e2, e3]) ∧ Rd w' pa (acells y.ats) ∧ TrC w' (Bt W.heap.size w'.heap.size none) y [e0, C pa y.ats.length ca, e2, e3] ∧ Below W.heap.size W w') fun e w' h => h.2.elim (fun ⟨y', cs, h1, h2, h3⟩ => by
    cases h1
    obtain ⟨e0, pa, ca, e2, e3, rfl, hr⟩ := tr_parts h3 HYO.out
    exact ⟨e0, pa, ca, e2, e3, h2, hr, h3, h.1⟩) fun h2 => by cases h2.1)
   have HRW := hI (show (resolveF (withDecl x.spc y)).bind (fun b => if b.eqb x = true then some (withDecl x.spc y) else none) = R from by rw [← HRR.out, HWR.out, HO.out]; rfl)
   clear HWE hys hyf hyo hya hya2 hwd HWR
   obtain ⟨i8, hi8, hv0, hv1, hv2⟩ := info_parts attr1_info
   generalize x.spc = l at *
   go_wp2_with (first | (go_at_call 130; refine HWE2.out.mono ?_; rintro e w6 ⟨e0, pa, ca, e2, e3, rfl, hr6, hT6, hb6⟩; have hall := hT6.one; have o0 := hall e0 (by simp); have o2 := hall e2 (by simp); have o3 := hall e3 (by simp); have HN6 := hI (Blk.new w6 96 #[V ⟨#[]⟩, C none 0 0, C none 0 0, V ⟨#[]⟩])) | (refine wpList_store (.tmp 8) (.tmp 46) 96 rfl rfl w6.heap.size 0 _ _ #[e0, C pa y.ats.length ca, e2, e3] rfl rfl HN6.out ?s0 ?s1 ?s2 ?_))
   case s0 => kernel_rfl
   case s2 => simp
   intro w7 hb7 ho7
   rw [putCells_all #[V ⟨#[]⟩, C none 0 0, C none 0 0, V ⟨#[]⟩] #[e0, C pa y.ats.length ca, e2, e3] rfl] at hb7
   have hbA := below_alloc1 w6 (B #[V ⟨#[]⟩, C none 0 0, C none 0 0, V ⟨#[]⟩] 96)
   have hWs := hb6.size
   have hg6 : g0 < w6.heap.size := by have := HWD.out.out.lt; omega
   have HWD7 := hI (((HWD.out.below hb6).below hbA).only ho7 hg6 HN6.out)
   have HV6 := HV.out.below hb6 HV.out.lt
   have HV7 := hI (ho7.blk (HV6.below hbA HV6.lt) (by have := HV6.lt; omega))
   have how7 := (ho7.owns HN6.out (owns_below (owns_below HOW.out hb6) hbA) (by decide))
   have hT7 := (hT6.below hbA).only ho7 (fun b hb => by have := hb.2.1; omega)
   have hr7 : Rd w7 pa (acells y.ats) := (tr_parts hT7 HYO.out).elim fun e0 ⟨pa', ca', e2, e3, h1, h2⟩ => by cases h1; exact h2
   have HR7 := hI hr7
   have HT7 := hI hT7
   have HO7 := hI how7
   have HB7 := hI hb7
   have HW6 := hI (show W.heap.size ≤ w6.heap.size ∧ w6.heap.size < w7.heap.size from ⟨hWs, hb7.lt⟩)
   have q0 := (HV7.out.cell 0).trans rfl; obtain ⟨r0, r1, r2, r3, -⟩ := hb7.cc
   have HONE := hI (And.intro o0 (And.intro o2 o3))
   clear hr7 hT7 how7 HV6 hg6 hWs hbA hb7 ho7 hr6 hT6 hb6 hall o0 o2 o3 HN6 HV HOW HWD a0 a1 a2 a3 a4 b0
   generalize w6.heap.size = go at *
   have HRV := hI (fun (w9 : World) (v' : Value) (hb : Below w.heap.size w w9) (hT : TrC w9 (Bt (w.heap.size + 1) w9.heap.size none) (withDecl l y) [e0, v', e2, e3]) => resolve_any E (withDecl l y) _ [e0, v', e2, e3] w9 (HG.out.below hb) (HE.out.below hb) HWD2.out.1 HWD2.out.2.1 HWD2.out.2.2 hT)
   have HLA := hI (acells_len (ok_ats HYO.out))
   obtain ⟨pv, cv, rfl, -⟩ := owns_rd HO7.out
   cases hO2 : resolveF (withDecl l y) with
   | none =>
    rw [hO2] at HRV HRW
    have HRV2 := hI (fun w9 v' hb hT => (HRV.out w9 v' hb hT).mono (R' := fun e w' => e = EE (.tuple #[U #[V ⟨#[]⟩, V ⟨#[]⟩, C none 0 0, C none 0 0, V ⟨#[]⟩], errAt (E 3)]) ∧ Below w9.heap.size w9 w') fun e w' h => ⟨h.2.elim (fun ⟨y', _, _, _, _, _, h1, _⟩ => by cases h1) fun h2 => h2.2, h.1⟩)
    have HR0 : RowKit.Hid (R = none) := hI HRW.out.symm
    clear HRV HRW hO2
    go_wp2_with (first | (refine wpList_appAt (.tmp 47) (.tmp 49) 93 rfl rfl w5.heap.size 186 i8 (U #[V ⟨#[]⟩, V ⟨#[]⟩]) 2 32 Tryz.underlying93 hi8 hv0 hv1 hv2 rfl (by decide) _ _ _ rfl HO7.out pa y.ats.length ca (acells y.ats) rfl HLA.out HR7.out (acells_one y.ats) (by have := HLL.out; have := HY2.out; unfold maxLen; omega) (by have := HLL.out; have := HY2.out; omega) (by have := HW6.out; have := HEL.out.1; omega) ?_; intro v' w8 ho8 hg8 h8; obtain ⟨pv', cv', rfl, -⟩ := owns_rd ho8; have hb8 : Blk w8 go 96 #[e0, C pa y.ats.length ca, e2, e3] := (hg8.block go HB7.out.lt (fun e => by have := HEL.out.2 go e.symm; have := HW6.out; omega)).trans HB7.out; have H9 := hI (w9_all HWD7.out HT7.out HYO.out HO7.out hg8 ho8 hb8 HG0.out HNU.out.2.2.2.2.1 HEL.out.2 HW6.out.1 HNU.out.2.2.2.2.1 (by have := HEL.out.1; have := HNU.out.2.2.2.2.1; omega)); have z1 := (hb8.cell 1).trans rfl; have z2 := hb8.frozen 1; have z3 := hb8.frozen 0; obtain ⟨u0, u1, u2, u3, -⟩ := H9.out.2.1.cc; clear ho8 hg8 h8 hb8) | (go_at_call 46; refine (HRV2.out _ _ H9.out.2.2.2 H9.out.2.2.1).mono ?_; rintro e wA ⟨rfl, hbA⟩; have HDA := hI (H9.out.1.below hbA)) | (go_at_call 45; refine (must_no E _ _ _ _ _ rfl rfl rfl rfl rfl _).mono ?_; rintro e wB ⟨rfl, hbB⟩))
    exact (HDA.out.below hbB).panics HG0.out HNU.out.2.2.2.2.1 hD (HRR.out.trans HR0.out)
   | some b =>
    have hbo := (resolve_ok HWD2.out.2.2 hO2).1
    rw [hO2] at HRV HRW
    have HRV2 := hI (fun w9 v' hb hT => (HRV.out w9 v' hb hT).mono (R' := fun e w' => ∃ f0 f1 f2 f3 f4, e = EE (.tuple #[U #[f0, f1, f2, f3, f4], .nilIface]) ∧ TrC w' (Bt w9.heap.size w'.heap.size none) b [f0, f1, f2, f3, f4] ∧ Below w9.heap.size w9 w') fun e w' h => h.2.elim (fun ⟨y', f0, f1, f2, f3, f4, h1, h2, h3⟩ => by cases h1; exact ⟨f0, f1, f2, f3, f4, h2, h3, h.1⟩) fun h2 => by cases h2.1)
    have HBO := hI hbo
    have HRX := hI (show (if b.eqb x = true then some (withDecl l y) else none) = R from HRW.out)
    clear HRV HRW hO2 hbo
    go_wp2_with (first | (refine wpList_appAt (.tmp 47) (.tmp 49) 93 rfl rfl w5.heap.size 186 i8 (U #[V ⟨#[]⟩, V ⟨#[]⟩]) 2 32 Tryz.underlying93 hi8 hv0 hv1 hv2 rfl (by decide) _ _ _ rfl HO7.out pa y.ats.length ca (acells y.ats) rfl HLA.out HR7.out (acells_one y.ats) (by have := HLL.out; have := HY2.out; unfold maxLen; omega) (by have := HLL.out; have := HY2.out; omega) (by have := HW6.out; have := HEL.out.1; omega) ?_; intro v' w8 ho8 hg8 h8; obtain ⟨pv', cv', rfl, -⟩ := owns_rd ho8; have hb8 : Blk w8 go 96 #[e0, C pa y.ats.length ca, e2, e3] := (hg8.block go HB7.out.lt (fun e => by have := HEL.out.2 go e.symm; have := HW6.out; omega)).trans HB7.out; have H9 := hI (w9_all HWD7.out HT7.out HYO.out HO7.out hg8 ho8 hb8 HG0.out HNU.out.2.2.2.2.1 HEL.out.2 HW6.out.1 HNU.out.2.2.2.2.1 (by have := HEL.out.1; have := HNU.out.2.2.2.2.1; omega)); have z1 := (hb8.cell 1).trans rfl; have z2 := hb8.frozen 1; have z3 := hb8.frozen 0; obtain ⟨u0, u1, u2, u3, -⟩ := H9.out.2.1.cc; clear ho8 hg8 h8 hb8) | (go_at_call 46; refine (HRV2.out _ _ H9.out.2.2.2 H9.out.2.2.1).mono ?_; rintro e wA ⟨f0, f1, f2, f3, f4, rfl, hTA, hbA⟩; have hall := hTA.one; have p0 := hall f0 (by simp); have p1 := hall f1 (by simp); have p2 := hall f2 (by simp); have p3 := hall f3 (by simp); have p4 := hall f4 (by simp); have HMU := hI (must_ok f0 f1 f2 f3 f4 p0 p1 p2 p3 p4)) | (go_at_call 45; refine (HMU.out _).mono ?_; rintro e wB ⟨rfl, hbB⟩; have HNB := hI (Blk.new wB 44 #[V ⟨#[]⟩, V ⟨#[]⟩, C none 0 0, C none 0 0, V ⟨#[]⟩])) | (refine wpList_store (.tmp 9) (.tmp 56) 44 rfl rfl wB.heap.size 0 _ _ #[f0, f1, f2, f3, f4] rfl rfl HNB.out ?t0 ?t1 ?t2 ?_))
    case t0 => kernel_rfl
    case t2 => simp
    intro wC hbC hoC
    rw [putCells_all #[V ⟨#[]⟩, V ⟨#[]⟩, C none 0 0, C none 0 0, V ⟨#[]⟩] #[f0, f1, f2, f3, f4] rfl] at hbC
    have hbX := below_alloc1 wB (B #[V ⟨#[]⟩, V ⟨#[]⟩, C none 0 0, C none 0 0, V ⟨#[]⟩] 44)
    have hgB : g0 < wB.heap.size := by have := (H9.out.1.below hbA).out.lt; have := hbB.size; omega
    have HDC := hI ((((H9.out.1.below hbA).below hbB).below hbX).only hoC hgB HNB.out)
    have hlow9 := H9.out.2.2.2
    have hbO := (H9.out.2.1.below hbA H9.out.2.1.lt)
    have hbO := (hbO.below hbB hbO.lt)
    have hltO := hbO.lt
    have hbO := hoC.blk (hbO.below hbX hltO) (by omega)
    have HLO := hI (show Below w.heap.size w wC by rw [HG0.out]; exact HDC.out.low)
    have hka := HK.out.below HLO.out HK.out.lt
    have hTC := ((hTA.below hbB).below hbX).only hoC (fun b hb => by have := hb.2.1; have := hbB.size; omega)
    have hWC := (((H9.out.2.2.1.below hbA).below hbB).below hbX).only hoC (fun b hb => by have := hb.2.1; have := hbA.size; have := hbB.size; omega)
    have HWC := hI (hWC.imp (Q := Bt (w.heap.size + 1) wC.heap.size none) fun b hb => ⟨hb.1, by have := hb.2.1; have := hbA.size; have := hbB.size; have := hbX.size; have := hoC.size; omega, by simp⟩)
    have HSA := hI (same_any b.sz b x _ P [f0, f1, f2, f3, f4] [c0, c1, c2, c3, c4] wC (nR _) HBO.out HOK.out hTC (HT.out.below HLO.out))
    obtain ⟨g0c, g1c, g2c, g3c, g4c, -⟩ := hbC.cc; obtain ⟨k0c, k1c, k2c, k3c, k4c, -⟩ := hka.cc
    have HBO2 := hI hbO
    generalize hgb : wB.heap.size = gb at *
    clear hgb hWC hTC hka hltO hbO hlow9 hgB hbX hbC hoC hbA hbB hTA hall p0 p1 p2 p3 p4 HMU HNB z1 z2 z3 u0 u1 u2 u3 q0 r0 r1 r2 r3 H9 HRV2
    cases hbe : b.eqb x <;> rw [hbe] at HSA HRX
    ·have HR0 : RowKit.Hid (R = none) := hI HRX.out.symm
     have HFN := hI (fun wD (hb : Below wC.heap.size wC wD) => sfail_n wD E (HE.out.below (HLO.out.trans (hb.mono HLO.out.size))))
     clear hbe
     go_wp2_with (first | (go_at_call 22; refine HSA.out.mono ?_; rintro e wD ⟨rfl, hbD⟩) | (go_at_call 84; refine (HFN.out _ hbD).mono ?_; rintro e wE ⟨rfl, rfl⟩))
     exact (HDC.out.below hbD).panics HG0.out HNU.out.2.2.2.2.1 hD (HRR.out.trans HR0.out)
    ·have HR0 : RowKit.Hid (R = some (withDecl l y)) := hI HRX.out.symm
     clear hbe
     go_wp2_with (first | (go_at_call 22; refine HSA.out.mono ?_; rintro e wD ⟨rfl, hbD⟩; have hbo := HBO2.out.below hbD HBO2.out.lt; obtain ⟨t0, t1, t2, t3, -⟩ := hbo.cc; have HDD := hI (HDC.out.below hbD); have hal := HWC.out.one; have y0 := hal e0 (by simp); have y1 := hal e2 (by simp); have y2 := hal e3 (by simp); clear hbo) | (go_at_call 84; refine (sfail_y _).mono ?_; rintro e wE ⟨rfl, rfl⟩) | (refine wpList_store (.tmp 1) (.tmp 61) 96 rfl rfl g0 0 _ _ #[e0, C pv' (l.length + y.ats.length) cv', e2, e3] rfl rfl HDD.out.out ?v0 ?v1 ?v2 ?_))
     case v0 => kernel_rfl
     case v2 => simp
     intro wF hbF hoF
     rw [putCells_all #[V ⟨#[]⟩, C none 0 0, C none 0 0, V ⟨#[]⟩] #[e0, C pv' (l.length + y.ats.length) cv', e2, e3] rfl] at hbF
     have hDn : D ≠ g0 := by have := HNU.out.2.2.2.2.1; omega
     have hmk : wF.heap[D]? = some (.deferred (some [])) := (hoF.block D hDn).trans HDD.out.mark
     have HFIN := hI (show Below w.heap.size w (wF.putObj D (.deferred none)) ∧ TrC (wF.putObj D (.deferred none)) (Bt w.heap.size (wF.putObj D (.deferred none)).heap.size none) (withDecl l y) [e0, C pv' (l.length + y.ats.length) cv', e2, e3] from by
      have hl := HDD.out.low.trans (hoF.below (nR g0))
      have hg := (grownBy_putObj' wF D (.deferred none)).size
      refine ⟨by rw [HG0.out]; exact below_mark hl (by have := HNU.out.2.2.2.2.1; omega) hmk, ?_⟩
      refine (((HWC.out.below hbD).only hoF (fun b hb => by have := hb.1; have := HG0.out; omega)).mark hmk).imp fun b hb => ⟨by have := hb.1; omega, by have := hb.2.1; have := hbD.size; have := hoF.size; omega, by simp⟩)
     have hbG : Blk (wF.putObj D (.deferred none)) g0 96 #[e0, C pv' (l.length + y.ats.length) cv', e2, e3] := (World.putObj_heap_other (Ne.symm hDn)).trans hbF
     obtain ⟨s0, s1, s2, s3, -⟩ := hbG.cc
     have HMK := hI hmk
     clear hbG hmk hDn hoF hbF hbD t0 t1 t2 t3
     go_wp2_with fail
     refine leaves_one HMK.out ⟨U #[e0, C pv' (l.length + y.ats.length) cv', e2, e3], by simp [results, Tryz.results128, go_sem, s0, s1, s2, s3], HFIN.out.1, .inl ⟨_, _, HRR.out.trans HR0.out, rfl, HFIN.out.2⟩⟩
end
section
set_option maxHeartbeats 8000000
set_option maxRecDepth 20000
open Go.RowKit Go.Extern.Stop Go.Stop Go.Extern
theorem tryX_idle (d x r : Nat) (w : World) (hd : w.cell? ⟨d, 0, none⟩ = some (.bool true)) :
  CallsD pG 77 #[N (some ⟨d, 0, none⟩), N (some ⟨x, 0, none⟩), N (some ⟨r, 0, none⟩)] .returning w fun e u' w' => e = EE (.tuple #[]) ∧ u' = .returning ∧ w' = w := by
 refine callsD_of_wpS Tryz.func77 rfl fun c₀ cs hu => ?_
 apply wpS_seq
 apply wpS_region
 simp [wpOpsS, go_sem, recoverD, hu, Tryz.ntmps77, Exit.thenS]
 refine wpS_of_wp ?_
 have e : (#[N (some ⟨d, 0, none⟩), N (some ⟨x, 0, none⟩), N (some ⟨r, 0, none⟩)] ++ ((Array.replicate 8 undef).setIfInBounds 2 Value.nilIface).setIfInBounds 0 Value.nilIface) =
   #[N (some ⟨d, 0, none⟩), N (some ⟨x, 0, none⟩), N (some ⟨r, 0, none⟩), .nilIface, undef, .nilIface, undef, undef, undef, undef, undef] := rfl
 rw [e]
 clear e
 go_wp2_with fail
 cases c₀
 simp_all [bodyPostS, results, Tryz.results77]
theorem tryX_err (d x r : Nat) (w : World) (E : Nat → Addr) (u : Value) (n : Nat) (older : List PanicEntry) (hu0 : ∃ T x, u = .iface T x) (ht : Tells w u E n) (he : Errs w E) (hd : w.cell? ⟨d, 0, none⟩ = some (.bool false))
  (hx : Blk w x 96 #[V ⟨#[]⟩, C none 0 0, C none 0 0, V ⟨#[]⟩]) (hr : Blk w r 30 #[.nilIface]) (hxr : x ≠ r) :
  CallsD pG 77 #[N (some ⟨d, 0, none⟩), N (some ⟨x, 0, none⟩), N (some ⟨r, 0, none⟩)] (.panicking ({ v := u, recovered := false } :: older)) w fun e u' w' =>
   e = EE (.tuple #[]) ∧ u' = .panicking ({ v := u, recovered := true } :: older) ∧ Blk w' x 96 #[V ⟨#[]⟩, C none 0 0, C none 0 0, V ⟨#[]⟩] ∧ Blk w' r 30 #[errAt (E n)] ∧ But [x, r] w w' := by
 unfold errAt at *
 obtain ⟨T, x0, rfl⟩ := hu0
 refine callsD_of_wpS Tryz.func77 rfl fun c₀ cs hu => ?_
 apply wpS_seq
 apply wpS_region
 simp [wpOpsS, go_sem, recoverD, hu, Tryz.ntmps77, Exit.thenS]
 refine wpS_of_wp ?_
 have e : (#[N (some ⟨d, 0, none⟩), N (some ⟨x, 0, none⟩), N (some ⟨r, 0, none⟩)] ++ ((Array.replicate 8 undef).setIfInBounds 2 (Value.iface T x0)).setIfInBounds 0 (Value.iface T x0)) =
   #[N (some ⟨d, 0, none⟩), N (some ⟨x, 0, none⟩), N (some ⟨r, 0, none⟩), .iface T x0, undef, .iface T x0, undef, undef, undef, undef, undef] := rfl
 rw [e]
 have HX := hI hx
 have HR := hI hr
 have HT := hI ht
 have HE := hI he
 have HB0 := hI (below_alloc1 w (B #[V ⟨#[]⟩, C none 0 0, C none 0 0, V ⟨#[]⟩] 96))
 have HN0 := hI (Blk.new w 96 #[V ⟨#[]⟩, C none 0 0, C none 0 0, V ⟨#[]⟩])
 clear e he hx hr ht
 go_wp2_with fail
 generalize w.alloc (B #[V ⟨#[]⟩, C none 0 0, C none 0 0, V ⟨#[]⟩] 96) = w0 at *
 refine wp_phi_tail (List.take 3 _) (List.drop 3 _) (List.take_append_drop 3 _).symm (fun w' => Below w.heap.size w w' ∧ Blk w' w.heap.size 96 #[V ⟨#[]⟩, C none 0 0, C none 0 0, V ⟨#[]⟩]) [(2, PVal (.iface 313 (N (some (E n)))))] [] (by kernel_rfl) (by kernel_rfl) ?_ ?_ ⟨HB0.out.drew, HN0.out⟩ ?_
 ·rintro w1' w2' ⟨h1, h2⟩ hb
  exact ⟨h1.trans (hb.mono h1.size), h2.below hb h2.lt⟩
 ·simp only [List.mem_singleton, forall_eq]
  exact fun _ _ _ _ _ h => h
 simp only [List.take_succ_cons, List.take_zero, List.drop_succ_cons, List.drop_zero]
 repeat ((first | refine phi_skipK rfl (fun K hK => ?_) | (refine phi_pureK rfl rfl (fun K hK => ?_); apply Exists.intro; constructor; (focus (rintro w' ⟨h1, h2⟩; (obtain ⟨c0, c1, c2, -⟩ := h2.cc; have c3 := (h2.cell 3).trans rfl); first | (go_simp; done) | (go_simp; (try go_bits); (try go_simp); rfl) | go_simp)))); simp only [Act.put, lA, lB, lC, lD, lE]; apply hK; clear hK K)
 refine phi_partK (PVal (.iface 313 (N (some (E n))))) rfl rfl ⟨_, rfl⟩ ?_ (fun K hK v hv => ?_)
 ·rintro w' ⟨h1, h2⟩ _
  unfold gives
  go_simp
  refine (HT.out w' h1 (HE.out.below h1)).mono ?_
  rintro e w'' ⟨rfl, hb⟩
  exact ⟨_, rfl, rfl, trivial, hb⟩
 obtain rfl : v = _ := hv
 simp only [Act.put, lA, lB, lC, lD, lE]
 apply hK
 clear hK K
 refine phi_done ?_
 rintro w1 ⟨h1, h2⟩ _
 have hx1 := HX.out.below h1 HX.out.lt
 have hr1 := HR.out.below h1 HR.out.lt
 have HR1 := hI hr1
 have HB1 := hI h1
 have cr := (hr1.cell 0).trans rfl
 have fr := hr1.frozen 0
 clear h1 h2 hr1 HT
 refine wpList_store (.tmp 1) (.tmp 8) 96 rfl rfl x 0 _ _ #[V ⟨#[]⟩, C none 0 0, C none 0 0, V ⟨#[]⟩] rfl rfl hx1 (by kernel_rfl) (by simp [Value.oneCell']) (by simp) ?_
 intro w2 hx2 ho2
 rw [putCells_all #[V ⟨#[]⟩, C none 0 0, C none 0 0, V ⟨#[]⟩] #[V ⟨#[]⟩, C none 0 0, C none 0 0, V ⟨#[]⟩] rfl] at hx2
 have hr2 := ho2.blk HR1.out (fun e => hxr e.symm)
 have cr2 := (hr2.cell 0).trans rfl
 have fr2 := hr2.frozen 0
 have HX2 := hI hx2
 have HR2 := hI hr2
 have HO2 := hI ho2
 clear hx2 hr2 ho2 hx1 cr fr
 go_wp2_with fail
 cases c₀
 simp only [bodyPostS, results, Tryz.results77]
 exact ⟨trivial, _, rfl, .tuple #[], by simp, rfl, rfl, HX2.out.far hxr 0 _, HR2.out.set_ 0 _, (((But.of_below HB1.out).only HO2.out (by simp)).set_ r 0 _ (by simp))⟩
theorem tryX_any (w : World) (E : Nat → Addr) (f : FuncId) (caps : Array Value) (S : List Nat) (R : World → Value → World → Prop) (Q : Nat → World → World → Prop) (hSl : ∀ s ∈ S, s < w.heap.size) (he : ∀ w', But S w w' → Errs w' E) (hRs : ∀ w1 v w2, R w1 v w2 → ∃ v0 v1 v2 v3 : Value, v = U #[v0, v1, v2, v3] ∧ v0.oneCell' = true ∧ v1.oneCell' = true ∧ v2.oneCell' = true ∧ v3.oneCell' = true) (hcf : ∀ w, (callFunc f caps).run pG w = .ok (.enter f caps) w)
  (hdo : ∀ w1, Below w.heap.size w w1 → w1.heap.size = w.heap.size + 3 → Calls pG f caps w1 fun e w2 => MayG (R w1) (fun n w2 => Q n w1 w2) E e w2 ∧ But S w1 w2) :
  Calls pG 40 #[.func (.func f) #[] caps] w (TryG S R Q E (U #[V ⟨#[]⟩, C none 0 0, C none 0 0, V ⟨#[]⟩]) w) := by
 have hmf := @run_makeFunc pG
 have HE := hI he
 have HD := hI hdo
 have HRS := hI hRs
 have hno : ∀ k, w.heap.size ≤ k → S.contains k = false := fun k hk => by
  rw [Bool.eq_false_iff]
  intro hc
  have := hSl k (List.contains_iff_mem.1 hc)
  omega
 have HNO := hI hno
 clear he hdo hRs hSl hno
 go_enter_defers Tryz.func40, Tryz.ntmps40
 go_wp2_with fail
 have hb1 : Below w.heap.size w (((w.alloc (B #[V ⟨#[]⟩, C none 0 0, C none 0 0, V ⟨#[]⟩] 96)).alloc (B #[.nilIface] 30)).alloc (B #[.bool false] 4)) := below_alloc (below_alloc (below_alloc1 w _) _) _
 refine (HD.out _ hb1 (by simp)).mono ?_
 rintro e w2 ⟨hm, hb2⟩
 have x1 := hb2.blk (((Blk.new w 96 #[V ⟨#[]⟩, C none 0 0, C none 0 0, V ⟨#[]⟩]).alloc (B #[.nilIface] 30)).alloc (B #[.bool false] 4)) (HNO.out _ (nR _))
 have r1 := hb2.blk ((Blk.new (w.alloc (B #[V ⟨#[]⟩, C none 0 0, C none 0 0, V ⟨#[]⟩] 96)) 30 #[.nilIface]).alloc (B #[.bool false] 4)) (HNO.out _ (by simp))
 have d1 := hb2.blk (Blk.new ((w.alloc (B #[V ⟨#[]⟩, C none 0 0, C none 0 0, V ⟨#[]⟩] 96)).alloc (B #[.nilIface] 30)) 4 #[.bool false]) (HNO.out _ (by simp; omega))
 have hs1 : (((w.alloc (B #[V ⟨#[]⟩, C none 0 0, C none 0 0, V ⟨#[]⟩] 96)).alloc (B #[.nilIface] 30)).alloc (B #[.bool false] 4)).heap.size = w.heap.size + 3 := by simp
 simp only [World.size_alloc] at r1 d1
 have X1 := hI x1
 have R1 := hI r1
 have D1 := hI d1
 have B1 := hI hb1
 have B2 := hI hb2
 have S1 := hI hs1
 rcases hm with ⟨v, rfl, hR⟩ | ⟨u, n, hn, hS, ⟨T, x0, rfl⟩, htells, rfl⟩
 ·obtain ⟨v0, v1, v2, v3, rfl, hv1⟩ := HRS.out _ _ _ hR
  have HR := hI hR
  have HV1 := hI (show ∀ u ∈ (#[v0, v1, v2, v3] : Array Value).toList, u.oneCell' = true by simpa using hv1)
  clear x1 r1 d1 hb1 hb2 hs1 hR hv1
  generalize (((w.alloc (B #[V ⟨#[]⟩, C none 0 0, C none 0 0, V ⟨#[]⟩] 96)).alloc (B #[.nilIface] 30)).alloc (B #[.bool false] 4)) = w1 at *
  go_wp2_with (refine wpList_store (.tmp 2) (.tmp 7) 96 rfl rfl w.heap.size 0 _ _ #[v0, v1, v2, v3] rfl rfl X1.out ?s0 HV1.out ?s1 ?_)
  case s0 => kernel_rfl
  case s1 => simp
  intro w3 hx3 ho3
  rw [putCells_all #[V ⟨#[]⟩, C none 0 0, C none 0 0, V ⟨#[]⟩] #[v0, v1, v2, v3] rfl] at hx3
  have hd3 := ho3.blk D1.out (by omega)
  have hr3 := ho3.blk R1.out (by omega)
  have cd := (hd3.cell 0).trans rfl
  have fd := hd3.frozen 0
  have X4 := hI (hx3.far (b := w.heap.size + 1 + 1) (by omega) 0 (.bool true))
  have R4 := hI (hr3.far (b := w.heap.size + 1 + 1) (by omega) 0 (.bool true))
  have D4 := hI (show Blk (w3.setCell ⟨w.heap.size + 1 + 1, 0, none⟩ (.bool true)) (w.heap.size + 1 + 1) 4 #[.bool true] from hd3.set_ 0 _)
  have O4 := hI (((But.of_below (S := [w.heap.size, w.heap.size + 1, w.heap.size + 2]) (Below.refl _ w2)).only ho3 (by simp)).set_ (w.heap.size + 1 + 1) 0 (.bool true) (by simp))
  clear hx3 ho3 hd3 hr3
  go_wp2_with (first | (refine wpList_loadS (.tmp 2) 96 rfl rfl w.heap.size 96 #[v0, v1, v2, v3] rfl X4.out _ Tryz.underlying96 rfl ?s2 ?_) | (refine wpList_store (.tmp 2) (.tmp 8) 96 rfl rfl w.heap.size 0 _ _ #[v0, v1, v2, v3] rfl rfl X4.out ?s3 HV1.out ?s4 ?_))
  case s2 => kernel_rfl
  case s3 => kernel_rfl
  case s4 => simp
  clear cd fd
  generalize w3.setCell ⟨w.heap.size + 1 + 1, 0, none⟩ (.bool true) = w4 at *
  intro w5 hx5 ho5
  rw [putCells_all #[v0, v1, v2, v3] #[v0, v1, v2, v3] rfl] at hx5
  have hr5 := ho5.blk R4.out (by omega)
  have hd5 := ho5.blk D4.out (by omega)
  have cr := (hr5.cell 0).trans rfl
  have fr := hr5.frozen 0
  have X6 := hI (hx5.far (b := w.heap.size + 1) (by omega) 0 .nilIface)
  have R6 := hI (show Blk (w5.setCell ⟨w.heap.size + 1, 0, none⟩ .nilIface) (w.heap.size + 1) 30 #[.nilIface] from hr5.set_ 0 _)
  have D6 := hI (hd5.far (b := w.heap.size + 1) (by omega) 0 .nilIface)
  have O6 := hI ((O4.out.only ho5 (by simp)).set_ (w.heap.size + 1) 0 .nilIface (by simp))
  clear hx5 ho5 hd5 hr5
  go_wp2_with fail
  clear cr fr
  generalize w5.setCell ⟨w.heap.size + 1, 0, none⟩ .nilIface = w6 at *
  refine leaves_cons (f := 77) (args := #[N (some ⟨w.heap.size + 1 + 1, 0, none⟩), N (some ⟨w.heap.size, 0, none⟩), N (some ⟨w.heap.size + 1, 0, none⟩)]) (by simp) (by simp [go_sem]) ?_
  refine (tryX_idle _ _ _ w6 ((D6.out.cell 0).trans rfl)).mono ?_
  rintro e u' w7 ⟨rfl, rfl, rfl⟩
  have cb := (R6.out.cell 0).trans rfl; obtain ⟨c0, c1, c2, c3, -⟩ := X6.out.cc
  have hfin : TryG S R Q E (U #[V ⟨#[]⟩, C none 0 0, C none 0 0, V ⟨#[]⟩]) w (EE (.tuple #[U #[v0, v1, v2, v3], .nilIface])) w7 := by
   exact ⟨But.out ((But.of_below B1.out).trans B2.out) O6.out (nR _), w1, w2, S1.out, B1.out, B2.out, O6.out, .inl ⟨_, rfl, HR.out⟩⟩
  have HF := hI hfin
  clear hfin
  simp [Leaves, settle, results, Tryz.results40, go_sem, c0, c1, c2, c3, cb]
  exact HF.out
 ·have cd := (d1.cell 0).trans rfl
  clear x1 r1 d1 hb1 hb2 hs1
  generalize (((w.alloc (B #[V ⟨#[]⟩, C none 0 0, C none 0 0, V ⟨#[]⟩] 96)).alloc (B #[.nilIface] 30)).alloc (B #[.bool false] 4)) = w1 at *
  go_wp2_with fail
  have hb := (But.of_below B1.out).trans B2.out
  refine leaves_cons (f := 77) (args := #[N (some ⟨w.heap.size + 1 + 1, 0, none⟩), N (some ⟨w.heap.size, 0, none⟩), N (some ⟨w.heap.size + 1, 0, none⟩)]) (by simp) (by simp [go_sem]) ?_
  refine (tryX_err _ _ _ w2 E (.iface T x0) n [] ⟨T, x0, rfl⟩ htells (HE.out w2 hb) cd X1.out R1.out (by omega)).mono ?_
  rintro e u' w4 ⟨rfl, rfl, ca, cb, hBut⟩
  have hfin : TryG S R Q E (U #[V ⟨#[]⟩, C none 0 0, C none 0 0, V ⟨#[]⟩]) w (EE (.tuple #[U #[V ⟨#[]⟩, C none 0 0, C none 0 0, V ⟨#[]⟩], errAt (E n)])) w4 := by
   exact ⟨But.out hb (But.wide hBut) (nR _), w1, w2, S1.out, B1.out, B2.out, But.wide hBut, .inr ⟨n, hn, hS, rfl⟩⟩
  obtain ⟨c0, c1, c2, c3, -⟩ := ca.cc
  have cb' := (cb.cell 0).trans rfl
  have HF := hI hfin
  clear hfin
  unfold errAt at cb' HF
  simp [Leaves, settle, results, Tryz.results40, go_sem, c0, c1, c2, c3, cb']
  exact HF.out
end
section
set_option maxHeartbeats 8000000
set_option maxRecDepth 20000
open Go.RowKit
attribute [local go_sem] bs_toList
def WtR (E : Nat → Addr) (o : Option Tr) (w : World) (e : Ending) (w' : World) : Prop :=
 Below w.heap.size w w' ∧ ((∃ y c0 c1 c2 c3, o = some y ∧ e = EE (.tuple #[U #[c0, c1, c2, c3], .nilIface]) ∧ TrC w' (Bt w.heap.size w'.heap.size none) y [c0, c1, c2, c3]) ∨ (o = none ∧ e = EE (.tuple #[U #[V ⟨#[]⟩, C none 0 0, C none 0 0, V ⟨#[]⟩], errAt (E 3)])))
theorem try_x (w : World) (E : Nat → Addr) (f : FuncId) (caps : Array Value) (o : Option Tr) (hnm : ∀ y, o = some y → y.nm.length = 1) (he : Errs w E) (hcf : ∀ w, (callFunc f caps).run pG w = .ok (.enter f caps) w)
  (hdo : ∀ w1, Below w.heap.size w w1 → Calls pG f caps w1 (ElR E o w1)) : Calls pG 40 #[.func (.func f) #[] caps] w (WtR E o w) := by
 have hfv : ∀ (y : Tr) (cs : List Value) (w1 w2 : World), o = some y → TrC w2 (Bt w1.heap.size w2.heap.size none) y cs → ∃ c0 c1 c2 c3, cs = [c0, c1, c2, c3] := fun y cs w1 w2 ho ht => four_of (by rw [ht.len, hnm y ho])
 refine (tryX_any w E f caps [] (fun w1 v w2 => ∃ y cs, o = some y ∧ v = .agg cs.toArray ∧ TrC w2 (Bt w1.heap.size w2.heap.size none) y cs) (fun n _ _ => n = 3 ∧ o = none) (by simp) (fun w' h => he.below h.nil_below) ?_ hcf (fun w1 hb _ => (hdo w1 hb).mono ?_)).mono ?_
 ·rintro w1 v w2 ⟨y, cs, ho, rfl, ht⟩
  have h1 := ht.one
  obtain ⟨c0, c1, c2, c3, rfl⟩ := hfv y cs w1 w2 ho ht
  exact ⟨c0, c1, c2, c3, rfl, h1 _ (by simp), h1 _ (by simp), h1 _ (by simp), h1 _ (by simp)⟩
 ·rintro e w2 ⟨h1, h2⟩
  refine ⟨?_, But.of_below h1⟩
  rcases h2 with ⟨y, cs, ho, rfl, ht⟩ | ⟨ho, rfl⟩
  ·exact .inl ⟨_, rfl, y, cs, ho, rfl, ht⟩
  ·exact .inr ⟨errAt (E 3), 3, by omega, ⟨rfl, ho⟩, ⟨_, _, rfl⟩, told_own E 3 (by omega) w2, rfl⟩
 ·rintro e w' ⟨h1, w1, w2, hs, hb1, hb2, hb3, hor⟩
  refine ⟨h1.nil_below, ?_⟩
  rcases hor with ⟨v, rfl, y, cs, ho, rfl, ht⟩ | ⟨n, _, ⟨rfl, ho⟩, rfl⟩
  ·obtain ⟨c0, c1, c2, c3, rfl⟩ := hfv y cs w1 w2 ho ht
   refine .inl ⟨y, c0, c1, c2, c3, ho, rfl, ?_⟩
   have h := ht.keepP (w' := w') fun a u hp hc => (World.cell?_of_block (hb3.block a.block (cell_lt hc) (by
    have := hp.1
    simp only [List.contains_eq_any_beq, List.any_cons, List.any_nil, Bool.or_false, Bool.or_eq_false_iff, beq_eq_false_iff_ne]
    omega))).trans hc
   exact h.imp fun b hb => ⟨by have := hb.1; omega, Nat.lt_of_lt_of_le hb.2.1 hb3.size, by simp⟩
  ·exact .inr ⟨ho, rfl⟩
theorem write_nm {x y : Tr} (hx : x.ok 2) (h : writeF x = some y) : y.nm.length = 1 := by
 rw [write_of hx] at h
 obtain ⟨z, hz, h⟩ := oA.1 h
 obtain ⟨b, _, h⟩ := oA.1 h
 split at h
 ·cases h
  have := wn_nm hz
  obtain ⟨nm, ats, ks, t⟩ := z
  exact this
 ·cases h
theorem write_any (E : Nat → Addr) (x : Tr) (P : Nat → Prop) (cx : List Value) (w : World) (hg : LibG w) (hE : Errs w E) (hok : x.ok 2) (hsz : x.ssz 1000) (hnm : x.nms.length ≤ 40000) (hT : TrC w P x cx) :
  Calls pG 75 #[.agg cx.toArray] w (WtR E (writeF x) w) := by
 obtain ⟨c0, c1, c2, c3, c4, rfl⟩ := cells5 hT hok
 show Calls pG 75 #[U #[c0, c1, c2, c3, c4]] w _
 obtain ⟨w2, hw2⟩ : ∃ w2, w2 = (w.alloc (B #[c0, c1, c2, c3, c4] 44)).alloc (B #[V ⟨#[]⟩, C none 0 0, C none 0 0, V ⟨#[]⟩] 96) := ⟨_, rfl⟩
 have hB2 : Below w.heap.size w w2 := by rw [hw2]; exact below_alloc (below_alloc1 w _) _
 have hN1 : Blk w2 w.heap.size 44 #[c0, c1, c2, c3, c4] := by rw [hw2]; exact (Blk.new w _ _).alloc _
 have hN2 : Blk w2 (w.heap.size + 1) 96 #[V ⟨#[]⟩, C none 0 0, C none 0 0, V ⟨#[]⟩] := by
  rw [hw2]
  have := Blk.new (w.alloc (B #[c0, c1, c2, c3, c4] 44)) 96 #[V ⟨#[]⟩, C none 0 0, C none 0 0, V ⟨#[]⟩]
  rwa [World.size_alloc] at this
 have hcf := fun xs w => (show (callFunc 128 xs).run pG w = .ok (.enter 128 xs) w from by kernel_rfl)
 have hTR := try_x w2 E 128 #[N (some ⟨w.heap.size, 0, none⟩)] (writeF x) (fun y h => write_nm hok h) (hE.below hB2) (hcf _) (fun w1 hb => write1_any E w.heap.size x P c0 c1 c2 c3 c4 w1 (hg.below (hB2.trans (hb.mono hB2.size))) (hE.below (hB2.trans (hb.mono hB2.size))) hok hsz hnm (hT.below (hB2.trans (hb.mono hB2.size))) (hN1.below hb hN1.lt))
 have HW2 := hI hw2
 have B2 := hI hB2
 have N2 := hI hN2
 have hmf := @run_makeFunc pG
 have hone : c0.oneCell' = true ∧ c1.oneCell' = true ∧ c2.oneCell' = true ∧ c3.oneCell' = true ∧ c4.oneCell' = true := by
  have h := hT.one
  exact ⟨h _ (by simp), h _ (by simp), h _ (by simp), h _ (by simp), h _ (by simp)⟩
 obtain ⟨O, hO⟩ : ∃ O, writeF x = O := ⟨_, rfl⟩
 rw [hO] at hTR ⊢
 clear hg hE hok hsz hnm hT hN1 hO hcf
 cases O with
 | none =>
  have hT2 := hTR.mono (R' := fun e w' => e = EE (.tuple #[U #[V ⟨#[]⟩, C none 0 0, C none 0 0, V ⟨#[]⟩], .iface 313 (N (some (E 3)))]) ∧ Below w2.heap.size w2 w') fun e w' h => ⟨h.2.elim (fun ⟨y, _, _, _, _, h1, _⟩ => by cases h1) fun h2 => h2.2, h.1⟩
  rw [hw2] at hT2
  have HT2 := hI hT2
  clear hT2 hTR hB2 hN2 hw2
  go_enter Tryz.func75, Tryz.ntmps75
  go_wp2_with (first | (go_at_call 40; refine HT2.out.mono ?_; rintro e w3 ⟨rfl, hb3⟩; rw [← HW2.out] at hb3; have hbn := N2.out.below hb3 N2.out.lt) | (refine wpList_store (.tmp 2) (.tmp 6) 96 rfl rfl (w.heap.size + 1) 0 _ _ #[V ⟨#[]⟩, C none 0 0, C none 0 0, V ⟨#[]⟩] rfl rfl hbn ?s0 ?s1 ?s2 ?_))
  case s0 => kernel_rfl
  case s1 => simp [Value.oneCell']
  case s2 => simp
  intro w8 hb8 ho8
  rw [putCells_all #[V ⟨#[]⟩, C none 0 0, C none 0 0, V ⟨#[]⟩] #[V ⟨#[]⟩, C none 0 0, C none 0 0, V ⟨#[]⟩] rfl] at hb8
  obtain ⟨z0, z1, z2, z3, -⟩ := hb8.cc
  have HBW := hI ((B2.out.trans (hb3.mono B2.out.size)).trans (ho8.below (by omega : w.heap.size ≤ w.heap.size + 1)))
  clear hb8 ho8 hbn hb3
  go_wp2_with fail
  refine bodyPost_ret (v := .tuple #[U #[V ⟨#[]⟩, C none 0 0, C none 0 0, V ⟨#[]⟩], .iface 313 (N (some (E 3)))]) (by simp [results, Tryz.results75, go_sem, z0, z1, z2, z3]) rfl ?_
  exact ⟨HBW.out, .inr ⟨rfl, rfl⟩⟩
 | some y =>
  have hT2 := hTR.mono (R' := fun e w' => ∃ e0 e1 e2 e3, e = EE (.tuple #[U #[e0, e1, e2, e3], .nilIface]) ∧ TrC w' (Bt w2.heap.size w'.heap.size none) y [e0, e1, e2, e3] ∧ Below w2.heap.size w2 w') fun e w' h => h.2.elim (fun ⟨y', e0, e1, e2, e3, h1, h2, h3⟩ => by
   cases h1
   exact ⟨e0, e1, e2, e3, h2, h3, h.1⟩) fun h2 => by cases h2.1
  rw [hw2] at hT2
  have HT2 := hI hT2
  clear hT2 hTR hB2 hN2 hw2
  go_enter Tryz.func75, Tryz.ntmps75
  go_wp2_with (first | (go_at_call 40; refine HT2.out.mono ?_; rintro e w3 ⟨e0, e1, e2, e3, rfl, hT4, hb3⟩; rw [← HW2.out] at hb3 hT4; have hbn := N2.out.below hb3 N2.out.lt; have hall := hT4.one) | (refine wpList_store (.tmp 2) (.tmp 6) 96 rfl rfl (w.heap.size + 1) 0 _ _ #[e0, e1, e2, e3] rfl rfl hbn ?s0 ?s1 ?s2 ?_))
  case s0 => kernel_rfl
  case s2 => simp
  intro w8 hb8 ho8
  rw [putCells_all #[V ⟨#[]⟩, C none 0 0, C none 0 0, V ⟨#[]⟩] #[e0, e1, e2, e3] rfl] at hb8
  obtain ⟨z0, z1, z2, z3, -⟩ := hb8.cc
  have hlw := N2.out.lt
  have HT8 := hI ((hT4.only ho8 fun b hb => by have := hb.1; omega).imp (Q := Bt w.heap.size w8.heap.size none) fun b hb => ⟨by have := hb.1; omega, by rw [ho8.size]; exact hb.2.1, by simp⟩)
  have HBW := hI ((B2.out.trans (hb3.mono B2.out.size)).trans (ho8.below (by omega : w.heap.size ≤ w.heap.size + 1)))
  clear hb8 ho8 hT4 hbn hall hb3 hone
  go_wp2_with fail
  refine bodyPost_ret (v := .tuple #[U #[e0, e1, e2, e3], .nilIface]) (by simp [results, Tryz.results75, go_sem, z0, z1, z2, z3]) rfl ?_
  exact ⟨HBW.out, .inl ⟨y, e0, e1, e2, e3, rfl, rfl, HT8.out⟩⟩
end
end Go.Proofs.YthboiahdheehkaaGreatDoor
