/- LawSRp -/
import Derived.Test.YthboiahdheehkaaGreatDoorAL
import Derived.Test.YthboiahdheehkaaGreatDoorPQ
import Derived.Test.YthboiahdheehkaaGreatDoorTE
import Derived.Test.YthboiahdheehkaaGreatDoorRS
import Derived.Test.YthboiahdheehkaaGreatDoorSQ
open List renaming setIfInBounds_toArray → lA, set_cons_succ → lB, set_cons_zero → lC, cons_append → lD, nil_append → lE, not_mem_nil → lG, mem_cons → lI, take_append_drop → lJ, take_succ_cons → lK, drop_succ_cons → lL, take_zero → lM, drop_zero → lN, contains_iff_mem → lO
open Go.Lib renaming hid → hI
open Exists renaming intro → xI
open Go.Proofs.Tryz renaming prog → pG
open Go.Value renaming string → S
open Go.Value renaming slice → C
open Go.Value renaming pointer → A
open Go.Value renaming agg → D
namespace Go.Proofs.YthboiahdheehkaaGreatDoor
set_option maxHeartbeats 16000000
set_option maxRecDepth 20000
open Go.RowKit Go.Extern.Stop Go.Stop Go.Extern
attribute [local go_sem] bs_toList bs_size
attribute [local irreducible] wpPhi wpPhiJ
abbrev shE (a b c d e : List UInt8) : Value → Prop := fun v => ∃ kh kn kc k0 k1 kp kq kr ks kt ku kv, v = D #[S (bs a), S (bs b), S (bs c), S (bs d), S (bs e), C kh kn kc, S (bs k0), S (bs k1), C kp kq kr, C ks kt ku, S (bs kv)]
abbrev pZ (L : Nat) (t : TypeId) : Part := PNew L t #[S ⟨#[]⟩, S ⟨#[]⟩, S ⟨#[]⟩, S ⟨#[]⟩, S ⟨#[]⟩, C none 0 0, S ⟨#[]⟩, S ⟨#[]⟩, C none 0 0, C none 0 0, S ⟨#[]⟩]
theorem replies_any (E : Nat → Addr) (a0 a1 a2 a3 a4 b0 b1 b2 b3 b4 id : List UInt8) (qa qb : List (List (List UInt8))) (va vb : Value) (w : World) (hg : LibG w) (hE : Errs w E) (ha : PqL w va qa) (hb : PqL w vb qb) :
  Calls pG 4 #[D #[S (bs a0), S (bs a1), S (bs a2), S (bs a3), S (bs a4), va], D #[S (bs b0), S (bs b1), S (bs b2), S (bs b3), S (bs b4), vb], S (bs id)] w fun e w' => e = .returned (.bool true) ∧ Below w.heap.size w w' := by
 have hpa := ha
 have hpb := hb
 obtain ⟨pA, capA, rfl, _⟩ := hpa
 obtain ⟨pB, capB, rfl, _⟩ := hpb
 have hba := below_alloc (below_alloc1 w (.cells #[S (bs a0), S (bs a1), S (bs a2), S (bs a3), S (bs a4), C pA qa.length capA] 38)) (.cells #[S (bs b0), S (bs b1), S (bs b2), S (bs b3), S (bs b4), C pB qb.length capB] 38)
 have hn := (Blk.new w 38 #[S (bs a0), S (bs a1), S (bs a2), S (bs a3), S (bs a4), C pA qa.length capA]).alloc (.cells #[S (bs b0), S (bs b1), S (bs b2), S (bs b3), S (bs b4), C pB qb.length capB] 38)
 have hm := Blk.new (w.alloc (.cells #[S (bs a0), S (bs a1), S (bs a2), S (bs a3), S (bs a4), C pA qa.length capA] 38)) 38 #[S (bs b0), S (bs b1), S (bs b2), S (bs b3), S (bs b4), C pB qb.length capB]
 rw [World.size_alloc] at hm
 obtain ⟨wa, hwa⟩ : ∃ wa, (w.alloc (.cells #[S (bs a0), S (bs a1), S (bs a2), S (bs a3), S (bs a4), C pA qa.length capA] 38)).alloc (.cells #[S (bs b0), S (bs b1), S (bs b2), S (bs b3), S (bs b4), C pB qb.length capB] 38) = wa := ⟨_, rfl⟩
 rw [hwa] at hba hn hm
 have HBA := hI hba
 have HAL := hI (alive25_any E wa (hg.below hba) (hE.below hba))
 have HBGA := hI (fun w' (h : Below w.heap.size w w') => pbig_any a0 a1 a2 a3 a4 qa (C pA qa.length capA) w' (ha.keep h))
 have HBGB := hI (fun w' (h : Below w.heap.size w w') => pbig_any b0 b1 b2 b3 b4 qb (C pB qb.length capB) w' (hb.keep h))
 have HPEA := hI (fun hl w' (h : Below w.heap.size w w') => penvX_any a0 a1 a2 a3 a4 qa hl (C pA qa.length capA) w' (ha.keep h))
 have HPEB := hI (fun hl w' (h : Below w.heap.size w w') => penvX_any b0 b1 b2 b3 b4 qb hl (C pB qb.length capB) w' (hb.keep h))
 clear hg hE ha hb hba
 obtain ⟨na, hna⟩ : ∃ na, qa.length = na := ⟨_, rfl⟩
 obtain ⟨nb, hnb⟩ : ∃ nb, qb.length = nb := ⟨_, rfl⟩
 rw [hna] at hn hwa HBGA HPEA ⊢
 rw [hnb] at hm hwa HBGB HPEB ⊢
 have HN := hI hn
 have HM := hI hm
 have HWA := hI hwa
 have HQA := hI hna
 have HQB := hI hnb
 clear hna hnb hn hm hwa
 go_enter Tryz.func4, Tryz.ntmps4
 go_wp2_with fail
 rw [HWA.out]
 refine HAL.out.mono ?_
 rintro e w1 ⟨rfl, hb1⟩
 have HB1 := hI (HBA.out.trans (hb1.mono HBA.out.size))
 have hn1 := HN.out.below hb1 HN.out.lt
 have HN1 := hI hn1
 have HM1 := hI (HM.out.below hb1 HM.out.lt)
 obtain ⟨p0, p1, p2, p3, p4, p5, -⟩ := hn1.cc
 clear hb1 hn1 HAL HWA HN HM HBA
 go_wp2_with fail
 refine (HBGA.out _ HB1.out).mono ?_
 rintro e w2 ⟨rfl, hb2⟩
 have HB2 := hI (HB1.out.trans (hb2.mono HB1.out.size))
 have HN2 := hI (HN1.out.below hb2 HN1.out.lt)
 have hm2 := HM1.out.below hb2 HM1.out.lt
 have HM2 := hI hm2
 clear p0 p1 p2 p3 p4 p5 hb2 HBGA HB1 HN1 HM1
 cases hBA : bigP [a0, a1, a2, a3, a4] qa
 rotate_left 1
 ·clear hBA hm2
  go_wp2_with fail
  go_ret
  exact ⟨rfl, HB2.out⟩
 have hqa : na ≤ 1000 := by
  have hh := HQA.out
  unfold bigP at hBA
  simp only [Bool.or_eq_false_iff, decide_eq_false_iff_not] at hBA
  omega
 have HPEA2 := hI (HPEA.out hqa)
 have HFA := hI (parts_fit a0 a1 a2 a3 a4 qa (by have := HQA.out; omega))
 clear hBA hqa HPEA
 obtain ⟨p0, p1, p2, p3, p4, p5, -⟩ := hm2.cc
 clear hm2
 go_wp2_with fail
 refine (HBGB.out _ HB2.out).mono ?_
 rintro e w3 ⟨rfl, hb3⟩
 have HB3 := hI (HB2.out.trans (hb3.mono HB2.out.size))
 have HN3 := hI (HN2.out.below hb3 HN2.out.lt)
 have HM3 := hI (HM2.out.below hb3 HM2.out.lt)
 clear p0 p1 p2 p3 p4 p5 hb3 HBGB HB2 HN2 HM2
 cases hBB : bigP [b0, b1, b2, b3, b4] qb
 rotate_left 1
 ·clear hBB
  go_wp2_with fail
  go_ret
  exact ⟨rfl, HB3.out⟩
 have hqb : nb ≤ 1000 := by
  have hh := HQB.out
  unfold bigP at hBB
  simp only [Bool.or_eq_false_iff, decide_eq_false_iff_not] at hBB
  omega
 have HPEB2 := hI (HPEB.out hqb)
 have HFB := hI (parts_fit b0 b1 b2 b3 b4 qb (by have := HQB.out; omega))
 clear hBB hqb HPEB
 have hsz : decide ((200 : Int) < (id.length : Int)) = decide (200 < id.length) := decide_eq_decide.2 (by omega)
 by_cases hid : 200 < id.length
 ·rw [decide_eq_true hid] at hsz
  clear hid
  go_wp2_with fail
  go_ret
  exact ⟨rfl, HB3.out⟩
 rw [decide_eq_false hid] at hsz
 clear hid
 go_wp2_with fail
 clear hsz
 -- the two envelopes
 refine wp_phiJ_tail (List.take 6 _) (List.drop 6 _) (lJ 6 _).symm (fun w' => Blk w' w.heap.size 38 #[S (bs a0), S (bs a1), S (bs a2), S (bs a3), S (bs a4), C pA na capA] ∧ Blk w' (w.heap.size + 1) 38 #[S (bs b0), S (bs b1), S (bs b2), S (bs b3), S (bs b4), C pB nb capB] ∧ Below w.heap.size w w') [(1, PTree 0 (TvE (partsE a0 a1 a2 a3 a4 qa)) (shE a0 a1 a2 a3 a4)), (3, PTree 0 (TvE (partsE b0 b1 b2 b3 b4 qb)) (shE b0 b1 b2 b3 b4)), (4, pZ (w.heap.size + 2) 46), (5, pZ (w.heap.size + 2) 46)] [] (JJ 0 [(1, TvE (partsE a0 a1 a2 a3 a4 qa)), (3, TvE (partsE b0 b1 b2 b3 b4 qb))] [4, 5]) (by kernel_rfl) (by kernel_rfl) ?_ ?_ (JJ_stays (fun p hp => by simp only [lI, lG, or_false] at hp; rcases hp with rfl | rfl <;> exact TvE_like _)) ⟨HN3.out, HM3.out, HB3.out.drew⟩ ?_
 ·rintro w1' w2' ⟨f1, f2, hIB⟩ hb
  exact ⟨f1.below hb f1.lt, f2.below hb f2.lt, hIB.trans (hb.mono hIB.size)⟩
 ·simp only [lI, lG, or_false, forall_eq_or_imp, forall_eq]
  exact ⟨fun _ _ _ _ h' h => PTree_stays (TvE_like _) h' h, fun _ _ _ _ h' h => PTree_stays (TvE_like _) h' h, fun _ _ _ _ h' h => PNew_stays h' h, fun _ _ _ _ h' h => PNew_stays h' h⟩
 simp only [lK, lM, lL, lN]
 repeat ((first | refine phiJ_skipK rfl (fun K hK => ?_) | (refine phiJ_pureK rfl rfl (fun K hK => ?_); apply xI; constructor; (focus (rintro w' ⟨f1, f2, hIB⟩; obtain ⟨q0, q1, q2, q3, q4, q5, -⟩ := f1.cc; obtain ⟨r0, r1, r2, r3, r4, r5, -⟩ := f2.cc; clear f1 f2 hIB; first | (go_simp; done) | (go_simp; (try go_bits); (try go_simp); rfl) | go_simp)))); simp only [Act.put, lA, lB, lC, lD, lE]; apply hK; clear hK K)
 refine phiJ_partK (PTree 0 (TvE (partsE a0 a1 a2 a3 a4 qa)) (shE a0 a1 a2 a3 a4)) rfl rfl ⟨_, none, 0, 0, [], [], none, 0, 0, none, 0, 0, [], rfl⟩ ?_ (fun K hK v hv => ?_)
 ·rintro w' ⟨f1, f2, hIB⟩ hf
  have HBI := hI hIB
  clear hf f1 f2 hIB
  unfold gives
  go_simp
  refine (HPEA2.out w' HBI.out).mono ?_
  rintro e w'' ⟨cs, rfl, hc, hb⟩
  have hc' := hc
  obtain ⟨kh, kc, kcss, k0, k1, kv, kp, kq, kr, ks, kt, ku, he, _⟩ := hc'
  refine ⟨_, rfl, treeJ (TvE_like _) (Nat.zero_le _) (fun T' h => by simpa using h) (by decide) (fun j hj q' hp v' hf g hg => ?_) ⟨kh, _, kc, k0, k1, kp, kq, kr, ks, kt, ku, kv, congrArg Value.agg he⟩ ⟨cs, rfl, hc⟩ hb⟩
  simp only [lI, lG, or_false] at hj
  rcases hj with rfl | rfl
  ·obtain rfl : pZ (w.heap.size + 2) 46 = q' := Option.some.inj hp
   exact (hf g hg).2.lt
  ·obtain rfl : pZ (w.heap.size + 2) 46 = q' := Option.some.inj hp
   exact (hf g hg).2.lt
 obtain ⟨xh, xn, xc, x0, x1, xp, xq, xr, xs, xt, xu, xv, rfl⟩ := hv
 simp only [Act.put, lA, lB, lC, lD, lE]
 apply hK
 clear hK K
 repeat ((first | refine phiJ_skipK rfl (fun K hK => ?_) | (refine phiJ_pureK rfl rfl (fun K hK => ?_); apply xI; constructor; (focus (rintro w' ⟨f1, f2, hIB⟩; obtain ⟨q0, q1, q2, q3, q4, q5, -⟩ := f1.cc; obtain ⟨r0, r1, r2, r3, r4, r5, -⟩ := f2.cc; clear f1 f2 hIB; first | (go_simp; done) | (go_simp; (try go_bits); (try go_simp); rfl) | go_simp)))); simp only [Act.put, lA, lB, lC, lD, lE]; apply hK; clear hK K)
 refine phiJ_partK (PTree 0 (TvE (partsE b0 b1 b2 b3 b4 qb)) (shE b0 b1 b2 b3 b4)) rfl rfl ⟨_, none, 0, 0, [], [], none, 0, 0, none, 0, 0, [], rfl⟩ ?_ (fun K hK v hv => ?_)
 ·rintro w' ⟨f1, f2, hIB⟩ hf
  have HBI := hI hIB
  clear hf f1 f2 hIB
  unfold gives
  go_simp
  refine (HPEB2.out w' HBI.out).mono ?_
  rintro e w'' ⟨cs, rfl, hc, hb⟩
  have hc' := hc
  obtain ⟨kh, kc, kcss, k0, k1, kv, kp, kq, kr, ks, kt, ku, he, _⟩ := hc'
  refine ⟨_, rfl, treeJ (TvE_like _) (Nat.zero_le _) (fun T' h => by simpa using h) (by decide) (fun j hj q' hp v' hf g hg => ?_) ⟨kh, _, kc, k0, k1, kp, kq, kr, ks, kt, ku, kv, congrArg Value.agg he⟩ ⟨cs, rfl, hc⟩ hb⟩
  simp only [lI, lG, or_false] at hj
  rcases hj with rfl | rfl
  ·obtain rfl : pZ (w.heap.size + 2) 46 = q' := Option.some.inj hp
   exact (hf g hg).2.lt
  ·obtain rfl : pZ (w.heap.size + 2) 46 = q' := Option.some.inj hp
   exact (hf g hg).2.lt
 obtain ⟨yh, yn, yc, y0, y1, yp, yq, yr, ys, yt, yu, yv, rfl⟩ := hv
 simp only [Act.put, lA, lB, lC, lD, lE]
 apply hK
 clear hK K
 repeat ((first | refine phiJ_skipK rfl (fun K hK => ?_) | (refine phiJ_pureK rfl rfl (fun K hK => ?_); apply xI; constructor; (focus (rintro w' ⟨f1, f2, hIB⟩; obtain ⟨q0, q1, q2, q3, q4, q5, -⟩ := f1.cc; obtain ⟨r0, r1, r2, r3, r4, r5, -⟩ := f2.cc; clear f1 f2 hIB; first | (go_simp; done) | (go_simp; (try go_bits); (try go_simp); rfl) | go_simp)))); simp only [Act.put, lA, lB, lC, lD, lE]; apply hK; clear hK K)
 refine phiJ_partK (pZ (w.heap.size + 2) 46) rfl rfl ⟨_, 0, rfl⟩ ?_ (fun K hK v hv => ?_)
 ·rintro w' ⟨f1, f2, hIB⟩ hf
  have HLT := hI (show w.heap.size + 2 ≤ w'.heap.size from f2.lt)
  clear hf f1 f2 hIB
  unfold gives
  go_simp
  refine allocJ HLT.out (fun T' h => by simp at h) (fun j hj _ q' hp v' hf g hg => ?_) (fun p hp => ?_)
  ·simp only [lI, lG, or_false] at hj
   rcases hj with rfl | rfl
   ·obtain rfl : pZ (w.heap.size + 2) 46 = q' := Option.some.inj hp
    exact (hf g hg).2.lt
   ·obtain rfl : pZ (w.heap.size + 2) 46 = q' := Option.some.inj hp
    exact (hf g hg).2.lt
  simp only [lI, lG, or_false] at hp
  rcases hp with rfl | rfl
  ·refine ⟨TvE_like _, fun q' hq v' hf => ?_⟩
   obtain rfl : PTree 0 (TvE (partsE a0 a1 a2 a3 a4 qa)) (shE a0 a1 a2 a3 a4) = q' := Option.some.inj hq
   exact hf
  ·refine ⟨TvE_like _, fun q' hq v' hf => ?_⟩
   obtain rfl : PTree 0 (TvE (partsE b0 b1 b2 b3 b4 qb)) (shE b0 b1 b2 b3 b4) = q' := Option.some.inj hq
   exact hf
 obtain ⟨g7, rfl⟩ := hv
 simp only [Act.put, lA, lB, lC, lD, lE]
 apply hK
 clear hK K
 repeat ((first | refine phiJ_skipK rfl (fun K hK => ?_) | (refine phiJ_pureK rfl rfl (fun K hK => ?_); apply xI; constructor; (focus (rintro w' ⟨f1, f2, hIB⟩; obtain ⟨q0, q1, q2, q3, q4, q5, -⟩ := f1.cc; obtain ⟨r0, r1, r2, r3, r4, r5, -⟩ := f2.cc; clear f1 f2 hIB; first | (go_simp; done) | (go_simp; (try go_bits); (try go_simp); rfl) | go_simp)))); simp only [Act.put, lA, lB, lC, lD, lE]; apply hK; clear hK K)
 refine phiJ_partK (pZ (w.heap.size + 2) 46) rfl rfl ⟨_, 0, rfl⟩ ?_ (fun K hK v hv => ?_)
 ·rintro w' ⟨f1, f2, hIB⟩ hf
  have HLT := hI (show w.heap.size + 2 ≤ w'.heap.size from f2.lt)
  clear hf f1 f2 hIB
  unfold gives
  go_simp
  refine allocJ HLT.out (fun T' h => by simp at h) (fun j hj _ q' hp v' hf g hg => ?_) (fun p hp => ?_)
  ·simp only [lI, lG, or_false] at hj
   rcases hj with rfl | rfl
   ·obtain rfl : pZ (w.heap.size + 2) 46 = q' := Option.some.inj hp
    exact (hf g hg).2.lt
   ·obtain rfl : pZ (w.heap.size + 2) 46 = q' := Option.some.inj hp
    exact (hf g hg).2.lt
  simp only [lI, lG, or_false] at hp
  rcases hp with rfl | rfl
  ·refine ⟨TvE_like _, fun q' hq v' hf => ?_⟩
   obtain rfl : PTree 0 (TvE (partsE a0 a1 a2 a3 a4 qa)) (shE a0 a1 a2 a3 a4) = q' := Option.some.inj hq
   exact hf
  ·refine ⟨TvE_like _, fun q' hq v' hf => ?_⟩
   obtain rfl : PTree 0 (TvE (partsE b0 b1 b2 b3 b4 qb)) (shE b0 b1 b2 b3 b4) = q' := Option.some.inj hq
   exact hf
 obtain ⟨g8, rfl⟩ := hv
 simp only [Act.put, lA, lB, lC, lD, lE]
 apply hK
 clear hK K
 repeat ((first | refine phiJ_skipK rfl (fun K hK => ?_) | (refine phiJ_pureK rfl rfl (fun K hK => ?_); apply xI; constructor; (focus (rintro w' ⟨f1, f2, hIB⟩; obtain ⟨q0, q1, q2, q3, q4, q5, -⟩ := f1.cc; obtain ⟨r0, r1, r2, r3, r4, r5, -⟩ := f2.cc; clear f1 f2 hIB; first | (go_simp; done) | (go_simp; (try go_bits); (try go_simp); rfl) | go_simp)))); simp only [Act.put, lA, lB, lC, lD, lE]; apply hK; clear hK K)
 refine phiJ_done ?_
 rintro w4 ⟨f1, f2, hb4⟩ hk4 hj4
 have HG7 := hI (hk4 (4, fun w1 => (pZ (w.heap.size + 2) 46).fact w1 (A (some ⟨g7, 0, none⟩))) (by simp) g7 rfl).1
 have HG8 := hI (hk4 (5, fun w1 => (pZ (w.heap.size + 2) 46).fact w1 (A (some ⟨g8, 0, none⟩))) (by simp) g8 rfl).1
 have hga := (hk4 (4, fun w1 => (pZ (w.heap.size + 2) 46).fact w1 (A (some ⟨g7, 0, none⟩))) (by simp) g7 rfl).2
 have hgb := (hk4 (5, fun w1 => (pZ (w.heap.size + 2) 46).fact w1 (A (some ⟨g8, 0, none⟩))) (by simp) g8 rfl).2
 have xa7 := ((hj4 (1, D #[S (bs a0), S (bs a1), S (bs a2), S (bs a3), S (bs a4), C xh xn xc, S (bs x0), S (bs x1), C xp xq xr, C xs xt xu, S (bs xv)]) (by simp) (4, A (some ⟨g7, 0, none⟩)) (by simp) (show (1 : Nat) ≠ 4 by decide)).1 (TvE (partsE a0 a1 a2 a3 a4 qa)) (by simp) (by simp) g7 rfl).get
 have xa8 := ((hj4 (1, D #[S (bs a0), S (bs a1), S (bs a2), S (bs a3), S (bs a4), C xh xn xc, S (bs x0), S (bs x1), C xp xq xr, C xs xt xu, S (bs xv)]) (by simp) (5, A (some ⟨g8, 0, none⟩)) (by simp) (show (1 : Nat) ≠ 5 by decide)).1 (TvE (partsE a0 a1 a2 a3 a4 qa)) (by simp) (by simp) g8 rfl).get
 have xb7 := ((hj4 (3, D #[S (bs b0), S (bs b1), S (bs b2), S (bs b3), S (bs b4), C yh yn yc, S (bs y0), S (bs y1), C yp yq yr, C ys yt yu, S (bs yv)]) (by simp) (4, A (some ⟨g7, 0, none⟩)) (by simp) (show (3 : Nat) ≠ 4 by decide)).1 (TvE (partsE b0 b1 b2 b3 b4 qb)) (by simp) (by simp) g7 rfl).get
 have xb8 := ((hj4 (3, D #[S (bs b0), S (bs b1), S (bs b2), S (bs b3), S (bs b4), C yh yn yc, S (bs y0), S (bs y1), C yp yq yr, C ys yt yu, S (bs yv)]) (by simp) (5, A (some ⟨g8, 0, none⟩)) (by simp) (show (3 : Nat) ≠ 5 by decide)).1 (TvE (partsE b0 b1 b2 b3 b4 qb)) (by simp) (by simp) g8 rfl).get
 have hne : g7 ≠ g8 := fun e => ((hj4 (4, A (some ⟨g7, 0, none⟩)) (by simp) (5, A (some ⟨g8, 0, none⟩)) (by simp) (show (4 : Nat) ≠ 5 by decide)).2 (by simp) (by simp)) (by rw [e])
 clear hk4 hj4 f1 f2
 refine wpList_store (.tmp 7) (.tmp 25) 46 rfl rfl g7 0 _ _ #[S (bs a0), S (bs a1), S (bs a2), S (bs a3), S (bs a4), C xh xn xc, S (bs x0), S (bs x1), C xp xq xr, C xs xt xu, S (bs xv)] rfl rfl hga (by kernel_rfl) (by simp [Value.oneCell']) (by simp) ?_
 intro w5 hb5 ho5
 rw [putCells_all #[S ⟨#[]⟩, S ⟨#[]⟩, S ⟨#[]⟩, S ⟨#[]⟩, S ⟨#[]⟩, C none 0 0, S ⟨#[]⟩, S ⟨#[]⟩, C none 0 0, C none 0 0, S ⟨#[]⟩] #[S (bs a0), S (bs a1), S (bs a2), S (bs a3), S (bs a4), C xh xn xc, S (bs x0), S (bs x1), C xp xq xr, C xs xt xu, S (bs xv)] rfl] at hb5
 have hgb5 := ho5.blk hgb (fun e => hne e.symm)
 refine wpList_store (.tmp 8) (.tmp 27) 46 rfl rfl g8 0 _ _ #[S (bs b0), S (bs b1), S (bs b2), S (bs b3), S (bs b4), C yh yn yc, S (bs y0), S (bs y1), C yp yq yr, C ys yt yu, S (bs yv)] rfl rfl hgb5 (by kernel_rfl) (by simp [Value.oneCell']) (by simp) ?_
 intro w6 hb6 ho6
 rw [putCells_all #[S ⟨#[]⟩, S ⟨#[]⟩, S ⟨#[]⟩, S ⟨#[]⟩, S ⟨#[]⟩, C none 0 0, S ⟨#[]⟩, S ⟨#[]⟩, C none 0 0, C none 0 0, S ⟨#[]⟩] #[S (bs b0), S (bs b1), S (bs b2), S (bs b3), S (bs b4), C yh yn yc, S (bs y0), S (bs y1), C yp yq yr, C ys yt yu, S (bs yv)] rfl] at hb6
 have hs5 := ho5.size
 have hs6 := ho6.size
 have ha6 := ho6.blk hb5 hne
 have HA6 := hI ha6
 have HY6 := hI hb6
 have HCA := hI (((xa7.and xa8).only ho5 (fun b hb => hb.1.2.2)).only ho6 (fun b hb => hb.2.2.2) |>.plain (fun b hb => by have := hb.1.2.1; omega))
 have HCB := hI (((xb7.and xb8).only ho5 (fun b hb => hb.1.2.2)).only ho6 (fun b hb => hb.2.2.2) |>.plain (fun b hb => by have := hb.1.2.1; omega))
 have HB6 := hI (hb4.trans ((ho5.below (by have := HG7.out; omega)).trans (ho6.below (by have := HG8.out; omega))))
 clear hga hgb xa7 xa8 xb7 xb8 hb4 hb5 ho5 hgb5 hb6 ho6 hs5 hs6 ha6 hne HN3 HM3 HPEA2 HPEB2 HB3
 have HSAB := hI (fun w' (h : EnvC w' (partsE a0 a1 a2 a3 a4 qa) #[S (bs a0), S (bs a1), S (bs a2), S (bs a3), S (bs a4), C xh xn xc, S (bs x0), S (bs x1), C xp xq xr, C xs xt xu, S (bs xv)]) (h' : EnvC w' (partsE b0 b1 b2 b3 b4 qb) #[S (bs b0), S (bs b1), S (bs b2), S (bs b3), S (bs b4), C yh yn yc, S (bs y0), S (bs y1), C yp yq yr, C ys yt yu, S (bs yv)]) => sosame_any (partsE a0 a1 a2 a3 a4 qa) (partsE b0 b1 b2 b3 b4 qb) #[S (bs a0), S (bs a1), S (bs a2), S (bs a3), S (bs a4), C xh xn xc, S (bs x0), S (bs x1), C xp xq xr, C xs xt xu, S (bs xv)] #[S (bs b0), S (bs b1), S (bs b2), S (bs b3), S (bs b4), C yh yn yc, S (bs y0), S (bs y1), C yp yq yr, C ys yt yu, S (bs yv)] w' h h' HFA.out.1 HFB.out.1)
 have HSAA := hI (fun w' (h : EnvC w' (partsE a0 a1 a2 a3 a4 qa) #[S (bs a0), S (bs a1), S (bs a2), S (bs a3), S (bs a4), C xh xn xc, S (bs x0), S (bs x1), C xp xq xr, C xs xt xu, S (bs xv)]) => sosame_any (partsE a0 a1 a2 a3 a4 qa) (partsE a0 a1 a2 a3 a4 qa) #[S (bs a0), S (bs a1), S (bs a2), S (bs a3), S (bs a4), C xh xn xc, S (bs x0), S (bs x1), C xp xq xr, C xs xt xu, S (bs xv)] #[S (bs a0), S (bs a1), S (bs a2), S (bs a3), S (bs a4), C xh xn xc, S (bs x0), S (bs x1), C xp xq xr, C xs xt xu, S (bs xv)] w' h h HFA.out.1 HFA.out.1)
 have HTA := hI (fun w' (h : EnvC w' (partsE a0 a1 a2 a3 a4 qa) #[S (bs a0), S (bs a1), S (bs a2), S (bs a3), S (bs a4), C xh xn xc, S (bs x0), S (bs x1), C xp xq xr, C xs xt xu, S (bs xv)]) => told25_any (partsE a0 a1 a2 a3 a4 qa) #[S (bs a0), S (bs a1), S (bs a2), S (bs a3), S (bs a4), C xh xn xc, S (bs x0), S (bs x1), C xp xq xr, C xs xt xu, S (bs xv)] w' h HFA.out)
 have HTB := hI (fun w' (h : EnvC w' (partsE b0 b1 b2 b3 b4 qb) #[S (bs b0), S (bs b1), S (bs b2), S (bs b3), S (bs b4), C yh yn yc, S (bs y0), S (bs y1), C yp yq yr, C ys yt yu, S (bs yv)]) => told25_any (partsE b0 b1 b2 b3 b4 qb) #[S (bs b0), S (bs b1), S (bs b2), S (bs b3), S (bs b4), C yh yn yc, S (bs y0), S (bs y1), C yp yq yr, C ys yt yu, S (bs yv)] w' h HFB.out)
 have HRS := hI (fun w' c c' (h : EnvC w' (partsE a0 a1 a2 a3 a4 qa) c) (h' : EnvC w' (partsE b0 b1 b2 b3 b4 qb) c') => refsame25_any (partsE a0 a1 a2 a3 a4 qa) (partsE b0 b1 b2 b3 b4 qb) c c' w' h h' HFA.out.1 HFB.out.1)
 rw [Env.eqb_refl] at HSAA
 go_wp2_with fail
 obtain ⟨t, htq⟩ : ∃ t, (partsE a0 a1 a2 a3 a4 qa).eqb (partsE b0 b1 b2 b3 b4 qb) = t := ⟨_, rfl⟩
 rw [htq] at HSAB HRS
 have HSH := hI (show (∀ w' cs, EnvC w' (partsE a0 a1 a2 a3 a4 qa) cs → ∃ kh kn kc k0 k1 kp kq kr ks kt ku kv, cs = #[S (bs a0), S (bs a1), S (bs a2), S (bs a3), S (bs a4), C kh kn kc, S (bs k0), S (bs k1), C kp kq kr, C ks kt ku, S (bs kv)]) ∧ ∀ w' cs, EnvC w' (partsE b0 b1 b2 b3 b4 qb) cs → ∃ kh kn kc k0 k1 kp kq kr ks kt ku kv, cs = #[S (bs b0), S (bs b1), S (bs b2), S (bs b3), S (bs b4), C kh kn kc, S (bs k0), S (bs k1), C kp kq kr, C ks kt ku, S (bs kv)] from ⟨fun w' cs h => by
  obtain ⟨kh, kc, kcss, k0, k1, kv, kp, kq, kr, ks, kt, ku, he, _⟩ := h
  exact ⟨kh, _, kc, k0, k1, kp, kq, kr, ks, kt, ku, kv, he⟩, fun w' cs h => by
  obtain ⟨kh, kc, kcss, k0, k1, kv, kp, kq, kr, ks, kt, ku, he, _⟩ := h
  exact ⟨kh, _, kc, k0, k1, kp, kq, kr, ks, kt, ku, kv, he⟩⟩)
 clear htq
 generalize (partsE a0 a1 a2 a3 a4 qa) = eA at *
 generalize (partsE b0 b1 b2 b3 b4 qb) = eB at *
 have hnn : (t != t) = false := by cases t <;> rfl
 refine wp_phi (fun w' => (Blk w' g7 46 #[S (bs a0), S (bs a1), S (bs a2), S (bs a3), S (bs a4), C xh xn xc, S (bs x0), S (bs x1), C xp xq xr, C xs xt xu, S (bs xv)]) ∧ (Blk w' g8 46 #[S (bs b0), S (bs b1), S (bs b2), S (bs b3), S (bs b4), C yh yn yc, S (bs y0), S (bs y1), C yp yq yr, C ys yt yu, S (bs yv)]) ∧ (EnvC w' eA #[S (bs a0), S (bs a1), S (bs a2), S (bs a3), S (bs a4), C xh xn xc, S (bs x0), S (bs x1), C xp xq xr, C xs xt xu, S (bs xv)]) ∧ (EnvC w' eB #[S (bs b0), S (bs b1), S (bs b2), S (bs b3), S (bs b4), C yh yn yc, S (bs y0), S (bs y1), C yp yq yr, C ys yt yu, S (bs yv)]) ∧ Below w6.heap.size w6 w') [(2, PVal (.bool t)), (4, PEnv eA (shE a0 a1 a2 a3 a4)), (6, PEnv eB (shE b0 b1 b2 b3 b4)), (7, PVal (.bool t)), (12, PVal (.bool true))] [(7, [4, 6])] (by kernel_rfl) (by kernel_rfl) ?_ ?_ ⟨HA6.out, HY6.out, HCA.out.below (Below.refl _ _).drew, HCB.out.below (Below.refl _ _).drew, ((Below.refl _ w6)).drew⟩ ?_
 ·rintro w1' w2' ⟨f1, f2, f3, f4, hIB⟩ hb
  exact ⟨f1.below hb f1.lt, f2.below hb f2.lt, f3.below hb, f4.below hb, hIB.trans (hb.mono hIB.size)⟩
 ·simp only [lI, lG, or_false, forall_eq_or_imp, forall_eq]
  exact ⟨fun _ _ _ _ h' h => PVal_stays _ _ _ _ h' h, fun _ _ _ _ h' h => PEnv_stays h' h, fun _ _ _ _ h' h => PEnv_stays h' h, fun _ _ _ _ h' h => PVal_stays _ _ _ _ h' h, fun _ _ _ _ h' h => PVal_stays _ _ _ _ h' h⟩
 repeat ((first | refine phi_skipK rfl (fun K hK => ?_) | (refine phi_pureK rfl rfl (fun K hK => ?_); apply xI; constructor; (focus (rintro w' ⟨f1, f2, f3, f4, hIB⟩; obtain ⟨z0, z1, z2, z3, z4, z5, z6, z7, z8, z9, z10⟩ := f1.cc; obtain ⟨y0, y1, y2, y3, y4, y5, y6, y7, y8, y9, y10⟩ := f2.cc; clear f1 f2 f3 f4 hIB; first | (go_simp; done) | (go_simp; (try go_bits); (try go_simp); rfl) | go_simp)))); simp only [Act.put, lA, lB, lC, lD, lE]; apply hK; clear hK K)
 refine phi_partK (PVal (.bool t)) rfl rfl ⟨_, rfl⟩ ?_ (fun K hK v hv => ?_)
 ·rintro w' ⟨f1, f2, f3, f4, hIB⟩ hf
  unfold gives
  clear hf
  go_simp
  refine (HSAB.out _ f3 f4).mono ?_
  rintro e w'' ⟨rfl, hb⟩
  exact ⟨_, rfl, rfl, trivial, hb⟩
 obtain rfl : v = _ := hv
 simp only [Act.put, lA, lB, lC, lD, lE]
 apply hK
 clear hK K
 repeat ((first | refine phi_skipK rfl (fun K hK => ?_) | (refine phi_pureK rfl rfl (fun K hK => ?_); apply xI; constructor; (focus (rintro w' ⟨f1, f2, f3, f4, hIB⟩; obtain ⟨z0, z1, z2, z3, z4, z5, z6, z7, z8, z9, z10⟩ := f1.cc; obtain ⟨y0, y1, y2, y3, y4, y5, y6, y7, y8, y9, y10⟩ := f2.cc; clear f1 f2 f3 f4 hIB; first | (go_simp; done) | (go_simp; (try go_bits); (try go_simp); rfl) | go_simp)))); simp only [Act.put, lA, lB, lC, lD, lE]; apply hK; clear hK K)
 refine phi_partK (PEnv eA (shE a0 a1 a2 a3 a4)) rfl rfl ⟨_, none, 0, 0, [], [], none, 0, 0, none, 0, 0, [], rfl⟩ ?_ (fun K hK v hv => ?_)
 ·rintro w' ⟨f1, f2, f3, f4, hIB⟩ hf
  have HX := hI f3
  clear hf f1 f2 f3 f4 hIB
  unfold gives
  go_simp
  refine (HTA.out w' HX.out).mono ?_
  rintro e w'' ⟨cs, rfl, hc, hb⟩
  obtain ⟨kh, kn, kc, k0, k1, kp, kq, kr, ks, kt, ku, kv, rfl⟩ := HSH.out.1 _ _ hc
  exact ⟨_, rfl, ⟨kh, kn, kc, k0, k1, kp, kq, kr, ks, kt, ku, kv, rfl⟩, ⟨_, rfl, hc⟩, hb⟩
 obtain ⟨uh, un, uc, u0, u1, up, uq, ur, us, ut, uu, uv, rfl⟩ := hv
 simp only [Act.put, lA, lB, lC, lD, lE]
 apply hK
 clear hK K
 repeat ((first | refine phi_skipK rfl (fun K hK => ?_) | (refine phi_pureK rfl rfl (fun K hK => ?_); apply xI; constructor; (focus (rintro w' ⟨f1, f2, f3, f4, hIB⟩; obtain ⟨z0, z1, z2, z3, z4, z5, z6, z7, z8, z9, z10⟩ := f1.cc; obtain ⟨y0, y1, y2, y3, y4, y5, y6, y7, y8, y9, y10⟩ := f2.cc; clear f1 f2 f3 f4 hIB; first | (go_simp; done) | (go_simp; (try go_bits); (try go_simp); rfl) | go_simp)))); simp only [Act.put, lA, lB, lC, lD, lE]; apply hK; clear hK K)
 refine phi_partK (PEnv eB (shE b0 b1 b2 b3 b4)) rfl rfl ⟨_, none, 0, 0, [], [], none, 0, 0, none, 0, 0, [], rfl⟩ ?_ (fun K hK v hv => ?_)
 ·rintro w' ⟨f1, f2, f3, f4, hIB⟩ hf
  have HX := hI f4
  clear hf f1 f2 f3 f4 hIB
  unfold gives
  go_simp
  refine (HTB.out w' HX.out).mono ?_
  rintro e w'' ⟨cs, rfl, hc, hb⟩
  obtain ⟨kh, kn, kc, k0, k1, kp, kq, kr, ks, kt, ku, kv, rfl⟩ := HSH.out.2 _ _ hc
  exact ⟨_, rfl, ⟨kh, kn, kc, k0, k1, kp, kq, kr, ks, kt, ku, kv, rfl⟩, ⟨_, rfl, hc⟩, hb⟩
 obtain ⟨vh, vn, vc, v0, v1, vp, vq, vr, vs, vt, vu, vv, rfl⟩ := hv
 simp only [Act.put, lA, lB, lC, lD, lE]
 apply hK
 clear hK K
 repeat ((first | refine phi_skipK rfl (fun K hK => ?_) | (refine phi_pureK rfl rfl (fun K hK => ?_); apply xI; constructor; (focus (rintro w' ⟨f1, f2, f3, f4, hIB⟩; obtain ⟨z0, z1, z2, z3, z4, z5, z6, z7, z8, z9, z10⟩ := f1.cc; obtain ⟨y0, y1, y2, y3, y4, y5, y6, y7, y8, y9, y10⟩ := f2.cc; clear f1 f2 f3 f4 hIB; first | (go_simp; done) | (go_simp; (try go_bits); (try go_simp); rfl) | go_simp)))); simp only [Act.put, lA, lB, lC, lD, lE]; apply hK; clear hK K)
 refine phi_partK (PVal (.bool t)) rfl rfl ⟨_, rfl⟩ ?_ (fun K hK v hv => ?_)
 ·rintro w' ⟨f1, f2, f3, f4, hIB⟩ hf
  unfold gives
  go_simp
  refine (HRS.out _ _ _ (PEnv.get (val := (shE a0 a1 a2 a3 a4)) (hf (4, fun w1 => (PEnv eA (shE a0 a1 a2 a3 a4)).fact w1 (D #[S (bs a0), S (bs a1), S (bs a2), S (bs a3), S (bs a4), C uh un uc, S (bs u0), S (bs u1), C up uq ur, C us ut uu, S (bs uv)])) (by simp) (lO.1 rfl))) (PEnv.get (val := (shE b0 b1 b2 b3 b4)) (hf (6, fun w1 => (PEnv eB (shE b0 b1 b2 b3 b4)).fact w1 (D #[S (bs b0), S (bs b1), S (bs b2), S (bs b3), S (bs b4), C vh vn vc, S (bs v0), S (bs v1), C vp vq vr, C vs vt vu, S (bs vv)])) (by simp) (lO.1 rfl)))).mono ?_
  rintro e w'' ⟨rfl, hb⟩
  exact ⟨_, rfl, rfl, trivial, hb⟩
 obtain rfl : v = _ := hv
 simp only [Act.put, lA, lB, lC, lD, lE]
 apply hK
 clear hK K
 repeat ((first | refine phi_skipK rfl (fun K hK => ?_) | (refine phi_pureK rfl rfl (fun K hK => ?_); apply xI; constructor; (focus (rintro w' ⟨f1, f2, f3, f4, hIB⟩; obtain ⟨z0, z1, z2, z3, z4, z5, z6, z7, z8, z9, z10⟩ := f1.cc; obtain ⟨y0, y1, y2, y3, y4, y5, y6, y7, y8, y9, y10⟩ := f2.cc; clear f1 f2 f3 f4 hIB; first | (go_simp; done) | (go_simp; (try go_bits); (try go_simp); rfl) | go_simp)))); simp only [Act.put, lA, lB, lC, lD, lE]; apply hK; clear hK K)
 refine phi_partK (PVal (.bool true)) rfl rfl ⟨_, rfl⟩ ?_ (fun K hK v hv => ?_)
 ·rintro w' ⟨f1, f2, f3, f4, hIB⟩ hf
  unfold gives
  clear hf
  go_simp
  refine (HSAA.out _ f3).mono ?_
  rintro e w'' ⟨rfl, hb⟩
  exact ⟨_, rfl, rfl, trivial, hb⟩
 obtain rfl : v = _ := hv
 simp only [Act.put, lA, lB, lC, lD, lE]
 apply hK
 clear hK K
 repeat ((first | refine phi_skipK rfl (fun K hK => ?_) | (refine phi_pureK rfl rfl (fun K hK => ?_); apply xI; constructor; (focus (rintro w' ⟨f1, f2, f3, f4, hIB⟩; obtain ⟨z0, z1, z2, z3, z4, z5, z6, z7, z8, z9, z10⟩ := f1.cc; obtain ⟨y0, y1, y2, y3, y4, y5, y6, y7, y8, y9, y10⟩ := f2.cc; clear f1 f2 f3 f4 hIB; first | (go_simp; done) | (go_simp; (try go_bits); (try go_simp); rfl) | go_simp)))); simp only [Act.put, lA, lB, lC, lD, lE]; apply hK; clear hK K)
 refine phi_done ?_
 rintro w7 ⟨f1, f2, f3, f4, hb7⟩ hk9
 refine wpList_nil ?_
 have HB7 := hI (HB6.out.trans (hb7.mono HB6.out.size))
 have HF1 := hI f1
 clear f1 f2 f3 f4 hk9 hb7 HCA HCB HA6 HY6 HSAB HSAA HTA HTB HRS HSH HB6
 go_wp2_with fail
 have hbd := fun w => body_any w
 unfold bodyV at hbd
 have hrp1 := fun w => reply_any [97, 99, 116] id a0 a1 a2 a3 a4 x0 x1 xv xh xp xs xn xc xq xr xt xu w
 unfold bodyV at hrp1
 have HBD := hI hbd
 have HRP1 := hI (fun w => (show Calls pG 16 #[D #[S (bs a0), S (bs a1), S (bs a2), S (bs a3), S (bs a4), C xh xn xc, S (bs x0), S (bs x1), C xp xq xr, C xs xt xu, S (bs xv)], S ⟨#[97, 99, 116]⟩, S (bs id), D #[S ⟨#[117]⟩, S ⟨#[98]⟩, C none 0 0, C none 0 0, S ⟨#[]⟩]] w (Gives w (D #[S ⟨#[97, 99, 116]⟩, S (bs a3), S (bs id), S (bs a1), S (bs a2), C none 0 0, S ⟨#[117]⟩, S ⟨#[98]⟩, C none 0 0, C none 0 0, S ⟨#[]⟩])) from hrp1 w))
 clear hbd hrp1
 refine wp_phi_tail (List.take 5 _) (List.drop 5 _) (lJ 5 _).symm (fun w' => (Blk w' g7 46 #[S (bs a0), S (bs a1), S (bs a2), S (bs a3), S (bs a4), C xh xn xc, S (bs x0), S (bs x1), C xp xq xr, C xs xt xu, S (bs xv)]) ∧ Below w7.heap.size w7 w') [(2, PVal (D #[S ⟨#[117]⟩, S ⟨#[98]⟩, C none 0 0, C none 0 0, S ⟨#[]⟩])), (3, PVal (D #[S ⟨#[97, 99, 116]⟩, S (bs a3), S (bs id), S (bs a1), S (bs a2), C none 0 0, S ⟨#[117]⟩, S ⟨#[98]⟩, C none 0 0, C none 0 0, S ⟨#[]⟩])), (4, PNew (g7 + 1) 46 #[S ⟨#[]⟩, S ⟨#[]⟩, S ⟨#[]⟩, S ⟨#[]⟩, S ⟨#[]⟩, C none 0 0, S ⟨#[]⟩, S ⟨#[]⟩, C none 0 0, C none 0 0, S ⟨#[]⟩])] [] (by kernel_rfl) (by kernel_rfl) ?_ ?_ ⟨HF1.out, ((Below.refl _ w7)).drew⟩ ?_
 ·rintro w1' w2' ⟨f1, hIB⟩ hb
  exact ⟨f1.below hb f1.lt, hIB.trans (hb.mono hIB.size)⟩
 ·simp only [lI, lG, or_false, forall_eq_or_imp, forall_eq]
  exact ⟨fun _ _ _ _ h' h => PVal_stays _ _ _ _ h' h, fun _ _ _ _ h' h => PVal_stays _ _ _ _ h' h, fun _ _ _ _ h' h => PNew_stays h' h⟩
 simp only [lK, lM, lL, lN]
 repeat ((first | refine phi_skipK rfl (fun K hK => ?_) | (refine phi_pureK rfl rfl (fun K hK => ?_); apply xI; constructor; (focus (rintro w' ⟨f1, hIB⟩; obtain ⟨z0, z1, z2, z3, z4, z5, z6, z7, z8, z9, z10⟩ := f1.cc; clear f1 hIB; first | (go_simp; done) | (go_simp; (try go_bits); (try go_simp); rfl) | go_simp)))); simp only [Act.put, lA, lB, lC, lD, lE]; apply hK; clear hK K)
 refine phi_partK (PVal (D #[S ⟨#[117]⟩, S ⟨#[98]⟩, C none 0 0, C none 0 0, S ⟨#[]⟩])) rfl rfl ⟨_, rfl⟩ ?_ (fun K hK v hv => ?_)
 ·rintro w' ⟨f1, hIB⟩ hf
  unfold gives
  clear hf
  go_simp
  refine (HBD.out _).mono ?_
  rintro e w'' ⟨rfl, hb⟩
  exact ⟨_, rfl, rfl, trivial, hb⟩
 obtain rfl : v = _ := hv
 simp only [Act.put, lA, lB, lC, lD, lE]
 apply hK
 clear hK K
 repeat ((first | refine phi_skipK rfl (fun K hK => ?_) | (refine phi_pureK rfl rfl (fun K hK => ?_); apply xI; constructor; (focus (rintro w' ⟨f1, hIB⟩; obtain ⟨z0, z1, z2, z3, z4, z5, z6, z7, z8, z9, z10⟩ := f1.cc; clear f1 hIB; first | (go_simp; done) | (go_simp; (try go_bits); (try go_simp); rfl) | go_simp)))); simp only [Act.put, lA, lB, lC, lD, lE]; apply hK; clear hK K)
 refine phi_partK (PVal (D #[S ⟨#[97, 99, 116]⟩, S (bs a3), S (bs id), S (bs a1), S (bs a2), C none 0 0, S ⟨#[117]⟩, S ⟨#[98]⟩, C none 0 0, C none 0 0, S ⟨#[]⟩])) rfl rfl ⟨_, rfl⟩ ?_ (fun K hK v hv => ?_)
 ·rintro w' ⟨f1, hIB⟩ hf
  unfold gives
  clear hf
  go_simp
  refine (HRP1.out _).mono ?_
  rintro e w'' ⟨rfl, hb⟩
  exact ⟨_, rfl, rfl, trivial, hb⟩
 obtain rfl : v = _ := hv
 simp only [Act.put, lA, lB, lC, lD, lE]
 apply hK
 clear hK K
 repeat ((first | refine phi_skipK rfl (fun K hK => ?_) | (refine phi_pureK rfl rfl (fun K hK => ?_); apply xI; constructor; (focus (rintro w' ⟨f1, hIB⟩; obtain ⟨z0, z1, z2, z3, z4, z5, z6, z7, z8, z9, z10⟩ := f1.cc; clear f1 hIB; first | (go_simp; done) | (go_simp; (try go_bits); (try go_simp); rfl) | go_simp)))); simp only [Act.put, lA, lB, lC, lD, lE]; apply hK; clear hK K)
 refine phi_partK (PNew (g7 + 1) 46 #[S ⟨#[]⟩, S ⟨#[]⟩, S ⟨#[]⟩, S ⟨#[]⟩, S ⟨#[]⟩, C none 0 0, S ⟨#[]⟩, S ⟨#[]⟩, C none 0 0, C none 0 0, S ⟨#[]⟩]) rfl rfl ⟨_, 0, rfl⟩ ?_ (fun K hK v hv => ?_)
 ·rintro w' ⟨f1, hIB⟩ hf
  have HGS := hI (show g7 + 1 ≤ w'.heap.size from f1.lt)
  clear hf f1 hIB
  unfold gives
  go_simp
  refine ⟨⟨_, rfl⟩, fun g hg => ?_, below_alloc1 _ _⟩
  obtain rfl : w'.heap.size = g := by simpa using hg
  exact ⟨HGS.out, Blk.new _ _ _⟩
 obtain ⟨g_4, rfl⟩ := hv
 simp only [Act.put, lA, lB, lC, lD, lE]
 apply hK
 clear hK K
 repeat ((first | refine phi_skipK rfl (fun K hK => ?_) | (refine phi_pureK rfl rfl (fun K hK => ?_); apply xI; constructor; (focus (rintro w' ⟨f1, hIB⟩; obtain ⟨z0, z1, z2, z3, z4, z5, z6, z7, z8, z9, z10⟩ := f1.cc; clear f1 hIB; first | (go_simp; done) | (go_simp; (try go_bits); (try go_simp); rfl) | go_simp)))); simp only [Act.put, lA, lB, lC, lD, lE]; apply hK; clear hK K)
 refine phi_done ?_
 rintro w8 ⟨f1, hb8⟩ hk9
 have hb_4 := hk9 (4, fun w1 => (PNew (g7 + 1) 46 #[S ⟨#[]⟩, S ⟨#[]⟩, S ⟨#[]⟩, S ⟨#[]⟩, S ⟨#[]⟩, C none 0 0, S ⟨#[]⟩, S ⟨#[]⟩, C none 0 0, C none 0 0, S ⟨#[]⟩]).fact w1 (A (some ⟨g_4, 0, none⟩))) (by simp) g_4 rfl
 clear hk9
 obtain ⟨hg9, hk9⟩ := hb_4
 generalize g_4 = g9 at *
 refine wpList_store (.tmp 9) (.tmp 46) 46 rfl rfl g9 0 _ _ #[S ⟨#[97, 99, 116]⟩, S (bs a3), S (bs id), S (bs a1), S (bs a2), C none 0 0, S ⟨#[117]⟩, S ⟨#[98]⟩, C none 0 0, C none 0 0, S ⟨#[]⟩] rfl rfl hk9 (by kernel_rfl) (by simp [Value.oneCell']) (by simp) ?_
 intro w9 hb9 ho9
 rw [putCells_all #[S ⟨#[]⟩, S ⟨#[]⟩, S ⟨#[]⟩, S ⟨#[]⟩, S ⟨#[]⟩, C none 0 0, S ⟨#[]⟩, S ⟨#[]⟩, C none 0 0, C none 0 0, S ⟨#[]⟩] #[S ⟨#[97, 99, 116]⟩, S (bs a3), S (bs id), S (bs a1), S (bs a2), C none 0 0, S ⟨#[117]⟩, S ⟨#[98]⟩, C none 0 0, C none 0 0, S ⟨#[]⟩] rfl] at hb9
 have HN9 := hI (ho9.blk f1 (by omega))
 have HM9 := hI hb9
 have HB9 := hI ((HB7.out.trans (hb8.mono HB7.out.size)).trans (ho9.below (by have := HG7.out; omega)))
 have HL9 := hI hg9
 clear f1 hb8 hk9 hg9 hb9 ho9 HF1 HRP1 HB7
 go_wp2_with fail
 have HEL := hI (fun w' => (show Calls pG 18 #[D #[S ⟨#[117]⟩, S ⟨#[98]⟩, C none 0 0, C none 0 0, S ⟨#[]⟩]] w' (TrR bodyT w') from elem25_any _ bodyT (fun _ => True) [S ⟨#[117]⟩, S ⟨#[98]⟩, C none 0 0, C none 0 0, S ⟨#[]⟩] w' (Nat.le_refl _) (rep_fit [] [] [] [] []).1.2 (rep_fit [] [] [] [] []).2.1.2 (TrX.plain _ _ (body_trx w' (fun _ => True)))))
 refine wp_phi_tail (List.take 11 _) (List.drop 11 _) (lJ 11 _).symm (fun w' => (Blk w' g7 46 #[S (bs a0), S (bs a1), S (bs a2), S (bs a3), S (bs a4), C xh xn xc, S (bs x0), S (bs x1), C xp xq xr, C xs xt xu, S (bs xv)]) ∧ (Blk w' g9 46 #[S ⟨#[97, 99, 116]⟩, S (bs a3), S (bs id), S (bs a1), S (bs a2), C none 0 0, S ⟨#[117]⟩, S ⟨#[98]⟩, C none 0 0, C none 0 0, S ⟨#[]⟩]) ∧ Below w9.heap.size w9 w') [(7, PVal (D #[S ⟨#[117]⟩, S ⟨#[98]⟩, C none 0 0, C none 0 0, S ⟨#[]⟩])), (8, PTree 0 (TvT bodyT) (fun v => ∃ kp kr ks ku, v = D #[S ⟨#[117]⟩, S ⟨#[98]⟩, C kp 0 kr, C ks 0 ku, S ⟨#[]⟩])), (10, PNew (g9 + 1) 56 #[S ⟨#[]⟩, S ⟨#[]⟩, S ⟨#[]⟩, S ⟨#[]⟩, S ⟨#[]⟩, C none 0 0, S ⟨#[]⟩, S ⟨#[]⟩, C none 0 0, C none 0 0, S ⟨#[]⟩])] [] (by kernel_rfl) (by kernel_rfl) ?_ ?_ ⟨HN9.out, HM9.out, ((Below.refl _ w9)).drew⟩ ?_
 ·rintro w1' w2' ⟨f1, f2, hIB⟩ hb
  exact ⟨f1.below hb f1.lt, f2.below hb f2.lt, hIB.trans (hb.mono hIB.size)⟩
 ·simp only [lI, lG, or_false, forall_eq_or_imp, forall_eq]
  exact ⟨fun _ _ _ _ h' h => PVal_stays _ _ _ _ h' h, fun _ _ _ _ h' h => PTree_stays (TvT_like _) h' h, fun _ _ _ _ h' h => PNew_stays h' h⟩
 simp only [lK, lM, lL, lN]
 repeat ((first | refine phi_skipK rfl (fun K hK => ?_) | (refine phi_pureK rfl rfl (fun K hK => ?_); apply xI; constructor; (focus (rintro w' ⟨f1, f2, hIB⟩; obtain ⟨z0, z1, z2, z3, z4, z5, z6, z7, z8, z9, z10⟩ := f1.cc; clear f1 f2 hIB; first | (go_simp; done) | (go_simp; (try go_bits); (try go_simp); rfl) | go_simp)))); simp only [Act.put, lA, lB, lC, lD, lE]; apply hK; clear hK K)
 refine phi_partK (PVal (D #[S ⟨#[117]⟩, S ⟨#[98]⟩, C none 0 0, C none 0 0, S ⟨#[]⟩])) rfl rfl ⟨_, rfl⟩ ?_ (fun K hK v hv => ?_)
 ·rintro w' ⟨f1, f2, hIB⟩ hf
  unfold gives
  clear hf
  go_simp
  refine (HBD.out _).mono ?_
  rintro e w'' ⟨rfl, hb⟩
  exact ⟨_, rfl, rfl, trivial, hb⟩
 obtain rfl : v = _ := hv
 simp only [Act.put, lA, lB, lC, lD, lE]
 apply hK
 clear hK K
 repeat ((first | refine phi_skipK rfl (fun K hK => ?_) | (refine phi_pureK rfl rfl (fun K hK => ?_); apply xI; constructor; (focus (rintro w' ⟨f1, f2, hIB⟩; obtain ⟨z0, z1, z2, z3, z4, z5, z6, z7, z8, z9, z10⟩ := f1.cc; clear f1 f2 hIB; first | (go_simp; done) | (go_simp; (try go_bits); (try go_simp); rfl) | go_simp)))); simp only [Act.put, lA, lB, lC, lD, lE]; apply hK; clear hK K)
 refine phi_partK (PTree 0 (TvT bodyT) (fun v => ∃ kp kr ks ku, v = D #[S ⟨#[117]⟩, S ⟨#[98]⟩, C kp 0 kr, C ks 0 ku, S ⟨#[]⟩])) rfl rfl ⟨_, none, 0, none, 0, rfl⟩ ?_ (fun K hK v hv => ?_)
 ·rintro w' ⟨f1, f2, hIB⟩ hf
  clear hf f1 f2 hIB
  unfold gives
  go_simp
  refine (HEL.out w').mono ?_
  rintro e w'' ⟨cs, rfl, hcs, hb⟩
  obtain ⟨kp, kr, ks, ku, hcc⟩ : ∃ kp kr ks ku, cs = [S ⟨#[117]⟩, S ⟨#[98]⟩, C kp 0 kr, C ks 0 ku, S ⟨#[]⟩] := bodyT_cells (TrC.toX _ _ hcs)
  subst hcc
  exact ⟨_, rfl, ⟨kp, kr, ks, ku, rfl⟩, ⟨_, rfl, TrX.imp (fun b hb => ⟨Nat.zero_le _, hb.2.1⟩) _ _ (TrC.toX _ _ hcs)⟩, hb⟩
 obtain ⟨wp, wr, ws, wu, rfl⟩ := hv
 simp only [Act.put, lA, lB, lC, lD, lE]
 apply hK
 clear hK K
 repeat ((first | refine phi_skipK rfl (fun K hK => ?_) | (refine phi_pureK rfl rfl (fun K hK => ?_); apply xI; constructor; (focus (rintro w' ⟨f1, f2, hIB⟩; obtain ⟨z0, z1, z2, z3, z4, z5, z6, z7, z8, z9, z10⟩ := f1.cc; clear f1 f2 hIB; first | (go_simp; done) | (go_simp; (try go_bits); (try go_simp); rfl) | go_simp)))); simp only [Act.put, lA, lB, lC, lD, lE]; apply hK; clear hK K)
 refine phi_partK (PNew (g9 + 1) 56 #[S ⟨#[]⟩, S ⟨#[]⟩, S ⟨#[]⟩, S ⟨#[]⟩, S ⟨#[]⟩, C none 0 0, S ⟨#[]⟩, S ⟨#[]⟩, C none 0 0, C none 0 0, S ⟨#[]⟩]) rfl rfl ⟨_, 0, rfl⟩ ?_ (fun K hK v hv => ?_)
 ·rintro w' ⟨f1, f2, hIB⟩ hf
  have HGS := hI (show g9 + 1 ≤ w'.heap.size from f2.lt)
  clear hf f1 f2 hIB
  unfold gives
  go_simp
  refine ⟨⟨_, rfl⟩, fun g hg => ?_, below_alloc1 _ _⟩
  obtain rfl : w'.heap.size = g := by simpa using hg
  exact ⟨HGS.out, Blk.new _ _ _⟩
 obtain ⟨g_10, rfl⟩ := hv
 simp only [Act.put, lA, lB, lC, lD, lE]
 apply hK
 clear hK K
 repeat ((first | refine phi_skipK rfl (fun K hK => ?_) | (refine phi_pureK rfl rfl (fun K hK => ?_); apply xI; constructor; (focus (rintro w' ⟨f1, f2, hIB⟩; obtain ⟨z0, z1, z2, z3, z4, z5, z6, z7, z8, z9, z10⟩ := f1.cc; clear f1 f2 hIB; first | (go_simp; done) | (go_simp; (try go_bits); (try go_simp); rfl) | go_simp)))); simp only [Act.put, lA, lB, lC, lD, lE]; apply hK; clear hK K)
 refine phi_done ?_
 rintro w10 ⟨f1, f2, hb10⟩ hk9
 have hb_10 := hk9 (10, fun w1 => (PNew (g9 + 1) 56 #[S ⟨#[]⟩, S ⟨#[]⟩, S ⟨#[]⟩, S ⟨#[]⟩, S ⟨#[]⟩, C none 0 0, S ⟨#[]⟩, S ⟨#[]⟩, C none 0 0, C none 0 0, S ⟨#[]⟩]).fact w1 (A (some ⟨g_10, 0, none⟩))) (by simp) g_10 rfl
 obtain ⟨csw, hcw, htw⟩ := hk9 (8, fun w1 => (PTree 0 (TvT bodyT) (fun v => ∃ kp kr ks ku, v = D #[S ⟨#[117]⟩, S ⟨#[98]⟩, C kp 0 kr, C ks 0 ku, S ⟨#[]⟩])).fact w1 (D #[S ⟨#[117]⟩, S ⟨#[98]⟩, C wp 0 wr, C ws 0 wu, S ⟨#[]⟩])) (by simp)
 obtain rfl : csw = [S ⟨#[117]⟩, S ⟨#[98]⟩, C wp 0 wr, C ws 0 wu, S ⟨#[]⟩] := by
  injection hcw with hcw
  have := congrArg Array.toList hcw
  simpa using this.symm
 obtain ⟨hg10, hk10⟩ := hb_10
 generalize g_10 = g10 at *
 clear hk9 hcw
 refine wpList_store (.tmp 10) (.tmp 56) 56 rfl rfl g10 0 _ _ #[S ⟨#[97, 99, 116]⟩, S (bs a3), S (bs id), S (bs a1), S (bs a2), C none 0 0, S ⟨#[117]⟩, S ⟨#[98]⟩, C wp 0 wr, C ws 0 wu, S ⟨#[]⟩] rfl rfl hk10 (by kernel_rfl) (by simp [Value.oneCell']) (by simp) ?_
 intro w11 hb11 ho11
 rw [putCells_all #[S ⟨#[]⟩, S ⟨#[]⟩, S ⟨#[]⟩, S ⟨#[]⟩, S ⟨#[]⟩, C none 0 0, S ⟨#[]⟩, S ⟨#[]⟩, C none 0 0, C none 0 0, S ⟨#[]⟩] #[S ⟨#[97, 99, 116]⟩, S (bs a3), S (bs id), S (bs a1), S (bs a2), C none 0 0, S ⟨#[117]⟩, S ⟨#[98]⟩, C wp 0 wr, C ws 0 wu, S ⟨#[]⟩] rfl] at hb11
 have hs11 := ho11.size
 have HM11 := hI (ho11.blk f2 (by omega))
 have HW11 := hI hb11
 have HCW := hI (show EnvC w11 ⟨[97, 99, 116], a3, id, a1, a2, [], bodyT⟩ #[S ⟨#[97, 99, 116]⟩, S (bs a3), S (bs id), S (bs a1), S (bs a2), C none 0 0, S ⟨#[117]⟩, S ⟨#[98]⟩, C wp 0 wr, C ws 0 wu, S ⟨#[]⟩] from bodyT_envC (a := [97, 99, 116]) htw (fun b hb => by have := hb.2; omega))
 have HB11 := hI ((HB9.out.trans (hb10.mono HB9.out.size)).trans (ho11.below (by have := HG7.out; have := HL9.out; omega)))
 clear f1 f2 hb10 hk10 hg10 hb11 ho11 hs11 htw HN9 HM9 HL9 HB9
 have HTR := hI (fun w' => told25_any ⟨[97, 99, 116], a3, id, a1, a2, [], bodyT⟩ #[S ⟨#[97, 99, 116]⟩, S (bs a3), S (bs id), S (bs a1), S (bs a2), C none 0 0, S ⟨#[117]⟩, S ⟨#[98]⟩, C none 0 0, C none 0 0, S ⟨#[]⟩] w' (rep_envC w' [97, 99, 116] a3 id a1 a2) (rep_fit _ _ _ _ _))
 have HRR := hI (fun w' c (h : EnvC w' ⟨[97, 99, 116], a3, id, a1, a2, [], bodyT⟩ c) (h' : EnvC w' ⟨[97, 99, 116], a3, id, a1, a2, [], bodyT⟩ #[S ⟨#[97, 99, 116]⟩, S (bs a3), S (bs id), S (bs a1), S (bs a2), C none 0 0, S ⟨#[117]⟩, S ⟨#[98]⟩, C wp 0 wr, C ws 0 wu, S ⟨#[]⟩]) => refsame25_any ⟨[97, 99, 116], a3, id, a1, a2, [], bodyT⟩ ⟨[97, 99, 116], a3, id, a1, a2, [], bodyT⟩ c #[S ⟨#[97, 99, 116]⟩, S (bs a3), S (bs id), S (bs a1), S (bs a2), C none 0 0, S ⟨#[117]⟩, S ⟨#[98]⟩, C wp 0 wr, C ws 0 wu, S ⟨#[]⟩] w' h h' (rep_fit _ _ _ _ _).1 (rep_fit _ _ _ _ _).1)
 rw [Env.eqb_refl] at HRR
 go_wp2_with fail
 refine wp_phi (fun w' => (Blk w' g9 46 #[S ⟨#[97, 99, 116]⟩, S (bs a3), S (bs id), S (bs a1), S (bs a2), C none 0 0, S ⟨#[117]⟩, S ⟨#[98]⟩, C none 0 0, C none 0 0, S ⟨#[]⟩]) ∧ (Blk w' g10 56 #[S ⟨#[97, 99, 116]⟩, S (bs a3), S (bs id), S (bs a1), S (bs a2), C none 0 0, S ⟨#[117]⟩, S ⟨#[98]⟩, C wp 0 wr, C ws 0 wu, S ⟨#[]⟩]) ∧ (EnvC w' ⟨[97, 99, 116], a3, id, a1, a2, [], bodyT⟩ #[S ⟨#[97, 99, 116]⟩, S (bs a3), S (bs id), S (bs a1), S (bs a2), C none 0 0, S ⟨#[117]⟩, S ⟨#[98]⟩, C wp 0 wr, C ws 0 wu, S ⟨#[]⟩]) ∧ Below w11.heap.size w11 w') [(1, PEnv ⟨[97, 99, 116], a3, id, a1, a2, [], bodyT⟩ (fun v => ∃ kh kn kc k0 k1 kp kq kr ks kt ku kv, v = D #[S ⟨#[97, 99, 116]⟩, S (bs a3), S (bs id), S (bs a1), S (bs a2), C kh kn kc, S (bs k0), S (bs k1), C kp kq kr, C ks kt ku, S (bs kv)])), (3, PVal (.bool true))] [(3, [1])] (by kernel_rfl) (by kernel_rfl) ?_ ?_ ⟨HM11.out, HW11.out, HCW.out.below (Below.refl _ _).drew, ((Below.refl _ w11)).drew⟩ ?_
 ·rintro w1' w2' ⟨f1, f2, f3, hIB⟩ hb
  exact ⟨f1.below hb f1.lt, f2.below hb f2.lt, f3.below hb, hIB.trans (hb.mono hIB.size)⟩
 ·simp only [lI, lG, or_false, forall_eq_or_imp, forall_eq]
  exact ⟨fun _ _ _ _ h' h => PEnv_stays h' h, fun _ _ _ _ h' h => PVal_stays _ _ _ _ h' h⟩
 repeat ((first | refine phi_skipK rfl (fun K hK => ?_) | (refine phi_pureK rfl rfl (fun K hK => ?_); apply xI; constructor; (focus (rintro w' ⟨f1, f2, f3, hIB⟩; obtain ⟨z0, z1, z2, z3, z4, z5, z6, z7, z8, z9, z10⟩ := f1.cc; obtain ⟨y0, y1, y2, y3, y4, y5, y6, y7, y8, y9, y10⟩ := f2.cc; clear f1 f2 f3 hIB; first | (go_simp; done) | (go_simp; (try go_bits); (try go_simp); rfl) | go_simp)))); simp only [Act.put, lA, lB, lC, lD, lE]; apply hK; clear hK K)
 refine phi_partK (PEnv ⟨[97, 99, 116], a3, id, a1, a2, [], bodyT⟩ (fun v => ∃ kh kn kc k0 k1 kp kq kr ks kt ku kv, v = D #[S ⟨#[97, 99, 116]⟩, S (bs a3), S (bs id), S (bs a1), S (bs a2), C kh kn kc, S (bs k0), S (bs k1), C kp kq kr, C ks kt ku, S (bs kv)])) rfl rfl ⟨_, none, 0, 0, [], [], none, 0, 0, none, 0, 0, [], rfl⟩ ?_ (fun K hK v hv => ?_)
 ·rintro w' ⟨f1, f2, f3, hIB⟩ hf
  clear hf f1 f2 f3 hIB
  unfold gives
  go_simp
  refine (HTR.out w').mono ?_
  rintro e w'' ⟨cs, rfl, hc, hb⟩
  have hc' := hc
  obtain ⟨kh, kc, kcss, k0, k1, kv, kp, kq, kr, ks, kt, ku, he, _⟩ := hc'
  exact ⟨_, rfl, ⟨kh, _, kc, k0, k1, kp, kq, kr, ks, kt, ku, kv, congrArg Value.agg he⟩, ⟨_, rfl, hc⟩, hb⟩
 obtain ⟨zh, zn, zc, z0, z1, zp, zq, zr, zs, zt, zu, zv, rfl⟩ := hv
 simp only [Act.put, lA, lB, lC, lD, lE]
 apply hK
 clear hK K
 repeat ((first | refine phi_skipK rfl (fun K hK => ?_) | (refine phi_pureK rfl rfl (fun K hK => ?_); apply xI; constructor; (focus (rintro w' ⟨f1, f2, f3, hIB⟩; obtain ⟨z0, z1, z2, z3, z4, z5, z6, z7, z8, z9, z10⟩ := f1.cc; obtain ⟨y0, y1, y2, y3, y4, y5, y6, y7, y8, y9, y10⟩ := f2.cc; clear f1 f2 f3 hIB; first | (go_simp; done) | (go_simp; (try go_bits); (try go_simp); rfl) | go_simp)))); simp only [Act.put, lA, lB, lC, lD, lE]; apply hK; clear hK K)
 refine phi_partK (PVal (.bool true)) rfl rfl ⟨_, rfl⟩ ?_ (fun K hK v hv => ?_)
 ·rintro w' ⟨f1, f2, f3, hIB⟩ hf
  unfold gives
  go_simp
  refine (HRR.out _ _ (PEnv.get (val := (fun v => ∃ kh kn kc k0 k1 kp kq kr ks kt ku kv, v = D #[S ⟨#[97, 99, 116]⟩, S (bs a3), S (bs id), S (bs a1), S (bs a2), C kh kn kc, S (bs k0), S (bs k1), C kp kq kr, C ks kt ku, S (bs kv)])) (hf (1, fun w1 => (PEnv ⟨[97, 99, 116], a3, id, a1, a2, [], bodyT⟩ (fun v => ∃ kh kn kc k0 k1 kp kq kr ks kt ku kv, v = D #[S ⟨#[97, 99, 116]⟩, S (bs a3), S (bs id), S (bs a1), S (bs a2), C kh kn kc, S (bs k0), S (bs k1), C kp kq kr, C ks kt ku, S (bs kv)])).fact w1 (D #[S ⟨#[97, 99, 116]⟩, S (bs a3), S (bs id), S (bs a1), S (bs a2), C zh zn zc, S (bs z0), S (bs z1), C zp zq zr, C zs zt zu, S (bs zv)])) (by simp) (lO.1 rfl))) f3).mono ?_
  rintro e w'' ⟨rfl, hb⟩
  exact ⟨_, rfl, rfl, trivial, hb⟩
 obtain rfl : v = _ := hv
 simp only [Act.put, lA, lB, lC, lD, lE]
 apply hK
 clear hK K
 repeat ((first | refine phi_skipK rfl (fun K hK => ?_) | (refine phi_pureK rfl rfl (fun K hK => ?_); apply xI; constructor; (focus (rintro w' ⟨f1, f2, f3, hIB⟩; obtain ⟨z0, z1, z2, z3, z4, z5, z6, z7, z8, z9, z10⟩ := f1.cc; obtain ⟨y0, y1, y2, y3, y4, y5, y6, y7, y8, y9, y10⟩ := f2.cc; clear f1 f2 f3 hIB; first | (go_simp; done) | (go_simp; (try go_bits); (try go_simp); rfl) | go_simp)))); simp only [Act.put, lA, lB, lC, lD, lE]; apply hK; clear hK K)
 refine phi_done ?_
 rintro w12 ⟨f1, f2, f3, hb12⟩ hk9
 refine wpList_nil ?_
 have HB12 := hI (HB11.out.trans (hb12.mono HB11.out.size))
 clear f1 f2 f3 hk9 hb12
 go_wp2_with fail
 go_ret
 exact ⟨rfl, HB12.out⟩
theorem replies_ba (E : Nat → Addr) (a0 a1 a2 a3 a4 b0 b1 b2 b3 b4 : List UInt8) (id : ByteArray) (qa qb : List (List (List UInt8))) (va vb : Value) (w : World) (hg : LibG w) (hE : Errs w E) (ha : PqL w va qa) (hb : PqL w vb qb) :
  Calls pG 4 #[D #[S (bs a0), S (bs a1), S (bs a2), S (bs a3), S (bs a4), va], D #[S (bs b0), S (bs b1), S (bs b2), S (bs b3), S (bs b4), vb], .string id] w fun e w' => e = .returned (.bool true) ∧ Below w.heap.size w w' := by
 have h := replies_any E a0 a1 a2 a3 a4 b0 b1 b2 b3 b4 id.data.toList qa qb va vb w hg hE ha hb
 rwa [show bs id.data.toList = id from by simp [bs]] at h
end Go.Proofs.YthboiahdheehkaaGreatDoor
