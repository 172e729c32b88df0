/- LawSBk -/
import Derived.Test.YthboiahdheehkaaGreatDoorSJ
import Derived.Test.YthboiahdheehkaaGreatDoorPQ
open List renaming setIfInBounds_toArray → lA, set_cons_succ → lB, set_cons_zero → lC, cons_append → lD, nil_append → lE, not_mem_nil → lG, mem_cons → lI, take_append_drop → lJ, take_succ_cons → lK, drop_succ_cons → lL
open Go.Lib renaming hid → hI
open Exists renaming intro → xI
namespace Go.Proofs.YthboiahdheehkaaGreatDoor
set_option maxHeartbeats 8000000
set_option maxRecDepth 20000
open Go.RowKit Go.Extern.Stop Go.Stop Go.Extern
attribute [local go_sem] bs_toList bs_size
attribute [local irreducible] wpPhi
theorem alive25_any (E : Nat → Addr) (w : World) (hg : LibG w) (hE : Errs w E) : Calls Tryz.prog 10 #[] w (Gives w (.bool true)) := by
 obtain ⟨x, hx⟩ := aliveE_formed
 have hbd := fun w => body_any w
 unfold bodyV at hbd
 have HC := hI (fun w' => (show EnvC w' aliveE #[.string ⟨#[97]⟩, .string ⟨#[116]⟩, .string ⟨#[109]⟩, .string ⟨#[]⟩, .string ⟨#[]⟩, .slice none 0 0, .string ⟨#[117]⟩, .string ⟨#[98]⟩, .slice none 0 0, .slice none 0 0, .string ⟨#[]⟩] from rep_envC w' [97] [116] [109] [] []))
 have HW := hI (fun w' (hb : Below w.heap.size w w') => rep_write E aliveE x #[.string ⟨#[97]⟩, .string ⟨#[116]⟩, .string ⟨#[109]⟩, .string ⟨#[]⟩, .string ⟨#[]⟩, .slice none 0 0, .string ⟨#[117]⟩, .string ⟨#[98]⟩, .slice none 0 0, .slice none 0 0, .string ⟨#[]⟩] w' aliveE_rep hx (hg.below hb) (hE.below hb) (HC.out w'))
 have HR0 := fun w' (hb : Below w.heap.size w w') => rep_read E aliveE x w' aliveE_rep hx (hg.below hb) (hE.below hb)
 have HSM := hI (fun w' cs (h : EnvC w' aliveE cs) => sosame_any aliveE aliveE cs #[.string ⟨#[97]⟩, .string ⟨#[116]⟩, .string ⟨#[109]⟩, .string ⟨#[]⟩, .string ⟨#[]⟩, .slice none 0 0, .string ⟨#[117]⟩, .string ⟨#[98]⟩, .slice none 0 0, .slice none 0 0, .string ⟨#[]⟩] w' h (HC.out w') ⟨trivial, aliveE_rep.small.bok⟩ ⟨trivial, aliveE_rep.small.bok⟩)
 generalize x.wrt = tx at *
 have HR := hI (fun w' hb => (show Calls Tryz.prog 21 #[.string (bs tx)] w' fun en w2 => ∃ (b0 b1 bt : List UInt8) (pa : Option Addr) (na ca : Nat) (pk : Option Addr) (nk ck : Nat) (ph : Option Addr) (ch : Nat), en = .returned (.tuple #[.agg #[.string ⟨#[97]⟩, .string ⟨#[116]⟩, .string ⟨#[109]⟩, .string ⟨#[]⟩, .string ⟨#[]⟩, .slice ph 0 ch, .string (bs b0), .string (bs b1), .slice pa na ca, .slice pk nk ck, .string (bs bt)], .nilIface]) ∧ EnvC w2 aliveE #[.string ⟨#[97]⟩, .string ⟨#[116]⟩, .string ⟨#[109]⟩, .string ⟨#[]⟩, .string ⟨#[]⟩, .slice ph 0 ch, .string (bs b0), .string (bs b1), .slice pa na ca, .slice pk nk ck, .string (bs bt)] ∧ TrX w2 (fun b => b < w2.heap.size) bodyT [.string (bs b0), .string (bs b1), .slice pa na ca, .slice pk nk ck, .string (bs bt)] ∧ Below w'.heap.size w' w2 from HR0 w' hb))
 have HBD := hI hbd
 clear hg hE hbd HR0 hx HC
 go_enter Tryz.func10, Tryz.ntmps10
 go_wp2_with fail
 refine (HBD.out _).mono ?_
 rintro e w1 ⟨rfl, hb1⟩
 have n1 := Blk.new w1 46 #[.string ⟨#[97]⟩, .string ⟨#[116]⟩, .string ⟨#[109]⟩, .string ⟨#[]⟩, .string ⟨#[]⟩, .slice none 0 0, .string ⟨#[117]⟩, .string ⟨#[98]⟩, .slice none 0 0, .slice none 0 0, .string ⟨#[]⟩]
 obtain ⟨wa, hwa⟩ : ∃ wa, w1.alloc (.cells #[.string ⟨#[97]⟩, .string ⟨#[116]⟩, .string ⟨#[109]⟩, .string ⟨#[]⟩, .string ⟨#[]⟩, .slice none 0 0, .string ⟨#[117]⟩, .string ⟨#[98]⟩, .slice none 0 0, .slice none 0 0, .string ⟨#[]⟩] 46) = wa := ⟨_, rfl⟩
 have hba := below_alloc1 w1 (.cells #[.string ⟨#[97]⟩, .string ⟨#[116]⟩, .string ⟨#[109]⟩, .string ⟨#[]⟩, .string ⟨#[]⟩, .slice none 0 0, .string ⟨#[117]⟩, .string ⟨#[98]⟩, .slice none 0 0, .slice none 0 0, .string ⟨#[]⟩] 46)
 have z0 := (n1.cell 0).trans rfl; have z1 := (n1.cell 1).trans rfl; have z2 := (n1.cell 2).trans rfl; have z3 := (n1.cell 3).trans rfl; have z4 := (n1.cell 4).trans rfl; have z5 := (n1.cell 5).trans rfl; have z6 := (n1.cell 6).trans rfl; have z7 := (n1.cell 7).trans rfl; have z8 := (n1.cell 8).trans rfl; have z9 := (n1.cell 9).trans rfl; have z10 := (n1.cell 10).trans rfl
 have HN := hI (show Blk wa w1.heap.size 46 #[.string ⟨#[97]⟩, .string ⟨#[116]⟩, .string ⟨#[109]⟩, .string ⟨#[]⟩, .string ⟨#[]⟩, .slice none 0 0, .string ⟨#[117]⟩, .string ⟨#[98]⟩, .slice none 0 0, .slice none 0 0, .string ⟨#[]⟩] by rw [← hwa]; exact n1)
 have HBA := hI (hb1.trans ((hwa ▸ hba : Below w1.heap.size w1 wa).mono hb1.size))
 have HWA := hI hwa
 clear hb1 n1 hba hwa
 go_wp2_with fail
 rw [HWA.out]
 refine (HW.out _ HBA.out).mono ?_
 rintro e w2 ⟨rfl, hb2⟩
 have HB2 := hI (HBA.out.trans (hb2.mono HBA.out.size))
 have HN2 := hI (HN.out.below hb2 HN.out.lt)
 clear hb2 z0 z1 z2 z3 z4 z5 z6 z7 z8 z9 z10
 go_wp2_with fail
 refine (HR.out _ HB2.out).mono ?_
 rintro e w3 ⟨b0, b1, bt, pa, na, ca, pk, nk, ck, ph, ch, rfl, hc3, _, hb3⟩
 have hn3 := (HN2.out.below hb3 HN2.out.lt).below (below_alloc1 w3 (.cells #[.string ⟨#[97]⟩, .string ⟨#[116]⟩, .string ⟨#[109]⟩, .string ⟨#[]⟩, .string ⟨#[]⟩, .slice ph 0 ch, .string (bs b0), .string (bs b1), .slice pa na ca, .slice pk nk ck, .string (bs bt)] 46)) (HN2.out.below hb3 HN2.out.lt).lt
 have n3 := Blk.new w3 46 #[.string ⟨#[97]⟩, .string ⟨#[116]⟩, .string ⟨#[109]⟩, .string ⟨#[]⟩, .string ⟨#[]⟩, .slice ph 0 ch, .string (bs b0), .string (bs b1), .slice pa na ca, .slice pk nk ck, .string (bs bt)]
 have HB3 := hI ((HB2.out.trans (hb3.mono HB2.out.size)).trans ((below_alloc1 w3 (.cells #[.string ⟨#[97]⟩, .string ⟨#[116]⟩, .string ⟨#[109]⟩, .string ⟨#[]⟩, .string ⟨#[]⟩, .slice ph 0 ch, .string (bs b0), .string (bs b1), .slice pa na ca, .slice pk nk ck, .string (bs bt)] 46)).mono (by have := HB2.out.size; have := hb3.size; omega)))
 have HC3 := hI (hc3.below (below_alloc1 w3 (.cells #[.string ⟨#[97]⟩, .string ⟨#[116]⟩, .string ⟨#[109]⟩, .string ⟨#[]⟩, .string ⟨#[]⟩, .slice ph 0 ch, .string (bs b0), .string (bs b1), .slice pa na ca, .slice pk nk ck, .string (bs bt)] 46)))
 have z0 := (n3.cell 0).trans rfl; have z1 := (n3.cell 1).trans rfl; have z2 := (n3.cell 2).trans rfl; have z3 := (n3.cell 3).trans rfl; have z4 := (n3.cell 4).trans rfl; have z5 := (n3.cell 5).trans rfl; have z6 := (n3.cell 6).trans rfl; have z7 := (n3.cell 7).trans rfl; have z8 := (n3.cell 8).trans rfl; have z9 := (n3.cell 9).trans rfl; have z10 := (n3.cell 10).trans rfl
 have y0 := (hn3.cell 0).trans rfl; have y1 := (hn3.cell 1).trans rfl; have y2 := (hn3.cell 2).trans rfl; have y3 := (hn3.cell 3).trans rfl; have y4 := (hn3.cell 4).trans rfl; have y5 := (hn3.cell 5).trans rfl; have y6 := (hn3.cell 6).trans rfl; have y7 := (hn3.cell 7).trans rfl; have y8 := (hn3.cell 8).trans rfl; have y9 := (hn3.cell 9).trans rfl; have y10 := (hn3.cell 10).trans rfl
 have HN3 := hI n3
 clear hc3 hb3 hn3 n3
 go_wp2_with fail
 refine (HSM.out _ _ HC3.out).mono ?_
 rw [Env.eqb_refl]
 rintro e w4 ⟨rfl, hb4⟩
 have n4 := HN3.out.below hb4 HN3.out.lt
 have HB4 := hI (HB3.out.trans (hb4.mono HB3.out.size))
 have q3 := (n4.cell 3).trans rfl
 clear z0 z1 z2 z3 z4 z5 z6 z7 z8 z9 z10 y0 y1 y2 y3 y4 y5 y6 y7 y8 y9 y10 hb4 n4
 go_wp2_with fail
 go_ret
 exact ⟨rfl, HB4.out⟩
theorem backs_any (E : Nat → Addr) (t0 t1 t2 t3 t4 id : List UInt8) (qs : List (List (List UInt8))) (pv : Value) (w : World) (hg : LibG w) (hE : Errs w E) (hq : PqL w pv qs) :
  Calls Tryz.prog 5 #[.agg #[.string (bs t0), .string (bs t1), .string (bs t2), .string (bs t3), .string (bs t4), pv], .string (bs id)] w fun e w' => e = .returned (.bool true) ∧ Below w.heap.size w w' := by
 have hba := below_alloc1 w (.cells #[.string (bs t0), .string (bs t1), .string (bs t2), .string (bs t3), .string (bs t4), pv] 38)
 have hn := Blk.new w 38 #[.string (bs t0), .string (bs t1), .string (bs t2), .string (bs t3), .string (bs t4), pv]
 have HPV := hq
 obtain ⟨p, cap, rfl, _⟩ := HPV
 obtain ⟨wa, hwa⟩ : ∃ wa, w.alloc (.cells #[.string (bs t0), .string (bs t1), .string (bs t2), .string (bs t3), .string (bs t4), .slice p qs.length cap] 38) = wa := ⟨_, rfl⟩
 rw [hwa] at hba hn
 have HBA := hI hba
 have HN := hI hn
 have HWA := hI hwa
 have HAL := hI (alive25_any E wa (hg.below hba) (hE.below hba))
 have HBG := hI (fun w' (hb : Below w.heap.size w w') => pbig_any t0 t1 t2 t3 t4 qs (.slice p qs.length cap) w' (hq.keep hb))
 have HPE := hI (fun h w' (hb : Below w.heap.size w w') => penv_any t0 t1 t2 t3 t4 qs h (.slice p qs.length cap) w' (hq.keep hb))
 have HG := hI (fun w' (hb : Below w.heap.size w w') => hg.below hb)
 have HER := hI (fun w' (hb : Below w.heap.size w w') => hE.below hb)
 clear hg hE hq hba hn hwa
 obtain ⟨n, hnq⟩ : ∃ n, qs.length = n := ⟨_, rfl⟩
 rw [hnq] at HN HWA HBG HPE ⊢
 have HQ := hI hnq
 clear hnq
 go_enter Tryz.func5, Tryz.ntmps5
 go_wp2_with fail
 rw [HWA.out]
 refine HAL.out.mono ?_
 rintro e w1 ⟨rfl, hb1⟩
 have HB1 := hI (HBA.out.trans (hb1.mono HBA.out.size))
 have hn1 := HN.out.below hb1 HN.out.lt
 have HN1 := hI hn1
 have p0 := (hn1.cell 0).trans rfl; have p1 := (hn1.cell 1).trans rfl; have p2 := (hn1.cell 2).trans rfl; have p3 := (hn1.cell 3).trans rfl; have p4 := (hn1.cell 4).trans rfl; have p5 := (hn1.cell 5).trans rfl
 clear hb1 hn1 HAL HWA
 go_wp2_with fail
 refine (HBG.out _ HB1.out).mono ?_
 rintro e w2 ⟨rfl, hb2⟩
 have HB2 := hI (HB1.out.trans (hb2.mono HB1.out.size))
 have hn2 := HN1.out.below hb2 HN1.out.lt
 clear p0 p1 p2 p3 p4 p5 hb2 HBG
 cases hB : bigP [t0, t1, t2, t3, t4] qs
 rotate_left 1
 ·clear hB hn2
  go_wp2_with fail
  go_ret
  exact ⟨rfl, HB2.out⟩
 have hql : n ≤ 1000 := by
  have hh := HQ.out
  unfold bigP at hB
  simp only [Bool.or_eq_false_iff, decide_eq_false_iff_not] at hB
  omega
 have htl : t0.length ≤ 300 ∧ t1.length ≤ 300 ∧ t2.length ≤ 300 ∧ t3.length ≤ 300 ∧ t4.length ≤ 300 := by
  unfold bigP at hB
  simp only [Bool.or_eq_false_iff, decide_eq_false_iff_not, List.any_cons, txBig] at hB
  omega
 have HTL := hI htl
 have HPE2 := hI (HPE.out hql)
 clear hB hql htl HPE
 have hsz : decide ((200 : Int) < (id.length : Int)) = decide (200 < id.length) := decide_eq_decide.2 (by omega)
 by_cases hid : 200 < id.length
 ·rw [decide_eq_true hid] at hsz
  clear hn2 hid
  go_wp2_with fail
  go_ret
  exact ⟨rfl, HB2.out⟩
 rw [decide_eq_false hid] at hsz
 have HID := hI (show id.length ≤ 200 by omega)
 have p0 := (hn2.cell 0).trans rfl; have p1 := (hn2.cell 1).trans rfl; have p2 := (hn2.cell 2).trans rfl; have p3 := (hn2.cell 3).trans rfl; have p4 := (hn2.cell 4).trans rfl; have p5 := (hn2.cell 5).trans rfl
 clear hn2 hid
 go_wp2_with fail
 refine (HPE2.out _ HB2.out).mono ?_
 rintro e w3 ⟨cs, rfl, hc3, hb3⟩
 obtain ⟨ph, ch, cssH, b0, b1, bt, pa, na, ca, pk, nk, ck, hcs, _⟩ := hc3
 generalize (partsE t0 t1 t2 t3 t4 qs).hds.length = nh at hcs
 replace hcs : cs = #[.string (bs t0), .string (bs t1), .string (bs t2), .string (bs t3), .string (bs t4), .slice ph nh ch, .string (bs b0), .string (bs b1), .slice pa na ca, .slice pk nk ck, .string (bs bt)] := hcs
 subst hcs
 have HB3 := hI (HB2.out.trans (hb3.mono HB2.out.size))
 have hba5 := below_alloc1 w3 (.cells #[.string (bs t0), .string (bs t1), .string (bs t2), .string (bs t3), .string (bs t4), .slice ph nh ch, .string (bs b0), .string (bs b1), .slice pa na ca, .slice pk nk ck, .string (bs bt)] 46)
 have n5 := Blk.new w3 46 #[.string (bs t0), .string (bs t1), .string (bs t2), .string (bs t3), .string (bs t4), .slice ph nh ch, .string (bs b0), .string (bs b1), .slice pa na ca, .slice pk nk ck, .string (bs bt)]
 obtain ⟨w5, hw5⟩ : ∃ w5, w3.alloc (.cells #[.string (bs t0), .string (bs t1), .string (bs t2), .string (bs t3), .string (bs t4), .slice ph nh ch, .string (bs b0), .string (bs b1), .slice pa na ca, .slice pk nk ck, .string (bs bt)] 46) = w5 := ⟨_, rfl⟩
 rw [hw5] at hba5 n5
 have HW5 := hI hw5
 have HN5 := hI n5
 have HB5 := hI (HB3.out.trans (hba5.mono HB3.out.size))
 have H35 := hI hba5
 clear p0 p1 p2 p3 p4 p5 hb3 hba5 n5 hw5 HPE2 hsz
 have hbd := fun w => body_any w
 unfold bodyV at hbd
 have hrp1 := fun w => reply_any [111, 110, 101] id t0 t1 t2 t3 t4 b0 b1 bt ph pa pk nh ch na ca nk ck w
 have hrp2 := fun w => reply_any [116, 119, 111] t2 [111, 110, 101] t3 id t1 t2 [117] [98] [] none none none 0 0 0 0 0 0 w
 unfold bodyV at hrp1 hrp2
 have HBD := hI hbd
 have HRP1 := hI (fun w => (show Calls Tryz.prog 16 #[.agg #[.string (bs t0), .string (bs t1), .string (bs t2), .string (bs t3), .string (bs t4), .slice ph nh ch, .string (bs b0), .string (bs b1), .slice pa na ca, .slice pk nk ck, .string (bs bt)], .string ⟨#[111, 110, 101]⟩, .string (bs id), .agg #[.string ⟨#[117]⟩, .string ⟨#[98]⟩, .slice none 0 0, .slice none 0 0, .string ⟨#[]⟩]] w (Gives w (.agg #[.string ⟨#[111, 110, 101]⟩, .string (bs t3), .string (bs id), .string (bs t1), .string (bs t2), .slice none 0 0, .string ⟨#[117]⟩, .string ⟨#[98]⟩, .slice none 0 0, .slice none 0 0, .string ⟨#[]⟩])) from hrp1 w))
 have HRP2 := hI (fun w => (show Calls Tryz.prog 16 #[.agg #[.string ⟨#[111, 110, 101]⟩, .string (bs t3), .string (bs id), .string (bs t1), .string (bs t2), .slice none 0 0, .string ⟨#[117]⟩, .string ⟨#[98]⟩, .slice none 0 0, .slice none 0 0, .string ⟨#[]⟩], .string ⟨#[116, 119, 111]⟩, .string (bs t2), .agg #[.string ⟨#[117]⟩, .string ⟨#[98]⟩, .slice none 0 0, .slice none 0 0, .string ⟨#[]⟩]] w (Gives w (.agg #[.string ⟨#[116, 119, 111]⟩, .string (bs t1), .string (bs t2), .string (bs t3), .string (bs id), .slice none 0 0, .string ⟨#[117]⟩, .string ⟨#[98]⟩, .slice none 0 0, .slice none 0 0, .string ⟨#[]⟩])) from hrp2 w))
 clear hbd hrp1 hrp2
 go_wp2_with fail
 rw [HW5.out]
 clear HW5
 refine wp_phi_tail (List.take 5 _) (List.drop 5 _) (lJ 5 _).symm (fun w' => (Blk w' w3.heap.size 46 #[.string (bs t0), .string (bs t1), .string (bs t2), .string (bs t3), .string (bs t4), .slice ph nh ch, .string (bs b0), .string (bs b1), .slice pa na ca, .slice pk nk ck, .string (bs bt)]) ∧ Below w5.heap.size w5 w') [(2, PVal (.agg #[.string ⟨#[117]⟩, .string ⟨#[98]⟩, .slice none 0 0, .slice none 0 0, .string ⟨#[]⟩])), (3, PVal (.agg #[.string ⟨#[111, 110, 101]⟩, .string (bs t3), .string (bs id), .string (bs t1), .string (bs t2), .slice none 0 0, .string ⟨#[117]⟩, .string ⟨#[98]⟩, .slice none 0 0, .slice none 0 0, .string ⟨#[]⟩])), (4, PNew (w5.heap.size) 46 #[.string ⟨#[]⟩, .string ⟨#[]⟩, .string ⟨#[]⟩, .string ⟨#[]⟩, .string ⟨#[]⟩, .slice none 0 0, .string ⟨#[]⟩, .string ⟨#[]⟩, .slice none 0 0, .slice none 0 0, .string ⟨#[]⟩])] [] (by kernel_rfl) (by kernel_rfl) ?_ ?_ ⟨HN5.out, ((Below.refl _ w5)).drew⟩ ?_
 ·rintro w1' w2' ⟨f1, hIB⟩ hb
  exact ⟨(by first | exact f1.below hb | exact f1.keep (Below.keeps hb) | exact Below.keeps hb _ _ f1 | exact Blk.below f1 hb (Blk.lt f1)), hIB.trans (hb.mono hIB.size)⟩
 ·simp only [lI, lG, or_false, forall_eq_or_imp, forall_eq]
  exact ⟨fun _ _ _ _ h' h => PVal_stays _ _ _ _ h' h, fun _ _ _ _ h' h => PVal_stays _ _ _ _ h' h, fun _ _ _ _ h' h => PNew_stays h' h⟩
 simp only [lK, List.take_zero, lL, List.drop_zero]
 repeat (first | (refine phi_skipK rfl (fun K hK => ?_); simp only [Act.put, lA, lB, lC, lD, lE]; apply hK; clear hK K) | (refine phi_pureK rfl rfl (fun K hK => ?_); apply xI; constructor; (focus (rintro w' ⟨f1, hIB⟩; have z0 := (f1.cell 0).trans rfl; have z1 := (f1.cell 1).trans rfl; have z2 := (f1.cell 2).trans rfl; have z3 := (f1.cell 3).trans rfl; have z4 := (f1.cell 4).trans rfl; have z5 := (f1.cell 5).trans rfl; have z6 := (f1.cell 6).trans rfl; have z7 := (f1.cell 7).trans rfl; have z8 := (f1.cell 8).trans rfl; have z9 := (f1.cell 9).trans rfl; have z10 := (f1.cell 10).trans rfl; clear f1 hIB; first | (go_simp; done) | (go_simp; (try go_bits); (try go_simp); rfl) | go_simp)); simp only [Act.put, lA, lB, lC, lD, lE]; apply hK; clear hK K))
 refine phi_partK (PVal (.agg #[.string ⟨#[117]⟩, .string ⟨#[98]⟩, .slice none 0 0, .slice none 0 0, .string ⟨#[]⟩])) rfl rfl ⟨_, rfl⟩ ?_ (fun K hK v hv => ?_)
 ·rintro w' ⟨f1, hIB⟩ hf
  unfold gives
  clear hf
  go_simp
  refine (HBD.out _).mono ?_
  rintro e w'' ⟨rfl, hb⟩
  exact ⟨_, rfl, rfl, trivial, hb⟩
 obtain rfl : v = _ := hv
 simp only [Act.put, lA, lB, lC, lD, lE]
 apply hK
 clear hK K
 repeat (first | (refine phi_skipK rfl (fun K hK => ?_); simp only [Act.put, lA, lB, lC, lD, lE]; apply hK; clear hK K) | (refine phi_pureK rfl rfl (fun K hK => ?_); apply xI; constructor; (focus (rintro w' ⟨f1, hIB⟩; have z0 := (f1.cell 0).trans rfl; have z1 := (f1.cell 1).trans rfl; have z2 := (f1.cell 2).trans rfl; have z3 := (f1.cell 3).trans rfl; have z4 := (f1.cell 4).trans rfl; have z5 := (f1.cell 5).trans rfl; have z6 := (f1.cell 6).trans rfl; have z7 := (f1.cell 7).trans rfl; have z8 := (f1.cell 8).trans rfl; have z9 := (f1.cell 9).trans rfl; have z10 := (f1.cell 10).trans rfl; clear f1 hIB; first | (go_simp; done) | (go_simp; (try go_bits); (try go_simp); rfl) | go_simp)); simp only [Act.put, lA, lB, lC, lD, lE]; apply hK; clear hK K))
 refine phi_partK (PVal (.agg #[.string ⟨#[111, 110, 101]⟩, .string (bs t3), .string (bs id), .string (bs t1), .string (bs t2), .slice none 0 0, .string ⟨#[117]⟩, .string ⟨#[98]⟩, .slice none 0 0, .slice none 0 0, .string ⟨#[]⟩])) rfl rfl ⟨_, rfl⟩ ?_ (fun K hK v hv => ?_)
 ·rintro w' ⟨f1, hIB⟩ hf
  unfold gives
  clear hf
  go_simp
  refine (HRP1.out _).mono ?_
  rintro e w'' ⟨rfl, hb⟩
  exact ⟨_, rfl, rfl, trivial, hb⟩
 obtain rfl : v = _ := hv
 simp only [Act.put, lA, lB, lC, lD, lE]
 apply hK
 clear hK K
 repeat (first | (refine phi_skipK rfl (fun K hK => ?_); simp only [Act.put, lA, lB, lC, lD, lE]; apply hK; clear hK K) | (refine phi_pureK rfl rfl (fun K hK => ?_); apply xI; constructor; (focus (rintro w' ⟨f1, hIB⟩; have z0 := (f1.cell 0).trans rfl; have z1 := (f1.cell 1).trans rfl; have z2 := (f1.cell 2).trans rfl; have z3 := (f1.cell 3).trans rfl; have z4 := (f1.cell 4).trans rfl; have z5 := (f1.cell 5).trans rfl; have z6 := (f1.cell 6).trans rfl; have z7 := (f1.cell 7).trans rfl; have z8 := (f1.cell 8).trans rfl; have z9 := (f1.cell 9).trans rfl; have z10 := (f1.cell 10).trans rfl; clear f1 hIB; first | (go_simp; done) | (go_simp; (try go_bits); (try go_simp); rfl) | go_simp)); simp only [Act.put, lA, lB, lC, lD, lE]; apply hK; clear hK K))
 refine phi_partK (PNew (w5.heap.size) 46 #[.string ⟨#[]⟩, .string ⟨#[]⟩, .string ⟨#[]⟩, .string ⟨#[]⟩, .string ⟨#[]⟩, .slice none 0 0, .string ⟨#[]⟩, .string ⟨#[]⟩, .slice none 0 0, .slice none 0 0, .string ⟨#[]⟩]) rfl rfl ⟨_, 0, rfl⟩ ?_ (fun K hK v hv => ?_)
 ·rintro w' ⟨f1, hIB⟩ hf
  have HGS := hI hIB.size
  clear hf f1 hIB
  unfold gives
  go_simp
  refine ⟨⟨_, rfl⟩, fun g hg => ?_, below_alloc1 _ _⟩
  obtain rfl : w'.heap.size = g := by simpa using hg
  exact ⟨HGS.out, Blk.new _ _ _⟩
 obtain ⟨g_4, rfl⟩ := hv
 simp only [Act.put, lA, lB, lC, lD, lE]
 apply hK
 clear hK K
 repeat (first | (refine phi_skipK rfl (fun K hK => ?_); simp only [Act.put, lA, lB, lC, lD, lE]; apply hK; clear hK K) | (refine phi_pureK rfl rfl (fun K hK => ?_); apply xI; constructor; (focus (rintro w' ⟨f1, hIB⟩; have z0 := (f1.cell 0).trans rfl; have z1 := (f1.cell 1).trans rfl; have z2 := (f1.cell 2).trans rfl; have z3 := (f1.cell 3).trans rfl; have z4 := (f1.cell 4).trans rfl; have z5 := (f1.cell 5).trans rfl; have z6 := (f1.cell 6).trans rfl; have z7 := (f1.cell 7).trans rfl; have z8 := (f1.cell 8).trans rfl; have z9 := (f1.cell 9).trans rfl; have z10 := (f1.cell 10).trans rfl; clear f1 hIB; first | (go_simp; done) | (go_simp; (try go_bits); (try go_simp); rfl) | go_simp)); simp only [Act.put, lA, lB, lC, lD, lE]; apply hK; clear hK K))
 refine phi_done ?_
 rintro w6 ⟨f1, hb6⟩ hk9
 have hb_4 := hk9 (4, fun w1 => (PNew (w5.heap.size) 46 #[.string ⟨#[]⟩, .string ⟨#[]⟩, .string ⟨#[]⟩, .string ⟨#[]⟩, .string ⟨#[]⟩, .slice none 0 0, .string ⟨#[]⟩, .string ⟨#[]⟩, .slice none 0 0, .slice none 0 0, .string ⟨#[]⟩]).fact w1 (.pointer (some ⟨g_4, 0, none⟩))) (by simp) g_4 rfl
 clear hk9
 obtain ⟨hg6, hk6⟩ := hb_4
 generalize g_4 = g6 at *
 have hlt5 := HN5.out.lt
 refine wpList_store (.tmp 6) (.tmp 25) 46 rfl rfl g6 0 _ _ #[.string ⟨#[111, 110, 101]⟩, .string (bs t3), .string (bs id), .string (bs t1), .string (bs t2), .slice none 0 0, .string ⟨#[117]⟩, .string ⟨#[98]⟩, .slice none 0 0, .slice none 0 0, .string ⟨#[]⟩] rfl rfl hk6 (by kernel_rfl) (by simp [Value.oneCell']) (by simp) ?_
 intro w7 hb7 ho7
 rw [putCells_all #[.string ⟨#[]⟩, .string ⟨#[]⟩, .string ⟨#[]⟩, .string ⟨#[]⟩, .string ⟨#[]⟩, .slice none 0 0, .string ⟨#[]⟩, .string ⟨#[]⟩, .slice none 0 0, .slice none 0 0, .string ⟨#[]⟩] #[.string ⟨#[111, 110, 101]⟩, .string (bs t3), .string (bs id), .string (bs t1), .string (bs t2), .slice none 0 0, .string ⟨#[117]⟩, .string ⟨#[98]⟩, .slice none 0 0, .slice none 0 0, .string ⟨#[]⟩] rfl] at hb7
 have HN7 := hI (ho7.blk f1 (by omega))
 have HM7 := hI hb7
 have HB7 := hI ((HB5.out.trans (hb6.mono HB5.out.size)).trans (ho7.below (by have := HB5.out.size; omega)))
 have HZ7 := hI (show w3.heap.size < g6 ∧ g6 < w7.heap.size from ⟨by omega, hb7.lt⟩)
 clear f1 hb6 hk6 hg6 hlt5 hb7 ho7 HN5 HRP1
 go_wp2_with fail
 refine wp_phi_tail (List.take 6 _) (List.drop 6 _) (lJ 6 _).symm (fun w' => (Blk w' w3.heap.size 46 #[.string (bs t0), .string (bs t1), .string (bs t2), .string (bs t3), .string (bs t4), .slice ph nh ch, .string (bs b0), .string (bs b1), .slice pa na ca, .slice pk nk ck, .string (bs bt)]) ∧ (Blk w' g6 46 #[.string ⟨#[111, 110, 101]⟩, .string (bs t3), .string (bs id), .string (bs t1), .string (bs t2), .slice none 0 0, .string ⟨#[117]⟩, .string ⟨#[98]⟩, .slice none 0 0, .slice none 0 0, .string ⟨#[]⟩]) ∧ Below w7.heap.size w7 w') [(3, PVal (.agg #[.string ⟨#[117]⟩, .string ⟨#[98]⟩, .slice none 0 0, .slice none 0 0, .string ⟨#[]⟩])), (4, PVal (.agg #[.string ⟨#[116, 119, 111]⟩, .string (bs t1), .string (bs t2), .string (bs t3), .string (bs id), .slice none 0 0, .string ⟨#[117]⟩, .string ⟨#[98]⟩, .slice none 0 0, .slice none 0 0, .string ⟨#[]⟩])), (5, PNew (w7.heap.size) 46 #[.string ⟨#[]⟩, .string ⟨#[]⟩, .string ⟨#[]⟩, .string ⟨#[]⟩, .string ⟨#[]⟩, .slice none 0 0, .string ⟨#[]⟩, .string ⟨#[]⟩, .slice none 0 0, .slice none 0 0, .string ⟨#[]⟩])] [] (by kernel_rfl) (by kernel_rfl) ?_ ?_ ⟨HN7.out, HM7.out, ((Below.refl _ w7)).drew⟩ ?_
 ·rintro w1' w2' ⟨f1, f2, hIB⟩ hb
  exact ⟨(by first | exact f1.below hb | exact f1.keep (Below.keeps hb) | exact Below.keeps hb _ _ f1 | exact Blk.below f1 hb (Blk.lt f1)), (by first | exact f2.below hb | exact f2.keep (Below.keeps hb) | exact Below.keeps hb _ _ f2 | exact Blk.below f2 hb (Blk.lt f2)), hIB.trans (hb.mono hIB.size)⟩
 ·simp only [lI, lG, or_false, forall_eq_or_imp, forall_eq]
  exact ⟨fun _ _ _ _ h' h => PVal_stays _ _ _ _ h' h, fun _ _ _ _ h' h => PVal_stays _ _ _ _ h' h, fun _ _ _ _ h' h => PNew_stays h' h⟩
 simp only [lK, List.take_zero, lL, List.drop_zero]
 repeat (first | (refine phi_skipK rfl (fun K hK => ?_); simp only [Act.put, lA, lB, lC, lD, lE]; apply hK; clear hK K) | (refine phi_pureK rfl rfl (fun K hK => ?_); apply xI; constructor; (focus (rintro w' ⟨f1, f2, hIB⟩; have z0 := (f1.cell 0).trans rfl; have z1 := (f1.cell 1).trans rfl; have z2 := (f1.cell 2).trans rfl; have z3 := (f1.cell 3).trans rfl; have z4 := (f1.cell 4).trans rfl; have z5 := (f1.cell 5).trans rfl; have z6 := (f1.cell 6).trans rfl; have z7 := (f1.cell 7).trans rfl; have z8 := (f1.cell 8).trans rfl; have z9 := (f1.cell 9).trans rfl; have z10 := (f1.cell 10).trans rfl; have y0 := (f2.cell 0).trans rfl; have y1 := (f2.cell 1).trans rfl; have y2 := (f2.cell 2).trans rfl; have y3 := (f2.cell 3).trans rfl; have y4 := (f2.cell 4).trans rfl; have y5 := (f2.cell 5).trans rfl; have y6 := (f2.cell 6).trans rfl; have y7 := (f2.cell 7).trans rfl; have y8 := (f2.cell 8).trans rfl; have y9 := (f2.cell 9).trans rfl; have y10 := (f2.cell 10).trans rfl; clear f1 f2 hIB; first | (go_simp; done) | (go_simp; (try go_bits); (try go_simp); rfl) | go_simp)); simp only [Act.put, lA, lB, lC, lD, lE]; apply hK; clear hK K))
 refine phi_partK (PVal (.agg #[.string ⟨#[117]⟩, .string ⟨#[98]⟩, .slice none 0 0, .slice none 0 0, .string ⟨#[]⟩])) rfl rfl ⟨_, rfl⟩ ?_ (fun K hK v hv => ?_)
 ·rintro w' ⟨f1, f2, hIB⟩ hf
  unfold gives
  clear hf
  go_simp
  refine (HBD.out _).mono ?_
  rintro e w'' ⟨rfl, hb⟩
  exact ⟨_, rfl, rfl, trivial, hb⟩
 obtain rfl : v = _ := hv
 simp only [Act.put, lA, lB, lC, lD, lE]
 apply hK
 clear hK K
 repeat (first | (refine phi_skipK rfl (fun K hK => ?_); simp only [Act.put, lA, lB, lC, lD, lE]; apply hK; clear hK K) | (refine phi_pureK rfl rfl (fun K hK => ?_); apply xI; constructor; (focus (rintro w' ⟨f1, f2, hIB⟩; have z0 := (f1.cell 0).trans rfl; have z1 := (f1.cell 1).trans rfl; have z2 := (f1.cell 2).trans rfl; have z3 := (f1.cell 3).trans rfl; have z4 := (f1.cell 4).trans rfl; have z5 := (f1.cell 5).trans rfl; have z6 := (f1.cell 6).trans rfl; have z7 := (f1.cell 7).trans rfl; have z8 := (f1.cell 8).trans rfl; have z9 := (f1.cell 9).trans rfl; have z10 := (f1.cell 10).trans rfl; have y0 := (f2.cell 0).trans rfl; have y1 := (f2.cell 1).trans rfl; have y2 := (f2.cell 2).trans rfl; have y3 := (f2.cell 3).trans rfl; have y4 := (f2.cell 4).trans rfl; have y5 := (f2.cell 5).trans rfl; have y6 := (f2.cell 6).trans rfl; have y7 := (f2.cell 7).trans rfl; have y8 := (f2.cell 8).trans rfl; have y9 := (f2.cell 9).trans rfl; have y10 := (f2.cell 10).trans rfl; clear f1 f2 hIB; first | (go_simp; done) | (go_simp; (try go_bits); (try go_simp); rfl) | go_simp)); simp only [Act.put, lA, lB, lC, lD, lE]; apply hK; clear hK K))
 refine phi_partK (PVal (.agg #[.string ⟨#[116, 119, 111]⟩, .string (bs t1), .string (bs t2), .string (bs t3), .string (bs id), .slice none 0 0, .string ⟨#[117]⟩, .string ⟨#[98]⟩, .slice none 0 0, .slice none 0 0, .string ⟨#[]⟩])) rfl rfl ⟨_, rfl⟩ ?_ (fun K hK v hv => ?_)
 ·rintro w' ⟨f1, f2, hIB⟩ hf
  unfold gives
  clear hf
  go_simp
  refine (HRP2.out _).mono ?_
  rintro e w'' ⟨rfl, hb⟩
  exact ⟨_, rfl, rfl, trivial, hb⟩
 obtain rfl : v = _ := hv
 simp only [Act.put, lA, lB, lC, lD, lE]
 apply hK
 clear hK K
 repeat (first | (refine phi_skipK rfl (fun K hK => ?_); simp only [Act.put, lA, lB, lC, lD, lE]; apply hK; clear hK K) | (refine phi_pureK rfl rfl (fun K hK => ?_); apply xI; constructor; (focus (rintro w' ⟨f1, f2, hIB⟩; have z0 := (f1.cell 0).trans rfl; have z1 := (f1.cell 1).trans rfl; have z2 := (f1.cell 2).trans rfl; have z3 := (f1.cell 3).trans rfl; have z4 := (f1.cell 4).trans rfl; have z5 := (f1.cell 5).trans rfl; have z6 := (f1.cell 6).trans rfl; have z7 := (f1.cell 7).trans rfl; have z8 := (f1.cell 8).trans rfl; have z9 := (f1.cell 9).trans rfl; have z10 := (f1.cell 10).trans rfl; have y0 := (f2.cell 0).trans rfl; have y1 := (f2.cell 1).trans rfl; have y2 := (f2.cell 2).trans rfl; have y3 := (f2.cell 3).trans rfl; have y4 := (f2.cell 4).trans rfl; have y5 := (f2.cell 5).trans rfl; have y6 := (f2.cell 6).trans rfl; have y7 := (f2.cell 7).trans rfl; have y8 := (f2.cell 8).trans rfl; have y9 := (f2.cell 9).trans rfl; have y10 := (f2.cell 10).trans rfl; clear f1 f2 hIB; first | (go_simp; done) | (go_simp; (try go_bits); (try go_simp); rfl) | go_simp)); simp only [Act.put, lA, lB, lC, lD, lE]; apply hK; clear hK K))
 refine phi_partK (PNew (w7.heap.size) 46 #[.string ⟨#[]⟩, .string ⟨#[]⟩, .string ⟨#[]⟩, .string ⟨#[]⟩, .string ⟨#[]⟩, .slice none 0 0, .string ⟨#[]⟩, .string ⟨#[]⟩, .slice none 0 0, .slice none 0 0, .string ⟨#[]⟩]) rfl rfl ⟨_, 0, rfl⟩ ?_ (fun K hK v hv => ?_)
 ·rintro w' ⟨f1, f2, hIB⟩ hf
  have HGS := hI hIB.size
  clear hf f1 f2 hIB
  unfold gives
  go_simp
  refine ⟨⟨_, rfl⟩, fun g hg => ?_, below_alloc1 _ _⟩
  obtain rfl : w'.heap.size = g := by simpa using hg
  exact ⟨HGS.out, Blk.new _ _ _⟩
 obtain ⟨g_5, rfl⟩ := hv
 simp only [Act.put, lA, lB, lC, lD, lE]
 apply hK
 clear hK K
 repeat (first | (refine phi_skipK rfl (fun K hK => ?_); simp only [Act.put, lA, lB, lC, lD, lE]; apply hK; clear hK K) | (refine phi_pureK rfl rfl (fun K hK => ?_); apply xI; constructor; (focus (rintro w' ⟨f1, f2, hIB⟩; have z0 := (f1.cell 0).trans rfl; have z1 := (f1.cell 1).trans rfl; have z2 := (f1.cell 2).trans rfl; have z3 := (f1.cell 3).trans rfl; have z4 := (f1.cell 4).trans rfl; have z5 := (f1.cell 5).trans rfl; have z6 := (f1.cell 6).trans rfl; have z7 := (f1.cell 7).trans rfl; have z8 := (f1.cell 8).trans rfl; have z9 := (f1.cell 9).trans rfl; have z10 := (f1.cell 10).trans rfl; have y0 := (f2.cell 0).trans rfl; have y1 := (f2.cell 1).trans rfl; have y2 := (f2.cell 2).trans rfl; have y3 := (f2.cell 3).trans rfl; have y4 := (f2.cell 4).trans rfl; have y5 := (f2.cell 5).trans rfl; have y6 := (f2.cell 6).trans rfl; have y7 := (f2.cell 7).trans rfl; have y8 := (f2.cell 8).trans rfl; have y9 := (f2.cell 9).trans rfl; have y10 := (f2.cell 10).trans rfl; clear f1 f2 hIB; first | (go_simp; done) | (go_simp; (try go_bits); (try go_simp); rfl) | go_simp)); simp only [Act.put, lA, lB, lC, lD, lE]; apply hK; clear hK K))
 refine phi_done ?_
 rintro w8 ⟨f1, f2, hb8⟩ hk9
 have hb_5 := hk9 (5, fun w1 => (PNew (w7.heap.size) 46 #[.string ⟨#[]⟩, .string ⟨#[]⟩, .string ⟨#[]⟩, .string ⟨#[]⟩, .string ⟨#[]⟩, .slice none 0 0, .string ⟨#[]⟩, .string ⟨#[]⟩, .slice none 0 0, .slice none 0 0, .string ⟨#[]⟩]).fact w1 (.pointer (some ⟨g_5, 0, none⟩))) (by simp) g_5 rfl
 clear hk9
 obtain ⟨hg8, hk8⟩ := hb_5
 generalize g_5 = g8 at *
 refine wpList_store (.tmp 7) (.tmp 30) 46 rfl rfl g8 0 _ _ #[.string ⟨#[116, 119, 111]⟩, .string (bs t1), .string (bs t2), .string (bs t3), .string (bs id), .slice none 0 0, .string ⟨#[117]⟩, .string ⟨#[98]⟩, .slice none 0 0, .slice none 0 0, .string ⟨#[]⟩] rfl rfl hk8 (by kernel_rfl) (by simp [Value.oneCell']) (by simp) ?_
 intro w9 hb9 ho9
 rw [putCells_all #[.string ⟨#[]⟩, .string ⟨#[]⟩, .string ⟨#[]⟩, .string ⟨#[]⟩, .string ⟨#[]⟩, .slice none 0 0, .string ⟨#[]⟩, .string ⟨#[]⟩, .slice none 0 0, .slice none 0 0, .string ⟨#[]⟩] #[.string ⟨#[116, 119, 111]⟩, .string (bs t1), .string (bs t2), .string (bs t3), .string (bs id), .slice none 0 0, .string ⟨#[117]⟩, .string ⟨#[98]⟩, .slice none 0 0, .slice none 0 0, .string ⟨#[]⟩] rfl] at hb9
 have hz7 := HZ7.out
 have n9 := ho9.blk f1 (by omega)
 have m9 := ho9.blk f2 (by omega)
 have HM9 := hI m9
 have HB9 := hI ((HB7.out.trans (hb8.mono HB7.out.size)).trans (ho9.below (by have := HB7.out.size; omega)))
 have z0 := (n9.cell 0).trans rfl; have z1 := (n9.cell 1).trans rfl; have z2 := (n9.cell 2).trans rfl; have z3 := (n9.cell 3).trans rfl; have z4 := (n9.cell 4).trans rfl
 have y0 := (m9.cell 0).trans rfl; have y1 := (m9.cell 1).trans rfl; have y2 := (m9.cell 2).trans rfl; have y3 := (m9.cell 3).trans rfl; have y4 := (m9.cell 4).trans rfl; have y5 := (m9.cell 5).trans rfl; have y6 := (m9.cell 6).trans rfl; have y7 := (m9.cell 7).trans rfl; have y8 := (m9.cell 8).trans rfl; have y9 := (m9.cell 9).trans rfl; have y10 := (m9.cell 10).trans rfl
 have k0 := (hb9.cell 0).trans rfl; have k1 := (hb9.cell 1).trans rfl; have k2 := (hb9.cell 2).trans rfl; have k3 := (hb9.cell 3).trans rfl; have k4 := (hb9.cell 4).trans rfl
 clear f1 f2 hb8 hk8 hg8 hb9 ho9 n9 m9 hz7 HN7 HM7 HRP2
 have hrep : Env.rep ⟨[111, 110, 101], t3, id, t1, t2, [], bodyT⟩ := by
  have h := HTL.out
  have h2 := HID.out
  exact ⟨by simp, h.2.2.2.1, (show id.length ≤ 300 by omega), h.2.1, h.2.2.1, rfl, rfl⟩
 have HREP := hI hrep
 have HAC := hI (fun w' => (show EnvC w' ⟨[111, 110, 101], t3, id, t1, t2, [], bodyT⟩ #[.string ⟨#[111, 110, 101]⟩, .string (bs t3), .string (bs id), .string (bs t1), .string (bs t2), .slice none 0 0, .string ⟨#[117]⟩, .string ⟨#[98]⟩, .slice none 0 0, .slice none 0 0, .string ⟨#[]⟩] from rep_envC w' [111, 110, 101] t3 id t1 t2))
 obtain ⟨o, ho⟩ : ∃ o, Env.formed ⟨[111, 110, 101], t3, id, t1, t2, [], bodyT⟩ = o := ⟨_, rfl⟩
 cases o with
 | none =>
  have HW := hI (fun w' (hb : Below w.heap.size w w') => rep_unwritten E ⟨[111, 110, 101], t3, id, t1, t2, [], bodyT⟩ #[.string ⟨#[111, 110, 101]⟩, .string (bs t3), .string (bs id), .string (bs t1), .string (bs t2), .slice none 0 0, .string ⟨#[117]⟩, .string ⟨#[98]⟩, .slice none 0 0, .slice none 0 0, .string ⟨#[]⟩] w' HREP.out ho (HG.out _ hb) (HER.out _ hb) (HAC.out w'))
  unfold errAt at HW
  have HRT := hI (fun w' (hb : Below w.heap.size w w') => sowrong_any E ⟨[111, 110, 101], t3, id, t1, t2, [], bodyT⟩ #[.string ⟨#[111, 110, 101]⟩, .string (bs t3), .string (bs id), .string (bs t1), .string (bs t2), .slice none 0 0, .string ⟨#[117]⟩, .string ⟨#[98]⟩, .slice none 0 0, .slice none 0 0, .string ⟨#[]⟩] w' (HG.out _ hb) (HER.out _ hb) HREP.out.small ho (HAC.out w'))
  clear hrep ho
  go_wp2_with fail
  refine (HW.out _ HB9.out).mono ?_
  rintro e w10 ⟨rfl, hb10⟩
  have HB10 := hI (HB9.out.trans (hb10.mono HB9.out.size))
  have m10 := HM9.out.below hb10 HM9.out.lt
  clear z0 z1 z2 z3 z4 y0 y1 y2 y3 y4 y5 y6 y7 y8 y9 y10 k0 k1 k2 k3 k4 hb10
  have y0 := (m10.cell 0).trans rfl; have y1 := (m10.cell 1).trans rfl; have y2 := (m10.cell 2).trans rfl; have y3 := (m10.cell 3).trans rfl; have y4 := (m10.cell 4).trans rfl; have y5 := (m10.cell 5).trans rfl; have y6 := (m10.cell 6).trans rfl; have y7 := (m10.cell 7).trans rfl; have y8 := (m10.cell 8).trans rfl; have y9 := (m10.cell 9).trans rfl; have y10 := (m10.cell 10).trans rfl
  clear m10
  go_wp2_with fail
  refine (HRT.out _ HB10.out).mono ?_
  rintro e w11 ⟨rfl, hb11⟩
  have HB11 := hI (HB10.out.trans (hb11.mono HB10.out.size))
  clear y0 y1 y2 y3 y4 y5 y6 y7 y8 y9 y10 hb11
  go_wp2_with fail
  go_ret
  exact ⟨rfl, HB11.out⟩
 | some x =>
  have HW := hI (fun w' (hb : Below w.heap.size w w') => rep_write E ⟨[111, 110, 101], t3, id, t1, t2, [], bodyT⟩ x #[.string ⟨#[111, 110, 101]⟩, .string (bs t3), .string (bs id), .string (bs t1), .string (bs t2), .slice none 0 0, .string ⟨#[117]⟩, .string ⟨#[98]⟩, .slice none 0 0, .slice none 0 0, .string ⟨#[]⟩] w' HREP.out ho (HG.out _ hb) (HER.out _ hb) (HAC.out w'))
  have HR0 := fun w' (hb : Below w.heap.size w w') => rep_read E ⟨[111, 110, 101], t3, id, t1, t2, [], bodyT⟩ x w' HREP.out ho (HG.out _ hb) (HER.out _ hb)
  generalize x.wrt = tx at *
  have HR := hI (fun w' hb => (show Calls Tryz.prog 21 #[.string (bs tx)] w' fun en w2 => ∃ (d0 d1 dt : List UInt8) (qa : Option Addr) (ma da : Nat) (qk : Option Addr) (mk dk : Nat) (qh : Option Addr) (dh : Nat), en = .returned (.tuple #[.agg #[.string ⟨#[111, 110, 101]⟩, .string (bs t3), .string (bs id), .string (bs t1), .string (bs t2), .slice qh 0 dh, .string (bs d0), .string (bs d1), .slice qa ma da, .slice qk mk dk, .string (bs dt)], .nilIface]) ∧ EnvC w2 ⟨[111, 110, 101], t3, id, t1, t2, [], bodyT⟩ #[.string ⟨#[111, 110, 101]⟩, .string (bs t3), .string (bs id), .string (bs t1), .string (bs t2), .slice qh 0 dh, .string (bs d0), .string (bs d1), .slice qa ma da, .slice qk mk dk, .string (bs dt)] ∧ TrX w2 (fun b => b < w2.heap.size) bodyT [.string (bs d0), .string (bs d1), .slice qa ma da, .slice qk mk dk, .string (bs dt)] ∧ Below w'.heap.size w' w2 from HR0 w' hb))
  clear HR0 hrep ho
  go_wp2_with fail
  refine (HW.out _ HB9.out).mono ?_
  rintro e w10 ⟨rfl, hb10⟩
  have HB10 := hI (HB9.out.trans (hb10.mono HB9.out.size))
  have HM10 := hI (HM9.out.below hb10 HM9.out.lt)
  clear z0 z1 z2 z3 z4 y0 y1 y2 y3 y4 y5 y6 y7 y8 y9 y10 k0 k1 k2 k3 k4 hb10
  go_wp2_with fail
  refine (HR.out _ HB10.out).mono ?_
  rintro e w11 ⟨d0, d1, dt, qa, ma, da, qk, mk, dk, qh, dh, rfl, hc11, ht11, hb11⟩
  have hba := below_alloc1 w11 (.cells #[.string ⟨#[111, 110, 101]⟩, .string (bs t3), .string (bs id), .string (bs t1), .string (bs t2), .slice qh 0 dh, .string (bs d0), .string (bs d1), .slice qa ma da, .slice qk mk dk, .string (bs dt)] 46)
  have m11 := HM10.out.below hb11 HM10.out.lt
  have n12 := Blk.new w11 46 #[.string ⟨#[111, 110, 101]⟩, .string (bs t3), .string (bs id), .string (bs t1), .string (bs t2), .slice qh 0 dh, .string (bs d0), .string (bs d1), .slice qa ma da, .slice qk mk dk, .string (bs dt)]
  have HB12 := hI ((HB10.out.trans (hb11.mono HB10.out.size)).trans (hba.mono (by have := HB10.out.size; have := hb11.size; omega)))
  have HM12 := hI (m11.below hba m11.lt)
  have HC12 := hI (hc11.below hba)
  have HT12 := hI (TrX.plain _ _ (ht11.below hba))
  obtain ⟨w12, hw12⟩ : ∃ w12, w11.alloc (.cells #[.string ⟨#[111, 110, 101]⟩, .string (bs t3), .string (bs id), .string (bs t1), .string (bs t2), .slice qh 0 dh, .string (bs d0), .string (bs d1), .slice qa ma da, .slice qk mk dk, .string (bs dt)] 46) = w12 := ⟨_, rfl⟩
  rw [hw12] at n12 HB12 HM12 HC12 HT12
  have HN12 := hI n12
  have HW12 := hI hw12
  have HSM := hI (fun w' (h : EnvC w' ⟨[111, 110, 101], t3, id, t1, t2, [], bodyT⟩ #[.string ⟨#[111, 110, 101]⟩, .string (bs t3), .string (bs id), .string (bs t1), .string (bs t2), .slice qh 0 dh, .string (bs d0), .string (bs d1), .slice qa ma da, .slice qk mk dk, .string (bs dt)]) => sosame_any ⟨[111, 110, 101], t3, id, t1, t2, [], bodyT⟩ ⟨[111, 110, 101], t3, id, t1, t2, [], bodyT⟩ #[.string ⟨#[111, 110, 101]⟩, .string (bs t3), .string (bs id), .string (bs t1), .string (bs t2), .slice qh 0 dh, .string (bs d0), .string (bs d1), .slice qa ma da, .slice qk mk dk, .string (bs dt)] #[.string ⟨#[111, 110, 101]⟩, .string (bs t3), .string (bs id), .string (bs t1), .string (bs t2), .slice none 0 0, .string ⟨#[117]⟩, .string ⟨#[98]⟩, .slice none 0 0, .slice none 0 0, .string ⟨#[]⟩] w' h (HAC.out w') ⟨trivial, HREP.out.small.bok⟩ ⟨trivial, HREP.out.small.bok⟩)
  rw [Env.eqb_refl] at HSM
  have HSS := hI (fun w' (h : TrC w' (fun _ => True) bodyT [.string (bs d0), .string (bs d1), .slice qa ma da, .slice qk mk dk, .string (bs dt)]) => (show Calls Tryz.prog 22 #[.agg #[.string (bs d0), .string (bs d1), .slice qa ma da, .slice qk mk dk, .string (bs dt)], .agg #[.string ⟨#[117]⟩, .string ⟨#[98]⟩, .slice none 0 0, .slice none 0 0, .string ⟨#[]⟩]] w' (Gives w' (.bool (bodyT.eqb bodyT))) from same_any _ bodyT bodyT (fun _ => True) (fun _ => True) [.string (bs d0), .string (bs d1), .slice qa ma da, .slice qk mk dk, .string (bs dt)] [.string ⟨#[117]⟩, .string ⟨#[98]⟩, .slice none 0 0, .slice none 0 0, .string ⟨#[]⟩] w' (Nat.le_refl _) HREP.out.small.bok HREP.out.small.bok h (TrX.plain _ _ (body_trx w' (fun _ => True)))))
  rw [Tr.eqb_refl] at HSS
  clear hc11 ht11 hb11 hba m11 n12 hw12 HW HR
  go_wp2_with fail
  rw [HW12.out]
  clear HW12
  refine wp_phi (fun w' => (Blk w' w11.heap.size 46 #[.string ⟨#[111, 110, 101]⟩, .string (bs t3), .string (bs id), .string (bs t1), .string (bs t2), .slice qh 0 dh, .string (bs d0), .string (bs d1), .slice qa ma da, .slice qk mk dk, .string (bs dt)]) ∧ (Blk w' g6 46 #[.string ⟨#[111, 110, 101]⟩, .string (bs t3), .string (bs id), .string (bs t1), .string (bs t2), .slice none 0 0, .string ⟨#[117]⟩, .string ⟨#[98]⟩, .slice none 0 0, .slice none 0 0, .string ⟨#[]⟩]) ∧ (EnvC w' ⟨[111, 110, 101], t3, id, t1, t2, [], bodyT⟩ #[.string ⟨#[111, 110, 101]⟩, .string (bs t3), .string (bs id), .string (bs t1), .string (bs t2), .slice qh 0 dh, .string (bs d0), .string (bs d1), .slice qa ma da, .slice qk mk dk, .string (bs dt)]) ∧ (TrC w' (fun _ => True) bodyT [.string (bs d0), .string (bs d1), .slice qa ma da, .slice qk mk dk, .string (bs dt)]) ∧ Below w12.heap.size w12 w') [(5, PVal (.bool true)), (10, PVal (.agg #[.string ⟨#[117]⟩, .string ⟨#[98]⟩, .slice none 0 0, .slice none 0 0, .string ⟨#[]⟩])), (11, PVal (.bool true))] [] (by kernel_rfl) (by kernel_rfl) ?_ ?_ ⟨HN12.out, HM12.out, HC12.out, HT12.out, ((Below.refl _ w12)).drew⟩ ?_
  ·rintro w1' w2' ⟨f1, f2, f3, f4, hIB⟩ hb
   exact ⟨(by first | exact f1.below hb | exact f1.keep (Below.keeps hb) | exact Below.keeps hb _ _ f1 | exact Blk.below f1 hb (Blk.lt f1)), (by first | exact f2.below hb | exact f2.keep (Below.keeps hb) | exact Below.keeps hb _ _ f2 | exact Blk.below f2 hb (Blk.lt f2)), (by first | exact f3.below hb | exact f3.keep (Below.keeps hb) | exact Below.keeps hb _ _ f3 | exact Blk.below f3 hb (Blk.lt f3)), (by first | exact f4.below hb | exact f4.keep (Below.keeps hb) | exact Below.keeps hb _ _ f4 | exact Blk.below f4 hb (Blk.lt f4)), hIB.trans (hb.mono hIB.size)⟩
  ·simp only [lI, lG, or_false, forall_eq_or_imp, forall_eq]
   exact ⟨fun _ _ _ _ h' h => PVal_stays _ _ _ _ h' h, fun _ _ _ _ h' h => PVal_stays _ _ _ _ h' h, fun _ _ _ _ h' h => PVal_stays _ _ _ _ h' h⟩
  repeat (first | (refine phi_skipK rfl (fun K hK => ?_); simp only [Act.put, lA, lB, lC, lD, lE]; apply hK; clear hK K) | (refine phi_pureK rfl rfl (fun K hK => ?_); apply xI; constructor; (focus (rintro w' ⟨f1, f2, f3, f4, hIB⟩; have z0 := (f1.cell 0).trans rfl; have z1 := (f1.cell 1).trans rfl; have z2 := (f1.cell 2).trans rfl; have z3 := (f1.cell 3).trans rfl; have z4 := (f1.cell 4).trans rfl; have z5 := (f1.cell 5).trans rfl; have z6 := (f1.cell 6).trans rfl; have z7 := (f1.cell 7).trans rfl; have z8 := (f1.cell 8).trans rfl; have z9 := (f1.cell 9).trans rfl; have z10 := (f1.cell 10).trans rfl; have y0 := (f2.cell 0).trans rfl; have y1 := (f2.cell 1).trans rfl; have y2 := (f2.cell 2).trans rfl; have y3 := (f2.cell 3).trans rfl; have y4 := (f2.cell 4).trans rfl; have y5 := (f2.cell 5).trans rfl; have y6 := (f2.cell 6).trans rfl; have y7 := (f2.cell 7).trans rfl; have y8 := (f2.cell 8).trans rfl; have y9 := (f2.cell 9).trans rfl; have y10 := (f2.cell 10).trans rfl; clear f1 f2 f3 f4 hIB; first | (go_simp; done) | (go_simp; (try go_bits); (try go_simp); rfl) | go_simp)); simp only [Act.put, lA, lB, lC, lD, lE]; apply hK; clear hK K))
  refine phi_partK (PVal (.bool true)) rfl rfl ⟨_, rfl⟩ ?_ (fun K hK v hv => ?_)
  ·rintro w' ⟨f1, f2, f3, f4, hIB⟩ hf
   unfold gives
   clear hf
   go_simp
   refine (HSM.out _ f3).mono ?_
   rintro e w'' ⟨rfl, hb⟩
   exact ⟨_, rfl, rfl, trivial, hb⟩
  obtain rfl : v = _ := hv
  simp only [Act.put, lA, lB, lC, lD, lE]
  apply hK
  clear hK K
  repeat (first | (refine phi_skipK rfl (fun K hK => ?_); simp only [Act.put, lA, lB, lC, lD, lE]; apply hK; clear hK K) | (refine phi_pureK rfl rfl (fun K hK => ?_); apply xI; constructor; (focus (rintro w' ⟨f1, f2, f3, f4, hIB⟩; have z0 := (f1.cell 0).trans rfl; have z1 := (f1.cell 1).trans rfl; have z2 := (f1.cell 2).trans rfl; have z3 := (f1.cell 3).trans rfl; have z4 := (f1.cell 4).trans rfl; have z5 := (f1.cell 5).trans rfl; have z6 := (f1.cell 6).trans rfl; have z7 := (f1.cell 7).trans rfl; have z8 := (f1.cell 8).trans rfl; have z9 := (f1.cell 9).trans rfl; have z10 := (f1.cell 10).trans rfl; have y0 := (f2.cell 0).trans rfl; have y1 := (f2.cell 1).trans rfl; have y2 := (f2.cell 2).trans rfl; have y3 := (f2.cell 3).trans rfl; have y4 := (f2.cell 4).trans rfl; have y5 := (f2.cell 5).trans rfl; have y6 := (f2.cell 6).trans rfl; have y7 := (f2.cell 7).trans rfl; have y8 := (f2.cell 8).trans rfl; have y9 := (f2.cell 9).trans rfl; have y10 := (f2.cell 10).trans rfl; clear f1 f2 f3 f4 hIB; first | (go_simp; done) | (go_simp; (try go_bits); (try go_simp); rfl) | go_simp)); simp only [Act.put, lA, lB, lC, lD, lE]; apply hK; clear hK K))
  refine phi_partK (PVal (.agg #[.string ⟨#[117]⟩, .string ⟨#[98]⟩, .slice none 0 0, .slice none 0 0, .string ⟨#[]⟩])) rfl rfl ⟨_, rfl⟩ ?_ (fun K hK v hv => ?_)
  ·rintro w' ⟨f1, f2, f3, f4, hIB⟩ hf
   unfold gives
   clear hf
   go_simp
   refine (HBD.out _).mono ?_
   rintro e w'' ⟨rfl, hb⟩
   exact ⟨_, rfl, rfl, trivial, hb⟩
  obtain rfl : v = _ := hv
  simp only [Act.put, lA, lB, lC, lD, lE]
  apply hK
  clear hK K
  repeat (first | (refine phi_skipK rfl (fun K hK => ?_); simp only [Act.put, lA, lB, lC, lD, lE]; apply hK; clear hK K) | (refine phi_pureK rfl rfl (fun K hK => ?_); apply xI; constructor; (focus (rintro w' ⟨f1, f2, f3, f4, hIB⟩; have z0 := (f1.cell 0).trans rfl; have z1 := (f1.cell 1).trans rfl; have z2 := (f1.cell 2).trans rfl; have z3 := (f1.cell 3).trans rfl; have z4 := (f1.cell 4).trans rfl; have z5 := (f1.cell 5).trans rfl; have z6 := (f1.cell 6).trans rfl; have z7 := (f1.cell 7).trans rfl; have z8 := (f1.cell 8).trans rfl; have z9 := (f1.cell 9).trans rfl; have z10 := (f1.cell 10).trans rfl; have y0 := (f2.cell 0).trans rfl; have y1 := (f2.cell 1).trans rfl; have y2 := (f2.cell 2).trans rfl; have y3 := (f2.cell 3).trans rfl; have y4 := (f2.cell 4).trans rfl; have y5 := (f2.cell 5).trans rfl; have y6 := (f2.cell 6).trans rfl; have y7 := (f2.cell 7).trans rfl; have y8 := (f2.cell 8).trans rfl; have y9 := (f2.cell 9).trans rfl; have y10 := (f2.cell 10).trans rfl; clear f1 f2 f3 f4 hIB; first | (go_simp; done) | (go_simp; (try go_bits); (try go_simp); rfl) | go_simp)); simp only [Act.put, lA, lB, lC, lD, lE]; apply hK; clear hK K))
  refine phi_partK (PVal (.bool true)) rfl rfl ⟨_, rfl⟩ ?_ (fun K hK v hv => ?_)
  ·rintro w' ⟨f1, f2, f3, f4, hIB⟩ hf
   unfold gives
   clear hf
   go_simp
   refine (HSS.out _ f4).mono ?_
   rintro e w'' ⟨rfl, hb⟩
   exact ⟨_, rfl, rfl, trivial, hb⟩
  obtain rfl : v = _ := hv
  simp only [Act.put, lA, lB, lC, lD, lE]
  apply hK
  clear hK K
  repeat (first | (refine phi_skipK rfl (fun K hK => ?_); simp only [Act.put, lA, lB, lC, lD, lE]; apply hK; clear hK K) | (refine phi_pureK rfl rfl (fun K hK => ?_); apply xI; constructor; (focus (rintro w' ⟨f1, f2, f3, f4, hIB⟩; have z0 := (f1.cell 0).trans rfl; have z1 := (f1.cell 1).trans rfl; have z2 := (f1.cell 2).trans rfl; have z3 := (f1.cell 3).trans rfl; have z4 := (f1.cell 4).trans rfl; have z5 := (f1.cell 5).trans rfl; have z6 := (f1.cell 6).trans rfl; have z7 := (f1.cell 7).trans rfl; have z8 := (f1.cell 8).trans rfl; have z9 := (f1.cell 9).trans rfl; have z10 := (f1.cell 10).trans rfl; have y0 := (f2.cell 0).trans rfl; have y1 := (f2.cell 1).trans rfl; have y2 := (f2.cell 2).trans rfl; have y3 := (f2.cell 3).trans rfl; have y4 := (f2.cell 4).trans rfl; have y5 := (f2.cell 5).trans rfl; have y6 := (f2.cell 6).trans rfl; have y7 := (f2.cell 7).trans rfl; have y8 := (f2.cell 8).trans rfl; have y9 := (f2.cell 9).trans rfl; have y10 := (f2.cell 10).trans rfl; clear f1 f2 f3 f4 hIB; first | (go_simp; done) | (go_simp; (try go_bits); (try go_simp); rfl) | go_simp)); simp only [Act.put, lA, lB, lC, lD, lE]; apply hK; clear hK K))
  refine phi_done ?_
  rintro w13 ⟨f1, f2, f3, f4, hb13⟩ _
  refine wpList_nil ?_
  have HB13 := hI (HB12.out.trans (hb13.mono HB12.out.size))
  clear f1 f2 f3 f4 hb13
  go_wp2_with fail
  go_ret
  exact ⟨rfl, HB13.out⟩
theorem backs_ba (E : Nat → Addr) (t0 t1 t2 t3 t4 : List UInt8) (id : ByteArray) (qs : List (List (List UInt8))) (pv : Value) (w : World) (hg : LibG w) (hE : Errs w E) (hq : PqL w pv qs) :
  Calls Tryz.prog 5 #[.agg #[.string (bs t0), .string (bs t1), .string (bs t2), .string (bs t3), .string (bs t4), pv], .string id] w fun e w' => e = .returned (.bool true) ∧ Below w.heap.size w w' := by
 have h := backs_any E t0 t1 t2 t3 t4 id.data.toList qs pv w hg hE hq
 rwa [show bs id.data.toList = id from by simp [bs]] at h
end Go.Proofs.YthboiahdheehkaaGreatDoor
