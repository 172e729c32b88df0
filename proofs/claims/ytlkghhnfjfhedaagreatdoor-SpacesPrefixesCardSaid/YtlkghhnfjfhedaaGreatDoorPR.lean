/-
  SpLP: SpacesPrefixes.
-/
import Derived.Test.YtlkghhnfjfhedaaGreatDoorPQ
namespace Go.Proofs.YtlkghhnfjfhedaaGreatDoor
open Go.RowKit
attribute [local go_sem] bs_toList

set_option maxRecDepth 20000 in
set_option maxHeartbeats 8000000 in
theorem prefixes_0 (E : Nat → Addr) (sp lo : List UInt8) (n : Int) (w : World) (hg : LibG w) (hE : Errs w E) (h1 : sp.length ≤ 100) (h2 : lo.length ≤ 100) (hk : wrap64 ((IntKind.u64.wrap n).tmod 3) = 0) :
    Calls Tryz.prog 5 #[.string (bs sp), .string (bs lo), .int .i64 n] w (fun e w' => e = .returned (.bool true) ∧ Below w.heap.size w w') := by
  have HG := Lib.hid hg
  have HE := Lib.hid hE
  have HAL := Lib.hid (alive24_any E w hg hE)
  clear hg hE
  have d1 : decide (100 < ((bs sp).size : Int)) = false := decide_eq_false (by have : (bs sp).size = sp.length := rfl; omega)
  have d2 : decide (100 < ((bs lo).size : Int)) = false := decide_eq_false (by have : (bs lo).size = lo.length := rfl; omega)
  have HLL := Lib.hid (And.intro h1 h2)
  clear h1 h2
  have s4 : ∀ w, (Op.stringOp .add ⟨#[113, 58]⟩ (bs lo)).run Tryz.prog w = .ok (.string (bs ([113] ++ 58 :: lo))) w := fun w => run_str_add (P := Tryz.prog) w [113, 58] lo (by have := HLL.out; simp; omega)
  go_enter Tryz.func5, Tryz.ntmps5
  obtain ⟨p, hp⟩ : ∃ p : List UInt8, p = [97] := ⟨_, rfl⟩
  have HPP := Lib.hid (show partB p = true ∧ ownF p = false ∧ p.length ≤ 3 from by rw [hp]; exact ⟨by decide, by decide, by decide⟩)
  have s1 : ∀ w, (Op.stringOp .add ⟨#[97]⟩ ⟨#[58]⟩).run Tryz.prog w = .ok (.string (bs (p ++ [58]))) w := by rw [hp]; exact fun w => run_str_add (P := Tryz.prog) w [97] [58] (by simp)
  have s2 : ∀ w, (Op.stringOp .add (bs (p ++ [58])) (bs lo)).run Tryz.prog w = .ok (.string (bs (p ++ 58 :: lo))) w := fun w => by
    have := run_str_add (P := Tryz.prog) w (p ++ [58]) lo (by have := HPP.out.2.2; have := HLL.out; simp; omega)
    rwa [List.append_assoc] at this
  have s3 : ∀ w, (Op.stringOp .add ⟨#[120, 109, 108, 110, 115, 58]⟩ ⟨#[97]⟩).run Tryz.prog w = .ok (.string (bs (xmlnsL ++ 58 :: p))) w := by rw [hp]; exact fun w => run_str_add (P := Tryz.prog) w [120, 109, 108, 110, 115, 58] [97] (by simp)
  clear hp
  have hbd := sp_bounds (p := p) (sp := sp) (lo := lo) HPP.out.2.2 HLL.out.1 HLL.out.2
  have HLW := Lib.hid (fun w1 (hb : Below w.heap.size w w1) => hb.trans ((spW_below w1 p sp lo).mono hb.size))
  by_cases hc : partB lo = true ∧ sigB sp = true ∧ sp ≠ []
  · have ho1 : resolveF (spOne p sp lo) = some (spOut sp lo) := by rw [sp_one HPP.out.1 HPP.out.2.1, if_pos hc]
    have ho2 : resolveF (spTwo [113] sp lo) = some (spOut sp lo) := by rw [sp_two (by decide) (by decide), if_pos hc]
    have ho3 := sp_three hc.1 hc.2.1
    have HC1 := Lib.hid (fun w1 (hb : Below w.heap.size w w1) => resolve_y E _ _ _ (spW10 w1 p sp lo) ho1 (HG.out.below (HLW.out w1 hb)) (HE.out.below (HLW.out w1 hb)) hbd.1 (spW_one w1 p sp lo))
    have HC2 := Lib.hid (fun w1 (hb : Below w.heap.size w w1) w' (hb' : Below (spW10 w1 p sp lo).heap.size (spW10 w1 p sp lo) w') => resolve_y E _ _ _ w' ho2 (HG.out.below ((HLW.out w1 hb).trans (hb'.mono (HLW.out w1 hb).size))) (HE.out.below ((HLW.out w1 hb).trans (hb'.mono (HLW.out w1 hb).size))) hbd.2.1 ((spW_two w1 p sp lo).below hb'))
    have HC3 := Lib.hid (fun w1 (hb : Below w.heap.size w w1) w' (hb' : Below (spW10 w1 p sp lo).heap.size (spW10 w1 p sp lo) w') => resolve_y E _ _ _ w' ho3 (HG.out.below ((HLW.out w1 hb).trans (hb'.mono (HLW.out w1 hb).size))) (HE.out.below ((HLW.out w1 hb).trans (hb'.mono (HLW.out w1 hb).size))) hbd.2.2 ((spW_three w1 p sp lo).below hb'))
    clear hbd hc ho1 ho2 ho3
    go_wp2_with (first | (go_at_call 6; refine HAL.out.mono ?_; clear HAL; rintro e w1 ⟨rfl, hb1⟩) | (go_at_call 9; refine (HC1.out w1 hb1).mono ?_; clear HC1; rintro e w2 ⟨paa, caa, ga, offa, cka, rfl, hT2, hq2, hr2, hb2⟩; have HX2 := Lib.hid (below_alloc1 w2 (.cells #[.string ⟨#[]⟩, .string ⟨#[114]⟩, .slice paa 0 caa, .slice (some ⟨ga, offa, none⟩) 1 cka, .string ⟨#[]⟩] 35)); have HB2 := Lib.hid (hb2.trans (HX2.out.mono hb2.size)); have hbx := (spW_b7 w1 p sp lo).below HB2.out (spW_b7 w1 p sp lo).lt; have y0 := (hbx.cell 0).trans rfl; have y1 := (hbx.cell 1).trans rfl; have y2 := (hbx.cell 2).trans rfl; have y3 := (hbx.cell 3).trans rfl; clear hbx; have HT2 := Lib.hid (hT2.below HX2.out); have HN2 := Lib.hid (Blk.new w2 35 #[.string ⟨#[]⟩, .string ⟨#[114]⟩, .slice paa 0 caa, .slice (some ⟨ga, offa, none⟩) 1 cka, .string ⟨#[]⟩]); clear hT2; have HQ2 := Lib.hid (And.intro hq2 hr2); clear hq2 hr2; have HH2 := Lib.hid hb2; clear hb2) | (go_at_call 9; refine (HC2.out w1 hb1 _ HB2.out).mono ?_; clear HC2; rintro e w3 ⟨pab, cab, gb, offb, ckb, rfl, hT3, hq3, hr3, hb3⟩; have HX3 := Lib.hid (below_alloc1 w3 (.cells #[.string ⟨#[]⟩, .string ⟨#[114]⟩, .slice pab 0 cab, .slice (some ⟨gb, offb, none⟩) 1 ckb, .string ⟨#[]⟩] 35)); have HB3 := Lib.hid (HB2.out.trans ((hb3.trans (HX3.out.mono hb3.size)).mono HB2.out.size)); have hbx := (spW_b10 w1 p sp lo).below HB3.out (spW_b10 w1 p sp lo).lt; have z0 := (hbx.cell 0).trans rfl; have z1 := (hbx.cell 1).trans rfl; have z2 := (hbx.cell 2).trans rfl; have z3 := (hbx.cell 3).trans rfl; clear hbx y0 y1 y2 y3; have HT3 := Lib.hid (hT3.below HX3.out); have HN3 := Lib.hid (Blk.new w3 35 #[.string ⟨#[]⟩, .string ⟨#[114]⟩, .slice pab 0 cab, .slice (some ⟨gb, offb, none⟩) 1 ckb, .string ⟨#[]⟩]); clear hT3; clear hq3 hr3; have HH3 := Lib.hid hb3; clear hb3) | (go_at_call 9; refine (HC3.out w1 hb1 _ HB3.out).mono ?_; rintro e w4 ⟨pac, cac, gc, offc, ckc, rfl, hT4, hq4, hr4, hb4⟩; have HX4 := Lib.hid (below_alloc1 w4 (.cells #[.string ⟨#[]⟩, .string ⟨#[114]⟩, .slice pac 0 cac, .slice (some ⟨gc, offc, none⟩) 1 ckc, .string ⟨#[]⟩] 35)); have HB4 := Lib.hid (HB3.out.trans ((hb4.trans (HX4.out.mono hb4.size)).mono HB3.out.size)); have HT4 := Lib.hid (hT4.below HX4.out); have HN4 := Lib.hid (Blk.new w4 35 #[.string ⟨#[]⟩, .string ⟨#[114]⟩, .slice pac 0 cac, .slice (some ⟨gc, offc, none⟩) 1 ckc, .string ⟨#[]⟩]); clear hT4; clear hq4 hr4; have HH4 := Lib.hid hb4; clear hb4; clear z0 z1 z2 z3))
    have h2a := HN2.out.below (HH3.out.trans (HX3.out.mono HH3.out.size)) HN2.out.lt
    have HNA := Lib.hid (h2a.below (HH4.out.trans (HX4.out.mono HH4.out.size)) h2a.lt)
    have HNB := Lib.hid (HN3.out.below (HH4.out.trans (HX4.out.mono HH4.out.size)) HN3.out.lt)
    have HTA := Lib.hid ((HT2.out.below (HH3.out.trans (HX3.out.mono HH3.out.size))).below (HH4.out.trans (HX4.out.mono HH4.out.size)))
    have HTB := Lib.hid (HT3.out.below (HH4.out.trans (HX4.out.mono HH4.out.size)))
    have HQA := Lib.hid (And.intro (Below.keeps ((HH3.out.trans (HX3.out.mono HH3.out.size)).trans ((HH4.out.trans (HX4.out.mono HH4.out.size)).mono (HH3.out.trans (HX3.out.mono HH3.out.size)).size)) _ _ (Below.keeps HX2.out _ _ HQ2.out.1)) (Below.keeps ((HH3.out.trans (HX3.out.mono HH3.out.size)).trans ((HH4.out.trans (HX4.out.mono HH4.out.size)).mono (HH3.out.trans (HX3.out.mono HH3.out.size)).size)) _ _ (Below.keeps HX2.out _ _ HQ2.out.2)))
    clear h2a
    generalize w4.alloc (.cells #[.string ⟨#[]⟩, .string ⟨#[114]⟩, .slice pac 0 cac, .slice (some ⟨gc, offc, none⟩) 1 ckc, .string ⟨#[]⟩] 35) = wz at *
    have hbb : Below wz.heap.size wz wz := Below.refl _ _
    refine wp_phi (fun w' => Below wz.heap.size wz w') [] [] (by kernel_rfl) (by kernel_rfl) ?_ ?_ (hbb).drew ?_
    · rintro w1' w2' hIB hb
      exact hIB.trans (hb.mono hIB.size)
    · intro p hp; cases hp
    repeat (first | (refine phi_skipK rfl (fun K hK => ?_); simp only [Act.put, List.setIfInBounds_toArray, List.set_cons_succ, List.set_cons_zero]; (try simp only [List.cons_append]); (try simp only [List.nil_append]); apply hK; clear hK K) | (refine phi_pureK rfl rfl (fun K hK => ?_); apply Exists.intro; constructor; (focus (rintro w' hIB; skip; first | (go_simp; done) | (go_simp; (try go_bits); (try go_simp); rfl) | go_simp)); simp only [Act.put, List.setIfInBounds_toArray, List.set_cons_succ, List.set_cons_zero]; (try simp only [List.cons_append]); (try simp only [List.nil_append]); apply hK; clear hK K))
    refine phi_done ?_
    rintro wy hby _
    refine wpList_nil ?_
    have HBY := Lib.hid hby
    have hna := HNA.out.below hby HNA.out.lt
    have hnb := HNB.out.below hby HNB.out.lt
    have HS1 := Lib.hid (same_any _ (spOut sp lo) (spOut sp lo) _ _ _ _ _ (Nat.le_refl _) (spOut_ok sp lo) (spOut_ok sp lo) (HTA.out.below hby) (HTB.out.below hby))
    rw [Tr.eqb_refl] at HS1
    have HS2 := Lib.hid (fun w5 (hb5 : Below wy.heap.size wy w5) => same_any _ (spOut sp lo) (spOut sp lo) _ _ _ _ w5 (Nat.le_refl _) (spOut_ok sp lo) (spOut_ok sp lo) ((HTA.out.below hby).below hb5) ((HT4.out.below hby).below hb5))
    rw [Tr.eqb_refl] at HS2
    have HNY := Lib.hid hna
    have HNC := Lib.hid (HN4.out.below hby HN4.out.lt)
    have HQY := Lib.hid (And.intro (Below.keeps hby _ _ HQA.out.1) (Below.keeps hby _ _ HQA.out.2))
    have i0 := (hna.cell 0).trans rfl
    have j0 := (hnb.cell 0).trans rfl
    have i1 := (hna.cell 1).trans rfl
    have j1 := (hnb.cell 1).trans rfl
    have i2 := (hna.cell 2).trans rfl
    have j2 := (hnb.cell 2).trans rfl
    have i3 := (hna.cell 3).trans rfl
    have j3 := (hnb.cell 3).trans rfl
    have i4 := (hna.cell 4).trans rfl
    have j4 := (hnb.cell 4).trans rfl
    clear hna hnb hby hbb
    go_wp2_with (first | (go_at_call 19; refine HS1.out.mono ?_; clear HS1; rintro e w5 ⟨rfl, hb5⟩; have h5a := HNY.out.below hb5 HNY.out.lt; have h5c := HNC.out.below hb5 HNC.out.lt; have m0 := (h5a.cell 0).trans rfl; have n0 := (h5c.cell 0).trans rfl; have m1 := (h5a.cell 1).trans rfl; have n1 := (h5c.cell 1).trans rfl; have m2 := (h5a.cell 2).trans rfl; have n2 := (h5c.cell 2).trans rfl; have m3 := (h5a.cell 3).trans rfl; have n3 := (h5c.cell 3).trans rfl; have m4 := (h5a.cell 4).trans rfl; have n4 := (h5c.cell 4).trans rfl; have HB5 := Lib.hid hb5; clear h5a h5c hb5 i0 i1 i2 i3 i4 j0 j1 j2 j3 j4) | (go_at_call 19; refine (HS2.out _ HB5.out).mono ?_; rintro e w6 ⟨rfl, hb6⟩; have hb56 := HB5.out.trans (hb6.mono HB5.out.size); have HB6 := Lib.hid hb56; have h6 := HNY.out.below hb56 HNY.out.lt; have k3 := (h6.cell 3).trans rfl; have l0 := Below.keeps hb56 _ _ HQY.out.1; have l1 := Below.keeps hb56 _ _ HQY.out.2; clear h6 hb6 hb56 m0 m1 m2 m3 m4 n0 n1 n2 n3 n4))
    go_ret
    have hL4 := (HLW.out w1 hb1).trans (HB4.out.mono (HLW.out w1 hb1).size)
    have hL5 := hL4.trans (HBY.out.mono hL4.size)
    exact ⟨rfl, hL5.trans (HB6.out.mono hL5.size)⟩
  · have ho1 : resolveF (spOne p sp lo) = none := by rw [sp_one HPP.out.1 HPP.out.2.1, if_neg hc]
    have ho2 : resolveF (spTwo [113] sp lo) = none := by rw [sp_two (by decide) (by decide), if_neg hc]
    have HC1 := Lib.hid (fun w1 (hb : Below w.heap.size w w1) => resolve_n E _ _ _ (spW10 w1 p sp lo) ho1 (HG.out.below (HLW.out w1 hb)) (HE.out.below (HLW.out w1 hb)) hbd.1 (spW_one w1 p sp lo))
    have HC2 := Lib.hid (fun w1 (hb : Below w.heap.size w w1) w' (hb' : Below (spW10 w1 p sp lo).heap.size (spW10 w1 p sp lo) w') => resolve_n E _ _ _ w' ho2 (HG.out.below ((HLW.out w1 hb).trans (hb'.mono (HLW.out w1 hb).size))) (HE.out.below ((HLW.out w1 hb).trans (hb'.mono (HLW.out w1 hb).size))) hbd.2.1 ((spW_two w1 p sp lo).below hb'))
    have HC3 := Lib.hid (fun w1 (hb : Below w.heap.size w w1) w' (hb' : Below (spW10 w1 p sp lo).heap.size (spW10 w1 p sp lo) w') => resolve_sp E (spThree sp lo) _ _ w' _ rfl (HG.out.below ((HLW.out w1 hb).trans (hb'.mono (HLW.out w1 hb).size))) (HE.out.below ((HLW.out w1 hb).trans (hb'.mono (HLW.out w1 hb).size))) hbd.2.2 ((spW_three w1 p sp lo).below hb'))
    clear hbd hc ho1 ho2
    go_wp2_with (first | (go_at_call 6; refine HAL.out.mono ?_; clear HAL; rintro e w1 ⟨rfl, hb1⟩) | (go_at_call 9; refine (HC1.out w1 hb1).mono ?_; clear HC1; rintro e w2 ⟨rfl, hb2⟩; have HX2 := Lib.hid (below_alloc1 w2 (.cells #[.string ⟨#[]⟩, .string ⟨#[]⟩, .slice none 0 0, .slice none 0 0, .string ⟨#[]⟩] 35)); have HB2 := Lib.hid (hb2.trans (HX2.out.mono hb2.size)); have hbx := (spW_b7 w1 p sp lo).below HB2.out (spW_b7 w1 p sp lo).lt; have y0 := (hbx.cell 0).trans rfl; have y1 := (hbx.cell 1).trans rfl; have y2 := (hbx.cell 2).trans rfl; have y3 := (hbx.cell 3).trans rfl; clear hbx) | (go_at_call 9; refine (HC2.out w1 hb1 _ HB2.out).mono ?_; clear HC2; rintro e w3 ⟨rfl, hb3⟩; have HX3 := Lib.hid (below_alloc1 w3 (.cells #[.string ⟨#[]⟩, .string ⟨#[]⟩, .slice none 0 0, .slice none 0 0, .string ⟨#[]⟩] 35)); have HB3 := Lib.hid (HB2.out.trans ((hb3.trans (HX3.out.mono hb3.size)).mono HB2.out.size)); have hbx := (spW_b10 w1 p sp lo).below HB3.out (spW_b10 w1 p sp lo).lt; have z0 := (hbx.cell 0).trans rfl; have z1 := (hbx.cell 1).trans rfl; have z2 := (hbx.cell 2).trans rfl; have z3 := (hbx.cell 3).trans rfl; clear hbx y0 y1 y2 y3) | (go_at_call 9; refine (HC3.out w1 hb1 _ HB3.out).mono ?_; rintro e w4 ⟨f0, f1, f2, f3, f4, er, rfl, ⟨p0, p1, p2, p3, p4⟩, hb4, -, -⟩; clear z0 z1 z2 z3; have HN4 := Lib.hid (Blk.new w4 35 #[.string ⟨#[]⟩, .string ⟨#[]⟩, .slice none 0 0, .slice none 0 0, .string ⟨#[]⟩])) | (refine wpList_store (.tmp 15) (.tmp 74) 35 rfl rfl w4.heap.size 0 _ _ #[f0, f1, f2, f3, f4] rfl rfl HN4.out ?s0 ?s1 ?s2 ?_))
    case s0 => kernel_rfl
    case s2 => simp
    intro w5 hb5 ho5
    have hbX := below_alloc1 w4 (.cells #[.string ⟨#[]⟩, .string ⟨#[]⟩, .slice none 0 0, .slice none 0 0, .string ⟨#[]⟩] 35)
    have HLO := Lib.hid (HLW.out w1 hb1)
    have HL3 := Lib.hid (HLO.out.trans (HB3.out.mono HLO.out.size))
    have HL5 := Lib.hid (((HL3.out.trans (hb4.mono HL3.out.size)).trans (hbX.mono (Nat.le_trans HL3.out.size hb4.size))).trans (ho5.below (Nat.le_trans HL3.out.size hb4.size)))
    have hbb : Below w5.heap.size w5 w5 := Below.refl _ _
    clear hb5 ho5 hbX hb4
    go_wp2_with fail
    refine wp_phi (fun w' => Below w5.heap.size w5 w') [] [] (by kernel_rfl) (by kernel_rfl) ?_ ?_ (hbb).drew ?_
    · rintro w1' w2' hIB hb
      exact hIB.trans (hb.mono hIB.size)
    · intro p hp; cases hp
    repeat (first | (refine phi_skipK rfl (fun K hK => ?_); simp only [Act.put, List.setIfInBounds_toArray, List.set_cons_succ, List.set_cons_zero]; (try simp only [List.cons_append]); (try simp only [List.nil_append]); apply hK; clear hK K) | (refine phi_pureK rfl rfl (fun K hK => ?_); apply Exists.intro; constructor; (focus (rintro w' hIB; skip; first | (go_simp; done) | (go_simp; (try go_bits); (try go_simp); rfl) | go_simp)); simp only [Act.put, List.setIfInBounds_toArray, List.set_cons_succ, List.set_cons_zero]; (try simp only [List.cons_append]); (try simp only [List.nil_append]); apply hK; clear hK K))
    refine phi_done ?_
    rintro wy hby _
    refine wpList_nil ?_
    go_wp2_with fail
    go_ret
    exact ⟨rfl, HL5.out.trans (hby.mono HL5.out.size)⟩
set_option maxRecDepth 20000 in
set_option maxHeartbeats 8000000 in
theorem prefixes_1 (E : Nat → Addr) (sp lo : List UInt8) (n : Int) (w : World) (hg : LibG w) (hE : Errs w E) (h1 : sp.length ≤ 100) (h2 : lo.length ≤ 100) (hk : wrap64 ((IntKind.u64.wrap n).tmod 3) = 1) :
    Calls Tryz.prog 5 #[.string (bs sp), .string (bs lo), .int .i64 n] w (fun e w' => e = .returned (.bool true) ∧ Below w.heap.size w w') := by
  have HG := Lib.hid hg
  have HE := Lib.hid hE
  have HAL := Lib.hid (alive24_any E w hg hE)
  clear hg hE
  have d1 : decide (100 < ((bs sp).size : Int)) = false := decide_eq_false (by have : (bs sp).size = sp.length := rfl; omega)
  have d2 : decide (100 < ((bs lo).size : Int)) = false := decide_eq_false (by have : (bs lo).size = lo.length := rfl; omega)
  have HLL := Lib.hid (And.intro h1 h2)
  clear h1 h2
  have s4 : ∀ w, (Op.stringOp .add ⟨#[113, 58]⟩ (bs lo)).run Tryz.prog w = .ok (.string (bs ([113] ++ 58 :: lo))) w := fun w => run_str_add (P := Tryz.prog) w [113, 58] lo (by have := HLL.out; simp; omega)
  go_enter Tryz.func5, Tryz.ntmps5
  obtain ⟨p, hp⟩ : ∃ p : List UInt8, p = [98, 49] := ⟨_, rfl⟩
  have HPP := Lib.hid (show partB p = true ∧ ownF p = false ∧ p.length ≤ 3 from by rw [hp]; exact ⟨by decide, by decide, by decide⟩)
  have s1 : ∀ w, (Op.stringOp .add ⟨#[98, 49]⟩ ⟨#[58]⟩).run Tryz.prog w = .ok (.string (bs (p ++ [58]))) w := by rw [hp]; exact fun w => run_str_add (P := Tryz.prog) w [98, 49] [58] (by simp)
  have s2 : ∀ w, (Op.stringOp .add (bs (p ++ [58])) (bs lo)).run Tryz.prog w = .ok (.string (bs (p ++ 58 :: lo))) w := fun w => by
    have := run_str_add (P := Tryz.prog) w (p ++ [58]) lo (by have := HPP.out.2.2; have := HLL.out; simp; omega)
    rwa [List.append_assoc] at this
  have s3 : ∀ w, (Op.stringOp .add ⟨#[120, 109, 108, 110, 115, 58]⟩ ⟨#[98, 49]⟩).run Tryz.prog w = .ok (.string (bs (xmlnsL ++ 58 :: p))) w := by rw [hp]; exact fun w => run_str_add (P := Tryz.prog) w [120, 109, 108, 110, 115, 58] [98, 49] (by simp)
  clear hp
  have hbd := sp_bounds (p := p) (sp := sp) (lo := lo) HPP.out.2.2 HLL.out.1 HLL.out.2
  have HLW := Lib.hid (fun w1 (hb : Below w.heap.size w w1) => hb.trans ((spW_below w1 p sp lo).mono hb.size))
  by_cases hc : partB lo = true ∧ sigB sp = true ∧ sp ≠ []
  · have ho1 : resolveF (spOne p sp lo) = some (spOut sp lo) := by rw [sp_one HPP.out.1 HPP.out.2.1, if_pos hc]
    have ho2 : resolveF (spTwo [113] sp lo) = some (spOut sp lo) := by rw [sp_two (by decide) (by decide), if_pos hc]
    have ho3 := sp_three hc.1 hc.2.1
    have HC1 := Lib.hid (fun w1 (hb : Below w.heap.size w w1) => resolve_y E _ _ _ (spW10 w1 p sp lo) ho1 (HG.out.below (HLW.out w1 hb)) (HE.out.below (HLW.out w1 hb)) hbd.1 (spW_one w1 p sp lo))
    have HC2 := Lib.hid (fun w1 (hb : Below w.heap.size w w1) w' (hb' : Below (spW10 w1 p sp lo).heap.size (spW10 w1 p sp lo) w') => resolve_y E _ _ _ w' ho2 (HG.out.below ((HLW.out w1 hb).trans (hb'.mono (HLW.out w1 hb).size))) (HE.out.below ((HLW.out w1 hb).trans (hb'.mono (HLW.out w1 hb).size))) hbd.2.1 ((spW_two w1 p sp lo).below hb'))
    have HC3 := Lib.hid (fun w1 (hb : Below w.heap.size w w1) w' (hb' : Below (spW10 w1 p sp lo).heap.size (spW10 w1 p sp lo) w') => resolve_y E _ _ _ w' ho3 (HG.out.below ((HLW.out w1 hb).trans (hb'.mono (HLW.out w1 hb).size))) (HE.out.below ((HLW.out w1 hb).trans (hb'.mono (HLW.out w1 hb).size))) hbd.2.2 ((spW_three w1 p sp lo).below hb'))
    clear hbd hc ho1 ho2 ho3
    go_wp2_with (first | (go_at_call 6; refine HAL.out.mono ?_; clear HAL; rintro e w1 ⟨rfl, hb1⟩) | (go_at_call 9; refine (HC1.out w1 hb1).mono ?_; clear HC1; rintro e w2 ⟨paa, caa, ga, offa, cka, rfl, hT2, hq2, hr2, hb2⟩; have HX2 := Lib.hid (below_alloc1 w2 (.cells #[.string ⟨#[]⟩, .string ⟨#[114]⟩, .slice paa 0 caa, .slice (some ⟨ga, offa, none⟩) 1 cka, .string ⟨#[]⟩] 35)); have HB2 := Lib.hid (hb2.trans (HX2.out.mono hb2.size)); have hbx := (spW_b7 w1 p sp lo).below HB2.out (spW_b7 w1 p sp lo).lt; have y0 := (hbx.cell 0).trans rfl; have y1 := (hbx.cell 1).trans rfl; have y2 := (hbx.cell 2).trans rfl; have y3 := (hbx.cell 3).trans rfl; clear hbx; have HT2 := Lib.hid (hT2.below HX2.out); have HN2 := Lib.hid (Blk.new w2 35 #[.string ⟨#[]⟩, .string ⟨#[114]⟩, .slice paa 0 caa, .slice (some ⟨ga, offa, none⟩) 1 cka, .string ⟨#[]⟩]); clear hT2; have HQ2 := Lib.hid (And.intro hq2 hr2); clear hq2 hr2; have HH2 := Lib.hid hb2; clear hb2) | (go_at_call 9; refine (HC2.out w1 hb1 _ HB2.out).mono ?_; clear HC2; rintro e w3 ⟨pab, cab, gb, offb, ckb, rfl, hT3, hq3, hr3, hb3⟩; have HX3 := Lib.hid (below_alloc1 w3 (.cells #[.string ⟨#[]⟩, .string ⟨#[114]⟩, .slice pab 0 cab, .slice (some ⟨gb, offb, none⟩) 1 ckb, .string ⟨#[]⟩] 35)); have HB3 := Lib.hid (HB2.out.trans ((hb3.trans (HX3.out.mono hb3.size)).mono HB2.out.size)); have hbx := (spW_b10 w1 p sp lo).below HB3.out (spW_b10 w1 p sp lo).lt; have z0 := (hbx.cell 0).trans rfl; have z1 := (hbx.cell 1).trans rfl; have z2 := (hbx.cell 2).trans rfl; have z3 := (hbx.cell 3).trans rfl; clear hbx y0 y1 y2 y3; have HT3 := Lib.hid (hT3.below HX3.out); have HN3 := Lib.hid (Blk.new w3 35 #[.string ⟨#[]⟩, .string ⟨#[114]⟩, .slice pab 0 cab, .slice (some ⟨gb, offb, none⟩) 1 ckb, .string ⟨#[]⟩]); clear hT3; clear hq3 hr3; have HH3 := Lib.hid hb3; clear hb3) | (go_at_call 9; refine (HC3.out w1 hb1 _ HB3.out).mono ?_; rintro e w4 ⟨pac, cac, gc, offc, ckc, rfl, hT4, hq4, hr4, hb4⟩; have HX4 := Lib.hid (below_alloc1 w4 (.cells #[.string ⟨#[]⟩, .string ⟨#[114]⟩, .slice pac 0 cac, .slice (some ⟨gc, offc, none⟩) 1 ckc, .string ⟨#[]⟩] 35)); have HB4 := Lib.hid (HB3.out.trans ((hb4.trans (HX4.out.mono hb4.size)).mono HB3.out.size)); have HT4 := Lib.hid (hT4.below HX4.out); have HN4 := Lib.hid (Blk.new w4 35 #[.string ⟨#[]⟩, .string ⟨#[114]⟩, .slice pac 0 cac, .slice (some ⟨gc, offc, none⟩) 1 ckc, .string ⟨#[]⟩]); clear hT4; clear hq4 hr4; have HH4 := Lib.hid hb4; clear hb4; clear z0 z1 z2 z3))
    have h2a := HN2.out.below (HH3.out.trans (HX3.out.mono HH3.out.size)) HN2.out.lt
    have HNA := Lib.hid (h2a.below (HH4.out.trans (HX4.out.mono HH4.out.size)) h2a.lt)
    have HNB := Lib.hid (HN3.out.below (HH4.out.trans (HX4.out.mono HH4.out.size)) HN3.out.lt)
    have HTA := Lib.hid ((HT2.out.below (HH3.out.trans (HX3.out.mono HH3.out.size))).below (HH4.out.trans (HX4.out.mono HH4.out.size)))
    have HTB := Lib.hid (HT3.out.below (HH4.out.trans (HX4.out.mono HH4.out.size)))
    have HQA := Lib.hid (And.intro (Below.keeps ((HH3.out.trans (HX3.out.mono HH3.out.size)).trans ((HH4.out.trans (HX4.out.mono HH4.out.size)).mono (HH3.out.trans (HX3.out.mono HH3.out.size)).size)) _ _ (Below.keeps HX2.out _ _ HQ2.out.1)) (Below.keeps ((HH3.out.trans (HX3.out.mono HH3.out.size)).trans ((HH4.out.trans (HX4.out.mono HH4.out.size)).mono (HH3.out.trans (HX3.out.mono HH3.out.size)).size)) _ _ (Below.keeps HX2.out _ _ HQ2.out.2)))
    clear h2a
    generalize w4.alloc (.cells #[.string ⟨#[]⟩, .string ⟨#[114]⟩, .slice pac 0 cac, .slice (some ⟨gc, offc, none⟩) 1 ckc, .string ⟨#[]⟩] 35) = wz at *
    have hbb : Below wz.heap.size wz wz := Below.refl _ _
    refine wp_phi (fun w' => Below wz.heap.size wz w') [] [] (by kernel_rfl) (by kernel_rfl) ?_ ?_ (hbb).drew ?_
    · rintro w1' w2' hIB hb
      exact hIB.trans (hb.mono hIB.size)
    · intro p hp; cases hp
    repeat (first | (refine phi_skipK rfl (fun K hK => ?_); simp only [Act.put, List.setIfInBounds_toArray, List.set_cons_succ, List.set_cons_zero]; (try simp only [List.cons_append]); (try simp only [List.nil_append]); apply hK; clear hK K) | (refine phi_pureK rfl rfl (fun K hK => ?_); apply Exists.intro; constructor; (focus (rintro w' hIB; skip; first | (go_simp; done) | (go_simp; (try go_bits); (try go_simp); rfl) | go_simp)); simp only [Act.put, List.setIfInBounds_toArray, List.set_cons_succ, List.set_cons_zero]; (try simp only [List.cons_append]); (try simp only [List.nil_append]); apply hK; clear hK K))
    refine phi_done ?_
    rintro wy hby _
    refine wpList_nil ?_
    have HBY := Lib.hid hby
    have hna := HNA.out.below hby HNA.out.lt
    have hnb := HNB.out.below hby HNB.out.lt
    have HS1 := Lib.hid (same_any _ (spOut sp lo) (spOut sp lo) _ _ _ _ _ (Nat.le_refl _) (spOut_ok sp lo) (spOut_ok sp lo) (HTA.out.below hby) (HTB.out.below hby))
    rw [Tr.eqb_refl] at HS1
    have HS2 := Lib.hid (fun w5 (hb5 : Below wy.heap.size wy w5) => same_any _ (spOut sp lo) (spOut sp lo) _ _ _ _ w5 (Nat.le_refl _) (spOut_ok sp lo) (spOut_ok sp lo) ((HTA.out.below hby).below hb5) ((HT4.out.below hby).below hb5))
    rw [Tr.eqb_refl] at HS2
    have HNY := Lib.hid hna
    have HNC := Lib.hid (HN4.out.below hby HN4.out.lt)
    have HQY := Lib.hid (And.intro (Below.keeps hby _ _ HQA.out.1) (Below.keeps hby _ _ HQA.out.2))
    have i0 := (hna.cell 0).trans rfl
    have j0 := (hnb.cell 0).trans rfl
    have i1 := (hna.cell 1).trans rfl
    have j1 := (hnb.cell 1).trans rfl
    have i2 := (hna.cell 2).trans rfl
    have j2 := (hnb.cell 2).trans rfl
    have i3 := (hna.cell 3).trans rfl
    have j3 := (hnb.cell 3).trans rfl
    have i4 := (hna.cell 4).trans rfl
    have j4 := (hnb.cell 4).trans rfl
    clear hna hnb hby hbb
    go_wp2_with (first | (go_at_call 19; refine HS1.out.mono ?_; clear HS1; rintro e w5 ⟨rfl, hb5⟩; have h5a := HNY.out.below hb5 HNY.out.lt; have h5c := HNC.out.below hb5 HNC.out.lt; have m0 := (h5a.cell 0).trans rfl; have n0 := (h5c.cell 0).trans rfl; have m1 := (h5a.cell 1).trans rfl; have n1 := (h5c.cell 1).trans rfl; have m2 := (h5a.cell 2).trans rfl; have n2 := (h5c.cell 2).trans rfl; have m3 := (h5a.cell 3).trans rfl; have n3 := (h5c.cell 3).trans rfl; have m4 := (h5a.cell 4).trans rfl; have n4 := (h5c.cell 4).trans rfl; have HB5 := Lib.hid hb5; clear h5a h5c hb5 i0 i1 i2 i3 i4 j0 j1 j2 j3 j4) | (go_at_call 19; refine (HS2.out _ HB5.out).mono ?_; rintro e w6 ⟨rfl, hb6⟩; have hb56 := HB5.out.trans (hb6.mono HB5.out.size); have HB6 := Lib.hid hb56; have h6 := HNY.out.below hb56 HNY.out.lt; have k3 := (h6.cell 3).trans rfl; have l0 := Below.keeps hb56 _ _ HQY.out.1; have l1 := Below.keeps hb56 _ _ HQY.out.2; clear h6 hb6 hb56 m0 m1 m2 m3 m4 n0 n1 n2 n3 n4))
    go_ret
    have hL4 := (HLW.out w1 hb1).trans (HB4.out.mono (HLW.out w1 hb1).size)
    have hL5 := hL4.trans (HBY.out.mono hL4.size)
    exact ⟨rfl, hL5.trans (HB6.out.mono hL5.size)⟩
  · have ho1 : resolveF (spOne p sp lo) = none := by rw [sp_one HPP.out.1 HPP.out.2.1, if_neg hc]
    have ho2 : resolveF (spTwo [113] sp lo) = none := by rw [sp_two (by decide) (by decide), if_neg hc]
    have HC1 := Lib.hid (fun w1 (hb : Below w.heap.size w w1) => resolve_n E _ _ _ (spW10 w1 p sp lo) ho1 (HG.out.below (HLW.out w1 hb)) (HE.out.below (HLW.out w1 hb)) hbd.1 (spW_one w1 p sp lo))
    have HC2 := Lib.hid (fun w1 (hb : Below w.heap.size w w1) w' (hb' : Below (spW10 w1 p sp lo).heap.size (spW10 w1 p sp lo) w') => resolve_n E _ _ _ w' ho2 (HG.out.below ((HLW.out w1 hb).trans (hb'.mono (HLW.out w1 hb).size))) (HE.out.below ((HLW.out w1 hb).trans (hb'.mono (HLW.out w1 hb).size))) hbd.2.1 ((spW_two w1 p sp lo).below hb'))
    have HC3 := Lib.hid (fun w1 (hb : Below w.heap.size w w1) w' (hb' : Below (spW10 w1 p sp lo).heap.size (spW10 w1 p sp lo) w') => resolve_sp E (spThree sp lo) _ _ w' _ rfl (HG.out.below ((HLW.out w1 hb).trans (hb'.mono (HLW.out w1 hb).size))) (HE.out.below ((HLW.out w1 hb).trans (hb'.mono (HLW.out w1 hb).size))) hbd.2.2 ((spW_three w1 p sp lo).below hb'))
    clear hbd hc ho1 ho2
    go_wp2_with (first | (go_at_call 6; refine HAL.out.mono ?_; clear HAL; rintro e w1 ⟨rfl, hb1⟩) | (go_at_call 9; refine (HC1.out w1 hb1).mono ?_; clear HC1; rintro e w2 ⟨rfl, hb2⟩; have HX2 := Lib.hid (below_alloc1 w2 (.cells #[.string ⟨#[]⟩, .string ⟨#[]⟩, .slice none 0 0, .slice none 0 0, .string ⟨#[]⟩] 35)); have HB2 := Lib.hid (hb2.trans (HX2.out.mono hb2.size)); have hbx := (spW_b7 w1 p sp lo).below HB2.out (spW_b7 w1 p sp lo).lt; have y0 := (hbx.cell 0).trans rfl; have y1 := (hbx.cell 1).trans rfl; have y2 := (hbx.cell 2).trans rfl; have y3 := (hbx.cell 3).trans rfl; clear hbx) | (go_at_call 9; refine (HC2.out w1 hb1 _ HB2.out).mono ?_; clear HC2; rintro e w3 ⟨rfl, hb3⟩; have HX3 := Lib.hid (below_alloc1 w3 (.cells #[.string ⟨#[]⟩, .string ⟨#[]⟩, .slice none 0 0, .slice none 0 0, .string ⟨#[]⟩] 35)); have HB3 := Lib.hid (HB2.out.trans ((hb3.trans (HX3.out.mono hb3.size)).mono HB2.out.size)); have hbx := (spW_b10 w1 p sp lo).below HB3.out (spW_b10 w1 p sp lo).lt; have z0 := (hbx.cell 0).trans rfl; have z1 := (hbx.cell 1).trans rfl; have z2 := (hbx.cell 2).trans rfl; have z3 := (hbx.cell 3).trans rfl; clear hbx y0 y1 y2 y3) | (go_at_call 9; refine (HC3.out w1 hb1 _ HB3.out).mono ?_; rintro e w4 ⟨f0, f1, f2, f3, f4, er, rfl, ⟨p0, p1, p2, p3, p4⟩, hb4, -, -⟩; clear z0 z1 z2 z3; have HN4 := Lib.hid (Blk.new w4 35 #[.string ⟨#[]⟩, .string ⟨#[]⟩, .slice none 0 0, .slice none 0 0, .string ⟨#[]⟩])) | (refine wpList_store (.tmp 15) (.tmp 74) 35 rfl rfl w4.heap.size 0 _ _ #[f0, f1, f2, f3, f4] rfl rfl HN4.out ?s0 ?s1 ?s2 ?_))
    case s0 => kernel_rfl
    case s2 => simp
    intro w5 hb5 ho5
    have hbX := below_alloc1 w4 (.cells #[.string ⟨#[]⟩, .string ⟨#[]⟩, .slice none 0 0, .slice none 0 0, .string ⟨#[]⟩] 35)
    have HLO := Lib.hid (HLW.out w1 hb1)
    have HL3 := Lib.hid (HLO.out.trans (HB3.out.mono HLO.out.size))
    have HL5 := Lib.hid (((HL3.out.trans (hb4.mono HL3.out.size)).trans (hbX.mono (Nat.le_trans HL3.out.size hb4.size))).trans (ho5.below (Nat.le_trans HL3.out.size hb4.size)))
    have hbb : Below w5.heap.size w5 w5 := Below.refl _ _
    clear hb5 ho5 hbX hb4
    go_wp2_with fail
    refine wp_phi (fun w' => Below w5.heap.size w5 w') [] [] (by kernel_rfl) (by kernel_rfl) ?_ ?_ (hbb).drew ?_
    · rintro w1' w2' hIB hb
      exact hIB.trans (hb.mono hIB.size)
    · intro p hp; cases hp
    repeat (first | (refine phi_skipK rfl (fun K hK => ?_); simp only [Act.put, List.setIfInBounds_toArray, List.set_cons_succ, List.set_cons_zero]; (try simp only [List.cons_append]); (try simp only [List.nil_append]); apply hK; clear hK K) | (refine phi_pureK rfl rfl (fun K hK => ?_); apply Exists.intro; constructor; (focus (rintro w' hIB; skip; first | (go_simp; done) | (go_simp; (try go_bits); (try go_simp); rfl) | go_simp)); simp only [Act.put, List.setIfInBounds_toArray, List.set_cons_succ, List.set_cons_zero]; (try simp only [List.cons_append]); (try simp only [List.nil_append]); apply hK; clear hK K))
    refine phi_done ?_
    rintro wy hby _
    refine wpList_nil ?_
    go_wp2_with fail
    go_ret
    exact ⟨rfl, HL5.out.trans (hby.mono HL5.out.size)⟩
set_option maxRecDepth 20000 in
set_option maxHeartbeats 8000000 in
theorem prefixes_2 (E : Nat → Addr) (sp lo : List UInt8) (n : Int) (w : World) (hg : LibG w) (hE : Errs w E) (h1 : sp.length ≤ 100) (h2 : lo.length ≤ 100) (hk : wrap64 ((IntKind.u64.wrap n).tmod 3) = 2) :
    Calls Tryz.prog 5 #[.string (bs sp), .string (bs lo), .int .i64 n] w (fun e w' => e = .returned (.bool true) ∧ Below w.heap.size w w') := by
  have HG := Lib.hid hg
  have HE := Lib.hid hE
  have HAL := Lib.hid (alive24_any E w hg hE)
  clear hg hE
  have d1 : decide (100 < ((bs sp).size : Int)) = false := decide_eq_false (by have : (bs sp).size = sp.length := rfl; omega)
  have d2 : decide (100 < ((bs lo).size : Int)) = false := decide_eq_false (by have : (bs lo).size = lo.length := rfl; omega)
  have HLL := Lib.hid (And.intro h1 h2)
  clear h1 h2
  have s4 : ∀ w, (Op.stringOp .add ⟨#[113, 58]⟩ (bs lo)).run Tryz.prog w = .ok (.string (bs ([113] ++ 58 :: lo))) w := fun w => run_str_add (P := Tryz.prog) w [113, 58] lo (by have := HLL.out; simp; omega)
  go_enter Tryz.func5, Tryz.ntmps5
  obtain ⟨p, hp⟩ : ∃ p : List UInt8, p = [120, 45, 121] := ⟨_, rfl⟩
  have HPP := Lib.hid (show partB p = true ∧ ownF p = false ∧ p.length ≤ 3 from by rw [hp]; exact ⟨by decide, by decide, by decide⟩)
  have s1 : ∀ w, (Op.stringOp .add ⟨#[120, 45, 121]⟩ ⟨#[58]⟩).run Tryz.prog w = .ok (.string (bs (p ++ [58]))) w := by rw [hp]; exact fun w => run_str_add (P := Tryz.prog) w [120, 45, 121] [58] (by simp)
  have s2 : ∀ w, (Op.stringOp .add (bs (p ++ [58])) (bs lo)).run Tryz.prog w = .ok (.string (bs (p ++ 58 :: lo))) w := fun w => by
    have := run_str_add (P := Tryz.prog) w (p ++ [58]) lo (by have := HPP.out.2.2; have := HLL.out; simp; omega)
    rwa [List.append_assoc] at this
  have s3 : ∀ w, (Op.stringOp .add ⟨#[120, 109, 108, 110, 115, 58]⟩ ⟨#[120, 45, 121]⟩).run Tryz.prog w = .ok (.string (bs (xmlnsL ++ 58 :: p))) w := by rw [hp]; exact fun w => run_str_add (P := Tryz.prog) w [120, 109, 108, 110, 115, 58] [120, 45, 121] (by simp)
  clear hp
  have hbd := sp_bounds (p := p) (sp := sp) (lo := lo) HPP.out.2.2 HLL.out.1 HLL.out.2
  have HLW := Lib.hid (fun w1 (hb : Below w.heap.size w w1) => hb.trans ((spW_below w1 p sp lo).mono hb.size))
  by_cases hc : partB lo = true ∧ sigB sp = true ∧ sp ≠ []
  · have ho1 : resolveF (spOne p sp lo) = some (spOut sp lo) := by rw [sp_one HPP.out.1 HPP.out.2.1, if_pos hc]
    have ho2 : resolveF (spTwo [113] sp lo) = some (spOut sp lo) := by rw [sp_two (by decide) (by decide), if_pos hc]
    have ho3 := sp_three hc.1 hc.2.1
    have HC1 := Lib.hid (fun w1 (hb : Below w.heap.size w w1) => resolve_y E _ _ _ (spW10 w1 p sp lo) ho1 (HG.out.below (HLW.out w1 hb)) (HE.out.below (HLW.out w1 hb)) hbd.1 (spW_one w1 p sp lo))
    have HC2 := Lib.hid (fun w1 (hb : Below w.heap.size w w1) w' (hb' : Below (spW10 w1 p sp lo).heap.size (spW10 w1 p sp lo) w') => resolve_y E _ _ _ w' ho2 (HG.out.below ((HLW.out w1 hb).trans (hb'.mono (HLW.out w1 hb).size))) (HE.out.below ((HLW.out w1 hb).trans (hb'.mono (HLW.out w1 hb).size))) hbd.2.1 ((spW_two w1 p sp lo).below hb'))
    have HC3 := Lib.hid (fun w1 (hb : Below w.heap.size w w1) w' (hb' : Below (spW10 w1 p sp lo).heap.size (spW10 w1 p sp lo) w') => resolve_y E _ _ _ w' ho3 (HG.out.below ((HLW.out w1 hb).trans (hb'.mono (HLW.out w1 hb).size))) (HE.out.below ((HLW.out w1 hb).trans (hb'.mono (HLW.out w1 hb).size))) hbd.2.2 ((spW_three w1 p sp lo).below hb'))
    clear hbd hc ho1 ho2 ho3
    go_wp2_with (first | (go_at_call 6; refine HAL.out.mono ?_; clear HAL; rintro e w1 ⟨rfl, hb1⟩) | (go_at_call 9; refine (HC1.out w1 hb1).mono ?_; clear HC1; rintro e w2 ⟨paa, caa, ga, offa, cka, rfl, hT2, hq2, hr2, hb2⟩; have HX2 := Lib.hid (below_alloc1 w2 (.cells #[.string ⟨#[]⟩, .string ⟨#[114]⟩, .slice paa 0 caa, .slice (some ⟨ga, offa, none⟩) 1 cka, .string ⟨#[]⟩] 35)); have HB2 := Lib.hid (hb2.trans (HX2.out.mono hb2.size)); have hbx := (spW_b7 w1 p sp lo).below HB2.out (spW_b7 w1 p sp lo).lt; have y0 := (hbx.cell 0).trans rfl; have y1 := (hbx.cell 1).trans rfl; have y2 := (hbx.cell 2).trans rfl; have y3 := (hbx.cell 3).trans rfl; clear hbx; have HT2 := Lib.hid (hT2.below HX2.out); have HN2 := Lib.hid (Blk.new w2 35 #[.string ⟨#[]⟩, .string ⟨#[114]⟩, .slice paa 0 caa, .slice (some ⟨ga, offa, none⟩) 1 cka, .string ⟨#[]⟩]); clear hT2; have HQ2 := Lib.hid (And.intro hq2 hr2); clear hq2 hr2; have HH2 := Lib.hid hb2; clear hb2) | (go_at_call 9; refine (HC2.out w1 hb1 _ HB2.out).mono ?_; clear HC2; rintro e w3 ⟨pab, cab, gb, offb, ckb, rfl, hT3, hq3, hr3, hb3⟩; have HX3 := Lib.hid (below_alloc1 w3 (.cells #[.string ⟨#[]⟩, .string ⟨#[114]⟩, .slice pab 0 cab, .slice (some ⟨gb, offb, none⟩) 1 ckb, .string ⟨#[]⟩] 35)); have HB3 := Lib.hid (HB2.out.trans ((hb3.trans (HX3.out.mono hb3.size)).mono HB2.out.size)); have hbx := (spW_b10 w1 p sp lo).below HB3.out (spW_b10 w1 p sp lo).lt; have z0 := (hbx.cell 0).trans rfl; have z1 := (hbx.cell 1).trans rfl; have z2 := (hbx.cell 2).trans rfl; have z3 := (hbx.cell 3).trans rfl; clear hbx y0 y1 y2 y3; have HT3 := Lib.hid (hT3.below HX3.out); have HN3 := Lib.hid (Blk.new w3 35 #[.string ⟨#[]⟩, .string ⟨#[114]⟩, .slice pab 0 cab, .slice (some ⟨gb, offb, none⟩) 1 ckb, .string ⟨#[]⟩]); clear hT3; clear hq3 hr3; have HH3 := Lib.hid hb3; clear hb3) | (go_at_call 9; refine (HC3.out w1 hb1 _ HB3.out).mono ?_; rintro e w4 ⟨pac, cac, gc, offc, ckc, rfl, hT4, hq4, hr4, hb4⟩; have HX4 := Lib.hid (below_alloc1 w4 (.cells #[.string ⟨#[]⟩, .string ⟨#[114]⟩, .slice pac 0 cac, .slice (some ⟨gc, offc, none⟩) 1 ckc, .string ⟨#[]⟩] 35)); have HB4 := Lib.hid (HB3.out.trans ((hb4.trans (HX4.out.mono hb4.size)).mono HB3.out.size)); have HT4 := Lib.hid (hT4.below HX4.out); have HN4 := Lib.hid (Blk.new w4 35 #[.string ⟨#[]⟩, .string ⟨#[114]⟩, .slice pac 0 cac, .slice (some ⟨gc, offc, none⟩) 1 ckc, .string ⟨#[]⟩]); clear hT4; clear hq4 hr4; have HH4 := Lib.hid hb4; clear hb4; clear z0 z1 z2 z3))
    have h2a := HN2.out.below (HH3.out.trans (HX3.out.mono HH3.out.size)) HN2.out.lt
    have HNA := Lib.hid (h2a.below (HH4.out.trans (HX4.out.mono HH4.out.size)) h2a.lt)
    have HNB := Lib.hid (HN3.out.below (HH4.out.trans (HX4.out.mono HH4.out.size)) HN3.out.lt)
    have HTA := Lib.hid ((HT2.out.below (HH3.out.trans (HX3.out.mono HH3.out.size))).below (HH4.out.trans (HX4.out.mono HH4.out.size)))
    have HTB := Lib.hid (HT3.out.below (HH4.out.trans (HX4.out.mono HH4.out.size)))
    have HQA := Lib.hid (And.intro (Below.keeps ((HH3.out.trans (HX3.out.mono HH3.out.size)).trans ((HH4.out.trans (HX4.out.mono HH4.out.size)).mono (HH3.out.trans (HX3.out.mono HH3.out.size)).size)) _ _ (Below.keeps HX2.out _ _ HQ2.out.1)) (Below.keeps ((HH3.out.trans (HX3.out.mono HH3.out.size)).trans ((HH4.out.trans (HX4.out.mono HH4.out.size)).mono (HH3.out.trans (HX3.out.mono HH3.out.size)).size)) _ _ (Below.keeps HX2.out _ _ HQ2.out.2)))
    clear h2a
    generalize w4.alloc (.cells #[.string ⟨#[]⟩, .string ⟨#[114]⟩, .slice pac 0 cac, .slice (some ⟨gc, offc, none⟩) 1 ckc, .string ⟨#[]⟩] 35) = wz at *
    have hbb : Below wz.heap.size wz wz := Below.refl _ _
    refine wp_phi (fun w' => Below wz.heap.size wz w') [] [] (by kernel_rfl) (by kernel_rfl) ?_ ?_ (hbb).drew ?_
    · rintro w1' w2' hIB hb
      exact hIB.trans (hb.mono hIB.size)
    · intro p hp; cases hp
    repeat (first | (refine phi_skipK rfl (fun K hK => ?_); simp only [Act.put, List.setIfInBounds_toArray, List.set_cons_succ, List.set_cons_zero]; (try simp only [List.cons_append]); (try simp only [List.nil_append]); apply hK; clear hK K) | (refine phi_pureK rfl rfl (fun K hK => ?_); apply Exists.intro; constructor; (focus (rintro w' hIB; skip; first | (go_simp; done) | (go_simp; (try go_bits); (try go_simp); rfl) | go_simp)); simp only [Act.put, List.setIfInBounds_toArray, List.set_cons_succ, List.set_cons_zero]; (try simp only [List.cons_append]); (try simp only [List.nil_append]); apply hK; clear hK K))
    refine phi_done ?_
    rintro wy hby _
    refine wpList_nil ?_
    have HBY := Lib.hid hby
    have hna := HNA.out.below hby HNA.out.lt
    have hnb := HNB.out.below hby HNB.out.lt
    have HS1 := Lib.hid (same_any _ (spOut sp lo) (spOut sp lo) _ _ _ _ _ (Nat.le_refl _) (spOut_ok sp lo) (spOut_ok sp lo) (HTA.out.below hby) (HTB.out.below hby))
    rw [Tr.eqb_refl] at HS1
    have HS2 := Lib.hid (fun w5 (hb5 : Below wy.heap.size wy w5) => same_any _ (spOut sp lo) (spOut sp lo) _ _ _ _ w5 (Nat.le_refl _) (spOut_ok sp lo) (spOut_ok sp lo) ((HTA.out.below hby).below hb5) ((HT4.out.below hby).below hb5))
    rw [Tr.eqb_refl] at HS2
    have HNY := Lib.hid hna
    have HNC := Lib.hid (HN4.out.below hby HN4.out.lt)
    have HQY := Lib.hid (And.intro (Below.keeps hby _ _ HQA.out.1) (Below.keeps hby _ _ HQA.out.2))
    have i0 := (hna.cell 0).trans rfl
    have j0 := (hnb.cell 0).trans rfl
    have i1 := (hna.cell 1).trans rfl
    have j1 := (hnb.cell 1).trans rfl
    have i2 := (hna.cell 2).trans rfl
    have j2 := (hnb.cell 2).trans rfl
    have i3 := (hna.cell 3).trans rfl
    have j3 := (hnb.cell 3).trans rfl
    have i4 := (hna.cell 4).trans rfl
    have j4 := (hnb.cell 4).trans rfl
    clear hna hnb hby hbb
    go_wp2_with (first | (go_at_call 19; refine HS1.out.mono ?_; clear HS1; rintro e w5 ⟨rfl, hb5⟩; have h5a := HNY.out.below hb5 HNY.out.lt; have h5c := HNC.out.below hb5 HNC.out.lt; have m0 := (h5a.cell 0).trans rfl; have n0 := (h5c.cell 0).trans rfl; have m1 := (h5a.cell 1).trans rfl; have n1 := (h5c.cell 1).trans rfl; have m2 := (h5a.cell 2).trans rfl; have n2 := (h5c.cell 2).trans rfl; have m3 := (h5a.cell 3).trans rfl; have n3 := (h5c.cell 3).trans rfl; have m4 := (h5a.cell 4).trans rfl; have n4 := (h5c.cell 4).trans rfl; have HB5 := Lib.hid hb5; clear h5a h5c hb5 i0 i1 i2 i3 i4 j0 j1 j2 j3 j4) | (go_at_call 19; refine (HS2.out _ HB5.out).mono ?_; rintro e w6 ⟨rfl, hb6⟩; have hb56 := HB5.out.trans (hb6.mono HB5.out.size); have HB6 := Lib.hid hb56; have h6 := HNY.out.below hb56 HNY.out.lt; have k3 := (h6.cell 3).trans rfl; have l0 := Below.keeps hb56 _ _ HQY.out.1; have l1 := Below.keeps hb56 _ _ HQY.out.2; clear h6 hb6 hb56 m0 m1 m2 m3 m4 n0 n1 n2 n3 n4))
    go_ret
    have hL4 := (HLW.out w1 hb1).trans (HB4.out.mono (HLW.out w1 hb1).size)
    have hL5 := hL4.trans (HBY.out.mono hL4.size)
    exact ⟨rfl, hL5.trans (HB6.out.mono hL5.size)⟩
  · have ho1 : resolveF (spOne p sp lo) = none := by rw [sp_one HPP.out.1 HPP.out.2.1, if_neg hc]
    have ho2 : resolveF (spTwo [113] sp lo) = none := by rw [sp_two (by decide) (by decide), if_neg hc]
    have HC1 := Lib.hid (fun w1 (hb : Below w.heap.size w w1) => resolve_n E _ _ _ (spW10 w1 p sp lo) ho1 (HG.out.below (HLW.out w1 hb)) (HE.out.below (HLW.out w1 hb)) hbd.1 (spW_one w1 p sp lo))
    have HC2 := Lib.hid (fun w1 (hb : Below w.heap.size w w1) w' (hb' : Below (spW10 w1 p sp lo).heap.size (spW10 w1 p sp lo) w') => resolve_n E _ _ _ w' ho2 (HG.out.below ((HLW.out w1 hb).trans (hb'.mono (HLW.out w1 hb).size))) (HE.out.below ((HLW.out w1 hb).trans (hb'.mono (HLW.out w1 hb).size))) hbd.2.1 ((spW_two w1 p sp lo).below hb'))
    have HC3 := Lib.hid (fun w1 (hb : Below w.heap.size w w1) w' (hb' : Below (spW10 w1 p sp lo).heap.size (spW10 w1 p sp lo) w') => resolve_sp E (spThree sp lo) _ _ w' _ rfl (HG.out.below ((HLW.out w1 hb).trans (hb'.mono (HLW.out w1 hb).size))) (HE.out.below ((HLW.out w1 hb).trans (hb'.mono (HLW.out w1 hb).size))) hbd.2.2 ((spW_three w1 p sp lo).below hb'))
    clear hbd hc ho1 ho2
    go_wp2_with (first | (go_at_call 6; refine HAL.out.mono ?_; clear HAL; rintro e w1 ⟨rfl, hb1⟩) | (go_at_call 9; refine (HC1.out w1 hb1).mono ?_; clear HC1; rintro e w2 ⟨rfl, hb2⟩; have HX2 := Lib.hid (below_alloc1 w2 (.cells #[.string ⟨#[]⟩, .string ⟨#[]⟩, .slice none 0 0, .slice none 0 0, .string ⟨#[]⟩] 35)); have HB2 := Lib.hid (hb2.trans (HX2.out.mono hb2.size)); have hbx := (spW_b7 w1 p sp lo).below HB2.out (spW_b7 w1 p sp lo).lt; have y0 := (hbx.cell 0).trans rfl; have y1 := (hbx.cell 1).trans rfl; have y2 := (hbx.cell 2).trans rfl; have y3 := (hbx.cell 3).trans rfl; clear hbx) | (go_at_call 9; refine (HC2.out w1 hb1 _ HB2.out).mono ?_; clear HC2; rintro e w3 ⟨rfl, hb3⟩; have HX3 := Lib.hid (below_alloc1 w3 (.cells #[.string ⟨#[]⟩, .string ⟨#[]⟩, .slice none 0 0, .slice none 0 0, .string ⟨#[]⟩] 35)); have HB3 := Lib.hid (HB2.out.trans ((hb3.trans (HX3.out.mono hb3.size)).mono HB2.out.size)); have hbx := (spW_b10 w1 p sp lo).below HB3.out (spW_b10 w1 p sp lo).lt; have z0 := (hbx.cell 0).trans rfl; have z1 := (hbx.cell 1).trans rfl; have z2 := (hbx.cell 2).trans rfl; have z3 := (hbx.cell 3).trans rfl; clear hbx y0 y1 y2 y3) | (go_at_call 9; refine (HC3.out w1 hb1 _ HB3.out).mono ?_; rintro e w4 ⟨f0, f1, f2, f3, f4, er, rfl, ⟨p0, p1, p2, p3, p4⟩, hb4, -, -⟩; clear z0 z1 z2 z3; have HN4 := Lib.hid (Blk.new w4 35 #[.string ⟨#[]⟩, .string ⟨#[]⟩, .slice none 0 0, .slice none 0 0, .string ⟨#[]⟩])) | (refine wpList_store (.tmp 15) (.tmp 74) 35 rfl rfl w4.heap.size 0 _ _ #[f0, f1, f2, f3, f4] rfl rfl HN4.out ?s0 ?s1 ?s2 ?_))
    case s0 => kernel_rfl
    case s2 => simp
    intro w5 hb5 ho5
    have hbX := below_alloc1 w4 (.cells #[.string ⟨#[]⟩, .string ⟨#[]⟩, .slice none 0 0, .slice none 0 0, .string ⟨#[]⟩] 35)
    have HLO := Lib.hid (HLW.out w1 hb1)
    have HL3 := Lib.hid (HLO.out.trans (HB3.out.mono HLO.out.size))
    have HL5 := Lib.hid (((HL3.out.trans (hb4.mono HL3.out.size)).trans (hbX.mono (Nat.le_trans HL3.out.size hb4.size))).trans (ho5.below (Nat.le_trans HL3.out.size hb4.size)))
    have hbb : Below w5.heap.size w5 w5 := Below.refl _ _
    clear hb5 ho5 hbX hb4
    go_wp2_with fail
    refine wp_phi (fun w' => Below w5.heap.size w5 w') [] [] (by kernel_rfl) (by kernel_rfl) ?_ ?_ (hbb).drew ?_
    · rintro w1' w2' hIB hb
      exact hIB.trans (hb.mono hIB.size)
    · intro p hp; cases hp
    repeat (first | (refine phi_skipK rfl (fun K hK => ?_); simp only [Act.put, List.setIfInBounds_toArray, List.set_cons_succ, List.set_cons_zero]; (try simp only [List.cons_append]); (try simp only [List.nil_append]); apply hK; clear hK K) | (refine phi_pureK rfl rfl (fun K hK => ?_); apply Exists.intro; constructor; (focus (rintro w' hIB; skip; first | (go_simp; done) | (go_simp; (try go_bits); (try go_simp); rfl) | go_simp)); simp only [Act.put, List.setIfInBounds_toArray, List.set_cons_succ, List.set_cons_zero]; (try simp only [List.cons_append]); (try simp only [List.nil_append]); apply hK; clear hK K))
    refine phi_done ?_
    rintro wy hby _
    refine wpList_nil ?_
    go_wp2_with fail
    go_ret
    exact ⟨rfl, HL5.out.trans (hby.mono HL5.out.size)⟩
set_option maxRecDepth 20000 in
set_option maxHeartbeats 2000000 in
theorem prefixes_any (E : Nat → Addr) (sp lo : List UInt8) (n : Int) (w : World) (hg : LibG w) (hE : Errs w E) :
    Calls Tryz.prog 5 #[.string (bs sp), .string (bs lo), .int .i64 n] w (fun e w' => e = .returned (.bool true) ∧ Below w.heap.size w w') := by
  have hz1 : (bs sp).size = sp.length := rfl
  have hz2 : (bs lo).size = lo.length := rfl
  have HAL := Lib.hid (alive24_any E w hg hE)
  by_cases h1 : sp.length ≤ 100
  rotate_left 1
  · have d1 : decide (100 < ((bs sp).size : Int)) = true := decide_eq_true (by omega)
    clear h1 hz1 hz2 hg hE
    go_enter Tryz.func5, Tryz.ntmps5
    go_wp2_with (go_at_call 6; refine HAL.out.mono ?_; rintro e w1 ⟨rfl, hb1⟩)
    go_ret
    exact ⟨rfl, hb1⟩
  by_cases h2 : lo.length ≤ 100
  rotate_left 1
  · have d1 : decide (100 < ((bs sp).size : Int)) = false := decide_eq_false (by omega)
    have d2 : decide (100 < ((bs lo).size : Int)) = true := decide_eq_true (by omega)
    clear h1 h2 hz1 hz2 hg hE
    go_enter Tryz.func5, Tryz.ntmps5
    go_wp2_with (go_at_call 6; refine HAL.out.mono ?_; rintro e w1 ⟨rfl, hb1⟩)
    go_ret
    exact ⟨rfl, hb1⟩
  have hk : wrap64 ((IntKind.u64.wrap n).tmod 3) = 0 ∨ wrap64 ((IntKind.u64.wrap n).tmod 3) = 1 ∨ wrap64 ((IntKind.u64.wrap n).tmod 3) = 2 := by
    obtain ⟨m, h1, h2, _⟩ := wrap_mod n 3 (by omega) (by omega)
    rw [h1]
    omega
  rcases hk with hk | hk | hk
  · exact prefixes_0 E sp lo n w hg hE h1 h2 hk
  · exact prefixes_1 E sp lo n w hg hE h1 h2 hk
  · exact prefixes_2 E sp lo n w hg hE h1 h2 hk
theorem bs_of (s : ByteArray) : s = bs s.data.toList := by
  unfold bs
  rw [show s.data.toList.toArray = s.data from Array.toArray_toList]
theorem prefixes_ba (E : Nat → Addr) (s t : ByteArray) (n : Int) (w : World) (hg : LibG w) (hE : Errs w E) :
    Calls Tryz.prog 5 #[.string s, .string t, .int .i64 n] w (fun e w' => e = .returned (.bool true) ∧ Below w.heap.size w w') := by
  rw [bs_of s, bs_of t]
  exact prefixes_any E _ _ n w hg hE
end Go.Proofs.YtlkghhnfjfhedaaGreatDoor
