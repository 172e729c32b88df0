/-
  LawJoin: the walk of FieldsJoin.
-/
import Derived.Test.YtchclmimdpnkaaaDoorFindW
import Derived.Test.YtchclmimdpnkaaaDoorRightW
import Derived.Test.YtchclmimdpnkaaaDoorRefJoin
import Derived.Test.YtchclmimdpnkaaaDoorCutPre
namespace Go.Proofs.YtchclmimdpnkaaaDoor
open Go.RowKit
attribute [local go_sem] bs_toList
attribute [local irreducible] wpPhi

set_option maxRecDepth 20000 in
set_option maxHeartbeats 8000000 in
theorem lawjoin_any (v : Value) (fs : List (Int × List UInt8)) (tag : Int) (w : World) (E : Nat → Addr) (he : Errs w E) (hv : FldL w v fs) :
    Calls Tryd.prog 8 #[v, .int .i64 tag] w (ok1 w) := by
  have HE := Lib.hid he
  have HA := alive_any w E (he.on [0, 3] rfl)
  have HV := Lib.hid hv
  clear he
  obtain ⟨p, cap, us, rfl, h1, h2, _⟩ := hv
  unfold maxLen at h2
  go_enter Tryd.func8, Tryd.ntmps8
  go_wp2_with fail
  refine HA.mono ?_
  rintro e w1 ⟨rfl, hb1⟩
  clear HA
  go_wp2_with fail
  refine (big_any _ fs w1 (HV.out.keep (Below.keeps hb1))).mono ?_
  rintro e w2 ⟨rfl, hb2'⟩
  have hb2 := hb1.trans (hb2'.mono hb1.size)
  clear hb2'
  cases hbg : bigR fs with
  | true =>
    go_wp2_with fail
    go_ret
    exact ⟨rfl, hb2⟩
  | false =>
  have HBG := Lib.hid hbg
  clear hbg
  go_wp2_with fail
  refine (find_any w2 _ fs tag (HV.out.keep (Below.keeps hb2)) HBG.out).mono ?_
  rintro e w3 ⟨p3, c3, rfl, hy3, hb3'⟩
  have hb3 := hb2.trans (hb3'.mono hb2.size)
  have HY3 := Lib.hid hy3
  clear hb3' hy3
  go_wp2_with fail
  refine (reffind_any w3 _ fs tag (HV.out.keep (Below.keeps hb3))).mono ?_
  rintro e w4 ⟨p4, c4, rfl, hy4, hb4'⟩
  have hb4 := hb3.trans (hb4'.mono hb3.size)
  have s1 := str_of (HY3.out.keep (Below.keeps hb4'))
  have s2 := str_of hy4
  clear hb4' hy4 HY3
  generalize ((findF tag fs).map (·.2)).getD [] = D at *
  generalize (findF tag fs).isSome = S at *
  go_wp2_with fail
  refine (join_any _ fs w4 E ((HE.out.below hb4).on [3] rfl) (HV.out.keep (Below.keeps hb4))).mono ?_
  rintro e w5 hg
  obtain ⟨p5, c5, rfl, hy5, hb5'⟩ := gb_byt hg
  have hb5 := hb4.trans (hb5'.mono hb4.size)
  have HY5 := Lib.hid hy5
  clear hb5' hy5 hg s1 s2
  go_wp2_with fail
  refine (refright_any _ fs w5 (HV.out.keep (Below.keeps hb5))).mono ?_
  rintro e w6 ⟨rfl, hb6'⟩
  have hb6 := hb5.trans (hb6'.mono hb5.size)
  have HY6 := Lib.hid (HY5.out.keep (Below.keeps hb6'))
  clear hb6' HY5
  cases hr : rightRow fs with
  | false =>
    have hE : joinE fs = 4 := by unfold joinE; rw [hr]; rfl
    have hR : joinR fs = [] := by unfold joinR; rw [hr]; rfl
    rw [hE, hR]
    rw [hR] at HY6
    clear hr
    go_wp2_with fail
    refine (num_any w6 E 4 (by omega) (HE.out.below hb6)).mono ?_
    rintro e w7 ⟨rfl, hb7'⟩
    have hb7 := hb6.trans (hb7'.mono hb6.size)
    go_wp2_with fail
    go_ret
    exact ⟨rfl, hb7⟩
  | true =>
    have hE : joinE fs = 0 := by unfold joinE; rw [hr]; rfl
    have hR : joinR fs = joinL fs := by unfold joinR; rw [hr]; rfl
    have HR := Lib.hid hr
    obtain ⟨hS1, hS2⟩ := split_joined fs hr
    rw [hE, hR]
    rw [hR] at HY6
    clear hr hE hR
    obtain ⟨X, hX⟩ : ∃ X, X = joinL fs := ⟨_, rfl⟩
    rw [← hX] at hS1 hS2 HY6
    rw [← hX, errV_zero]
    have HRJ := Lib.hid (show ∀ w', FldL w' (.slice p fs.length cap) fs → Calls Tryd.prog 33 #[.slice p fs.length cap] w' (fun e w'' => ∃ v, e = .returned v ∧ Byt w'' v X ∧ Below w'.heap.size w' w'') from by
      intro w' gv
      rw [hX]
      exact (refjoin_any _ fs w' gv HR.out).mono (fun _ _ h => by obtain ⟨p, c, h1, h2, h3⟩ := h; exact ⟨_, h1, h2, h3⟩))
    have HRS := Lib.hid (show ∀ w' v1 v2, FldL w' v1 fs → FldL w' v2 fs → Calls Tryd.prog 26 #[v1, v2] w' (fun e w'' => e = .returned (.bool true) ∧ Below w'.heap.size w' w'') from by
      intro w' v1 v2 g1 g2
      refine (refsame_any v1 v2 fs fs w' g1 g2).mono ?_
      rintro e w'' ⟨rfl, h⟩
      exact ⟨by simp, h⟩)
    clear hX
    go_wp2_with fail
    refine (split_any w6 E _ X (HE.out.below hb6) HY6.out).mono ?_
    rintro e w7 ⟨v7, rfl, hf7, hb7'⟩
    have hb7 := hb6.trans (hb7'.mono hb6.size)
    rw [hS1, errV_zero]
    rw [hS2] at hf7
    have hf7' := hf7
    obtain ⟨p7, c7, us7, rfl, _⟩ := hf7
    have hy7 := HY6.out.keep (Below.keeps hb7')
    have hv7 := HV.out.keep (Below.keeps hb7)
    clear hS1 hS2 HY6 hb7'
    go_wp2_with fail
    refine wp_phi (fun w' => (Byt w' (.slice p5 X.length c5) X) ∧ (FldL w' (.slice p7 fs.length c7) fs) ∧ (FldL w' (.slice p fs.length cap) fs) ∧ Below w.heap.size w w') [(6, PByt (X)), (7, PVal (.string (bs (X)))), (17, PVal (.bool true))] [(7, [6])] (by kernel_rfl) (by kernel_rfl) ?_ ?_ ⟨hy7, hf7', hv7, (hb7).drew⟩ ?_
    · rintro w1' w2' ⟨gx, gf, gv, hIB⟩ hb
      exact ⟨(by first | exact gx.below hb | exact gx.keep (Below.keeps hb) | exact Below.keeps hb _ _ gx), (by first | exact gf.below hb | exact gf.keep (Below.keeps hb) | exact Below.keeps hb _ _ gf), (by first | exact gv.below hb | exact gv.keep (Below.keeps hb) | exact Below.keeps hb _ _ gv), hIB.trans (hb.mono hIB.size)⟩
    · simp only [List.mem_cons, List.not_mem_nil, or_false, forall_eq_or_imp, forall_eq]
      exact ⟨fun _ _ _ _ h' h => PByt_stays _ _ _ _ h' h, fun _ _ _ _ h' h => PVal_stays _ _ _ _ h' h, fun _ _ _ _ h' h => PVal_stays _ _ _ _ h' h⟩
    repeat (first | (refine phi_skipK rfl (fun K hK => ?_); simp only [Act.put, List.setIfInBounds_toArray, List.set_cons_succ, List.set_cons_zero]; (try simp only [List.cons_append]); (try simp only [List.nil_append]); apply hK; clear hK K) | (refine phi_pureK rfl rfl (fun K hK => ?_); apply Exists.intro; constructor; (rintro w' ⟨gx, gf, gv, hIB⟩; have s1 := str_of gx; clear gx gf gv hIB; first | (go_simp; (try go_bits); (try go_simp); rfl) | go_simp); simp only [Act.put, List.setIfInBounds_toArray, List.set_cons_succ, List.set_cons_zero]; (try simp only [List.cons_append]); (try simp only [List.nil_append]); apply hK; clear hK K))
    refine phi_partK (PByt (X)) rfl rfl ⟨_, none, 0, rfl⟩ ?_ (fun K hK v hv => ?_)
    · rintro w' ⟨gx, gf, gv, hIB⟩ hf
      unfold gives
      clear hf
      go_simp
      refine ((HRJ.out w' gv)).mono ?_
      rintro e w'' ⟨v, rfl, hby, hb⟩
      have hby' := hby
      obtain ⟨q, c, rfl, _⟩ := hby'
      exact ⟨_, rfl, ⟨q, c, rfl⟩, hby, hb⟩
    obtain ⟨p_6, c_6, rfl⟩ := hv
    simp only [Act.put, List.setIfInBounds_toArray, List.set_cons_succ, List.set_cons_zero]; (try simp only [List.cons_append]); (try simp only [List.nil_append])
    apply hK
    clear hK K
    repeat (first | (refine phi_skipK rfl (fun K hK => ?_); simp only [Act.put, List.setIfInBounds_toArray, List.set_cons_succ, List.set_cons_zero]; (try simp only [List.cons_append]); (try simp only [List.nil_append]); apply hK; clear hK K) | (refine phi_pureK rfl rfl (fun K hK => ?_); apply Exists.intro; constructor; (rintro w' ⟨gx, gf, gv, hIB⟩; have s1 := str_of gx; clear gx gf gv hIB; first | (go_simp; (try go_bits); (try go_simp); rfl) | go_simp); simp only [Act.put, List.setIfInBounds_toArray, List.set_cons_succ, List.set_cons_zero]; (try simp only [List.cons_append]); (try simp only [List.nil_append]); apply hK; clear hK K))
    refine phi_partK (PVal (.string (bs (X)))) rfl rfl ⟨_, rfl⟩ ?_ (fun K hK v hv => ?_)
    · rintro w' ⟨gx, gf, gv, hIB⟩ hf
      have hbS : Byt w' _ (X) := hf (6, fun w => (PByt (X)).fact w (.slice p_6 (X).length c_6)) (by simp) (List.contains_iff_mem.1 rfl)
      have sS := str_of hbS
      clear hf hbS
      unfold gives
      go_simp
      exact ⟨rfl, trivial, Below.refl _ _⟩
    obtain rfl : v = _ := hv
    simp only [Act.put, List.setIfInBounds_toArray, List.set_cons_succ, List.set_cons_zero]; (try simp only [List.cons_append]); (try simp only [List.nil_append])
    apply hK
    clear hK K
    repeat (first | (refine phi_skipK rfl (fun K hK => ?_); simp only [Act.put, List.setIfInBounds_toArray, List.set_cons_succ, List.set_cons_zero]; (try simp only [List.cons_append]); (try simp only [List.nil_append]); apply hK; clear hK K) | (refine phi_pureK rfl rfl (fun K hK => ?_); apply Exists.intro; constructor; (rintro w' ⟨gx, gf, gv, hIB⟩; have s1 := str_of gx; clear gx gf gv hIB; first | (go_simp; (try go_bits); (try go_simp); rfl) | go_simp); simp only [Act.put, List.setIfInBounds_toArray, List.set_cons_succ, List.set_cons_zero]; (try simp only [List.cons_append]); (try simp only [List.nil_append]); apply hK; clear hK K))
    refine phi_partK (PVal (.bool true)) rfl rfl ⟨_, rfl⟩ ?_ (fun K hK v hv => ?_)
    · rintro w' ⟨gx, gf, gv, hIB⟩ hf
      unfold gives
      clear hf
      go_simp
      refine (HRS.out w' _ _ gf gv).mono ?_
      rintro e w'' ⟨rfl, hb⟩
      exact ⟨_, rfl, rfl, trivial, hb⟩
    obtain rfl : v = _ := hv
    simp only [Act.put, List.setIfInBounds_toArray, List.set_cons_succ, List.set_cons_zero]; (try simp only [List.cons_append]); (try simp only [List.nil_append])
    apply hK
    clear hK K
    repeat (first | (refine phi_skipK rfl (fun K hK => ?_); simp only [Act.put, List.setIfInBounds_toArray, List.set_cons_succ, List.set_cons_zero]; (try simp only [List.cons_append]); (try simp only [List.nil_append]); apply hK; clear hK K) | (refine phi_pureK rfl rfl (fun K hK => ?_); apply Exists.intro; constructor; (rintro w' ⟨gx, gf, gv, hIB⟩; have s1 := str_of gx; clear gx gf gv hIB; first | (go_simp; (try go_bits); (try go_simp); rfl) | go_simp); simp only [Act.put, List.setIfInBounds_toArray, List.set_cons_succ, List.set_cons_zero]; (try simp only [List.cons_append]); (try simp only [List.nil_append]); apply hK; clear hK K))
    refine phi_done ?_
    rintro w8 ⟨gx, gf, gv, hb8⟩ _
    refine wpList_nil ?_
    clear gx gf gv
    go_wp2_with fail
    go_ret
    exact ⟨rfl, hb8⟩
end Go.Proofs.YtchclmimdpnkaaaDoor
