/-
  LawFloats: the walk of FieldsFloats.
-/
import Derived.Test.YtchclmimdpnkaaaDoorFloatB
import Derived.Test.YtchclmimdpnkaaaDoorFlagW
namespace Go.Proofs.YtchclmimdpnkaaaDoor
open Go.RowKit
attribute [local go_sem] bs_toList

/-- what raw bytes are, seen as a flag -/
inductive FlagCase : List UInt8 → Prop
  | nil : FlagCase []
  | one : FlagCase [1]
  | bad (c : UInt8) (h : c.toNat ≠ 1) : FlagCase [c]
  | more (l : List UInt8) (h : 2 ≤ l.length) : FlagCase l
theorem flagCase (l : List UInt8) : FlagCase l := by
  match l with
  | [] => exact .nil
  | [c] =>
    by_cases h : c.toNat = 1
    · have : c = 1 := UInt8.toNat_inj.1 h
      subst this; exact .one
    · exact .bad c h
  | _ :: _ :: l => exact .more _ (by simp)
theorem toflag_bad (v : Value) (l : List UInt8) (w : World) (E : Nat → Addr) (he : ErrsOn [3] w E) (hv : Byt w v l) (hl : 2 ≤ l.length ∨ ∃ c : UInt8, l = [c] ∧ c.toNat ≠ 1) :
    Calls Tryd.prog 11 #[v] w fun e w' => e = .returned (.tuple #[.bool false, errV E 4]) ∧ Below w.heap.size w w' := by
  have e3 := he.cell 3 rfl
  simp only [errVar, List.getD_cons_zero, List.getD_cons_succ, errAt] at e3
  obtain ⟨p, cap, rfl, h1, h2, h3⟩ := hv
  unfold maxLen at h2
  clear he
  rcases hl with hl | ⟨c, rfl, hc⟩
  · have d1 : decide ((1 : Int) < (l.length : Int)) = true := by simp; omega
    have d1' : decide (1 < l.length) = true := by simp; omega
    clear h3
    go_enter Tryd.func11, Tryd.ntmps11
    go_wp2_with fail
    go_quiet (fail)
    go_wp2_with fail
    go_ret2
    exact ⟨rfl, below_drewN _ _⟩
  · obtain ⟨b, off, rfl, hcell⟩ := byt_cell h3 (k := 0) (by simp)
    have hc' : w.cell? ⟨b, off, none⟩ = some (.int .u8 (c.toNat : Int)) := hcell
    have dn : ((c.toNat : Int) != 1) = true := by simp; omega
    clear h3 hcell hc
    simp only [List.length_singleton] at *
    go_enter Tryd.func11, Tryd.ntmps11
    go_wp2_with fail
    go_quiet (fail)
    go_wp2_with fail
    go_ret2
    exact ⟨rfl, below_drewN _ _⟩
theorem flag_w (is : Bool) (w : World) :
    Calls Tryd.prog 12 #[.bool is] w fun e w' => ∃ p cap, e = .returned (.slice p (flagL is).length cap) ∧ Byt w' (.slice p (flagL is).length cap) (flagL is) ∧ Below w.heap.size w w' := by
  refine (flag_any is w).mono ?_
  rintro e w' ⟨v, rfl, ho, hb⟩
  have hby := owns_byt ho
  have hby' := hby
  obtain ⟨p, cap, rfl, _⟩ := hby'
  exact ⟨p, cap, rfl, hby, hb⟩
theorem valB_eight (n : Nat) (h : n < 18446744073709551616) : valB (eightB n) = n := by
  unfold valB eightB
  simp only [List.foldl_cons, List.foldl_nil, byte_wrap]
  omega
theorem toFlt_eight {x : Nat} (hx : x < 18446744073709551616) : toFltF (eightB (plainN x)) = plainN x ∧ toFltE (eightB (plainN x)) = 0 := by
  have h := valB_eight (plainN x) (plain_lt hx)
  unfold toFltF toFltE
  rw [h, if_pos ⟨rfl, plain_idem x⟩, if_pos ⟨rfl, plain_idem x⟩]
  exact ⟨rfl, rfl⟩
theorem toFltE_cases (l : List UInt8) : toFltE l = 0 ∨ toFltE l = 4 := by unfold toFltE; split <;> simp
theorem errV_four (E : Nat → Addr) : errV E 4 = .iface 100 (.pointer (some (E 3))) := rfl

set_option maxRecDepth 20000 in
set_option maxHeartbeats 4000000 in
theorem floats_any (x : Nat) (v : Value) (l : List UInt8) (is : Bool) (hx : x < 18446744073709551616) (w : World) (E : Nat → Addr) (he : Errs w E) (hv : Byt w v l) :
    Calls Tryd.prog 5 #[.float .f64 x, v, .bool is] w (ok1 w) := by
  have HE := Lib.hid he
  have HA := alive_any w E (he.on [0, 3] rfl)
  have HV := Lib.hid hv
  clear he
  obtain ⟨p, cap, rfl, h1, h2, h3⟩ := hv
  have H3 := Lib.hid h3
  unfold maxLen at h2
  clear h3
  go_enter Tryd.func5, Tryd.ntmps5
  go_wp2_with fail
  refine HA.mono ?_
  rintro e w1 ⟨rfl, hb1⟩
  by_cases hl : l.length ≤ 100
  · have hld : decide (100 < (l.length : Int)) = false := decide_eq_false (by omega)
    have hld' : decide (100 < l.length) = false := decide_eq_false (by omega)
    go_wp2_with fail
    refine (float_any x hx w1).mono ?_
    rintro e w2 ⟨v2, rfl, ho2, hb2'⟩
    have hb2 := hb1.trans (hb2'.mono hb1.size)
    have hy2 := owns_byt ho2
    clear ho2 hb2'
    have hfe := toFlt_eight hx
    have hpl := plain_lt hx
    have HRF := Lib.hid (fun w => reffloat_any x hx w)
    have HRB := Lib.hid (fun w => refbits_any x hx w)
    generalize hm : eightB (plainN x) = m at *
    generalize plainN x = q at *
    clear hm
    obtain ⟨p2, c2, rfl, g1, g2, _⟩ := id hy2
    have HY2 := Lib.hid hy2
    unfold maxLen at g2
    clear hy2
    go_wp2_with fail
    refine (tofloat_any _ m w2 E ((HE.out.below hb2).on [3] rfl) HY2.out).mono ?_
    rintro e w3 ⟨rfl, hb3'⟩
    have hy3 := HY2.out.below hb3'
    have hb3 := hb2.trans (hb3'.mono hb2.size)
    rw [hfe.1, hfe.2, errV_zero]
    clear hfe hb3'
    have dqq : ((q : Int) != (q : Int)) = false := by simp
    go_wp2_with fail
    refine wp_phi (fun w' => (Byt w' (.slice p2 m.length c2) m) ∧ Below w.heap.size w w') [(3, PByt (m)), (4, PVal (.string (bs (m)))), (12, PVal (.int .u64 (q : Int))), (14, PVal (.int .u64 (q : Int)))] [(4, [3])] (by kernel_rfl) (by kernel_rfl) ?_ ?_ ⟨hy3, (hb3).drew⟩ ?_
    · rintro w1' w2' ⟨g, hIB⟩ hb
      exact ⟨(by first | exact g.below hb | exact g.keep (Below.keeps hb)), hIB.trans (hb.mono hIB.size)⟩
    · simp only [List.mem_cons, List.not_mem_nil, or_false, forall_eq_or_imp, forall_eq]
      exact ⟨fun _ _ _ _ h' h => PByt_stays _ _ _ _ h' h, fun _ _ _ _ h' h => PVal_stays _ _ _ _ h' h, fun _ _ _ _ h' h => PVal_stays _ _ _ _ h' h, fun _ _ _ _ h' h => PVal_stays _ _ _ _ h' h⟩
    repeat (first | (refine phi_skipK rfl (fun K hK => ?_); simp only [Act.put, List.setIfInBounds_toArray, List.set_cons_succ, List.set_cons_zero]; (try simp only [List.cons_append]); (try simp only [List.nil_append]); apply hK; clear hK K) | (refine phi_pureK rfl rfl (fun K hK => ?_); apply Exists.intro; constructor; (rintro w' ⟨g, hIB⟩; have s1 := str_of g; clear g hIB; first | (go_simp; (try go_bits); (try go_simp); rfl) | go_simp); simp only [Act.put, List.setIfInBounds_toArray, List.set_cons_succ, List.set_cons_zero]; (try simp only [List.cons_append]); (try simp only [List.nil_append]); apply hK; clear hK K))
    refine phi_partK (PByt (m)) rfl rfl ⟨_, none, 0, rfl⟩ ?_ (fun K hK v hv => ?_)
    · rintro w' ⟨g, hIB⟩ hf
      unfold gives
      clear hf
      go_simp
      refine (((HRF.out w').mono (fun _ _ h => GivesO.byt h))).mono ?_
      rintro e w'' ⟨v, rfl, hby, hb⟩
      have hby' := hby
      obtain ⟨q, c, rfl, _⟩ := hby'
      exact ⟨_, rfl, ⟨q, c, rfl⟩, hby, hb⟩
    obtain ⟨p_3, c_3, rfl⟩ := hv
    simp only [Act.put, List.setIfInBounds_toArray, List.set_cons_succ, List.set_cons_zero]; (try simp only [List.cons_append]); (try simp only [List.nil_append])
    apply hK
    clear hK K
    repeat (first | (refine phi_skipK rfl (fun K hK => ?_); simp only [Act.put, List.setIfInBounds_toArray, List.set_cons_succ, List.set_cons_zero]; (try simp only [List.cons_append]); (try simp only [List.nil_append]); apply hK; clear hK K) | (refine phi_pureK rfl rfl (fun K hK => ?_); apply Exists.intro; constructor; (rintro w' ⟨g, hIB⟩; have s1 := str_of g; clear g hIB; first | (go_simp; (try go_bits); (try go_simp); rfl) | go_simp); simp only [Act.put, List.setIfInBounds_toArray, List.set_cons_succ, List.set_cons_zero]; (try simp only [List.cons_append]); (try simp only [List.nil_append]); apply hK; clear hK K))
    refine phi_partK (PVal (.string (bs (m)))) rfl rfl ⟨_, rfl⟩ ?_ (fun K hK v hv => ?_)
    · rintro w' ⟨g, hIB⟩ hf
      have hbS : Byt w' _ (m) := hf (3, fun w => (PByt (m)).fact w (.slice p_3 (m).length c_3)) (by simp) (List.contains_iff_mem.1 rfl)
      have sS := str_of hbS
      clear hf hbS
      unfold gives
      go_simp
      exact ⟨rfl, trivial, Below.refl _ _⟩
    obtain rfl : v = _ := hv
    simp only [Act.put, List.setIfInBounds_toArray, List.set_cons_succ, List.set_cons_zero]; (try simp only [List.cons_append]); (try simp only [List.nil_append])
    apply hK
    clear hK K
    repeat (first | (refine phi_skipK rfl (fun K hK => ?_); simp only [Act.put, List.setIfInBounds_toArray, List.set_cons_succ, List.set_cons_zero]; (try simp only [List.cons_append]); (try simp only [List.nil_append]); apply hK; clear hK K) | (refine phi_pureK rfl rfl (fun K hK => ?_); apply Exists.intro; constructor; (rintro w' ⟨g, hIB⟩; have s1 := str_of g; clear g hIB; first | (go_simp; (try go_bits); (try go_simp); rfl) | go_simp); simp only [Act.put, List.setIfInBounds_toArray, List.set_cons_succ, List.set_cons_zero]; (try simp only [List.cons_append]); (try simp only [List.nil_append]); apply hK; clear hK K))
    refine phi_partK (PVal (.int .u64 (q : Int))) rfl rfl ⟨_, rfl⟩ ?_ (fun K hK v hv => ?_)
    · rintro w' ⟨g, hIB⟩ hf
      unfold gives
      clear hf
      go_simp
      refine (raw_any q w').mono ?_
      rintro e w'' ⟨rfl, hb⟩
      exact ⟨_, rfl, rfl, trivial, hb⟩
    obtain rfl : v = _ := hv
    simp only [Act.put, List.setIfInBounds_toArray, List.set_cons_succ, List.set_cons_zero]; (try simp only [List.cons_append]); (try simp only [List.nil_append])
    apply hK
    clear hK K
    repeat (first | (refine phi_skipK rfl (fun K hK => ?_); simp only [Act.put, List.setIfInBounds_toArray, List.set_cons_succ, List.set_cons_zero]; (try simp only [List.cons_append]); (try simp only [List.nil_append]); apply hK; clear hK K) | (refine phi_pureK rfl rfl (fun K hK => ?_); apply Exists.intro; constructor; (rintro w' ⟨g, hIB⟩; have s1 := str_of g; clear g hIB; first | (go_simp; (try go_bits); (try go_simp); rfl) | go_simp); simp only [Act.put, List.setIfInBounds_toArray, List.set_cons_succ, List.set_cons_zero]; (try simp only [List.cons_append]); (try simp only [List.nil_append]); apply hK; clear hK K))
    refine phi_partK (PVal (.int .u64 (q : Int))) rfl rfl ⟨_, rfl⟩ ?_ (fun K hK v hv => ?_)
    · rintro w' ⟨g, hIB⟩ hf
      unfold gives
      clear hf
      go_simp
      refine (HRB.out w').mono ?_
      rintro e w'' ⟨rfl, hb⟩
      exact ⟨_, rfl, rfl, trivial, hb⟩
    obtain rfl : v = _ := hv
    simp only [Act.put, List.setIfInBounds_toArray, List.set_cons_succ, List.set_cons_zero]; (try simp only [List.cons_append]); (try simp only [List.nil_append])
    apply hK
    clear hK K
    repeat (first | (refine phi_skipK rfl (fun K hK => ?_); simp only [Act.put, List.setIfInBounds_toArray, List.set_cons_succ, List.set_cons_zero]; (try simp only [List.cons_append]); (try simp only [List.nil_append]); apply hK; clear hK K) | (refine phi_pureK rfl rfl (fun K hK => ?_); apply Exists.intro; constructor; (rintro w' ⟨g, hIB⟩; have s1 := str_of g; clear g hIB; first | (go_simp; (try go_bits); (try go_simp); rfl) | go_simp); simp only [Act.put, List.setIfInBounds_toArray, List.set_cons_succ, List.set_cons_zero]; (try simp only [List.cons_append]); (try simp only [List.nil_append]); apply hK; clear hK K))
    refine phi_done ?_
    rintro w4 ⟨g, hb4⟩ _
    refine wpList_nil ?_
    clear HRF HRB HY2 hpl
    go_wp2_with fail
    refine (tofloat_any _ l w4 E ((HE.out.below hb4).on [3] rfl) (HV.out.below hb4)).mono ?_
    rintro e w5 ⟨rfl, hb5'⟩
    have hb5 := hb4.trans (hb5'.mono hb4.size)
    clear hb5'
    go_wp2_with fail
    refine (reftofloat_any _ l w5 (HV.out.below hb5)).mono ?_
    rintro e w6 ⟨rfl, hb6'⟩
    have hb6 := hb5.trans (hb6'.mono hb5.size)
    clear hb6'
    have hc := toFltE_cases l
    generalize toFltF l = f at *
    generalize toFltE l = fe at *
    have dff : ((f : Int) != (f : Int)) = false := by simp
    have dee : ((fe : Int) != (fe : Int)) = false := by simp
    go_wp2_with fail
    refine (raw_any f w6).mono ?_
    rintro e w7 ⟨rfl, hb7'⟩
    have hb7 := hb6.trans (hb7'.mono hb6.size)
    clear hb7'
    go_wp2_with fail
    refine (raw_any f w7).mono ?_
    rintro e w8 ⟨rfl, hb8'⟩
    have hb8 := hb7.trans (hb8'.mono hb7.size)
    clear hb8'
    go_wp2_with fail
    refine (num_any w8 E fe (by omega) (HE.out.below hb8)).mono ?_
    rintro e w9 ⟨rfl, hb9'⟩
    have hb9 := hb8.trans (hb9'.mono hb8.size)
    clear hb9'
    clear hc
    go_wp2_with fail
    refine (flag_w is w9).mono ?_
    rintro e wa ⟨pa, ca, rfl, hya, hba'⟩
    have hba := hb9.trans (hba'.mono hb9.size)
    have HYA := Lib.hid hya
    clear hya hba'
    go_wp2_with fail
    refine (toflag_flag is _ wa HYA.out).mono ?_
    rintro e wb ⟨rfl, hbb'⟩
    have hbb := hba.trans (hbb'.mono hba.size)
    clear hbb'
    have his : (is == is) = true := by simp
    clear HYA
    have fc := flagCase l
    cases fc with
    | nil =>
      go_wp2_with fail
      refine (toflag_flag false _ wb (HV.out.below hbb)).mono ?_
      rintro e wc ⟨rfl, hbc'⟩
      have hbc := hbb.trans (hbc'.mono hbb.size)
      clear hbc'
      go_wp2_with fail
      go_ret
      exact ⟨rfl, hbc⟩
    | one =>
      obtain ⟨b, off, rfl, hcell⟩ := byt_cell H3.out (k := 0) (by simp)
      have hcw : ∀ w', Below w.heap.size w w' → w'.cell? ⟨b, off, none⟩ = some (.int .u8 1) := fun w' hb => Below.keeps hb _ _ hcell
      have HCW := Lib.hid hcw
      clear hcw hcell
      simp only [List.length_singleton] at *
      go_wp2_with fail
      refine (toflag_flag true _ wb (HV.out.below hbb)).mono ?_
      rintro e wc ⟨rfl, hbc'⟩
      have hbc := hbb.trans (hbc'.mono hbb.size)
      clear hbc'
      have hcc := HCW.out wc hbc
      go_wp2_with fail
      go_ret
      exact ⟨rfl, hbc⟩
    | bad c hc =>
      obtain ⟨b, off, rfl, hcell⟩ := byt_cell H3.out (k := 0) (by simp)
      have hcw : ∀ w', Below w.heap.size w w' → w'.cell? ⟨b, off, none⟩ = some (.int .u8 (c.toNat : Int)) := fun w' hb => Below.keeps hb _ _ hcell
      have HCW := Lib.hid hcw
      have dn : ((c.toNat : Int) == 1) = false := by simp; omega
      clear hcw hcell
      simp only [List.length_singleton] at *
      go_wp2_with fail
      refine (toflag_bad _ [c] wb E ((HE.out.below hbb).on [3] rfl) (HV.out.below hbb) (.inr ⟨c, rfl, hc⟩)).mono ?_
      rintro e wc ⟨rfl, hbc'⟩
      have hbc := hbb.trans (hbc'.mono hbb.size)
      clear hbc'
      have hcc := HCW.out wc hbc
      clear hc
      rw [errV_four]
      go_wp2_with fail
      rw [← errV_four]
      refine (num_any wc E 4 (by omega) (HE.out.below hbc)).mono ?_
      rintro e wd ⟨rfl, hbd'⟩
      have hbd := hbc.trans (hbd'.mono hbc.size)
      clear hbd'
      go_wp2_with fail
      go_ret
      exact ⟨rfl, hbd⟩
    | more _ h2l =>
      have e0 : ((l.length : Int) == 0) = false := by rw [beq_eq_false_iff_ne]; omega
      have e1 : ((l.length : Int) == 1) = false := by rw [beq_eq_false_iff_ne]; omega
      go_wp2_with fail
      refine (toflag_bad _ l wb E ((HE.out.below hbb).on [3] rfl) (HV.out.below hbb) (.inl h2l)).mono ?_
      rintro e wc ⟨rfl, hbc'⟩
      have hbc := hbb.trans (hbc'.mono hbb.size)
      clear hbc'
      rw [errV_four]
      go_wp2_with fail
      rw [← errV_four]
      refine (num_any wc E 4 (by omega) (HE.out.below hbc)).mono ?_
      rintro e wd ⟨rfl, hbd'⟩
      have hbd := hbc.trans (hbd'.mono hbc.size)
      clear hbd'
      go_wp2_with fail
      go_ret
      exact ⟨rfl, hbd⟩
  · have hld : decide (100 < (l.length : Int)) = true := decide_eq_true (by omega)
    have hld' : decide (100 < l.length) = true := decide_eq_true (by omega)
    go_wp2_with fail
    go_ret
    exact ⟨rfl, hb1⟩
end Go.Proofs.YtchclmimdpnkaaaDoor
