/-
  LawNumbers: the walk of FieldsNumbers.
-/
import Derived.Test.YtchclmimdpnkaaaDoorRefNum
namespace Go.Proofs.YtchclmimdpnkaaaDoor
open Go.RowKit
attribute [local go_sem] bs_toList

theorem toNum_numB (n : Nat) (h : n ≤ 9223372036854775807) : toNumF (numB n) = n ∧ toNumE (numB n) = 0 := by
  have hE : toNumE (numB n) = 0 := by
    unfold toNumE
    rw [if_neg (numB_head n), if_neg]
    rintro (h1 | ⟨_, h2⟩)
    · have := numB_len (n := n) 8 (by omega)
      omega
    · rw [valB_numB] at h2; omega
  refine ⟨?_, hE⟩
  unfold toNumF; rw [if_pos hE, valB_numB]
theorem toNumE_le (l : List UInt8) : toNumE l ≤ 14 := by
  unfold toNumE; repeat' split
  all_goals omega
theorem numG2 (x : Int) (w : World) (E : Nat → Addr) (hx : x ≤ 9223372036854775807) (he : Errs w E) :
    Calls Tryd.prog 10 #[.int .i64 x] w (GivesB w E (numR x) (numE x)) := number_r x w E hx (he.on [0] rfl)
theorem errV_one (E : Nat → Addr) (n : Nat) : errV E (n + 1) = .iface 100 (.pointer (some (E n))) := rfl
theorem toNumF_le (l : List UInt8) : toNumF l ≤ 9223372036854775807 := by
  unfold toNumF toNumE
  have := valB_7 l
  repeat' split
  all_goals simp_all
  omega

set_option maxRecDepth 20000 in
set_option maxHeartbeats 2000000 in
theorem numbers_any (x : Int) (v : Value) (l : List UInt8) (hx : -9223372036854775808 ≤ x ∧ x ≤ 9223372036854775807) (w : World) (E : Nat → Addr) (he : Errs w E) (hv : Byt w v l) :
    Calls Tryd.prog 4 #[.int .i64 x, v] w (ok1 w) := by
  have HE := Lib.hid he
  have HA := alive_any w E (he.on [0, 3] rfl)
  have HV := Lib.hid hv
  clear he
  obtain ⟨p, cap, rfl, h1, h2, h3⟩ := hv
  unfold maxLen at h2
  clear h3
  go_enter Tryd.func4, Tryd.ntmps4
  go_wp2_with fail
  refine HA.mono ?_
  rintro e w1 ⟨rfl, hb1⟩
  by_cases hl : l.length ≤ 100
  · have hld : decide (100 < (l.length : Int)) = false := decide_eq_false (by omega)
    have hld' : decide (100 < l.length) = false := decide_eq_false (by omega)
    go_wp2_with fail
    refine (numG2 x w1 E hx.2 (HE.out.below hb1)).mono ?_
    rintro e w2 hg
    obtain ⟨p2, c2, rfl, hby2, hb2⟩ := gb_byt hg
    replace hb2 := hb1.trans (hb2.mono hb1.size)
    have HY2 := Lib.hid hby2
    clear hby2 hg
    have tail : True := trivial
    by_cases hneg : x < 0
    · rw [numR_neg hneg, numE_neg hneg] at *
      have d1 : decide (x < 0) = true := by simpa using hneg
      go_wp2_with fail
      refine (num_any w2 E 1 (by omega) (HE.out.below hb2)).mono ?_
      rintro e w5 ⟨rfl, hb5'⟩
      have hb5 := hb2.trans (hb5'.mono hb2.size)
      clear hb5'
      go_wp2_with fail
      refine (tonumber_any _ l w5 E ((HE.out.below hb5).on [0, 3] rfl) (HV.out.keep (Below.keeps hb5))).mono ?_
      rintro e wa ⟨rfl, hba'⟩
      have hba := hb5.trans (hba'.mono hb5.size)
      clear hba'
      go_wp2_with fail
      refine (reftonumber_any _ l wa (HV.out.keep (Below.keeps hba))).mono ?_
      rintro e wb ⟨rfl, hbb'⟩
      have hbb := hba.trans (hbb'.mono hba.size)
      clear hbb'
      have hff : ((toNumF l : Int) == (toNumF l : Int)) = true := by simp
      have hee : ((toNumE l : Int) == (toNumE l : Int)) = true := by simp
      have hle := toNumE_le l
      generalize toNumF l = f at *
      generalize toNumE l = q at *
      go_wp2_with fail
      refine (num_any wb E q hle (HE.out.below hbb)).mono ?_
      rintro e wc ⟨rfl, hbc'⟩
      have hbc := hbb.trans (hbc'.mono hbb.size)
      clear hbc'
      go_wp2_with fail
      go_ret
      exact ⟨rfl, hbc⟩
    · obtain ⟨n, rfl⟩ : ∃ n : Nat, x = (n : Int) := ⟨x.toNat, by omega⟩
      rw [numR_nat] at HY2 ⊢
      rw [numE_nat, errV_zero]
      have d1 : decide ((n : Int) < 0) = false := by simp
      have HTN := Lib.hid (toNum_numB n (by omega))
      go_wp2_with fail
      refine (tonumber_any _ (numB n) w2 E ((HE.out.below hb2).on [0, 3] rfl) HY2.out).mono ?_
      rintro e w4 ⟨rfl, hb4'⟩
      have hb4 := hb2.trans (hb4'.mono hb2.size)
      rw [HTN.out.1, HTN.out.2, errV_zero]
      have hnn : ((n : Int) != (n : Int)) = false := by simp
      have hN := Lib.hid (show n ≤ 9223372036854775807 by omega)
      generalize hx : numB n = x at *
      have HX := Lib.hid hx
      clear hx
      go_wp2_with fail
      have hY4 := HY2.out.keep (Below.keeps hb4')
      refine wp_phi (fun w' => (Byt w' (.slice p2 x.length c2) x) ∧ Below w.heap.size w w') [(6, PByt (x)), (7, PVal (.string (bs (x))))] [(7, [6])] (by kernel_rfl) (by kernel_rfl) ?_ ?_ ⟨hY4, (hb4).drew⟩ ?_
      · rintro w1' w2' ⟨hT, hIB⟩ hb
        exact ⟨(by first | exact hT.below hb | exact hT.keep (Below.keeps hb)), hIB.trans (hb.mono hIB.size)⟩
      · simp only [List.mem_cons, List.not_mem_nil, or_false, forall_eq_or_imp, forall_eq]
        exact ⟨fun _ _ _ _ h' h => PByt_stays _ _ _ _ h' h, fun _ _ _ _ h' h => PVal_stays _ _ _ _ h' h⟩
      repeat (first | (refine phi_skipK rfl (fun K hK => ?_); simp only [Act.put, List.setIfInBounds_toArray, List.set_cons_succ, List.set_cons_zero]; (try simp only [List.cons_append]); (try simp only [List.nil_append]); apply hK; clear hK K) | (refine phi_pureK rfl rfl (fun K hK => ?_); apply Exists.intro; constructor; (rintro w' ⟨hT, hIB⟩; have s1 := str_of hT; first | (go_simp; (try go_bits); (try go_simp); rfl) | go_simp); simp only [Act.put, List.setIfInBounds_toArray, List.set_cons_succ, List.set_cons_zero]; (try simp only [List.cons_append]); (try simp only [List.nil_append]); apply hK; clear hK K))
      refine phi_partK (PByt (x)) rfl rfl ⟨_, none, 0, rfl⟩ ?_ (fun K hK v hv => ?_)
      · rintro w' ⟨hT, hIB⟩ hf
        unfold gives
        clear hf
        go_simp
        refine ((HX.out ▸ (refnumber_any n w' hN.out).mono (fun _ _ h => GivesO.byt h))).mono ?_
        rintro e w'' ⟨v, rfl, hby, hb⟩
        have hby' := hby
        obtain ⟨q, c, rfl, _⟩ := hby'
        exact ⟨_, rfl, ⟨q, c, rfl⟩, hby, hb⟩
      obtain ⟨p_6, c_6, rfl⟩ := hv
      simp only [Act.put, List.setIfInBounds_toArray, List.set_cons_succ, List.set_cons_zero]; (try simp only [List.cons_append]); (try simp only [List.nil_append])
      apply hK
      clear hK K
      repeat (first | (refine phi_skipK rfl (fun K hK => ?_); simp only [Act.put, List.setIfInBounds_toArray, List.set_cons_succ, List.set_cons_zero]; (try simp only [List.cons_append]); (try simp only [List.nil_append]); apply hK; clear hK K) | (refine phi_pureK rfl rfl (fun K hK => ?_); apply Exists.intro; constructor; (rintro w' ⟨hT, hIB⟩; have s1 := str_of hT; first | (go_simp; (try go_bits); (try go_simp); rfl) | go_simp); simp only [Act.put, List.setIfInBounds_toArray, List.set_cons_succ, List.set_cons_zero]; (try simp only [List.cons_append]); (try simp only [List.nil_append]); apply hK; clear hK K))
      refine phi_partK (PVal (.string (bs (x)))) rfl rfl ⟨_, rfl⟩ ?_ (fun K hK v hv => ?_)
      · rintro w' ⟨hT, hIB⟩ hf
        have hbS : Byt w' _ (x) := hf (6, fun w => (PByt (x)).fact w (.slice p_6 (x).length c_6)) (by simp) (List.contains_iff_mem.1 rfl)
        have sS := str_of hbS
        clear hf hbS
        unfold gives
        go_simp
        exact ⟨rfl, trivial, Below.refl _ _⟩
      obtain rfl : v = _ := hv
      simp only [Act.put, List.setIfInBounds_toArray, List.set_cons_succ, List.set_cons_zero]; (try simp only [List.cons_append]); (try simp only [List.nil_append])
      apply hK
      clear hK K
      repeat (first | (refine phi_skipK rfl (fun K hK => ?_); simp only [Act.put, List.setIfInBounds_toArray, List.set_cons_succ, List.set_cons_zero]; (try simp only [List.cons_append]); (try simp only [List.nil_append]); apply hK; clear hK K) | (refine phi_pureK rfl rfl (fun K hK => ?_); apply Exists.intro; constructor; (rintro w' ⟨hT, hIB⟩; have s1 := str_of hT; first | (go_simp; (try go_bits); (try go_simp); rfl) | go_simp); simp only [Act.put, List.setIfInBounds_toArray, List.set_cons_succ, List.set_cons_zero]; (try simp only [List.cons_append]); (try simp only [List.nil_append]); apply hK; clear hK K))
      refine phi_done ?_
      rintro w5 ⟨hT, hb5⟩ _
      refine wpList_nil ?_
      go_wp2_with fail
      refine (tonumber_any _ l w5 E ((HE.out.below hb5).on [0, 3] rfl) (HV.out.keep (Below.keeps hb5))).mono ?_
      rintro e wa ⟨rfl, hba'⟩
      have hba := hb5.trans (hba'.mono hb5.size)
      clear hba'
      go_wp2_with fail
      refine (reftonumber_any _ l wa (HV.out.keep (Below.keeps hba))).mono ?_
      rintro e wb ⟨rfl, hbb'⟩
      have hbb := hba.trans (hbb'.mono hba.size)
      clear hbb'
      have hff : ((toNumF l : Int) == (toNumF l : Int)) = true := by simp
      have hee : ((toNumE l : Int) == (toNumE l : Int)) = true := by simp
      have hle := toNumE_le l
      generalize toNumF l = f at *
      generalize toNumE l = q at *
      go_wp2_with fail
      refine (num_any wb E q hle (HE.out.below hbb)).mono ?_
      rintro e wc ⟨rfl, hbc'⟩
      have hbc := hbb.trans (hbc'.mono hbb.size)
      clear hbc'
      go_wp2_with fail
      go_ret
      exact ⟨rfl, hbc⟩
  · have hld : decide (100 < (l.length : Int)) = true := decide_eq_true (by omega)
    have hld' : decide (100 < l.length) = true := decide_eq_true (by omega)
    go_wp2_with fail
    go_ret
    exact ⟨rfl, hb1⟩
end Go.Proofs.YtchclmimdpnkaaaDoor
