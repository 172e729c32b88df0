/-
  LawTKeeps: the walk of TapeKeeps.
-/
import Derived.Test.YtehoenojjdgphaaDoorTapeAlive
import Derived.Test.YtehoenojjdgphaaDoorTapeP
namespace Go.Proofs.YtehoenojjdgphaaDoor
open Go.RowKit
attribute [local go_sem] bs_toList bs_size

set_option maxRecDepth 20000 in
set_option maxHeartbeats 2000000 in
theorem tapekeeps_any (v1 v2 : Value) (l1 l2 : List UInt8) (n : Int) (hn : -9223372036854775808 ≤ n ∧ n ≤ 9223372036854775807) (w : World) (E : Nat → Addr) (he : ErrsOn [0, 5, 6] w E) (hv1 : Byt w v1 l1) (hv2 : Byt w v2 l2) :
    Calls Tryd.prog 3 #[v1, v2, .int .i64 n] w (ok1 w) := by
  have HE := Lib.hid he
  have HA := alive_any w E he
  have HV1 := Lib.hid hv1
  have HV2 := Lib.hid hv2
  obtain ⟨p1, c1, rfl, _, b1, _⟩ := hv1
  obtain ⟨p2, c2, rfl, b20, b2, _⟩ := hv2
  unfold maxLen at b1 b2
  obtain ⟨i0, hi, hz0, hz1, hz2⟩ := info_parts byt8Info
  clear he
  go_enter Tryd.func3, Tryd.ntmps3
  go_wp2_with fail
  refine HA.mono ?_
  rintro e w1 ⟨rfl, hb1⟩
  have K1 : Keeps w.heap.size tapeTs w w1 := Keeps.of_below hb1 (Nat.le_refl _)
  clear HA hb1
  by_cases h1 : l1.length ≤ 500
  · by_cases h2 : l2.length ≤ 500
    · have d1 : decide (500 < (l1.length : Int)) = false := by simp; omega
      have d1' : decide (500 < l1.length) = false := by simp; omega
      have d2 : decide (500 < (l2.length : Int)) = false := by simp; omega
      have d2' : decide (500 < l2.length) = false := by simp; omega
      go_wp2_with fail
      refine (new_ok w1 E w.heap.size 2000 (errs_sub (HE.out.below K1.below) rfl) (by decide) K1.size).mono ?_
      rintro e w2 ⟨rfl, ht2, K2'⟩
      have K2 := K1.trans K2'
      clear K2'
      rw [p_zero 2000 (by decide) (by decide)] at ht2
      have HT2 := Lib.hid ht2
      have hB := tp_base ht2
      clear ht2
      go_wp2_with fail
      refine (append_any w2 E w.heap.size w1.heap.size _ _ l1 (errs_sub (HE.out.below K2.below) rfl) HT2.out K2.size (HV1.out.below K2.below) (fun w' k => byt_old HV1.out K2 hB k) (by omega)).mono ?_
      rintro e w3 ⟨rfl, ht3, K3'⟩
      have K3 := K2.trans K3'
      clear K3'
      rw [(p_append [] 0 2000 l1 (by simp; omega)).2, errV_nil]
      rw [(p_append [] 0 2000 l1 (by simp; omega)).1, List.nil_append] at ht3
      have HT3 := Lib.hid ht3
      clear ht3
      go_wp2_with fail
      refine (sync_any w3 E w.heap.size w1.heap.size _ (errs_sub (HE.out.below K3.below) rfl) HT3.out).mono ?_
      rintro e w4 ⟨rfl, ht4, K4'⟩
      have K4 := K3.trans K4'
      clear K4'
      rw [p_stepE, errV_nil]
      rw [p_sync] at ht4
      have HT4 := Lib.hid ht4
      clear ht4
      go_wp2_with fail
      refine (append_any w4 E w.heap.size w1.heap.size _ _ l2 (errs_sub (HE.out.below K4.below) rfl) HT4.out K4.size (HV2.out.below K4.below) (fun w' k => byt_old HV2.out K4 hB k) (by omega)).mono ?_
      rintro e w5 ⟨rfl, ht5, K5'⟩
      have K5 := K4.trans K5'
      clear K5'
      rw [(p_append l1 l1.length 2000 l2 (by omega)).2, errV_nil]
      rw [(p_append l1 l1.length 2000 l2 (by omega)).1] at ht5
      have HT5 := Lib.hid ht5
      clear ht5
      go_wp2_with fail
      refine (crash_any w5 w.heap.size w1.heap.size _ n hn HT5.out).mono ?_
      rintro e w6 ⟨rfl, ht6, K6'⟩
      have K6 := K5.trans K6'
      clear K6'
      have hk1 : l1.length + min n.toNat ((l1 ++ l2).length - l1.length) = l1.length + min n.toNat l2.length := by rw [List.length_append]; omega
      rw [p_crash, hk1, take_app] at ht6
      obtain ⟨kk, hkk⟩ : ∃ kk, min n.toNat l2.length = kk := ⟨_, rfl⟩
      rw [hkk] at ht6
      have hkl : kk ≤ l2.length := by omega
      have hmx := fun w ts t => run_max2 (P := Tryd.prog) w ts t .i64 .i64 n 0 (n.toNat : Int) (by omega)
      have hmn := fun w ts t => run_min2 (P := Tryd.prog) w ts t .i64 .i64 (n.toNat : Int) (l2.length : Int) (kk : Int) (by omega)
      have HT6 := Lib.hid ht6
      clear ht6 hk1 hkk hn
      generalize (n.toNat : Int) = mx at *
      go_wp2_with fail
      refine (bytes_of_tape w6 w.heap.size w1.heap.size _ HT6.out).mono ?_
      rintro e w7 ⟨v7, rfl, ho7, hb7⟩
      have s7 := str_of (owns_byt ho7)
      have HT7 := Lib.hid (HT6.out.below hb7)
      have K7 := K6.call K6.size hb7
      simp only [TSt.P] at s7
      clear ho7 hb7
      go_wp2_with fail
      refine (crash_any w7 w.heap.size w1.heap.size _ 0 (by decide) HT7.out).mono ?_
      rintro e w8 ⟨rfl, ht8, K8'⟩
      have K8 := K7.trans K8'
      clear K8'
      rw [p_crash] at ht8
      have hl8 : (l1 ++ l2.take kk).take (l1.length + kk + min (0 : Int).toNat ((l1 ++ l2.take kk).length - (l1.length + kk))) = l1 ++ l2.take kk := by
        apply List.take_of_length_le
        rw [List.length_append, List.length_take]; omega
      rw [hl8, show l1.length + kk + min (0 : Int).toNat ((l1 ++ l2.take kk).length - (l1.length + kk)) = l1.length + kk from by simp] at ht8
      have HT8 := Lib.hid ht8
      clear ht8 s7 hl8
      have hto := fun w => run_slice_to (P := Tryd.prog) Tryd.underlying22 hi p2 l2.length c2 kk (by omega) w
      have hsum := fun w => run_str_add (P := Tryd.prog) w l1 (l2.take kk) (by rw [List.length_take]; omega)
      have hlen : (l1 ++ l2.take kk).length = l1.length + kk := by rw [List.length_append, List.length_take]; omega
      have HL := Lib.hid hlen
      have hf8 := HV1.out.below K8.below
      have hg8 := byt_take (HV2.out.below K8.below) kk hkl
      have ht8' := HT8.out
      rw [← hlen] at ht8'
      have hKb := K8.below
      clear hlen hmx hmn HL HT8
      generalize l1 ++ l2.take kk = m at *
      go_wp2_with fail
      refine wp_phi (fun w' => (Byt w' (.slice p1 l1.length c1) l1) ∧ (Byt w' (.slice p2 kk c2) (l2.take kk)) ∧ (Tp w' w.heap.size w1.heap.size (TSt.P m m.length 2000)) ∧ Below w.heap.size w w') [(11, PByt (m)), (12, PVal (.string (bs (m)))), (18, PVal (.int .i64 (m.length : Int)))] [(12, [11])] (by kernel_rfl) (by kernel_rfl) ?_ ?_ ⟨hf8, hg8, ht8', (hKb).drew⟩ ?_
      · rintro w1' w2' ⟨g1, g2, g3, hIB⟩ hb
        exact ⟨(by first | exact g1.below hb | exact g1.keep (Below.keeps hb)), (by first | exact g2.below hb | exact g2.keep (Below.keeps hb)), (by first | exact g3.below hb | exact g3.keep (Below.keeps hb)), hIB.trans (hb.mono hIB.size)⟩
      · simp only [List.mem_cons, List.not_mem_nil, or_false, forall_eq_or_imp, forall_eq]
        exact ⟨fun _ _ _ _ h' h => PByt_stays _ _ _ _ h' h, fun _ _ _ _ h' h => PVal_stays _ _ _ _ h' h, fun _ _ _ _ h' h => PVal_stays _ _ _ _ h' h⟩
      repeat (first | (refine phi_skipK rfl (fun K hK => ?_); simp only [Act.put, List.setIfInBounds_toArray, List.set_cons_succ, List.set_cons_zero]; (try simp only [List.cons_append]); (try simp only [List.nil_append]); apply hK; clear hK K) | (refine phi_pureK rfl rfl (fun K hK => ?_); apply Exists.intro; constructor; (rintro w' ⟨g1, g2, g3, hIB⟩; have s1 := str_of g1; have s2 := str_of g2; clear g1 g2 g3 hIB; first | (go_simp; (try go_bits); (try go_simp); rfl) | go_simp); simp only [Act.put, List.setIfInBounds_toArray, List.set_cons_succ, List.set_cons_zero]; (try simp only [List.cons_append]); (try simp only [List.nil_append]); apply hK; clear hK K))
      refine phi_partK (PByt (m)) rfl rfl ⟨_, none, 0, rfl⟩ ?_ (fun K hK v hv => ?_)
      · rintro w' ⟨g1, g2, g3, hIB⟩ hf
        unfold gives
        clear hf
        go_simp
        refine (((bytes_of_tape w' _ _ _ g3).mono (fun _ _ h => Cloned.byt h))).mono ?_
        rintro e w'' ⟨v, rfl, hby, hb⟩
        have hby' := hby
        obtain ⟨q, c, rfl, _⟩ := hby'
        exact ⟨_, rfl, ⟨q, c, rfl⟩, hby, hb⟩
      obtain ⟨p_11, c_11, rfl⟩ := hv
      simp only [Act.put, List.setIfInBounds_toArray, List.set_cons_succ, List.set_cons_zero]; (try simp only [List.cons_append]); (try simp only [List.nil_append])
      apply hK
      clear hK K
      repeat (first | (refine phi_skipK rfl (fun K hK => ?_); simp only [Act.put, List.setIfInBounds_toArray, List.set_cons_succ, List.set_cons_zero]; (try simp only [List.cons_append]); (try simp only [List.nil_append]); apply hK; clear hK K) | (refine phi_pureK rfl rfl (fun K hK => ?_); apply Exists.intro; constructor; (rintro w' ⟨g1, g2, g3, hIB⟩; have s1 := str_of g1; have s2 := str_of g2; clear g1 g2 g3 hIB; first | (go_simp; (try go_bits); (try go_simp); rfl) | go_simp); simp only [Act.put, List.setIfInBounds_toArray, List.set_cons_succ, List.set_cons_zero]; (try simp only [List.cons_append]); (try simp only [List.nil_append]); apply hK; clear hK K))
      refine phi_partK (PVal (.string (bs (m)))) rfl rfl ⟨_, rfl⟩ ?_ (fun K hK v hv => ?_)
      · rintro w' ⟨g1, g2, g3, hIB⟩ hf
        have hbS : Byt w' _ (m) := hf (11, fun w => (PByt (m)).fact w (.slice p_11 (m).length c_11)) (by simp) (List.contains_iff_mem.1 rfl)
        have sS := str_of hbS
        clear hf hbS
        unfold gives
        go_simp
        exact ⟨rfl, trivial, Below.refl _ _⟩
      obtain rfl : v = _ := hv
      simp only [Act.put, List.setIfInBounds_toArray, List.set_cons_succ, List.set_cons_zero]; (try simp only [List.cons_append]); (try simp only [List.nil_append])
      apply hK
      clear hK K
      repeat (first | (refine phi_skipK rfl (fun K hK => ?_); simp only [Act.put, List.setIfInBounds_toArray, List.set_cons_succ, List.set_cons_zero]; (try simp only [List.cons_append]); (try simp only [List.nil_append]); apply hK; clear hK K) | (refine phi_pureK rfl rfl (fun K hK => ?_); apply Exists.intro; constructor; (rintro w' ⟨g1, g2, g3, hIB⟩; have s1 := str_of g1; have s2 := str_of g2; clear g1 g2 g3 hIB; first | (go_simp; (try go_bits); (try go_simp); rfl) | go_simp); simp only [Act.put, List.setIfInBounds_toArray, List.set_cons_succ, List.set_cons_zero]; (try simp only [List.cons_append]); (try simp only [List.nil_append]); apply hK; clear hK K))
      refine phi_partK (PVal (.int .i64 (m.length : Int))) rfl rfl ⟨_, rfl⟩ ?_ (fun K hK v hv => ?_)
      · rintro w' ⟨g1, g2, g3, hIB⟩ hf
        unfold gives
        clear hf
        go_simp
        refine (sure_any w' _ _ _ g3).mono ?_
        rintro e w'' ⟨rfl, hb⟩
        exact ⟨_, rfl, rfl, trivial, hb⟩
      obtain rfl : v = _ := hv
      simp only [Act.put, List.setIfInBounds_toArray, List.set_cons_succ, List.set_cons_zero]; (try simp only [List.cons_append]); (try simp only [List.nil_append])
      apply hK
      clear hK K
      repeat (first | (refine phi_skipK rfl (fun K hK => ?_); simp only [Act.put, List.setIfInBounds_toArray, List.set_cons_succ, List.set_cons_zero]; (try simp only [List.cons_append]); (try simp only [List.nil_append]); apply hK; clear hK K) | (refine phi_pureK rfl rfl (fun K hK => ?_); apply Exists.intro; constructor; (rintro w' ⟨g1, g2, g3, hIB⟩; have s1 := str_of g1; have s2 := str_of g2; clear g1 g2 g3 hIB; first | (go_simp; (try go_bits); (try go_simp); rfl) | go_simp); simp only [Act.put, List.setIfInBounds_toArray, List.set_cons_succ, List.set_cons_zero]; (try simp only [List.cons_append]); (try simp only [List.nil_append]); apply hK; clear hK K))
      refine phi_done ?_
      rintro w9 ⟨g1, g2, g3, hb9⟩ _
      refine wpList_nil ?_
      go_wp2_with fail
      go_ret
      exact ⟨rfl, hb9⟩
    · have d1 : decide (500 < (l1.length : Int)) = false := by simp; omega
      have d1' : decide (500 < l1.length) = false := by simp; omega
      have d2 : decide (500 < (l2.length : Int)) = true := by simp; omega
      have d2' : decide (500 < l2.length) = true := by simp; omega
      go_wp2_with fail
      go_ret
      exact ⟨rfl, K1.below⟩
  · have d1 : decide (500 < (l1.length : Int)) = true := by simp; omega
    have d1' : decide (500 < l1.length) = true := by simp; omega
    go_wp2_with fail
    go_ret
    exact ⟨rfl, K1.below⟩
end Go.Proofs.YtehoenojjdgphaaDoor
