/-
  LawTSwaps: the walk of TapeSwaps.
-/
import Derived.Test.YtehoenojjdgphaaDoorTapeAlive
import Derived.Test.YtehoenojjdgphaaDoorTapeP
namespace Go.Proofs.YtehoenojjdgphaaDoor
open Go.RowKit
attribute [local go_sem] bs_toList bs_size

set_option maxRecDepth 20000 in
set_option maxHeartbeats 4000000 in
theorem tapeswaps_any (v1 v2 : Value) (l1 l2 : List UInt8) (x y : Int) (hx : -9223372036854775808 ≤ x ∧ x ≤ 9223372036854775807) (hy : -9223372036854775808 ≤ y ∧ y ≤ 9223372036854775807) (w : World) (E : Nat → Addr) (he : ErrsOn [0, 5, 6] w E) (hv1 : Byt w v1 l1) (hv2 : Byt w v2 l2) :
    Calls Tryd.prog 4 #[v1, v2, .agg #[.int .i64 x, .int .i64 y]] w (ok1 w) := by
  have HE := Lib.hid he
  have HA := alive_any _ E (he.below (below_alloc1 w (.cells #[.int .i64 x, .int .i64 y] 35)))
  have HV1 := Lib.hid hv1
  have HV2 := Lib.hid hv2
  obtain ⟨p1, c1, rfl, _, b1, _⟩ := hv1
  obtain ⟨p2, c2, rfl, b20, b2, _⟩ := hv2
  unfold maxLen at b1 b2
  clear he
  go_enter Tryd.func4, Tryd.ntmps4
  go_wp2_with fail
  refine HA.mono ?_
  rintro e w1 ⟨rfl, hb1⟩
  have hcx : w1.cell? ⟨w.heap.size, 0, none⟩ = some (.int .i64 x) := Below.keeps hb1 _ _ ((Blk.new w _ _).cell 0)
  have hcy : w1.cell? ⟨w.heap.size, 1, none⟩ = some (.int .i64 y) := Below.keeps hb1 _ _ ((Blk.new w _ _).cell 1)
  have K1 : Keeps w.heap.size tapeTs w w1 := Keeps.of_below ((below_alloc1 w _).trans (hb1.mono (by simp))) (Nat.le_refl _)
  clear HA hb1
  by_cases h1 : l1.length ≤ 500
  · by_cases h2 : l2.length ≤ 500
    · have d1 : decide (500 < (l1.length : Int)) = false := by simp; omega
      have d1' : decide (500 < l1.length) = false := by simp; omega
      have d2 : decide (500 < (l2.length : Int)) = false := by simp; omega
      have d2' : decide (500 < l2.length) = false := by simp; omega
      go_wp2_with fail
      go_quiet (fail)
      go_wp2_with fail
      have K1 := K1.drewN nq
      clear hcx hcy
      refine (new_ok (w1.drewN nq) E w.heap.size 1000 (errs_sub (HE.out.below K1.below) rfl) (by decide) K1.size).mono ?_
      rintro e w2 ⟨rfl, ht2, K2'⟩
      have K2 := K1.trans K2'
      clear K2'
      rw [p_zero 1000 (by decide) (by decide)] at ht2
      have HT2 := Lib.hid ht2
      have hB := tp_base ht2
      clear ht2
      generalize (w1.drewN nq).heap.size = a at *
      go_wp2_with fail
      refine (append_any w2 E w.heap.size a _ _ l1 (errs_sub (HE.out.below K2.below) rfl) HT2.out K2.size (HV1.out.below K2.below) (fun w' k => byt_old HV1.out K2 hB k) (by omega)).mono ?_
      rintro e w3 ⟨rfl, ht3, K3'⟩
      have K3 := K2.trans K3'
      clear K3'
      rw [(p_append [] 0 1000 l1 (by simp; omega)).2, errV_nil]
      rw [(p_append [] 0 1000 l1 (by simp; omega)).1, List.nil_append] at ht3
      have HT3 := Lib.hid ht3
      clear ht3
      go_wp2_with fail
      refine (swap_any w3 E w.heap.size a _ _ l2 (errs_sub (HE.out.below K3.below) rfl) HT3.out K3.size (HV2.out.below K3.below) (fun w' k => byt_old HV2.out K3 hB k)).mono ?_
      rintro e w4 ⟨rfl, ht4, K4'⟩
      have K4 := K3.trans K4'
      clear K4'
      rw [(p_swap l1 0 1000 l2 (by omega)).2, errV_nil]
      rw [(p_swap l1 0 1000 l2 (by omega)).1] at ht4
      have HT4 := Lib.hid ht4
      clear ht4
      go_wp2_with fail
      refine (crash_any w4 w.heap.size a _ y hy HT4.out).mono ?_
      rintro e w5 ⟨rfl, ht5, K5'⟩
      have K5 := K4.trans K5'
      clear K5'
      rw [p_crash, Nat.sub_self, Nat.min_zero, Nat.add_zero, List.take_of_length_le (Nat.le_refl _)] at ht5
      have hT5 := ht5
      have hK5 := K5.below
      have hf5 := HV2.out.below K5.below
      clear ht5
      go_wp2_with fail
      refine wp_phi_tail (List.take 9 _) (List.drop 9 _) (List.take_append_drop 9 _).symm (fun w' => (Byt w' (.slice p2 l2.length c2) l2) ∧ (Tp w' w.heap.size a (TSt.P l2 l2.length 1000)) ∧ Below w5.heap.size w5 w') [(1, PByt (l2)), (2, PVal (.string (bs (l2))))] [(2, [1])] (by kernel_rfl) (by kernel_rfl) ?_ ?_ ⟨hf5, hT5, ((Below.refl w5.heap.size w5)).drew⟩ ?_
      · rintro w1' w2' ⟨g2, g3, hIB⟩ hb
        exact ⟨(by first | exact g2.below hb | exact g2.keep (Below.keeps hb)), (by first | exact g3.below hb | exact g3.keep (Below.keeps hb)), hIB.trans (hb.mono hIB.size)⟩
      · simp only [List.mem_cons, List.not_mem_nil, or_false, forall_eq_or_imp, forall_eq]
        exact ⟨fun _ _ _ _ h' h => PByt_stays _ _ _ _ h' h, fun _ _ _ _ h' h => PVal_stays _ _ _ _ h' h⟩
      simp only [List.take_succ_cons, List.take_zero, List.drop_succ_cons, List.drop_zero]
      repeat (first | (refine phi_skipK rfl (fun K hK => ?_); simp only [Act.put, List.setIfInBounds_toArray, List.set_cons_succ, List.set_cons_zero]; (try simp only [List.cons_append]); (try simp only [List.nil_append]); apply hK; clear hK K) | (refine phi_pureK rfl rfl (fun K hK => ?_); apply Exists.intro; constructor; (rintro w' ⟨g2, g3, hIB⟩; have s2 := str_of g2; clear g2 g3 hIB; first | (go_simp; (try go_bits); (try go_simp); rfl) | go_simp); simp only [Act.put, List.setIfInBounds_toArray, List.set_cons_succ, List.set_cons_zero]; (try simp only [List.cons_append]); (try simp only [List.nil_append]); apply hK; clear hK K))
      refine phi_partK (PByt (l2)) rfl rfl ⟨_, none, 0, rfl⟩ ?_ (fun K hK v hv => ?_)
      · rintro w' ⟨g2, g3, hIB⟩ hf
        unfold gives
        clear hf
        go_simp
        refine (((bytes_of_tape w' _ _ _ g3).mono (fun _ _ h => Cloned.byt h))).mono ?_
        rintro e w'' ⟨v, rfl, hby, hb⟩
        have hby' := hby
        obtain ⟨q, c, rfl, _⟩ := hby'
        exact ⟨_, rfl, ⟨q, c, rfl⟩, hby, hb⟩
      obtain ⟨p_1, c_1, rfl⟩ := hv
      simp only [Act.put, List.setIfInBounds_toArray, List.set_cons_succ, List.set_cons_zero]; (try simp only [List.cons_append]); (try simp only [List.nil_append])
      apply hK
      clear hK K
      repeat (first | (refine phi_skipK rfl (fun K hK => ?_); simp only [Act.put, List.setIfInBounds_toArray, List.set_cons_succ, List.set_cons_zero]; (try simp only [List.cons_append]); (try simp only [List.nil_append]); apply hK; clear hK K) | (refine phi_pureK rfl rfl (fun K hK => ?_); apply Exists.intro; constructor; (rintro w' ⟨g2, g3, hIB⟩; have s2 := str_of g2; clear g2 g3 hIB; first | (go_simp; (try go_bits); (try go_simp); rfl) | go_simp); simp only [Act.put, List.setIfInBounds_toArray, List.set_cons_succ, List.set_cons_zero]; (try simp only [List.cons_append]); (try simp only [List.nil_append]); apply hK; clear hK K))
      refine phi_partK (PVal (.string (bs (l2)))) rfl rfl ⟨_, rfl⟩ ?_ (fun K hK v hv => ?_)
      · rintro w' ⟨g2, g3, hIB⟩ hf
        have hbS : Byt w' _ (l2) := hf (1, fun w => (PByt (l2)).fact w (.slice p_1 (l2).length c_1)) (by simp) (List.contains_iff_mem.1 rfl)
        have sS := str_of hbS
        clear hf hbS
        unfold gives
        go_simp
        exact ⟨rfl, trivial, Below.refl _ _⟩
      obtain rfl : v = _ := hv
      simp only [Act.put, List.setIfInBounds_toArray, List.set_cons_succ, List.set_cons_zero]; (try simp only [List.cons_append]); (try simp only [List.nil_append])
      apply hK
      clear hK K
      repeat (first | (refine phi_skipK rfl (fun K hK => ?_); simp only [Act.put, List.setIfInBounds_toArray, List.set_cons_succ, List.set_cons_zero]; (try simp only [List.cons_append]); (try simp only [List.nil_append]); apply hK; clear hK K) | (refine phi_pureK rfl rfl (fun K hK => ?_); apply Exists.intro; constructor; (rintro w' ⟨g2, g3, hIB⟩; have s2 := str_of g2; clear g2 g3 hIB; first | (go_simp; (try go_bits); (try go_simp); rfl) | go_simp); simp only [Act.put, List.setIfInBounds_toArray, List.set_cons_succ, List.set_cons_zero]; (try simp only [List.cons_append]); (try simp only [List.nil_append]); apply hK; clear hK K))
      refine phi_done ?_
      rintro w6 ⟨g2, g3, hb6⟩ _
      have K6 := K5.call K5.size hb6
      have HT6 := Lib.hid (hT5.below hb6)
      clear hb6 hf5 hT5
      go_wp2_with fail
      refine (append_any w6 E w.heap.size a _ _ l1 (errs_sub (HE.out.below K6.below) rfl) HT6.out K6.size (HV1.out.below K6.below) (fun w' k => byt_old HV1.out K6 hB k) (by omega)).mono ?_
      rintro e w7 ⟨rfl, ht7, K7'⟩
      have K7 := K6.trans K7'
      clear K7'
      rw [(p_append l2 l2.length 1000 l1 (by omega)).2, errV_nil]
      rw [(p_append l2 l2.length 1000 l1 (by omega)).1] at ht7
      have HT7 := Lib.hid ht7
      clear ht7
      go_wp2_with fail
      obtain ⟨n, hn, hnl, hq⟩ := wrap_mod x ((l1.length : Int) + (l2.length : Int) + 1) (by omega) (by omega)
      clear hq
      rw [hn]
      have hnm : n ≤ (l2 ++ l1).length := by rw [List.length_append]; omega
      clear hn
      refine (cut_any w7 E w.heap.size a _ (n : Int) (errs_sub (HE.out.below K7.below) rfl) HT7.out K7.size).mono ?_
      rintro e w8 ⟨rfl, ht8, K8'⟩
      have K8 := K7.trans K8'
      clear K8'
      rw [(p_cut (l2 ++ l1) l2.length 1000 n hnm).2, errV_nil]
      rw [(p_cut (l2 ++ l1) l2.length 1000 n hnm).1] at ht8
      have HT8 := Lib.hid ht8
      clear ht8
      go_wp2_with fail
      refine (crash_any w8 w.heap.size a _ y hy HT8.out).mono ?_
      rintro e w9 ⟨rfl, ht9, K9'⟩
      have K9 := K8.trans K9'
      clear K9'
      have hln : ((l2 ++ l1).take n).length = n := by rw [List.length_take]; omega
      rw [p_crash, hln, Nat.sub_self, Nat.min_zero, Nat.add_zero, List.take_of_length_le (by omega)] at ht9
      have hT9 := ht9
      have hK9 := K9.below
      have hf9 := HV1.out.below K9.below
      have hg9 := HV2.out.below K9.below
      have hsum := fun w => run_str_add (P := Tryd.prog) w l2 l1 (by omega)
      have hcut := fun w => run_str_to (P := Tryd.prog) Tryd.underlying9 (l2 ++ l1) n hnm w
      have hnn : ((n : Int) == (n : Int)) = true := by simp
      clear ht9
      generalize hm : (l2 ++ l1).take n = m at *
      rw [← hln] at hT9
      have HLN := Lib.hid hln
      clear hln
      go_wp2_with fail
      refine wp_phi (fun w' => (Byt w' (.slice p1 l1.length c1) l1) ∧ (Byt w' (.slice p2 l2.length c2) l2) ∧ (Tp w' w.heap.size a (TSt.P m m.length 1000)) ∧ Below w.heap.size w w') [(1, PByt (m)), (2, PVal (.string (bs (m)))), (13, PVal (.int .i64 (n : Int)))] [(2, [1])] (by kernel_rfl) (by kernel_rfl) ?_ ?_ ⟨hf9, hg9, hT9, (hK9).drew⟩ ?_
      · rintro w1' w2' ⟨g1, g2, g3, hIB⟩ hb
        exact ⟨(by first | exact g1.below hb | exact g1.keep (Below.keeps hb)), (by first | exact g2.below hb | exact g2.keep (Below.keeps hb)), (by first | exact g3.below hb | exact g3.keep (Below.keeps hb)), hIB.trans (hb.mono hIB.size)⟩
      · simp only [List.mem_cons, List.not_mem_nil, or_false, forall_eq_or_imp, forall_eq]
        exact ⟨fun _ _ _ _ h' h => PByt_stays _ _ _ _ h' h, fun _ _ _ _ h' h => PVal_stays _ _ _ _ h' h, fun _ _ _ _ h' h => PVal_stays _ _ _ _ h' h⟩
      repeat (first | (refine phi_skipK rfl (fun K hK => ?_); simp only [Act.put, List.setIfInBounds_toArray, List.set_cons_succ, List.set_cons_zero]; (try simp only [List.cons_append]); (try simp only [List.nil_append]); apply hK; clear hK K) | (refine phi_pureK rfl rfl (fun K hK => ?_); apply Exists.intro; constructor; (rintro w' ⟨g1, g2, g3, hIB⟩; have s1 := str_of g1; have s2 := str_of g2; clear g1 g2 g3 hIB; first | (go_simp; (try go_bits); (try go_simp); rfl) | go_simp); simp only [Act.put, List.setIfInBounds_toArray, List.set_cons_succ, List.set_cons_zero]; (try simp only [List.cons_append]); (try simp only [List.nil_append]); apply hK; clear hK K))
      refine phi_partK (PByt (m)) rfl rfl ⟨_, none, 0, rfl⟩ ?_ (fun K hK v hv => ?_)
      · rintro w' ⟨g1, g2, g3, hIB⟩ hf
        unfold gives
        clear hf
        go_simp
        refine (((bytes_of_tape w' _ _ _ g3).mono (fun _ _ h => Cloned.byt h))).mono ?_
        rintro e w'' ⟨v, rfl, hby, hb⟩
        have hby' := hby
        obtain ⟨q, c, rfl, _⟩ := hby'
        exact ⟨_, rfl, ⟨q, c, rfl⟩, hby, hb⟩
      obtain ⟨p_1, c_1, rfl⟩ := hv
      simp only [Act.put, List.setIfInBounds_toArray, List.set_cons_succ, List.set_cons_zero]; (try simp only [List.cons_append]); (try simp only [List.nil_append])
      apply hK
      clear hK K
      repeat (first | (refine phi_skipK rfl (fun K hK => ?_); simp only [Act.put, List.setIfInBounds_toArray, List.set_cons_succ, List.set_cons_zero]; (try simp only [List.cons_append]); (try simp only [List.nil_append]); apply hK; clear hK K) | (refine phi_pureK rfl rfl (fun K hK => ?_); apply Exists.intro; constructor; (rintro w' ⟨g1, g2, g3, hIB⟩; have s1 := str_of g1; have s2 := str_of g2; clear g1 g2 g3 hIB; first | (go_simp; (try go_bits); (try go_simp); rfl) | go_simp); simp only [Act.put, List.setIfInBounds_toArray, List.set_cons_succ, List.set_cons_zero]; (try simp only [List.cons_append]); (try simp only [List.nil_append]); apply hK; clear hK K))
      refine phi_partK (PVal (.string (bs (m)))) rfl rfl ⟨_, rfl⟩ ?_ (fun K hK v hv => ?_)
      · rintro w' ⟨g1, g2, g3, hIB⟩ hf
        have hbS : Byt w' _ (m) := hf (1, fun w => (PByt (m)).fact w (.slice p_1 (m).length c_1)) (by simp) (List.contains_iff_mem.1 rfl)
        have sS := str_of hbS
        clear hf hbS
        unfold gives
        go_simp
        exact ⟨rfl, trivial, Below.refl _ _⟩
      obtain rfl : v = _ := hv
      simp only [Act.put, List.setIfInBounds_toArray, List.set_cons_succ, List.set_cons_zero]; (try simp only [List.cons_append]); (try simp only [List.nil_append])
      apply hK
      clear hK K
      repeat (first | (refine phi_skipK rfl (fun K hK => ?_); simp only [Act.put, List.setIfInBounds_toArray, List.set_cons_succ, List.set_cons_zero]; (try simp only [List.cons_append]); (try simp only [List.nil_append]); apply hK; clear hK K) | (refine phi_pureK rfl rfl (fun K hK => ?_); apply Exists.intro; constructor; (rintro w' ⟨g1, g2, g3, hIB⟩; have s1 := str_of g1; have s2 := str_of g2; clear g1 g2 g3 hIB; first | (go_simp; (try go_bits); (try go_simp); rfl) | go_simp); simp only [Act.put, List.setIfInBounds_toArray, List.set_cons_succ, List.set_cons_zero]; (try simp only [List.cons_append]); (try simp only [List.nil_append]); apply hK; clear hK K))
      refine phi_partK (PVal (.int .i64 (n : Int))) rfl rfl ⟨_, rfl⟩ ?_ (fun K hK v hv => ?_)
      · rintro w' ⟨g1, g2, g3, hIB⟩ hf
        unfold gives
        clear hf
        go_simp
        refine ((HLN.out ▸ sure_any w' _ _ _ g3 : Calls _ _ _ _ (TapeQ w' (.int .i64 (n : Int))))).mono ?_
        rintro e w'' ⟨rfl, hb⟩
        exact ⟨_, rfl, rfl, trivial, hb⟩
      obtain rfl : v = _ := hv
      simp only [Act.put, List.setIfInBounds_toArray, List.set_cons_succ, List.set_cons_zero]; (try simp only [List.cons_append]); (try simp only [List.nil_append])
      apply hK
      clear hK K
      repeat (first | (refine phi_skipK rfl (fun K hK => ?_); simp only [Act.put, List.setIfInBounds_toArray, List.set_cons_succ, List.set_cons_zero]; (try simp only [List.cons_append]); (try simp only [List.nil_append]); apply hK; clear hK K) | (refine phi_pureK rfl rfl (fun K hK => ?_); apply Exists.intro; constructor; (rintro w' ⟨g1, g2, g3, hIB⟩; have s1 := str_of g1; have s2 := str_of g2; clear g1 g2 g3 hIB; first | (go_simp; (try go_bits); (try go_simp); rfl) | go_simp); simp only [Act.put, List.setIfInBounds_toArray, List.set_cons_succ, List.set_cons_zero]; (try simp only [List.cons_append]); (try simp only [List.nil_append]); apply hK; clear hK K))
      refine phi_done ?_
      rintro wa ⟨g1, g2, g3, hba⟩ _
      refine wpList_nil ?_
      go_wp2_with fail
      go_ret
      exact ⟨rfl, hba⟩
    · have d1 : decide (500 < (l1.length : Int)) = false := by simp; omega
      have d1' : decide (500 < l1.length) = false := by simp; omega
      have d2 : decide (500 < (l2.length : Int)) = true := by simp; omega
      have d2' : decide (500 < l2.length) = true := by simp; omega
      go_wp2_with fail
      go_ret
      exact ⟨rfl, K1.below⟩
  · have d1 : decide (500 < (l1.length : Int)) = true := by simp; omega
    have d1' : decide (500 < l1.length) = true := by simp; omega
    go_wp2_with fail
    go_ret
    exact ⟨rfl, K1.below⟩
end Go.Proofs.YtehoenojjdgphaaDoor
