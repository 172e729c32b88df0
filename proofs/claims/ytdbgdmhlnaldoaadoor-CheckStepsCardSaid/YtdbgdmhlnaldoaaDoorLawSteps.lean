/-
  LawSteps: the walk of CheckSteps.
-/
import Derived.Test.YtdbgdmhlnaldoaaDoorLawSums
import Derived.Test.YtdbgdmhlnaldoaaDoorPhi
namespace Go.Proofs.YtdbgdmhlnaldoaaDoor
open Go.RowKit

attribute [local go_sem] bits8_xor
set_option maxHeartbeats 1000000 in
theorem steps_any (v1 v2 v3 : Value) (a b c : List UInt8) (w : World) (ht : HalfTab w) (h1 : Byt w v1 a) (h2 : Byt w v2 b) (h3 : Byt w v3 c) :
    Calls Tryd.prog 4 #[v1, v2, v3] w fun e w' => e = .returned (.bool true) ∧ Below w.heap.size w w' := by
  have HV1 := Lib.hid h1
  have HV2 := Lib.hid h2
  have HV3 := Lib.hid h3
  obtain ⟨p1, cap1, rfl, h11, h12, h13⟩ := h1
  obtain ⟨p2, cap2, rfl, h21, h22, h23⟩ := h2
  obtain ⟨p3, cap3, rfl, h31, h32, h33⟩ := h3
  have H13 := Lib.hid h13; clear h13
  have H23 := Lib.hid h23; clear h23
  have H33 := Lib.hid h33; clear h33
  unfold maxLen at h12 h22 h32
  obtain ⟨i0, hi, hz0, hz1, hz2⟩ := info_parts uint8Info
  have hmin := fun (w : World) (ts : Array TypeId) (t : TypeId) (k k' k'' : IntKind) => run_min3 (P := Tryd.prog) w ts t k k' k'' a.length b.length c.length
  go_enter Tryd.func4, Tryd.ntmps4
  go_wp2_with fail
  refine (alive_any _ ht).mono ?_
  rintro e w1 ⟨rfl, hb1⟩
  by_cases hl1 : a.length ≤ 300
  · by_cases hl2 : b.length ≤ 300
    · by_cases hl3 : c.length ≤ 300
      · have hd1 : decide (300 < (a.length : Int)) = false := by simp; omega
        have hd2 : decide (300 < (b.length : Int)) = false := by simp; omega
        have hd3 : decide (300 < (c.length : Int)) = false := by simp; omega
        go_wp2_with fail
        have ht1 := ht.keep (Below.keeps hb1)
        have hr1 := Lib.hid (H13.out.keep (Below.keeps hb1))
        go_loop [7, 30] (fun v i => ∃ j : Nat, j ≤ a.length ∧ i = .int .i64 j ∧ v = .int .u32 (n32 (csum 0 (a.take j)))) (fun _ i => a.length - (intOf i).toNat)
        case atStart => exact ⟨0, by omega, rfl, rfl⟩
        case round =>
          obtain ⟨j, hj, rfl, rfl⟩ := hrel
          by_cases hjt : j < a.length
          · obtain ⟨b2, off2, rfl, hc2⟩ := byt_cell hr1.out hjt
            have hs2 := Lib.hid (csum_take 0 a j hjt)
            generalize csum 0 (a.take j) = s1 at *
            generalize a[j] = x at *
            go_wp2_with (go_at_call 11; refine (next_any _ _ _ ht1).mono ?_; rintro e w' ⟨rfl, rfl⟩)
            go_round
            case rel => exact ⟨j + 1, by omega, by go_num, by rw [hs2.out]⟩
            case measure => simp [intOf]; omega
          · obtain rfl : j = a.length := by omega
            rw [List.take_of_length_le (Nat.le_refl _)]
            go_wp2_with fail
            have hn1 : min3 a.length b.length c.length ≤ a.length := by unfold min3; omega
            have hn2 : min3 a.length b.length c.length ≤ b.length := by unfold min3; omega
            have hn3 : min3 a.length b.length c.length ≤ c.length := by unfold min3; omega
            obtain ⟨n, hn⟩ : ∃ n, n = min3 a.length b.length c.length := ⟨_, rfl⟩
            rw [← hn] at hn1 hn2 hn3 ⊢
            have HN := Lib.hid hn
            clear hn
            clear hmin hr1
            go_loopw [11, 47] (fun v i wr => ∃ k : Nat, k ≤ n ∧ i = .int .i64 k ∧ wr.ownsRow w.heap.size 5 1 v k (bvs ((odds a b c).take k)) ∧ Below w.heap.size w wr) (fun _ i _ => n - (intOf i).toNat)
            case atStart =>
              exact ⟨0, by omega, rfl, by simpa [bvs] using World.ownsRow_lit (base := w.heap.size) (e := 5) (size := 1) w1 #[] 0 hb1.size (by unfold maxLen; omega) rfl, hb1.alloc hb1.size _⟩
            case round =>
              obtain ⟨k, hk, rfl, hown, hbw⟩ := hrel
              have hwr := hbw.size
              by_cases hkt : k < n
              · obtain ⟨ba, oa, rfl, hca⟩ := byt_cell H13.out (show k < a.length by omega)
                obtain ⟨bb, ob, rfl, hcb⟩ := byt_cell H23.out (show k < b.length by omega)
                obtain ⟨bc, oc, rfl, hcc⟩ := byt_cell H33.out (show k < c.length by omega)
                have hca' := Below.keeps hbw _ _ hca
                have hcb' := Below.keeps hbw _ _ hcb
                have hcc' := Below.keeps hbw _ _ hcc
                clear hca hcb hcc
                have hfl := Lib.hid (odds_take a b c k (by omega) (by omega) (by omega))
                have hka : k < a.length := by omega
                have hkb : k < b.length := by omega
                have hkc : k < c.length := by omega
                generalize a[k] = xa at *
                generalize b[k] = xb at *
                generalize c[k] = xc at *
                go_wp2_with fail
                refine wp_phi_tail (List.take 16 _) (List.drop 16 _) (List.take_append_drop 16 _).symm (fun w' => w'.cell? ⟨ba, oa + k, none⟩ = some (.int .u8 xa.toNat) ∧ w'.cell? ⟨bb, ob + k, none⟩ = some (.int .u8 xb.toNat) ∧ w'.cell? ⟨bc, oc + k, none⟩ = some (.int .u8 xc.toNat) ∧ Below wr.heap.size wr w')
                  [(15, PByt [bx (bx xa xb) xc])] [] (by kernel_rfl) (by kernel_rfl) ?_ ?_ ?_ ?_
                · rintro w1 w2 ⟨a1, a2, a3, a4⟩ hb
                  exact ⟨Below.keeps hb _ _ a1, Below.keeps hb _ _ a2, Below.keeps hb _ _ a3, a4.trans (hb.mono a4.size)⟩
                · simp only [List.mem_singleton, forall_eq]
                  exact fun w w' v _ hb h => PByt_stays _ w w' v hb h
                · exact ⟨hca', hcb', hcc', (Below.refl _ _).drew⟩
                simp only [List.take_succ_cons, List.take_zero, List.drop_succ_cons, List.drop_zero]
                repeat (refine phi_pureK rfl rfl (fun K hK => ?_); apply Exists.intro; constructor; (rintro w' ⟨hI1, hI2, hI3, hI4⟩; first | (go_simp; rfl) | go_simp); simp only [Act.put, List.setIfInBounds_toArray, List.set_cons_succ, List.set_cons_zero, List.nil_append, List.cons_append]; apply hK; clear hK K)
                refine phi_partK (PByt [bx (bx xa xb) xc]) rfl rfl ⟨_, none, 0, rfl⟩ ?_ (fun K hK v hv => ?_)
                · rintro w' ⟨hI1, hI2, hI3, hI4⟩ _
                  unfold gives
                  go_simp
                  exact ⟨⟨_, _, rfl⟩, byt_one w' _ _ _ _ rfl, below_alloc1 _ _⟩
                obtain ⟨p', c', rfl⟩ := hv
                simp only [Act.put, List.setIfInBounds_toArray, List.set_cons_succ, List.set_cons_zero, List.nil_append, List.cons_append]
                apply hK
                clear hK K
                refine phi_done ?_
                rintro w' ⟨hI1, hI2, hI3, hI4⟩ hf
                obtain ⟨p'', c'', he, hl1, hl2, hrd⟩ : Byt w' _ [bx (bx xa xb) xc] := hf _ (List.mem_singleton.2 rfl)
                simp only [Value.slice.injEq] at he
                obtain ⟨rfl, _, rfl⟩ := he
                have hown' := owns_below hown hI4
                have hbw' := hbw.trans (hI4.mono hwr)
                clear hf hown hI1 hI2 hI3 hca' hcb' hcc'
                have hwr' := hbw'.size
                go_wp2_with (at_builtin; refine wpList_app (.tmp 50) (.tmp 65) 24 rfl rfl w.heap.size 5 i0 (.int .u8 0) 1 1 Tryd.underlying24 hi hz0 hz1 hz2 rfl (by decide) _ _ _ rfl hown' _ _ _ (bvs [bx (bx xa xb) xc]) rfl ?c0 hrd bvs_one ?c1 ?c2 hwr' ?_)
                case c0 => rfl
                case c1 => unfold maxLen; simp; omega
                case c2 => simp; omega
                intro v' w'' ho hg
                have hbw'' := hbw'.grown hg hwr' (fun j hj => (hown'.lt j hj).1)
                clear hown' hg hrd hI4
                go_wp2_with fail
                go_roundw
                case rel => exact ⟨k + 1, by omega, by go_num, by rw [hfl.out, bvs_app]; exact ho, hbw''⟩
                case measure => simp [intOf]; omega
              · obtain rfl : k = n := by omega
                rw [List.take_of_length_le (by rw [odds_len, ← HN.out]; omega)] at hown
                have htr := ht.keep (Below.keeps hbw)
                have hs := Lib.hid (csum_odds a b c k HN.out)
                have hV1 := HV1.out.keep (Below.keeps hbw)
                have hV2 := HV2.out.keep (Below.keeps hbw)
                have hV3 := HV3.out.keep (Below.keeps hbw)
                have hown1 : wr.ownsRow w.heap.size 5 1 u11 (odds a b c).length (bvs (odds a b c)) := by rw [odds_len, ← HN.out]; exact hown
                have hVo := owns_byt hown1
                clear hown hown1
                obtain ⟨p0, c0, rfl, ho1, ho2, ho3⟩ := hVo
                have hVo : Byt wr (.slice p0 (odds a b c).length c0) (odds a b c) := ⟨p0, c0, rfl, ho1, ho2, ho3⟩
                clear ho1 ho2 ho3
                go_wp2_with fail
                have hc1 := fun w => run_slice_to (P := Tryd.prog) Tryd.underlying24 hi p1 a.length cap1 k (by omega) w
                have hc2 := fun w => run_slice_to (P := Tryd.prog) Tryd.underlying24 hi p2 b.length cap2 k (by omega) w
                have hc3 := fun w => run_slice_to (P := Tryd.prog) Tryd.underlying24 hi p3 c.length cap3 k (by omega) w
                refine wp_phi (fun w' => Byt w' _ a ∧ Byt w' _ b ∧ Byt w' _ c ∧ HalfTab w' ∧ (Byt w' (.slice p0 (odds a b c).length c0) (odds a b c) ∧ Below wr.heap.size wr w'))
                  [(2, PBytL [a]), (3, PVal (.int .u32 (n32 (csum 0 a)))), (7, PBytL [odds a b c]), (8, PVal (.int .u32 (n32 (csum 0 (odds a b c))))), (12, PBytL [a.take k]), (13, PVal (.int .u32 (n32 (csum 0 (a.take k))))), (17, PBytL [b.take k]), (18, PVal (.int .u32 (n32 (csum 0 (b.take k))))), (23, PBytL [c.take k]), (24, PVal (.int .u32 (n32 (csum 0 (c.take k)))))]
                  [(3, [2]), (8, [7]), (13, [12]), (18, [17]), (24, [23])] (by kernel_rfl) (by kernel_rfl) ?_ ?_ ⟨hV1, hV2, hV3, htr, hVo, (Below.refl _ _).drew⟩ ?_
                · rintro w1 w2 ⟨a1, a2, a3, a4, a5, a6⟩ hb
                  exact ⟨a1.below hb, a2.below hb, a3.below hb, a4.keep (Below.keeps hb), a5.below hb, a6.trans (hb.mono a6.size)⟩
                · simp only [List.mem_cons, List.not_mem_nil, or_false, forall_eq_or_imp, forall_eq]
                  exact ⟨fun _ _ _ _ h => PBytL_stays _ _ _ _ h, fun _ _ _ _ h => PVal_stays _ _ _ _ h, fun _ _ _ _ h => PBytL_stays _ _ _ _ h, fun _ _ _ _ h => PVal_stays _ _ _ _ h, fun _ _ _ _ h => PBytL_stays _ _ _ _ h, fun _ _ _ _ h => PVal_stays _ _ _ _ h, fun _ _ _ _ h => PBytL_stays _ _ _ _ h, fun _ _ _ _ h => PVal_stays _ _ _ _ h, fun _ _ _ _ h => PBytL_stays _ _ _ _ h, fun _ _ _ _ h => PVal_stays _ _ _ _ h⟩
                repeat (refine phi_pureK rfl rfl (fun K hK => ?_); apply Exists.intro; constructor; (rintro w' ⟨hI1, hI2, hI3, hI4, hI5⟩; first | (go_simp; rfl) | go_simp); simp only [Act.put, List.setIfInBounds_toArray, List.set_cons_succ, List.set_cons_zero, List.nil_append, List.cons_append]; apply hK; clear hK K)
                refine phi_partK (PBytL [a]) rfl rfl ⟨_, none, 0, rfl⟩ ?_ (fun K hK v hv => ?_)
                · rintro w' ⟨hI1, hI2, hI3, hI4, hI5⟩ _
                  unfold gives
                  go_simp
                  exact ⟨⟨_, _, rfl⟩, bytL_one hI1 _ _ _ rfl, below_alloc1 _ _⟩
                obtain ⟨p', c', rfl⟩ := hv
                simp only [Act.put, List.setIfInBounds_toArray, List.set_cons_succ, List.set_cons_zero, List.nil_append, List.cons_append]
                apply hK
                clear hK K
                refine phi_partK (PVal (.int .u32 (n32 (csum 0 a)))) rfl rfl ⟨_, rfl⟩ ?_ (fun K hK v hv => ?_)
                · rintro w' ⟨hI1, hI2, hI3, hI4, hI5⟩ hf
                  have hb : BytL w' _ [a] := hf (2, fun w => (PBytL [a]).fact w (.slice p' 1 c')) (by simp) (List.contains_iff_mem.1 rfl)
                  unfold gives
                  go_simp
                  refine (sum_any _ [a] _ hI4 hb).mono ?_
                  rintro e w'' ⟨rfl, rfl⟩
                  exact ⟨_, rfl, rfl, trivial, Below.refl _ _⟩
                obtain rfl : v = _ := hv
                simp only [Act.put, List.setIfInBounds_toArray, List.set_cons_succ, List.set_cons_zero, List.nil_append, List.cons_append]
                apply hK
                clear hK K
                repeat (refine phi_pureK rfl rfl (fun K hK => ?_); apply Exists.intro; constructor; (rintro w' ⟨hI1, hI2, hI3, hI4, hI5⟩; first | (go_simp; rfl) | go_simp); simp only [Act.put, List.setIfInBounds_toArray, List.set_cons_succ, List.set_cons_zero, List.nil_append, List.cons_append]; apply hK; clear hK K)
                refine phi_partK (PBytL [odds a b c]) rfl rfl ⟨_, none, 0, rfl⟩ ?_ (fun K hK v hv => ?_)
                · rintro w' ⟨hI1, hI2, hI3, hI4, hI5⟩ _
                  unfold gives
                  go_simp
                  exact ⟨⟨_, _, rfl⟩, bytL_one hI5.1 _ _ _ rfl, below_alloc1 _ _⟩
                obtain ⟨p', c', rfl⟩ := hv
                simp only [Act.put, List.setIfInBounds_toArray, List.set_cons_succ, List.set_cons_zero, List.nil_append, List.cons_append]
                apply hK
                clear hK K
                refine phi_partK (PVal (.int .u32 (n32 (csum 0 (odds a b c))))) rfl rfl ⟨_, rfl⟩ ?_ (fun K hK v hv => ?_)
                · rintro w' ⟨hI1, hI2, hI3, hI4, hI5⟩ hf
                  have hb : BytL w' _ [odds a b c] := hf (7, fun w => (PBytL [odds a b c]).fact w (.slice p' 1 c')) (by simp) (List.contains_iff_mem.1 rfl)
                  unfold gives
                  go_simp
                  refine (sum_any _ [odds a b c] _ hI4 hb).mono ?_
                  rintro e w'' ⟨rfl, rfl⟩
                  exact ⟨_, rfl, rfl, trivial, Below.refl _ _⟩
                obtain rfl : v = _ := hv
                simp only [Act.put, List.setIfInBounds_toArray, List.set_cons_succ, List.set_cons_zero, List.nil_append, List.cons_append]
                apply hK
                clear hK K
                repeat (refine phi_pureK rfl rfl (fun K hK => ?_); apply Exists.intro; constructor; (rintro w' ⟨hI1, hI2, hI3, hI4, hI5⟩; first | (go_simp; rfl) | go_simp); simp only [Act.put, List.setIfInBounds_toArray, List.set_cons_succ, List.set_cons_zero, List.nil_append, List.cons_append]; apply hK; clear hK K)
                refine phi_partK (PBytL [a.take k]) rfl rfl ⟨_, none, 0, rfl⟩ ?_ (fun K hK v hv => ?_)
                · rintro w' ⟨hI1, hI2, hI3, hI4, hI5⟩ _
                  unfold gives
                  go_simp
                  exact ⟨⟨_, _, rfl⟩, bytL_one (byt_take hI1 k hn1) _ _ _ rfl, below_alloc1 _ _⟩
                obtain ⟨p', c', rfl⟩ := hv
                simp only [Act.put, List.setIfInBounds_toArray, List.set_cons_succ, List.set_cons_zero, List.nil_append, List.cons_append]
                apply hK
                clear hK K
                refine phi_partK (PVal (.int .u32 (n32 (csum 0 (a.take k))))) rfl rfl ⟨_, rfl⟩ ?_ (fun K hK v hv => ?_)
                · rintro w' ⟨hI1, hI2, hI3, hI4, hI5⟩ hf
                  have hb : BytL w' _ [a.take k] := hf (12, fun w => (PBytL [a.take k]).fact w (.slice p' 1 c')) (by simp) (List.contains_iff_mem.1 rfl)
                  unfold gives
                  go_simp
                  refine (sum_any _ [a.take k] _ hI4 hb).mono ?_
                  rintro e w'' ⟨rfl, rfl⟩
                  exact ⟨_, rfl, rfl, trivial, Below.refl _ _⟩
                obtain rfl : v = _ := hv
                simp only [Act.put, List.setIfInBounds_toArray, List.set_cons_succ, List.set_cons_zero, List.nil_append, List.cons_append]
                apply hK
                clear hK K
                repeat (refine phi_pureK rfl rfl (fun K hK => ?_); apply Exists.intro; constructor; (rintro w' ⟨hI1, hI2, hI3, hI4, hI5⟩; first | (go_simp; rfl) | go_simp); simp only [Act.put, List.setIfInBounds_toArray, List.set_cons_succ, List.set_cons_zero, List.nil_append, List.cons_append]; apply hK; clear hK K)
                refine phi_partK (PBytL [b.take k]) rfl rfl ⟨_, none, 0, rfl⟩ ?_ (fun K hK v hv => ?_)
                · rintro w' ⟨hI1, hI2, hI3, hI4, hI5⟩ _
                  unfold gives
                  go_simp
                  exact ⟨⟨_, _, rfl⟩, bytL_one (byt_take hI2 k hn2) _ _ _ rfl, below_alloc1 _ _⟩
                obtain ⟨p', c', rfl⟩ := hv
                simp only [Act.put, List.setIfInBounds_toArray, List.set_cons_succ, List.set_cons_zero, List.nil_append, List.cons_append]
                apply hK
                clear hK K
                refine phi_partK (PVal (.int .u32 (n32 (csum 0 (b.take k))))) rfl rfl ⟨_, rfl⟩ ?_ (fun K hK v hv => ?_)
                · rintro w' ⟨hI1, hI2, hI3, hI4, hI5⟩ hf
                  have hb : BytL w' _ [b.take k] := hf (17, fun w => (PBytL [b.take k]).fact w (.slice p' 1 c')) (by simp) (List.contains_iff_mem.1 rfl)
                  unfold gives
                  go_simp
                  refine (sum_any _ [b.take k] _ hI4 hb).mono ?_
                  rintro e w'' ⟨rfl, rfl⟩
                  exact ⟨_, rfl, rfl, trivial, Below.refl _ _⟩
                obtain rfl : v = _ := hv
                simp only [Act.put, List.setIfInBounds_toArray, List.set_cons_succ, List.set_cons_zero, List.nil_append, List.cons_append]
                apply hK
                clear hK K
                repeat (refine phi_pureK rfl rfl (fun K hK => ?_); apply Exists.intro; constructor; (rintro w' ⟨hI1, hI2, hI3, hI4, hI5⟩; first | (go_simp; rfl) | go_simp); simp only [Act.put, List.setIfInBounds_toArray, List.set_cons_succ, List.set_cons_zero, List.nil_append, List.cons_append]; apply hK; clear hK K)
                refine phi_partK (PBytL [c.take k]) rfl rfl ⟨_, none, 0, rfl⟩ ?_ (fun K hK v hv => ?_)
                · rintro w' ⟨hI1, hI2, hI3, hI4, hI5⟩ _
                  unfold gives
                  go_simp
                  exact ⟨⟨_, _, rfl⟩, bytL_one (byt_take hI3 k hn3) _ _ _ rfl, below_alloc1 _ _⟩
                obtain ⟨p', c', rfl⟩ := hv
                simp only [Act.put, List.setIfInBounds_toArray, List.set_cons_succ, List.set_cons_zero, List.nil_append, List.cons_append]
                apply hK
                clear hK K
                refine phi_partK (PVal (.int .u32 (n32 (csum 0 (c.take k))))) rfl rfl ⟨_, rfl⟩ ?_ (fun K hK v hv => ?_)
                · rintro w' ⟨hI1, hI2, hI3, hI4, hI5⟩ hf
                  have hb : BytL w' _ [c.take k] := hf (23, fun w => (PBytL [c.take k]).fact w (.slice p' 1 c')) (by simp) (List.contains_iff_mem.1 rfl)
                  unfold gives
                  go_simp
                  refine (sum_any _ [c.take k] _ hI4 hb).mono ?_
                  rintro e w'' ⟨rfl, rfl⟩
                  exact ⟨_, rfl, rfl, trivial, Below.refl _ _⟩
                obtain rfl : v = _ := hv
                simp only [Act.put, List.setIfInBounds_toArray, List.set_cons_succ, List.set_cons_zero, List.nil_append, List.cons_append]
                apply hK
                clear hK K
                repeat (refine phi_pureK rfl rfl (fun K hK => ?_); apply Exists.intro; constructor; (rintro w' ⟨hI1, hI2, hI3, hI4, hI5⟩; first | (go_simp; rfl) | go_simp); simp only [Act.put, List.setIfInBounds_toArray, List.set_cons_succ, List.set_cons_zero, List.nil_append, List.cons_append]; apply hK; clear hK K)
                refine phi_done ?_
                rintro w' ⟨_, _, _, _, _, hbx⟩ _
                refine wpList_nil ?_
                go_wp2_with fail
                go_ret
                refine ⟨?_, hbw.trans (hbx.mono hwr)⟩
                have hs' : csum (0#32) (odds a b c) = csum (0#32) (a.take k) ^^^ csum (0#32) (b.take k) ^^^ csum (0#32) (c.take k) := hs.out
                show Ending.returned (Value.bool _) = _
                simp only [bits32_xor]
                rw [show (0 : BitVec 32) = 0#32 from rfl] at *
                rw [hs', n32_beq]
                simp
      · have hd3 : decide (300 < (c.length : Int)) = true := by simp; omega
        have hd1 : decide (300 < (a.length : Int)) = false := by simp; omega
        have hd2 : decide (300 < (b.length : Int)) = false := by simp; omega
        go_wp2_with fail
        go_ret
        exact ⟨rfl, hb1⟩
    · have hd2 : decide (300 < (b.length : Int)) = true := by simp; omega
      have hd1 : decide (300 < (a.length : Int)) = false := by simp; omega
      go_wp2_with fail
      go_ret
      exact ⟨rfl, hb1⟩
  · have hd1 : decide (300 < (a.length : Int)) = true := by simp; omega
    go_wp2_with fail
    go_ret
    exact ⟨rfl, hb1⟩
end Go.Proofs.YtdbgdmhlnaldoaaDoor
