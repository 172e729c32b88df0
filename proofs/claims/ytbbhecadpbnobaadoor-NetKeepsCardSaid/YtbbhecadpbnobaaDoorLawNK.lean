/-
  LawNK: NetKeeps answers true.
-/
import Derived.Test.YtbbhecadpbnobaaDoorNetK
namespace Go.Proofs.YtbbhecadpbnobaaDoor
open Go.RowKit
attribute [local irreducible] wpPhi

/-- the first loop's state -/
def KeepR (w : World) (N : Nat) (ls : List (List UInt8)) (vt : Value) (k : Nat) (p : Option Nat) (L : List (List UInt8)) (f : Int → Int → Bool) (x : Nat) (wr : World) : Prop :=
  Nn wr (N + 1) N p k (kS L f x) ∧ x ≤ k ∧ L.length ≤ k ∧ (∀ l ∈ L, l.length ≤ 1000) ∧ wr.ownsRow w.heap.size 9 1 vt L.length (svs L) ∧ (∀ q, p = some q → w.heap.size ≤ q) ∧ Below w.heap.size w wr
set_option maxRecDepth 20000 in
set_option maxHeartbeats 8000000 in
theorem nkeeps_any (w : World) (E : Nat → Addr) (he : ErrsOn [0, 2, 5] w E) (v1 v2 v3 : Value) (ls : List (List UInt8)) (cl : List Bool) (al : List Int) (hv1 : BytL w v1 ls) (hv2 : Bv w v2 cl) (hv3 : Iv w v3 al) :
    Calls Tryd.prog 3 #[v1, v2, v3] w (fun e w' => e = .returned (.bool true) ∧ Below w.heap.size w w') := by
  have HE := Lib.hid he
  have HAL := Lib.hid (nalive_any w E he)
  have HV1 := Lib.hid hv1
  have HV2 := Lib.hid hv2
  have HV3 := Lib.hid hv3
  obtain ⟨p1, c1, us1, rfl, _, a2, _⟩ := hv1
  obtain ⟨p2, c2, rfl, _, b2, _⟩ := hv2
  obtain ⟨p3, c3, rfl, _, d2, _⟩ := hv3
  unfold maxLen at a2 b2 d2
  clear he
  by_cases h1 : 60 < ls.length ∨ 60 < al.length
  · have h1' : (decide (60 < ls.length) = true) ∨ (decide (60 < ls.length) = false ∧ decide (60 < al.length) = true) := by
      simp only [decide_eq_true_eq, decide_eq_false_iff_not]; omega
    rcases h1' with d | ⟨d, d'⟩
    · have e1 : decide (60 < (ls.length : Int)) = true := by rw [decide_eq_true_eq] at d ⊢; omega
      clear h1
      go_enter Tryd.func3, Tryd.ntmps3
      go_wp2_with fail
      refine HAL.out.mono ?_
      rintro e w1 ⟨rfl, hb1⟩
      go_wp2_with fail
      go_ret
      exact ⟨rfl, hb1⟩
    · have e1 : decide (60 < (ls.length : Int)) = false := by rw [decide_eq_false_iff_not] at d ⊢; omega
      have e2 : decide (60 < (al.length : Int)) = true := by rw [decide_eq_true_eq] at d' ⊢; omega
      clear h1
      go_enter Tryd.func3, Tryd.ntmps3
      go_wp2_with fail
      refine HAL.out.mono ?_
      rintro e w1 ⟨rfl, hb1⟩
      go_wp2_with fail
      go_ret
      exact ⟨rfl, hb1⟩
  have d : decide (60 < ls.length) = false := by rw [decide_eq_false_iff_not]; omega
  have d' : decide (60 < al.length) = false := by rw [decide_eq_false_iff_not]; omega
  have e1 : decide (60 < (ls.length : Int)) = false := by rw [decide_eq_false_iff_not]; omega
  have e2 : decide (60 < (al.length : Int)) = false := by rw [decide_eq_false_iff_not]; omega
  have HLE := Lib.hid (show ls.length ≤ 60 ∧ al.length ≤ 60 by omega)
  obtain ⟨i0, hi0, hz0, hz1, hz2⟩ := info_parts strI
  clear h1
  go_enter Tryd.func3, Tryd.ntmps3
  go_wp2_with fail
  refine HAL.out.mono ?_
  rintro e w0 ⟨rfl, hb0⟩
  have HB0 := Lib.hid hb0
  clear hb0 HAL
  go_wp2_with fail
  refine (nnew_any w0 2 (by decide)).mono ?_
  rintro e w1 ⟨rfl, hn1, hb1⟩
  have HN1 := Lib.hid hn1
  have HB1 := Lib.hid (HB0.out.trans (hb1.mono HB0.out.size))
  have HSZ := Lib.hid (show w.heap.size ≤ w0.heap.size from HB0.out.size)
  clear hn1 hb1 HB0
  generalize w0.heap.size = N at *
  clear d d' e1 e2
  go_wp2_with fail
  have HST := Lib.hid (show KeepR w N ls (.slice (some ⟨w1.heap.size, 0, none⟩) 0 0) 0 none [] (fun _ _ => false) 0 (w1.alloc (.cells #[] 9)) from
    ⟨HN1.out.below (below_alloc1 _ _), by omega, by simp, nofun, by simpa [svs] using World.ownsRow_lit (base := w.heap.size) (e := 9) (size := 1) w1 #[] 0 HB1.out.size (by unfold maxLen; omega) rfl, nofun, HB1.out.trans (below_alloc1 _ _ |>.mono HB1.out.size)⟩)
  generalize w1.alloc (.cells #[] 9) = w2 at *
  go_loopw [9, 39] (fun vt i wr => ∃ (k : Nat) (p : Option Nat) (L : List (List UInt8)) (f : Int → Int → Bool) (x : Nat), k ≤ ls.length ∧ i = .int .i64 k ∧ KeepR w N ls vt k p L f x wr) (fun _ i _ => ls.length - (intOf i).toNat)
  case atStart => exact ⟨0, none, [], _, 0, by omega, rfl, HST.out⟩
  case round =>
    clear HST HN1 HB1
    obtain ⟨k, p, L, f, x, hk, rfl, hr⟩ := hrel
    have HR := Lib.hid hr
    obtain ⟨pt, kt, rfl, _⟩ := owns_rd hr.2.2.2.2.1
    clear hr
    by_cases hlt : k < ls.length
    · obtain ⟨q1, e1, us1', he1, _, _, r1, l1, f1⟩ := HV1.out
      cases he1
      obtain ⟨u, hu, hby⟩ := f1 k ls[k] (by simp)
      obtain ⟨b1, off1, rfl, hc1⟩ := r1.has (by rintro rfl; simp at hu)
      have hc1 := Below.keeps HR.out.2.2.2.2.2.2 _ _ (hc1 k u hu)
      obtain ⟨qd, cd, rfl, hl2, hl3, _⟩ := id hby
      unfold maxLen at hl3
      have HBY := Lib.hid hby
      clear r1 l1 f1 hu hby
      generalize hlk : ls[k] = l at *
      have HLK := Lib.hid hlk
      clear hlk
      by_cases hlong : 1000 < l.length
      · have d3 : decide (1000 < (l.length : Int)) = true := by rw [decide_eq_true_eq]; omega
        have d3' : decide (1000 < l.length) = true := by rw [decide_eq_true_eq]; exact hlong
        clear hlong
        go_wp2_with fail
        go_ret
        exact ⟨rfl, HR.out.2.2.2.2.2.2⟩
      · have d3 : decide (1000 < (l.length : Int)) = false := by rw [decide_eq_false_iff_not]; omega
        have d3' : decide (1000 < l.length) = false := by rw [decide_eq_false_iff_not]; exact hlong
        have HLN := Lib.hid (show l.length ≤ 1000 by omega)
        clear hlong
        have hcut : (decide ((k : Int) < (cl.length : Int)) = true ∧ k < cl.length ∧ ∃ b2 off2 is, p2 = some ⟨b2, off2, none⟩ ∧ wr.cell? ⟨b2, off2 + k, none⟩ = some (.bool is)) ∨ (decide ((k : Int) < (cl.length : Int)) = false ∧ decide (k < cl.length) = false) := by
          by_cases hkc : k < cl.length
          · refine .inl ⟨by rw [decide_eq_true_eq]; omega, hkc, ?_⟩
            obtain ⟨q2, e2, he2, _, _, r2⟩ := HV2.out
            cases he2
            obtain ⟨b2, off2, hp, hc⟩ := bb_cell r2 hkc
            exact ⟨b2, off2, _, hp, Below.keeps HR.out.2.2.2.2.2.2 _ _ hc⟩
          · exact .inr ⟨by rw [decide_eq_false_iff_not]; omega, by rw [decide_eq_false_iff_not]; exact hkc⟩
        rcases hcut with ⟨dc, dc', b2, off2, is, rfl, hcc⟩ | ⟨dc, dc'⟩
        · cases is with
          | true =>
            have HCU := Lib.hid (ncut_any wr E (HE.out.below HR.out.2.2.2.2.2.2) (N + 1) N p k (kS L f x) HR.out.1 0 1 true (by unfold In64; omega) (by unfold In64; omega) (by unfold maxLen; omega))
            rw [(kS_cut true).1, (kS_cut true).2, errV_zero] at HCU
            go_wp2_with fail
            refine HCU.out.mono ?_
            rintro e w3 ⟨rfl, ⟨p3, hp3, hn3⟩, k3⟩
            have HLO := Lib.hid (nS_low HSZ.out HR.out.2.2.2.2.2.1)
            have HP3 := Lib.hid (nx_low hp3 HR.out.2.2.2.2.2.1 HR.out.2.2.2.2.2.2.size)
            have HN3 := Lib.hid hn3
            have HB3 := Lib.hid (HR.out.2.2.2.2.2.2.trans (k3.below HLO.out HR.out.2.2.2.2.2.2.size))
            have HT3 := Lib.hid (HR.out.1.keepS HR.out.2.2.2.2.1 k3)
            have HPU := Lib.hid (nput_any w3 E (HE.out.below HB3.out) (N + 1) N p3 (k + 1) _ HN3.out 0 1 (by unfold In64; omega) (by unfold In64; omega) _ l (fun w' k => byt_far HBY.out HB3.out (nS_low HSZ.out HP3.out) k) (show (0 : Int) ≤ (x : Int) ∧ (x : Int) ≤ 1000000 from by have := HR.out.2.1; have := HLE.out.1; omega))
            clear hp3 hn3 k3 HCU HLO
            go_wp2_with fail
            have hq := kS_putT (L := L) (f := setW f 0 1 true) (x := (x : Int)) (setW_at true) HLN.out
            rw [hq.1, hq.2.1, hq.2.2, errV_zero] at HPU
            clear hq
            refine HPU.out.mono ?_
            rintro e w4 ⟨rfl, ⟨p4, hp4, hn4⟩, k4⟩
            have HLO := Lib.hid (nS_low HSZ.out HP3.out)
            have HP4 := Lib.hid (nx_low hp4 HP3.out HB3.out.size)
            have HN4 := Lib.hid hn4
            have HB4 := Lib.hid (HB3.out.trans (k4.below HLO.out HB3.out.size))
            have HT4 := Lib.hid (HN3.out.keepS HT3.out k4)
            clear hp4 hn4 k4 HPU HLO
            go_wp2_with fail
            go_roundw
            case rel => exact ⟨k + 1, p4, L, _, x + 1, by omega, by go_num, HN4.out, by have := HR.out.2.1; omega, by have := HR.out.2.2.1; omega, HR.out.2.2.2.1, HT4.out, HP4.out, HB4.out⟩
            case measure => simp [intOf]; omega
          | false =>
            have HCU := Lib.hid (ncut_any wr E (HE.out.below HR.out.2.2.2.2.2.2) (N + 1) N p k (kS L f x) HR.out.1 0 1 false (by unfold In64; omega) (by unfold In64; omega) (by unfold maxLen; omega))
            rw [(kS_cut false).1, (kS_cut false).2, errV_zero] at HCU
            go_wp2_with fail
            refine HCU.out.mono ?_
            rintro e w3 ⟨rfl, ⟨p3, hp3, hn3⟩, k3⟩
            have HLO := Lib.hid (nS_low HSZ.out HR.out.2.2.2.2.2.1)
            have HP3 := Lib.hid (nx_low hp3 HR.out.2.2.2.2.2.1 HR.out.2.2.2.2.2.2.size)
            have HN3 := Lib.hid hn3
            have HB3 := Lib.hid (HR.out.2.2.2.2.2.2.trans (k3.below HLO.out HR.out.2.2.2.2.2.2.size))
            have HT3 := Lib.hid (HR.out.1.keepS HR.out.2.2.2.2.1 k3)
            have HPU := Lib.hid (nput_any w3 E (HE.out.below HB3.out) (N + 1) N p3 (k + 1) _ HN3.out 0 1 (by unfold In64; omega) (by unfold In64; omega) _ l (fun w' k => byt_far HBY.out HB3.out (nS_low HSZ.out HP3.out) k) (show (0 : Int) ≤ (x : Int) ∧ (x : Int) ≤ 1000000 from by have := HR.out.2.1; have := HLE.out.1; omega))
            clear hp3 hn3 k3 HCU HLO
            go_wp2_with fail
            have hq := kS_putF (L := L) (f := setW f 0 1 false) (x := (x : Int)) (setW_at false) HLN.out (by have := HR.out.2.2.1; have := HLE.out.1; omega)
            rw [hq.1, hq.2.1, hq.2.2, errV_zero] at HPU
            clear hq
            refine HPU.out.mono ?_
            rintro e w4 ⟨rfl, ⟨p4, hp4, hn4⟩, k4⟩
            have HLO := Lib.hid (nS_low HSZ.out HP3.out)
            have HP4 := Lib.hid (nx_low hp4 HP3.out HB3.out.size)
            have HN4 := Lib.hid hn4
            have HB4 := Lib.hid (HB3.out.trans (k4.below HLO.out HB3.out.size))
            have HT4 := Lib.hid (HN3.out.keepS HT3.out k4)
            clear hp4 hn4 k4 HPU HLO
            have sS := str_of (HBY.out.below HB4.out)
            have hbz := Blk.new w4 9 #[.string (bs l)]
            have hkz := below_alloc1 w4 (.cells #[.string (bs l)] 9)
            have HT5 := Lib.hid (owns_below HT4.out hkz)
            have HN5 := Lib.hid (HN4.out.below hkz)
            have HB5 := Lib.hid (HB4.out.trans (hkz.mono HB4.out.size))
            have HZ5 := Lib.hid hbz
            clear hbz hkz
            go_wp2_with (at_builtin; refine wpList_appAt (.tmp 76) (.tmp 79) 31 rfl rfl w.heap.size 9 i0 (.string ⟨#[]⟩) 1 16 Tryd.underlying31 hi0 hz0 hz1 hz2 rfl (by decide) _ _ _ rfl HT5.out _ _ _ [.string (bs l)] rfl rfl ?aa ?ab ?ac ?ad HB5.out.size ?_)
            case aa =>
              refine .inr ⟨w4.heap.size, 0, rfl, fun i u hu => ?_⟩
              rw [Nat.zero_add, HZ5.out.cell]
              simpa using hu
            case ab => exact svs_one (L := [l])
            case ac => have := HR.out.2.2.1; have := HLE.out.1; unfold maxLen; omega
            case ad => have := HR.out.2.2.1; have := HLE.out.1; omega
            intro v5 w5 ho5 hg5 _
            have HO5 := Lib.hid (show w5.ownsRow w.heap.size 9 1 v5 (L ++ [l]).length (svs (L ++ [l])) from by
              rw [svs_app, List.length_append]
              exact ho5)
            have HN6 := Lib.hid (HN5.out.strs HT5.out (but_gr hg5))
            have HB6 := Lib.hid (HB5.out.grown hg5 HB5.out.size (fun g hg => (HT5.out.lt g hg).1))
            clear ho5 hg5
            go_wp2_with fail
            go_roundw
            case rel => exact ⟨k + 1, p4, L ++ [l], _, x, by omega, by go_num, HN6.out, by have := HR.out.2.1; omega, by have := HR.out.2.2.1; rw [List.length_append, List.length_singleton]; omega, fun l' hl' => by
              rcases List.mem_append.1 hl' with h | h
              · exact HR.out.2.2.2.1 l' h
              · obtain rfl : l' = l := by simpa using h
                exact HLN.out, HO5.out, HP4.out, HB6.out⟩
            case measure => simp [intOf]; omega
        ·
          have HCU := Lib.hid (ncut_any wr E (HE.out.below HR.out.2.2.2.2.2.2) (N + 1) N p k (kS L f x) HR.out.1 0 1 false (by unfold In64; omega) (by unfold In64; omega) (by unfold maxLen; omega))
          rw [(kS_cut false).1, (kS_cut false).2, errV_zero] at HCU
          go_wp2_with fail
          refine HCU.out.mono ?_
          rintro e w3 ⟨rfl, ⟨p3, hp3, hn3⟩, k3⟩
          have HLO := Lib.hid (nS_low HSZ.out HR.out.2.2.2.2.2.1)
          have HP3 := Lib.hid (nx_low hp3 HR.out.2.2.2.2.2.1 HR.out.2.2.2.2.2.2.size)
          have HN3 := Lib.hid hn3
          have HB3 := Lib.hid (HR.out.2.2.2.2.2.2.trans (k3.below HLO.out HR.out.2.2.2.2.2.2.size))
          have HT3 := Lib.hid (HR.out.1.keepS HR.out.2.2.2.2.1 k3)
          have HPU := Lib.hid (nput_any w3 E (HE.out.below HB3.out) (N + 1) N p3 (k + 1) _ HN3.out 0 1 (by unfold In64; omega) (by unfold In64; omega) _ l (fun w' k => byt_far HBY.out HB3.out (nS_low HSZ.out HP3.out) k) (show (0 : Int) ≤ (x : Int) ∧ (x : Int) ≤ 1000000 from by have := HR.out.2.1; have := HLE.out.1; omega))
          clear hp3 hn3 k3 HCU HLO
          go_wp2_with fail
          have hq := kS_putF (L := L) (f := setW f 0 1 false) (x := (x : Int)) (setW_at false) HLN.out (by have := HR.out.2.2.1; have := HLE.out.1; omega)
          rw [hq.1, hq.2.1, hq.2.2, errV_zero] at HPU
          clear hq
          refine HPU.out.mono ?_
          rintro e w4 ⟨rfl, ⟨p4, hp4, hn4⟩, k4⟩
          have HLO := Lib.hid (nS_low HSZ.out HP3.out)
          have HP4 := Lib.hid (nx_low hp4 HP3.out HB3.out.size)
          have HN4 := Lib.hid hn4
          have HB4 := Lib.hid (HB3.out.trans (k4.below HLO.out HB3.out.size))
          have HT4 := Lib.hid (HN3.out.keepS HT3.out k4)
          clear hp4 hn4 k4 HPU HLO
          have sS := str_of (HBY.out.below HB4.out)
          have hbz := Blk.new w4 9 #[.string (bs l)]
          have hkz := below_alloc1 w4 (.cells #[.string (bs l)] 9)
          have HT5 := Lib.hid (owns_below HT4.out hkz)
          have HN5 := Lib.hid (HN4.out.below hkz)
          have HB5 := Lib.hid (HB4.out.trans (hkz.mono HB4.out.size))
          have HZ5 := Lib.hid hbz
          clear hbz hkz
          go_wp2_with (at_builtin; refine wpList_appAt (.tmp 76) (.tmp 79) 31 rfl rfl w.heap.size 9 i0 (.string ⟨#[]⟩) 1 16 Tryd.underlying31 hi0 hz0 hz1 hz2 rfl (by decide) _ _ _ rfl HT5.out _ _ _ [.string (bs l)] rfl rfl ?ba ?bb ?bc ?bd HB5.out.size ?_)
          case ba =>
            refine .inr ⟨w4.heap.size, 0, rfl, fun i u hu => ?_⟩
            rw [Nat.zero_add, HZ5.out.cell]
            simpa using hu
          case bb => exact svs_one (L := [l])
          case bc => have := HR.out.2.2.1; have := HLE.out.1; unfold maxLen; omega
          case bd => have := HR.out.2.2.1; have := HLE.out.1; omega
          intro v5 w5 ho5 hg5 _
          have HO5 := Lib.hid (show w5.ownsRow w.heap.size 9 1 v5 (L ++ [l]).length (svs (L ++ [l])) from by
            rw [svs_app, List.length_append]
            exact ho5)
          have HN6 := Lib.hid (HN5.out.strs HT5.out (but_gr hg5))
          have HB6 := Lib.hid (HB5.out.grown hg5 HB5.out.size (fun g hg => (HT5.out.lt g hg).1))
          clear ho5 hg5
          go_wp2_with fail
          go_roundw
          case rel => exact ⟨k + 1, p4, L ++ [l], _, x, by omega, by go_num, HN6.out, by have := HR.out.2.1; omega, by have := HR.out.2.2.1; rw [List.length_append, List.length_singleton]; omega, fun l' hl' => by
            rcases List.mem_append.1 hl' with h | h
            · exact HR.out.2.2.2.1 l' h
            · obtain rfl : l' = l := by simpa using h
              exact HLN.out, HO5.out, HP4.out, HB6.out⟩
          case measure => simp [intOf]; omega
    · have HC := Lib.hid (show k ≤ 60 by have := HLE.out.1; omega)
      have HX := Lib.hid (And.intro HR.out.2.1 HR.out.2.2.1)
      go_wp2_with fail
      clear a2 b2 hk hlt
      obtain ⟨wo, rfl⟩ : ∃ wo, wo = wr := ⟨_, rfl⟩
      go_loopw [9, 84] (fun vt i wr => ∃ (j : Nat) (p : Option Nat) (L : List (List UInt8)), j ≤ al.length ∧ i = .int .i64 j ∧ KeepR w N ls vt k p L f x wr) (fun _ i _ => al.length - (intOf i).toNat)
      case atStart => exact ⟨0, p, L, by omega, rfl, HR.out⟩
      case round =>
        clear HR HX
        obtain ⟨j, p, L, hj, rfl, hr⟩ := hrel
        have HR := Lib.hid hr
        obtain ⟨pt, kt, rfl, _⟩ := owns_rd hr.2.2.2.2.1
        have HLN := Lib.hid (len_any wr _ _ p k _ hr.1)
        rw [kS_len] at HLN
        have hL60 : L.length ≤ 60 := by have := hr.2.2.1; have := HC.out; omega
        clear hr
        by_cases hlt : j < al.length
        · obtain ⟨q3, e3, he3, _, _, r3⟩ := HV3.out
          cases he3
          obtain ⟨b3, off3, rfl, hc3⟩ := iv_cell r3 hlt
          have hc3 := Below.keeps HR.out.2.2.2.2.2.2 _ _ hc3
          clear r3
          generalize al[j] = y at *
          by_cases hL : L = []
          · subst hL
            go_wp2_with fail
            refine HLN.out.mono ?_
            rintro e w5 ⟨rfl, hw5⟩
            rw [hw5]
            clear hw5 w5
            go_wp2_with fail
            go_ret
            exact ⟨rfl, HR.out.2.2.2.2.2.2⟩
          · have hpos : 0 < L.length := by
              rcases L with _ | ⟨l0, L0⟩
              · exact absurd rfl hL
              · simp
            have dz : ((L.length : Int) == 0) = false := by rw [beq_eq_false_iff_ne]; omega
            have hne : ¬ (L.length : Int) = 0 := by omega
            have hne' : ¬ L.length = 0 := by omega
            have hu := u64_conv y
            have hu2 := fun w => u64_conv (L.length : Int) w
            have hu3 : u64n (L.length : Int) = L.length := by unfold u64n; omega
            obtain ⟨i, hi, hiw⟩ := mod_k y L.length hpos (by omega)
            have HI := Lib.hid hi
            clear hi
            go_wp2_with fail
            rw [hiw]
            have hmem : L[i] ∈ L := List.getElem_mem HI.out
            have hl1000 := HR.out.2.2.2.1 _ hmem
            refine (ntake_any wr (N + 1) N p k (kS L f x) HR.out.1 i (0, 1, L[i]) (kS_get HI.out) (by rw [kS_len]; omega)).mono ?_
            rintro e w4 ⟨⟨u, rfl, ho4⟩, ⟨p4, hp4, hn4⟩, k4⟩
            rw [kS_take] at hn4
            have HP4 := Lib.hid (nx_low hp4 HR.out.2.2.2.2.2.1 HR.out.2.2.2.2.2.2.size)
            have HB4 := Lib.hid (HR.out.2.2.2.2.2.2.trans (k4.below (nS_low HSZ.out HR.out.2.2.2.2.2.1) HR.out.2.2.2.2.2.2.size))
            have HT4 := Lib.hid (HR.out.1.keepS HR.out.2.2.2.2.1 k4)
            have hby := owns_byt ho4
            have hz0 := svs_get HI.out
            generalize L[i] = l at *
            have HZ0 := Lib.hid hz0
            obtain ⟨q4, c4, rfl, hq1, hq2, _⟩ := id hby
            unfold maxLen at hq2
            have hbx := below_alloc1 w4 (.cells #[.int .i64 0, .int .i64 1, .slice q4 l.length c4] 37)
            have HBY := Lib.hid (hby.below hbx)
            have HLT := Lib.hid (Blk.new w4 37 #[.int .i64 0, .int .i64 1, .slice q4 l.length c4])
            have HT5 := Lib.hid (owns_below HT4.out hbx)
            have HN5 := Lib.hid (hn4.below hbx)
            have HB5 := Lib.hid (HB4.out.trans (hbx.mono HB4.out.size))
            obtain ⟨g, cap, cur, hv, hB, hh, g3, g4, g5, g6⟩ : ∃ g cap cur, Value.slice pt L.length kt = .slice (some ⟨g, 0, none⟩) L.length cap ∧ w.heap.size ≤ g ∧ Blk (w4.alloc (.cells #[.int .i64 0, .int .i64 1, .slice q4 l.length c4] 37)) g 9 cur ∧ L.length ≤ cap ∧ cap ≤ maxLen ∧ cur.size = cap ∧ cur.toList.take L.length = svs L := by
              rcases HT5.out.2 with ⟨_, h0⟩ | ⟨g, cap, cur, hv, hB, hh, g3, g4, g5, g6⟩
              · omega
              · exact ⟨g, cap, cur, hv, hB, hh, g3, g4, by omega, by simpa using g6⟩
            obtain ⟨rfl, rfl⟩ : pt = some ⟨g, 0, none⟩ ∧ kt = cap := by simpa using hv
            have z0 : (w4.alloc (.cells #[.int .i64 0, .int .i64 1, .slice q4 l.length c4] 37)).cell? ⟨g, i, none⟩ = some (.string (bs l)) := by
              rw [hh.cell, ← Array.getElem?_toList]
              have := HZ0.out
              rw [← g6, List.getElem?_take, if_pos HI.out] at this
              rw [this]
            have HH := Lib.hid hh
            have HG := Lib.hid (And.intro g4 (And.intro g5 g6))
            have HBG := Lib.hid hB
            clear ho4 hp4 hn4 k4 hby hbx hz0 hmem hiw hu hu2 hu3 hv hh g6 g5 hB hc3
            have HZC := Lib.hid z0
            clear z0
            go_wp2_with fail
            generalize w4.alloc (.cells #[.int .i64 0, .int .i64 1, .slice q4 l.length c4] 37) = w5 at *
            have hbb : Below w5.heap.size w5 w5 := Below.refl _ _
            have hii := HI.out
            refine wp_phi (fun w' => (Blk w' w4.heap.size 37 #[.int .i64 0, .int .i64 1, .slice q4 l.length c4]) ∧ (w'.cell? ⟨g, i, none⟩ = some (.string (bs l))) ∧ (Byt w' (.slice q4 l.length c4) l) ∧ Below w5.heap.size w5 w') [] [] (by kernel_rfl) (by kernel_rfl) ?_ ?_ ⟨HLT.out, HZC.out, HBY.out, (hbb).drew⟩ ?_
            · rintro w1' w2' ⟨gl, gc, gy, hIB⟩ hb
              exact ⟨(by first | exact gl.below hb | exact gl.keep (Below.keeps hb) | exact Below.keeps hb _ _ gl | exact Blk.below gl hb (Blk.lt gl)), (by first | exact gc.below hb | exact gc.keep (Below.keeps hb) | exact Below.keeps hb _ _ gc | exact Blk.below gc hb (Blk.lt gc)), (by first | exact gy.below hb | exact gy.keep (Below.keeps hb) | exact Below.keeps hb _ _ gy | exact Blk.below gy hb (Blk.lt gy)), hIB.trans (hb.mono hIB.size)⟩
            · intro p hp; cases hp
            repeat (first | (refine phi_skipK rfl (fun K hK => ?_); simp only [Act.put, List.setIfInBounds_toArray, List.set_cons_succ, List.set_cons_zero]; (try simp only [List.cons_append]); (try simp only [List.nil_append]); apply hK; clear hK K) | (refine phi_pureK rfl rfl (fun K hK => ?_); apply Exists.intro; constructor; (focus (rintro w' ⟨gl, gc, gy, hIB⟩; have q1 := (gl.cell 1).trans rfl; have q2 := (gl.cell 2).trans rfl; have sS := str_of gy; clear gl gy hIB; first | (go_simp; done) | (go_simp; (try go_bits); (try go_simp); rfl) | go_simp)); simp only [Act.put, List.setIfInBounds_toArray, List.set_cons_succ, List.set_cons_zero]; (try simp only [List.cons_append]); (try simp only [List.nil_append]); apply hK; clear hK K))
            refine phi_done ?_
            rintro w6 ⟨gl, gc, gy, hb6⟩ _
            refine wpList_nil ?_
            clear gl gc gy
            have HH6 := Lib.hid (HH.out.below hb6 HH.out.lt)
            have HN6 := Lib.hid (HN5.out.below hb6)
            have HT6 := Lib.hid (owns_below HT5.out hb6)
            have HB6 := Lib.hid (HB5.out.trans (hb6.mono HB5.out.size))
            obtain ⟨i2, ad, news, hi2, hi2l, hw2, had, hnews, hnl, hsrc⟩ := str_src L cur g kt i HI.out g3 (by omega) HG.out.2.2
            have hs1 := fun w => run_slice_to (P := Tryd.prog) Tryd.underlying31 hi0 (some ⟨g, 0, none⟩) L.length kt i (Nat.le_trans (Nat.le_of_lt HI.out) g3) w
            have hs2 := fun w => run_slice_from (P := Tryd.prog) Tryd.underlying31 hi0 (some ⟨g, 0, none⟩) L.length kt i2 hi2l w
            rw [hz1, had] at hs2
            have hs2b := hs2
            rw [show ((i2 : Nat) : Int) = (i : Int) + 1 from by rw [hi2]; simp] at hs2b
            have HNW := Lib.hid (And.intro hnews hnl)
            have HSRC := Lib.hid hsrc
            have HI2 := Lib.hid (And.intro hi2 hi2l)
            clear hnews hnl hsrc had hi2 hb6 hbb hi2l
            go_wp2_with fail
            have hbb : Below w6.heap.size w6 w6 := Below.refl _ _
            refine wp_phi_tail (List.take 7 _) (List.drop 7 _) (List.take_append_drop 7 _).symm (fun w' => (Blk w' g 9 cur) ∧ Below w6.heap.size w6 w') [] [] (by kernel_rfl) (by kernel_rfl) ?_ ?_ ⟨HH6.out, (hbb).drew⟩ ?_
            · rintro w1' w2' ⟨gb, hIB⟩ hb
              exact ⟨(by first | exact gb.below hb | exact gb.keep (Below.keeps hb) | exact Below.keeps hb _ _ gb | exact Blk.below gb hb (Blk.lt gb)), hIB.trans (hb.mono hIB.size)⟩
            · intro p hp; cases hp
            simp only [List.take_succ_cons, List.take_zero, List.drop_succ_cons, List.drop_zero]
            repeat (first | (refine phi_skipK rfl (fun K hK => ?_); simp only [Act.put, List.setIfInBounds_toArray, List.set_cons_succ, List.set_cons_zero]; (try simp only [List.cons_append]); (try simp only [List.nil_append]); apply hK; clear hK K) | (refine phi_pureK rfl rfl (fun K hK => ?_); apply Exists.intro; constructor; (focus (rintro w' ⟨gb, hIB⟩; clear gb hIB; first | (go_simp; done) | (go_simp; (try go_bits); (try go_simp); rfl) | go_simp)); simp only [Act.put, List.setIfInBounds_toArray, List.set_cons_succ, List.set_cons_zero]; (try simp only [List.cons_append]); (try simp only [List.nil_append]); apply hK; clear hK K))
            refine phi_done ?_
            rintro w7 ⟨gb, hb7⟩ _
            have HB7 := Lib.hid (HB6.out.trans (hb7.mono HB6.out.size))
            have HN7 := Lib.hid (HN6.out.below hb7)
            have HT7 := Lib.hid (owns_below HT6.out hb7)
            have HBK := Lib.hid gb
            have hs3 := HSRC.out w7 gb
            have h1c : ∀ u ∈ news, u.oneCell' = true := fun u hu => svs_one u (by rw [HNW.out.1] at hu; exact List.mem_of_mem_drop hu)
            clear gb hb7 hw2 hs1 hs2 hs2b hbb
            go_wp2_with (at_builtin; refine wpList_appRoom (.tmp 123) (.tmp 127) 31 rfl rfl 9 i0 Tryd.underlying31 hi0 g i kt rfl ad (L.length - i2) (kt - i2) news rfl (by rw [hz1, Nat.mul_one]; exact HNW.out.2) hs3 h1c (by have := HI2.out; omega) HBK.out (by have := HI2.out; have := HG.out.2.1; rw [hz1, HNW.out.2]; omega) ?_)
            obtain ⟨hb8, ho8⟩ := blk_sets news i HBK.out
            have hel : (L.eraseIdx i).length = L.length - 1 := by rw [List.length_eraseIdx, if_pos HI.out]
            have hil : i + (L.length - i2) = (L.eraseIdx i).length := by
              have := HI2.out
              have := HI.out
              rw [hel]
              omega
            have hcells := str_cells cur L.length kt i i2 HI2.out.1 HI.out g3 HG.out.2.1 (svs L) news HG.out.2.2 HNW.out.1 HNW.out.2
            refine ⟨⟨j + 1, p4, L.eraseIdx i, hlt, by go_num, HN7.out.strs HT7.out (but_only ho8), HR.out.2.1, by rw [hel]; exact Nat.le_trans (Nat.sub_le _ _) HR.out.2.2.1, fun l' hl' => HR.out.2.2.2.1 l' (List.mem_of_mem_eraseIdx hl'), ⟨by rw [svs_len, Nat.mul_one], .inr ⟨g, kt, _, by rw [hil], HBG.out, hb8, by rw [hel]; exact Nat.le_trans (Nat.sub_le _ _) g3, HG.out.1, by rw [setsAt_size, HG.out.2.1, Nat.mul_one], by rw [hel, Nat.mul_one, hcells, svs_erase]⟩⟩, HP4.out, ?_⟩, by simp [intOf]; omega⟩
            exact HB7.out.trans (ho8.below HBG.out)
        · have HDJ := Lib.hid hlt
          go_wp2_with fail
          refine HLN.out.mono ?_
          rintro e w5 ⟨rfl, hw5⟩
          rw [hw5]
          clear hw5 w5
          go_wp2_with fail
          go_ret
          exact ⟨rfl, HR.out.2.2.2.2.2.2⟩
end Go.Proofs.YtbbhecadpbnobaaDoor
