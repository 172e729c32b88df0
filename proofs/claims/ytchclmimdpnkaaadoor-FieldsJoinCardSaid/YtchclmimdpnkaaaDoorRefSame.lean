/-
  RefSame: the walk of liaisonref03.Same.
-/
import Derived.Test.YtchclmimdpnkaaaDoorRefSplit
namespace Go.Proofs.YtchclmimdpnkaaaDoor
open Go.RowKit
attribute [local go_sem] bs_toList
attribute [local irreducible] wpPhi

set_option maxRecDepth 20000 in
set_option maxHeartbeats 6000000 in
theorem refsame_any (v1 v2 : Value) (fa fb : List (Int × List UInt8)) (w : World) (h1 : FldL w v1 fa) (h2 : FldL w v2 fb) :
    Calls Tryd.prog 26 #[v1, v2] w fun e w' => e = .returned (.bool (decide (fa = fb))) ∧ Below w.heap.size w w' := by
  obtain ⟨p1, c1, us1, rfl, h11, h12, h13, h14, h15⟩ := h1
  obtain ⟨p2, c2, us2, rfl, h21, h22, h23, h24, h25⟩ := h2
  obtain ⟨i0, hi, hz0, hz1, hz2⟩ := info_parts fldInfo
  have H14 := Lib.hid h14; have H15 := Lib.hid h15; have H24 := Lib.hid h24; have H25 := Lib.hid h25
  clear h14 h15 h24 h25 h13 h23
  unfold maxLen at h12 h22
  by_cases hlen : fa.length = fb.length
  · have hne : ((fa.length : Int) != (fb.length : Int)) = false := by simp [hlen]
    have HL := Lib.hid hlen
    have hlm : fa.length ≤ fb.length := by omega
    clear hlen
    go_enter Tryd.func26, Tryd.ntmps26
    go_wp2_with fail
    go_loopw [13] (fun i wr => ∃ k : Nat, k ≤ fa.length ∧ i = .int .i64 k ∧ fa.take k = fb.take k ∧ Below w.heap.size w wr) (fun i _ => fa.length - (intOf i).toNat)
    case atStart => exact ⟨0, by omega, rfl, rfl, Below.refl _ _⟩
    case round =>
      obtain ⟨k, hk, rfl, heq, hbw⟩ := hrel
      by_cases hlt : k < fa.length
      · have hkm : k < fb.length := by omega
        obtain ⟨ba, oa, qa, ca, rfl, ha1, ha2, ha3⟩ := fldL_cell H14.out H15.out hlt
        obtain ⟨bb, ob, qb, cb, rfl, hb1, hb2, hb3⟩ := fldL_cell H24.out H25.out hkm
        have ha1' := Below.keeps hbw _ _ ha1
        have ha2' := Below.keeps hbw _ _ ha2
        have hb1' := Below.keeps hbw _ _ hb1
        have hb2' := Below.keeps hbw _ _ hb2
        have ha3' := ha3.below hbw
        have hb3' := hb3.below hbw
        clear ha1 ha2 hb1 hb2 ha3 hb3
        have hst := Lib.hid (fun hx : fa[k] = fb[k] => show fa.take (k + 1) = fb.take (k + 1) by
          rw [List.take_succ_eq_append_getElem hlt, List.take_succ_eq_append_getElem hkm, heq, hx])
        have hno := Lib.hid (fun (hx : ¬ fa[k] = fb[k]) => show decide (fa = fb) = false by
          rw [decide_eq_false_iff_not]; intro e; subst e; exact hx rfl)
        clear heq
        have hlt' : (k : Int) < (fa.length : Int) := by omega
        have hkm' : (k : Int) < (fb.length : Int) := by omega
        generalize fa[k] = x at *
        generalize fb[k] = y at *
        obtain ⟨ta, la⟩ := x
        obtain ⟨tb, lb⟩ := y
        simp only at ha1' ha2' ha3' hb1' hb2' hb3'
        have hcase : ∃ F G : Bool, (ta != tb) = F ∧ (la == lb) = G ∧ ((!F && G) = true ↔ ((ta, la) : Int × List UInt8) = (tb, lb)) :=
          ⟨_, _, rfl, rfl, by simp⟩
        obtain ⟨F, G, f1, f2, f3⟩ := hcase
        have F3 := Lib.hid f3
        clear f3
        go_wp2_with fail
        cases F <;> cases G
        rotate_left 1
        all_goals
          refine wp_phi (fun w' => (w'.cell? ⟨ba, oa + k * 2, none⟩ = some (.int .i64 ta)) ∧ (w'.cell? ⟨ba, oa + k * 2 + 1, none⟩ = some (.slice qa la.length ca)) ∧ (w'.cell? ⟨bb, ob + k * 2, none⟩ = some (.int .i64 tb)) ∧ (w'.cell? ⟨bb, ob + k * 2 + 1, none⟩ = some (.slice qb lb.length cb)) ∧ (Byt w' (.slice qa la.length ca) la) ∧ (Byt w' (.slice qb lb.length cb) lb) ∧ Below w.heap.size w w') [] [] (by kernel_rfl) (by kernel_rfl) ?_ ?_ ⟨ha1', ha2', hb1', hb2', ha3', hb3', (hbw).drew⟩ ?_
          · rintro w1' w2' ⟨g1, g2, g3, g4, g5, g6, hIB⟩ hb
            exact ⟨(by first | exact g1.below hb | exact g1.keep (Below.keeps hb) | exact Below.keeps hb _ _ g1), (by first | exact g2.below hb | exact g2.keep (Below.keeps hb) | exact Below.keeps hb _ _ g2), (by first | exact g3.below hb | exact g3.keep (Below.keeps hb) | exact Below.keeps hb _ _ g3), (by first | exact g4.below hb | exact g4.keep (Below.keeps hb) | exact Below.keeps hb _ _ g4), (by first | exact g5.below hb | exact g5.keep (Below.keeps hb) | exact Below.keeps hb _ _ g5), (by first | exact g6.below hb | exact g6.keep (Below.keeps hb) | exact Below.keeps hb _ _ g6), hIB.trans (hb.mono hIB.size)⟩
          · intro p hp; cases hp
          repeat (first | (refine phi_skipK rfl (fun K hK => ?_); simp only [Act.put, List.setIfInBounds_toArray, List.set_cons_succ, List.set_cons_zero]; (try simp only [List.cons_append]); (try simp only [List.nil_append]); apply hK; clear hK K) | (refine phi_pureK rfl rfl (fun K hK => ?_); apply Exists.intro; constructor; (rintro w' ⟨g1, g2, g3, g4, g5, g6, hIB⟩; have s1 := str_of g5; have s2 := str_of g6; clear g5 g6 hIB; first | (go_simp; (try go_bits); (try go_simp); rfl) | go_simp); simp only [Act.put, List.setIfInBounds_toArray, List.set_cons_succ, List.set_cons_zero]; (try simp only [List.cons_append]); (try simp only [List.nil_append]); apply hK; clear hK K))
          refine phi_done ?_
          rintro w2 ⟨g1, g2, g3, g4, g5, g6, hbw2⟩ _
          refine wpList_nil ?_
          clear g1 g2 g3 g4 g5 g6 ha1' ha2' hb1' hb2' ha3' hb3'
        · have hst2 := Lib.hid (hst.out (F3.out.1 rfl))
          clear hst hno f1 f2
          go_wp2_with fail
          go_roundw
          case rel => exact ⟨k + 1, by omega, by go_num, hst2.out, hbw2⟩
          case measure => simp [intOf]; omega
        all_goals
          have hno2 := Lib.hid (hno.out (fun e => by have := F3.out.2 e; cases this))
          clear hst hno f1 f2
          go_wp2_with fail
          go_ret
          exact ⟨by rw [hno2.out]; rfl, hbw2⟩
      · obtain rfl : k = fa.length := by omega
        go_wp2_with fail
        go_ret
        refine ⟨?_, hbw⟩
        rw [List.take_of_length_le (Nat.le_refl _), HL.out, List.take_of_length_le (Nat.le_refl _)] at heq
        rw [heq]; simp
  · have hne : ((fa.length : Int) != (fb.length : Int)) = true := by simp; omega
    have hno : decide (fa = fb) = false := by rw [decide_eq_false_iff_not]; intro e; exact hlen (by rw [e])
    go_enter Tryd.func26, Tryd.ntmps26
    go_wp2_with fail
    go_ret
    exact ⟨by rw [hno]; rfl, Below.refl _ _⟩
end Go.Proofs.YtchclmimdpnkaaaDoor
