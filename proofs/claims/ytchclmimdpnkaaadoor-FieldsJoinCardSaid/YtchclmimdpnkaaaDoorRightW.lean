/-
  RightW: the walk of liaisonref03.Right.
-/
import Derived.Test.YtchclmimdpnkaaaDoorBig
namespace Go.Proofs.YtchclmimdpnkaaaDoor
open Go.RowKit
attribute [local irreducible] wpPhi

theorem last_pos (fs : List (Int × List UInt8)) (k : Nat) (h0 : 0 < k) (hk : k < fs.length) (hok : rowOk 0 (fs.take k) = true) : lastOf 0 (fs.take k) = (fs[k - 1]'(by omega)).1 ∧ 1 ≤ lastOf 0 (fs.take k) := by
  have e := lastOf_take fs (k - 1) (by omega)
  have o := rowOk_take fs (k - 1) (by omega)
  rw [show k - 1 + 1 = k by omega] at e o
  rw [hok] at o
  have o' := o.symm
  simp only [Bool.and_eq_true] at o'
  have hn := lastOf_nonneg (fs.take (k - 1)) 0 (Int.le_refl _) o'.1
  have hf := o'.2
  simp only [fieldOk, Bool.and_eq_true, decide_eq_true_eq] at hf
  rw [e]
  exact ⟨rfl, by omega⟩
theorem right_no {fs : List (Int × List UInt8)} (h : rowOk 0 fs = false) : rightRow fs = false := by unfold rightRow; rw [h]; simp
set_option maxRecDepth 20000 in
set_option maxHeartbeats 6000000 in
theorem refright_any (v : Value) (fs : List (Int × List UInt8)) (w : World) (hv : FldL w v fs) :
    Calls Tryd.prog 32 #[v] w fun e w' => e = .returned (.bool (rightRow fs)) ∧ Below w.heap.size w w' := by
  obtain ⟨p, cap, us, rfl, h1, h2, h3, h4, h5⟩ := hv
  obtain ⟨i0, hi, hz0, hz1, hz2⟩ := info_parts fldInfo
  have H4 := Lib.hid h4
  have H5 := Lib.hid h5
  unfold maxLen at h2
  clear h4 h5 h3
  by_cases h16 : fs.length ≤ 16
  · have d0 : decide (16 < (fs.length : Int)) = false := by simp; omega
    have d0' : decide (16 < fs.length) = false := by simp; omega
    go_enter Tryd.func32, Tryd.ntmps32
    go_wp2_with fail
    go_loopw [10] (fun i wr => ∃ k : Nat, k ≤ fs.length ∧ i = .int .i64 k ∧ rowOk 0 (fs.take k) = true ∧ Below w.heap.size w wr) (fun i _ => fs.length - (intOf i).toNat)
    case atStart => exact ⟨0, by omega, rfl, rfl, Below.refl _ _⟩
    case round =>
      obtain ⟨k, hk, rfl, hok, hbw⟩ := hrel
      by_cases hlt : k < fs.length
      · have HST := Lib.hid (rowOk_take fs k hlt)
        have HBAD := Lib.hid (rowOk_bad fs k hlt)
        rw [hok, Bool.true_and] at HST
        obtain ⟨b, off, q, c, rfl, hc1, hc2, hby⟩ := fldL_cell H4.out H5.out hlt
        have g1 := Below.keeps hbw _ _ hc1
        have g2 := Below.keeps hbw _ _ hc2
        clear hc1 hc2 hby
        by_cases hk0 : k = 0
        · subst hk0
          rw [show lastOf 0 (fs.take 0) = 0 from rfl] at HST HBAD
          rw [Nat.zero_mul, Nat.add_zero] at g1 g2
          generalize fs[0] = f at *
          obtain ⟨tag, dat⟩ := f
          simp only at g1 g2
          have hbx : Below w.heap.size w (wr.alloc (.cells #[.int .i64 tag, .slice q dat.length c] 60)) := below_alloc hbw _
          have c1 : (wr.alloc (.cells #[.int .i64 tag, .slice q dat.length c] 60)).cell? ⟨wr.heap.size, 0, none⟩ = some (.int .i64 tag) := cell_of_row _ _ 0 _ _ _ (heap_alloc_new wr _)
          have c2 : (wr.alloc (.cells #[.int .i64 tag, .slice q dat.length c] 60)).cell? ⟨wr.heap.size, 1, none⟩ = some (.slice q dat.length c) := cell_of_row _ _ 1 _ _ _ (heap_alloc_new wr _)
          obtain ⟨B1, f1⟩ : ∃ B, decide (tag < 1) = B := ⟨_, rfl⟩
          obtain ⟨B2, f2⟩ : ∃ B, decide (255 < tag) = B := ⟨_, rfl⟩
          obtain ⟨B3, f3⟩ : ∃ B, decide (200 < (dat.length : Int)) = B := ⟨_, rfl⟩
          have f3' : decide (200 < dat.length) = B3 := by rw [← f3, decide_eq_decide]; omega
          have HF := Lib.hid (show fieldOk 0 (tag, dat) = !(B1 || B2 || B3) by
            rw [← f1, ← f2, ← f3]
            unfold fieldOk
            simp only [Bool.not_or, ← decide_not]
            rw [Bool.eq_iff_iff]
            simp only [Bool.and_eq_true, decide_eq_true_eq]
            omega)
          have hcase : (B1 = true) ∨ (B1 = false ∧ B2 = true) ∨ (B1 = false ∧ B2 = false ∧ B3 = true) ∨ (B1 = false ∧ B2 = false ∧ B3 = false) := by
            cases B1 <;> cases B2 <;> cases B3 <;> simp
          rcases hcase with rfl | ⟨rfl, rfl⟩ | ⟨rfl, rfl, rfl⟩ | ⟨rfl, rfl, rfl⟩
          all_goals
            go_wp2_with fail
            generalize wr.alloc (.cells #[.int .i64 tag, .slice q dat.length c] 60) = wx at *
            refine wp_phi (fun w' => (w'.cell? ⟨wr.heap.size, 0, none⟩ = some (.int .i64 tag)) ∧ (w'.cell? ⟨wr.heap.size, 1, none⟩ = some (.slice q dat.length c)) ∧ Below w.heap.size w w') [] [] (by kernel_rfl) (by kernel_rfl) ?_ ?_ ⟨c1, c2, (hbx).drew⟩ ?_
            · rintro w1' w2' ⟨e1, e2, hIB⟩ hb
              exact ⟨(by first | exact e1.below hb | exact e1.keep (Below.keeps hb) | exact Below.keeps hb _ _ e1), (by first | exact e2.below hb | exact e2.keep (Below.keeps hb) | exact Below.keeps hb _ _ e2), hIB.trans (hb.mono hIB.size)⟩
            · intro p hp; cases hp
            repeat (first | (refine phi_skipK rfl (fun K hK => ?_); simp only [Act.put, List.setIfInBounds_toArray, List.set_cons_succ, List.set_cons_zero]; (try simp only [List.cons_append]); (try simp only [List.nil_append]); apply hK; clear hK K) | (refine phi_pureK rfl rfl (fun K hK => ?_); apply Exists.intro; constructor; (rintro w' ⟨e1, e2, hIB⟩; clear hIB; first | (go_simp; (try go_bits); (try go_simp); rfl) | go_simp); simp only [Act.put, List.setIfInBounds_toArray, List.set_cons_succ, List.set_cons_zero]; (try simp only [List.cons_append]); (try simp only [List.nil_append]); apply hK; clear hK K))
            refine phi_done ?_
            rintro w2 ⟨e1, e2, hb2⟩ _
            refine wpList_nil ?_
            clear e1 e2 c1 c2 g1 g2
          rotate_left 3
          · have HS := Lib.hid (show rowOk 0 (fs.take (0 + 1)) = true by rw [HST.out, HF.out]; rfl)
            clear HST HBAD f1 f2 f3 f3'
            go_wp2_with fail
            go_roundw
            case rel => exact ⟨0 + 1, by omega, by go_num, HS.out, hb2⟩
            case measure => simp [intOf]; omega
          all_goals
            have HN := Lib.hid (right_no (HBAD.out (by rw [HF.out]; simp)))
            clear HST HBAD f1 f2 f3 f3'
            go_wp2_with fail
            go_ret
            exact ⟨by rw [HN.out]; rfl, hb2⟩
        · have hk1 : 0 < k := by omega
          obtain ⟨b', off', q', c', hpe, hc1', _, _⟩ := fldL_cell H4.out H5.out (show k - 1 < fs.length by omega)
          cases hpe
          obtain ⟨hl1, hl2⟩ := last_pos fs k hk1 hlt hok
          rw [← hl1] at hc1'
          have c3 := keep_alloc wr (.cells #[.int .i64 fs[k].1, .slice q fs[k].2.length c] 60) _ _ (Below.keeps hbw _ _ hc1')
          clear hc1' hl1
          generalize lastOf 0 (fs.take k) = prev at *
          generalize fs[k] = f at *
          obtain ⟨tag, dat⟩ := f
          simp only at g1 g2 c3
          have hbx : Below w.heap.size w (wr.alloc (.cells #[.int .i64 tag, .slice q dat.length c] 60)) := below_alloc hbw _
          have c1 : (wr.alloc (.cells #[.int .i64 tag, .slice q dat.length c] 60)).cell? ⟨wr.heap.size, 0, none⟩ = some (.int .i64 tag) := cell_of_row _ _ 0 _ _ _ (heap_alloc_new wr _)
          have c2 : (wr.alloc (.cells #[.int .i64 tag, .slice q dat.length c] 60)).cell? ⟨wr.heap.size, 1, none⟩ = some (.slice q dat.length c) := cell_of_row _ _ 1 _ _ _ (heap_alloc_new wr _)
          obtain ⟨B1, f1⟩ : ∃ B, decide (tag < 1) = B := ⟨_, rfl⟩
          obtain ⟨B2, f2⟩ : ∃ B, decide (255 < tag) = B := ⟨_, rfl⟩
          obtain ⟨B3, f3⟩ : ∃ B, decide (200 < (dat.length : Int)) = B := ⟨_, rfl⟩
          obtain ⟨B5, f5⟩ : ∃ B, decide (tag ≤ prev) = B := ⟨_, rfl⟩
          have f3' : decide (200 < dat.length) = B3 := by rw [← f3, decide_eq_decide]; omega
          have f4 : decide (0 < (k : Int)) = true := by simp; omega
          have f4' : decide (0 < k) = true := by simp; omega
          have q5 : (1 : Int) ≤ (k : Int) := by omega
          have q6 : (k : Int) - 1 < (fs.length : Int) := by omega
          have q7 : ((k : Int) - 1).toNat = k - 1 := by omega
          have HF := Lib.hid (show fieldOk prev (tag, dat) = !(B1 || B2 || B3 || B5) by
            rw [← f1, ← f2, ← f3, ← f5]
            unfold fieldOk
            simp only [Bool.not_or, ← decide_not]
            rw [Bool.eq_iff_iff]
            simp only [Bool.and_eq_true, decide_eq_true_eq]
            omega)
          have hcase : (B1 = true) ∨ (B1 = false ∧ B2 = true) ∨ (B1 = false ∧ B2 = false ∧ B3 = true) ∨ (B1 = false ∧ B2 = false ∧ B3 = false ∧ B5 = true) ∨ (B1 = false ∧ B2 = false ∧ B3 = false ∧ B5 = false) := by
            cases B1 <;> cases B2 <;> cases B3 <;> cases B5 <;> simp
          rcases hcase with rfl | ⟨rfl, rfl⟩ | ⟨rfl, rfl, rfl⟩ | ⟨rfl, rfl, rfl, rfl⟩ | ⟨rfl, rfl, rfl, rfl⟩
          all_goals
            go_wp2_with fail
            generalize wr.alloc (.cells #[.int .i64 tag, .slice q dat.length c] 60) = wx at *
            refine wp_phi (fun w' => (w'.cell? ⟨wr.heap.size, 0, none⟩ = some (.int .i64 tag)) ∧ (w'.cell? ⟨wr.heap.size, 1, none⟩ = some (.slice q dat.length c)) ∧ (w'.cell? ⟨b, off + (k - 1) * 2, none⟩ = some (.int .i64 prev)) ∧ Below w.heap.size w w') [] [] (by kernel_rfl) (by kernel_rfl) ?_ ?_ ⟨c1, c2, c3, (hbx).drew⟩ ?_
            · rintro w1' w2' ⟨e1, e2, e3, hIB⟩ hb
              exact ⟨(by first | exact e1.below hb | exact e1.keep (Below.keeps hb) | exact Below.keeps hb _ _ e1), (by first | exact e2.below hb | exact e2.keep (Below.keeps hb) | exact Below.keeps hb _ _ e2), (by first | exact e3.below hb | exact e3.keep (Below.keeps hb) | exact Below.keeps hb _ _ e3), hIB.trans (hb.mono hIB.size)⟩
            · intro p hp; cases hp
            repeat (first | (refine phi_skipK rfl (fun K hK => ?_); simp only [Act.put, List.setIfInBounds_toArray, List.set_cons_succ, List.set_cons_zero]; (try simp only [List.cons_append]); (try simp only [List.nil_append]); apply hK; clear hK K) | (refine phi_pureK rfl rfl (fun K hK => ?_); apply Exists.intro; constructor; (rintro w' ⟨e1, e2, e3, hIB⟩; clear hIB; first | (go_simp; (try go_bits); (try go_simp); rfl) | go_simp); simp only [Act.put, List.setIfInBounds_toArray, List.set_cons_succ, List.set_cons_zero]; (try simp only [List.cons_append]); (try simp only [List.nil_append]); apply hK; clear hK K))
            refine phi_done ?_
            rintro w2 ⟨e1, e2, e3, hb2⟩ _
            refine wpList_nil ?_
            clear e1 e2 e3 c1 c2 c3 g1 g2
          rotate_left 4
          · have HS := Lib.hid (show rowOk 0 (fs.take (k + 1)) = true by rw [HST.out, HF.out]; rfl)
            clear HST HBAD f1 f2 f3 f3' f5
            go_wp2_with fail
            go_roundw
            case rel => exact ⟨k + 1, by omega, by go_num, HS.out, hb2⟩
            case measure => simp [intOf]; omega
          all_goals
            have HN := Lib.hid (right_no (HBAD.out (by rw [HF.out]; simp)))
            clear HST HBAD f1 f2 f3 f3' f5
            go_wp2_with fail
            go_ret
            exact ⟨by rw [HN.out]; rfl, hb2⟩
      · obtain rfl : k = fs.length := by omega
        have HR := Lib.hid (show rightRow fs = true by
          rw [List.take_length] at hok
          unfold rightRow; rw [hok]; simp; omega)
        go_wp2_with fail
        go_ret
        exact ⟨by rw [HR.out]; rfl, hbw⟩
  · have d0 : decide (16 < (fs.length : Int)) = true := by simp; omega
    have d0' : decide (16 < fs.length) = true := by simp; omega
    have HR := Lib.hid (show rightRow fs = false by unfold rightRow; rw [Bool.and_eq_false_iff]; left; simp; omega)
    go_enter Tryd.func32, Tryd.ntmps32
    go_wp2_with fail
    go_ret
    exact ⟨by rw [HR.out]; rfl, Below.refl _ _⟩
end Go.Proofs.YtchclmimdpnkaaaDoor
