/-
  SameL: liaisonnum.SameLists.
-/
import Derived.Test.YtoiknidlincdkaaDoorJA
namespace Go.Proofs.YtoiknidlincdkaaDoor
open Go.RowKit
attribute [local go_sem] bs_toList

theorem take_eq_step {α : Type} {ls ms : List α} {k : Nat} (h : ls.take k = ms.take k) (h1 : k < ls.length) (h2 : k < ms.length) (he : ls[k] = ms[k]) : ls.take (k + 1) = ms.take (k + 1) := by
  rw [List.take_succ_eq_append_getElem h1, List.take_succ_eq_append_getElem h2, h, he]
set_option maxRecDepth 20000 in
set_option maxHeartbeats 1000000 in
theorem samel_any (w : World) (va vb : Value) (ls ms : List (List UInt8)) (ha : BytL w va ls) (hb : BytL w vb ms) :
    Calls Tryd.prog 17 #[va, vb] w fun e w' => e = .returned (.bool (decide (ls = ms))) ∧ Below w.heap.size w w' := by
  obtain ⟨pa, ca, us, rfl, a1, a2, a3, a4, a5⟩ := ha
  obtain ⟨pb, cb, vs, rfl, b1, b2, b3, b4, b5⟩ := hb
  have A3 := Lib.hid a3
  have A5 := Lib.hid a5
  have B3 := Lib.hid b3
  have B5 := Lib.hid b5
  unfold maxLen at a2 b2
  clear a3 a4 a5 b3 b4 b5
  by_cases hl : ls.length = ms.length
  · have d0 : ((ls.length : Int) == (ms.length : Int)) = true := by rw [beq_iff_eq]; omega
    have d0' : ((ls.length : Int) != (ms.length : Int)) = false := by unfold bne; rw [d0]; rfl
    have hlm := hl
    have HL := Lib.hid hl
    have hle : ls.length ≤ ms.length := by omega
    clear hl hlm
    go_enter Tryd.func17, Tryd.ntmps17
    go_wp2_with fail
    clear d0 d0'
    go_loopw [13] (fun i wr => ∃ k : Nat, k ≤ ls.length ∧ i = .int .i64 k ∧ ls.take k = ms.take k ∧ Below w.heap.size w wr) (fun i _ => ls.length - (intOf i).toNat)
    case atStart => exact ⟨0, by omega, rfl, rfl, Below.refl _ _⟩
    case round =>
      obtain ⟨k, hk, rfl, htk, hbw⟩ := hrel
      have HTK := Lib.hid htk
      clear htk
      by_cases hlt : k < ls.length
      · have hlt2 : k < ms.length := by omega
        obtain ⟨b, off, q, cq, rfl, hc, hq1, hq2, hq3⟩ := bytL_cell A3.out A5.out hlt
        obtain ⟨b', off', q', cq', rfl, hc', hq1', hq2', hq3'⟩ := bytL_cell B3.out B5.out hlt2
        have hcw := Below.keeps hbw _ _ hc
        have hcw' := Below.keeps hbw _ _ hc'
        have hyw : Byt wr (.slice q ls[k].length cq) ls[k] := ⟨_, _, rfl, hq1, hq2, hq3.keep (Below.keeps hbw)⟩
        have hyw' : Byt wr (.slice q' ms[k].length cq') ms[k] := ⟨_, _, rfl, hq1', hq2', hq3'.keep (Below.keeps hbw)⟩
        have HST := Lib.hid (fun he => take_eq_step HTK.out hlt hlt2 he)
        have HNE := Lib.hid (show ls[k] ≠ ms[k] → ls ≠ ms from fun hne e => hne (by subst e; rfl))
        clear hc hc' hq1 hq2 hq3 hq1' hq2' hq3'
        generalize ls[k] = l at *
        generalize ms[k] = m at *
        obtain ⟨G, hG⟩ : ∃ G, (l == m) = G := ⟨_, rfl⟩
        have HG := Lib.hid hG
        go_wp2_with fail
        refine wp_phi (fun w' => (w'.cell? ⟨b, off + k, none⟩ = some (.slice q l.length cq)) ∧ (w'.cell? ⟨b', off' + k, none⟩ = some (.slice q' m.length cq')) ∧ (Byt w' (.slice q l.length cq) l) ∧ (Byt w' (.slice q' m.length cq') m) ∧ Below wr.heap.size wr w') [] [] (by kernel_rfl) (by kernel_rfl) ?_ ?_ ⟨hcw, hcw', hyw, hyw', ((Below.refl wr.heap.size wr)).drew⟩ ?_
        · rintro w1' w2' ⟨g1, g2, y1, y2, hIB⟩ hb
          exact ⟨(by first | exact g1.below hb | exact g1.keep (Below.keeps hb) | exact Below.keeps hb _ _ g1 | exact Blk.below g1 hb (Blk.lt g1)), (by first | exact g2.below hb | exact g2.keep (Below.keeps hb) | exact Below.keeps hb _ _ g2 | exact Blk.below g2 hb (Blk.lt g2)), (by first | exact y1.below hb | exact y1.keep (Below.keeps hb) | exact Below.keeps hb _ _ y1 | exact Blk.below y1 hb (Blk.lt y1)), (by first | exact y2.below hb | exact y2.keep (Below.keeps hb) | exact Below.keeps hb _ _ y2 | exact Blk.below y2 hb (Blk.lt y2)), hIB.trans (hb.mono hIB.size)⟩
        · intro p hp; cases hp
        repeat (first | (refine phi_skipK rfl (fun K hK => ?_); simp only [Act.put, List.setIfInBounds_toArray, List.set_cons_succ, List.set_cons_zero]; (try simp only [List.cons_append]); (try simp only [List.nil_append]); apply hK; clear hK K) | (refine phi_pureK rfl rfl (fun K hK => ?_); apply Exists.intro; constructor; (focus (rintro w' ⟨g1, g2, y1, y2, hIB⟩; have s1 := str_of y1; have s2 := str_of y2; clear y1 y2 hIB; first | (go_simp; done) | (go_simp; (try go_bits); (try go_simp); rfl) | go_simp)); simp only [Act.put, List.setIfInBounds_toArray, List.set_cons_succ, List.set_cons_zero]; (try simp only [List.cons_append]); (try simp only [List.nil_append]); apply hK; clear hK K))
        refine phi_done ?_
        rintro w5 ⟨g1, g2, y1, y2, hb5⟩ _
        refine wpList_nil ?_
        have hbw5 := hbw.trans (hb5.mono hbw.size)
        clear g1 g2 y1 y2 hb5 hcw hcw' hyw hyw' hG
        cases G
        · have HF := Lib.hid (HNE.out (by have := HG.out; simpa using this))
          clear HG HST
          go_wp2_with fail
          go_ret
          exact ⟨by rw [decide_eq_false HF.out]; rfl, hbw5⟩
        · have HS := Lib.hid (HST.out (by have := HG.out; simpa using this))
          clear HG HST
          go_wp2_with fail
          go_roundw
          case rel => exact ⟨k + 1, by omega, by go_num, HS.out, hbw5⟩
          case measure => simp [intOf]; omega
      · obtain rfl : k = ls.length := by omega
        have HF := Lib.hid (show ls = ms from by
          have h := HTK.out
          rw [List.take_length, HL.out, List.take_length] at h
          exact h)
        go_wp2_with fail
        go_ret
        exact ⟨by rw [decide_eq_true HF.out]; rfl, hbw⟩
  · have d0 : ((ls.length : Int) == (ms.length : Int)) = false := by rw [beq_eq_false_iff_ne]; omega
    have d0' : ((ls.length : Int) != (ms.length : Int)) = true := by unfold bne; rw [d0]; rfl
    have HN := Lib.hid (show ls ≠ ms from fun e => hl (by rw [e]))
    clear hl
    go_enter Tryd.func17, Tryd.ntmps17
    go_wp2_with fail
    go_ret
    exact ⟨by rw [decide_eq_false HN.out]; rfl, Below.refl _ _⟩
end Go.Proofs.YtoiknidlincdkaaDoor
