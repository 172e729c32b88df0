/-
  NetR4: the walks of the document's net: without, Take, Move.
-/
import Derived.Test.YtbbhecadpbnobaaDoorNetR2
namespace Go.Proofs.YtbbhecadpbnobaaDoor
open Go.RowKit
attribute [local go_sem] bs_toList bs_size
attribute [local irreducible] wpPhi wpPhiU

theorem wp_phiK_tail {P : Program} {Q : Exit → Act → World → Prop} {a₀ : Act} {id : Nat} {w : World} (lo tl : List Oper) {l : List Oper} (hl : l = lo ++ tl) (R : Nat → World → World → Prop) (I : World → Prop) (ps : List (Nat × Part)) (ns : List (Nat × List Nat)) (us : List (Nat × (World → Prop))) (ks : List (Nat × Nat)) (hm : P.follows .mixedOrders = true)
    (hok : phiOk l.toArray (needs ns) lo.length = true)
    (hI : ∀ p ∈ ps, ∀ w w', I w → R p.1 w w' → I w') (hS : ∀ p ∈ ps, ∀ p' ∈ ps, p'.1 ≠ p.1 → ks.lookup p.1 ≠ some p'.1 → p'.1 ∉ needs ns p.1 → (∀ kk, ks.lookup p.1 = some kk → kk ∉ needs ns p'.1) → ∀ w w' v, I w → R p'.1 w w' → p.2.fact w v → p.2.fact w' v)
    (hU : ∀ p ∈ ps, ∀ u ∈ us, u.1 ≠ p.1 → ∀ w w', I w → R p.1 w w' → u.2 w → u.2 w') (hu0 : ∀ u ∈ us, u.2 w.drew)
    (hw : I w.drew) (h : wpPhiU P l.toArray (wpList P l.toArray Q tl) I R (planOf ps) (needs ns) us (fun i => ks.lookup i) 0 lo a₀ []) : (Code.region id l.toArray true).wp P Q a₀ w := by
  subst hl
  exact wp_phi_RK lo tl R I ps ns us ks hm hok hI hS hU hu0 hw h
def PZ (B n : Nat) (xs : List Value) : Part := ⟨fun v => ∃ g c, v = .slice (some ⟨g, 0, none⟩) n c, fun w v => RowZ B w v n xs⟩
theorem RowZ.below {B : Nat} {w w' : World} {v : Value} {n : Nat} {xs : List Value} (h : RowZ B w v n xs) (k : Below w.heap.size w w') : RowZ B w' v n xs := by
  obtain ⟨g, cap, cur, h1, h2, h3, r⟩ := h
  exact ⟨g, cap, cur, h1, h2, h3.below k h3.lt, r⟩
/-- an empty row stays -/
theorem RowZ.rz {B : Nat} {w w' : World} {v : Value} {xs : List Value} (h : RowZ B w v 0 xs) (k : Rz B w w') : RowZ B w' v 0 xs := by
  obtain ⟨g, cap, cur, h1, h2, h3, h4, h5, h6, h7, h8, h9⟩ := h
  have h0 := h9 rfl
  exact ⟨g, cap, cur, h1, h2, k.2.2 g cur h3 (by omega), h4, h5, h6, h7, h8, h9⟩
theorem RowZ.val {B : Nat} {w : World} {v : Value} {n : Nat} {xs : List Value} (h : RowZ B w v n xs) : ∃ g c, v = .slice (some ⟨g, 0, none⟩) n c := by
  obtain ⟨g, cap, _, h1, _⟩ := h
  exact ⟨g, cap, h1⟩
theorem RowZ.new (B : Nat) (w : World) (hB : B ≤ w.heap.size) : RowZ B (w.alloc (.cells #[] 62)) (.slice (some ⟨w.heap.size, 0, none⟩) 0 0) 0 [] :=
  ⟨w.heap.size, 0, #[], rfl, hB, Blk.new _ _ _, Nat.le_refl _, by unfold maxLen; omega, rfl, rfl, rfl, fun _ => rfl⟩
set_option maxRecDepth 20000 in
set_option maxHeartbeats 4000000 in
theorem rwithout_any (w : World) (m : Nat) (q : Option Nat) (R : List Nat) (st : NSt) (h : Mn w m q R st) (i : Nat) (hi : i < st.ls.length) (hle : st.ls.length ≤ 900) :
    Calls Tryd.prog 45 #[.pointer (some ⟨m, 0, none⟩), .int .i64 i] w fun e w' => ∃ v, e = .returned v ∧ RowZ w.heap.size w' v (st.ls.length - 1) (cel (toS (st.ls.eraseIdx i))) ∧ Below w.heap.size w w' := by
  obtain ⟨vL, vC, hvp, hbm, hoL, hoC⟩ := h.ex
  obtain ⟨pL, cL, rfl, hcl, hcm, hrL⟩ := owns_rd hoL
  obtain ⟨pC, cC, rfl, _, _, hrC⟩ := owns_rd hoC
  obtain ⟨i0, hi0, hz0, hz1, hz2⟩ := info_parts let12
  have hw2 : wrap64 ((i : Int) + 1) = ((i + 1 : Nat) : Int) := by unfold wrap64; omega
  have hs1 := fun w => run_slice_to (P := Tryd.prog) Tryd.underlying57 hi0 pL st.ls.length cL i (by omega) w
  have hs2 := fun w => run_slice_from (P := Tryd.prog) Tryd.underlying57 hi0 pL st.ls.length cL (i + 1) (by omega) w
  rw [hz1] at hs2
  have hs2b := hs2
  rw [show ((i + 1 : Nat) : Int) = (i : Int) + 1 from by omega] at hs2b
  have HBM := Lib.hid hbm
  have HRL := Lib.hid hrL
  have HI := Lib.hid (And.intro hi hi)
  have hs3 : st.ls.length - (i + 1) = st.ls.length - (i + 1) := rfl
  have HN1 := Lib.hid (show (cel (toS (st.ls.take i))).length = i * 3 ∧ ∀ w', Rd w' pL (cel (toS st.ls)) → Rd w' pL (cel (toS (st.ls.take i))) from by
    refine ⟨by rw [cel_len, toS_len, List.length_take]; omega, fun w' hr => ?_⟩
    have := hr.take (3 * i)
    rw [cel_take (toS st.ls) i (by rw [toS_len]; omega), ← toS_take] at this
    exact this)
  have HN2 := Lib.hid (show (cel (toS (st.ls.drop (i + 1)))).length = (st.ls.length - (i + 1)) * 3 ∧ ∀ w', Rd w' pL (cel (toS st.ls)) → Rd w' (cutp pL (i + 1) cL 3) (cel (toS (st.ls.drop (i + 1)))) from by
    refine ⟨by rw [cel_len, toS_len, List.length_drop], fun w' hr => ?_⟩
    have := hr.cut (lo := (i + 1)) (cap := cL) (s := 3) (by rw [cel_len, toS_len]; omega)
    rw [Nat.mul_comm (i + 1) 3, cel_drop (toS st.ls) (i + 1) (by rw [toS_len]; omega), ← toS_drop] at this
    exact this)
  have HEQ := Lib.hid (show cel (toS (st.ls.take i)) ++ cel (toS (st.ls.drop (i + 1))) = cel (toS (st.ls.eraseIdx i)) ∧ i + (st.ls.length - (i + 1)) = st.ls.length - 1 from by
    refine ⟨?_, by omega⟩
    rw [← cel_app, ← toS_app, List.eraseIdx_eq_take_drop_succ])
  clear h hvp hbm hoL hoC hrL hrC hs3
  go_enter Tryd.func45, Tryd.ntmps45
  go_wp2_with fail
  refine wp_phiU (fun j w1 w2 => if j = 0 then Below w1.heap.size w1 w2 else Rz w.heap.size w1 w2)
    (fun w' => Below w.heap.size w w' ∧ w.heap.size ≤ w'.heap.size)
    [(0, PZ w.heap.size 0 []), (7, PZ w.heap.size i (cel (toS (st.ls.take i)))), (15, PZ w.heap.size (st.ls.length - 1) (cel (toS (st.ls.eraseIdx i))))] [(7, [0]), (15, [0, 7])] [] [(7, 15)] (by kernel_rfl) (by kernel_rfl) ?_ ?_ ?_ ?_ ⟨(Below.refl _ _).drew, Nat.le_refl _⟩ ?_
  · rintro p1 hp1 w1 w2 ⟨g1, g2⟩ hR
    have hR : Rz w.heap.size w1 w2 := by
      split at hR
      · exact Rz.of_below hR g2
      · exact hR
    exact ⟨g1.trans hR.1, Nat.le_trans g2 hR.2.1⟩
  · intro p1 hp p' hp' hne hks hns w1 w2 v hI hR hf
    simp only [List.mem_cons, List.not_mem_nil, or_false] at hp hp'
    rcases hp with rfl | rfl | rfl
    · rcases hp' with rfl | rfl | rfl
      · exact absurd rfl hne
      · exact RowZ.rz hf hR
      · exact RowZ.rz hf hR
    · rcases hp' with rfl | rfl | rfl
      · exact absurd (show 0 ∈ needs [(7, [0]), (15, [0, 7])] 7 by decide) hns
      · exact absurd rfl hne
      · exact absurd rfl hks
    · rcases hp' with rfl | rfl | rfl
      · exact absurd (show 0 ∈ needs [(7, [0]), (15, [0, 7])] 15 by decide) hns
      · exact absurd (show 7 ∈ needs [(7, [0]), (15, [0, 7])] 15 by decide) hns
      · exact absurd rfl hne
  · intro p1 hp u hu
    cases hu
  · intro u hu
    cases hu
  repeat (first | (refine phiU_skipK rfl (fun K hK => ?_); simp only [Act.put, List.setIfInBounds_toArray, List.set_cons_succ, List.set_cons_zero]; (try simp only [List.cons_append]); (try simp only [List.nil_append]); apply hK; clear hK K) | (refine phiU_pureK rfl rfl (fun K hK => ?_); apply Exists.intro; constructor; (focus (rintro w' hI; have q1 := ((HBM.out.below hI.1 HBM.out.lt).cell 1).trans rfl; clear hI; first | (go_simp; done) | (go_simp; (try go_bits); (try go_simp); rfl) | go_simp)); simp only [Act.put, List.setIfInBounds_toArray, List.set_cons_succ, List.set_cons_zero]; (try simp only [List.cons_append]); (try simp only [List.nil_append]); apply hK; clear hK K))
  refine phiU_partK (PZ w.heap.size 0 []) rfl rfl ⟨_, 0, 0, rfl⟩ ?_ (fun K hK v hv => ?_)
  · rintro w' ⟨g1, g2⟩ hf hu
    unfold gives
    clear hf hu
    go_simp
    exact ⟨⟨_, _, rfl⟩, RowZ.new _ _ g2, below_alloc1 _ _⟩
  obtain ⟨ga, ca, rfl⟩ := hv
  simp only [Act.put, List.setIfInBounds_toArray, List.set_cons_succ, List.set_cons_zero]; (try simp only [List.cons_append]); (try simp only [List.nil_append])
  apply hK
  clear hK K
  repeat (first | (refine phiU_skipK rfl (fun K hK => ?_); simp only [Act.put, List.setIfInBounds_toArray, List.set_cons_succ, List.set_cons_zero]; (try simp only [List.cons_append]); (try simp only [List.nil_append]); apply hK; clear hK K) | (refine phiU_pureK rfl rfl (fun K hK => ?_); apply Exists.intro; constructor; (focus (rintro w' hI; have q1 := ((HBM.out.below hI.1 HBM.out.lt).cell 1).trans rfl; clear hI; first | (go_simp; done) | (go_simp; (try go_bits); (try go_simp); rfl) | go_simp)); simp only [Act.put, List.setIfInBounds_toArray, List.set_cons_succ, List.set_cons_zero]; (try simp only [List.cons_append]); (try simp only [List.nil_append]); apply hK; clear hK K))
  refine phiU_partK (PZ w.heap.size i (cel (toS (st.ls.take i)))) rfl rfl ⟨_, 0, 0, rfl⟩ ?_ (fun K hK v hv => ?_)
  · rintro w' ⟨g1, g2⟩ hf hu
    have h0 : RowZ w.heap.size w' (.slice (some ⟨ga, 0, none⟩) 0 ca) 0 [] := hf (0, fun w1 => (PZ w.heap.size 0 []).fact w1 (.slice (some ⟨ga, 0, none⟩) 0 ca)) (by simp) (List.contains_iff_mem.1 rfl) rfl
    clear hf hu
    refine gives_appZ (.tmp 5) (.tmp 11) rfl w.heap.size _ 0 [] rfl h0 pL i cL (cel (toS (st.ls.take i))) rfl HN1.out.1 (HN1.out.2 w' (HRL.out.below g1)) (cels_one _) (by have := HI.out.1; omega) g2 ?_
    intro v2 w2 hz2 hr2
    rw [Nat.zero_add, List.nil_append] at hz2
    exact ⟨hz2.val, hz2, hr2⟩
  obtain ⟨gb, cb, rfl⟩ := hv
  simp only [Act.put, List.setIfInBounds_toArray, List.set_cons_succ, List.set_cons_zero]; (try simp only [List.cons_append]); (try simp only [List.nil_append])
  apply hK
  clear hK K
  repeat (first | (refine phiU_skipK rfl (fun K hK => ?_); simp only [Act.put, List.setIfInBounds_toArray, List.set_cons_succ, List.set_cons_zero]; (try simp only [List.cons_append]); (try simp only [List.nil_append]); apply hK; clear hK K) | (refine phiU_pureK rfl rfl (fun K hK => ?_); apply Exists.intro; constructor; (focus (rintro w' hI; have q1 := ((HBM.out.below hI.1 HBM.out.lt).cell 1).trans rfl; clear hI; first | (go_simp; done) | (go_simp; (try go_bits); (try go_simp); rfl) | go_simp)); simp only [Act.put, List.setIfInBounds_toArray, List.set_cons_succ, List.set_cons_zero]; (try simp only [List.cons_append]); (try simp only [List.nil_append]); apply hK; clear hK K))
  refine phiU_partK (PZ w.heap.size (st.ls.length - 1) (cel (toS (st.ls.eraseIdx i)))) rfl rfl ⟨_, 0, 0, rfl⟩ ?_ (fun K hK v hv => ?_)
  · rintro w' ⟨g1, g2⟩ hf hu
    have h0 : RowZ w.heap.size w' (.slice (some ⟨gb, 0, none⟩) i cb) i (cel (toS (st.ls.take i))) := hf (7, fun w1 => (PZ w.heap.size i (cel (toS (st.ls.take i)))).fact w1 (.slice (some ⟨gb, 0, none⟩) i cb)) (by simp) (List.contains_iff_mem.1 rfl) rfl
    clear hf hu
    refine gives_appZ (.tmp 12) (.tmp 19) rfl w.heap.size _ i _ rfl h0 (cutp pL (i + 1) cL 3) (st.ls.length - (i + 1)) (cL - (i + 1)) (cel (toS (st.ls.drop (i + 1)))) rfl HN2.out.1 (HN2.out.2 w' (HRL.out.below g1)) (cels_one _) (by have := HI.out; omega) g2 ?_
    intro v2 w2 hz2 hr2
    rw [HEQ.out.1, HEQ.out.2] at hz2
    exact ⟨hz2.val, hz2, hr2⟩
  obtain ⟨gc, cc, rfl⟩ := hv
  simp only [Act.put, List.setIfInBounds_toArray, List.set_cons_succ, List.set_cons_zero]; (try simp only [List.cons_append]); (try simp only [List.nil_append])
  apply hK
  clear hK K
  repeat (first | (refine phiU_skipK rfl (fun K hK => ?_); simp only [Act.put, List.setIfInBounds_toArray, List.set_cons_succ, List.set_cons_zero]; (try simp only [List.cons_append]); (try simp only [List.nil_append]); apply hK; clear hK K) | (refine phiU_pureK rfl rfl (fun K hK => ?_); apply Exists.intro; constructor; (focus (rintro w' hI; have q1 := ((HBM.out.below hI.1 HBM.out.lt).cell 1).trans rfl; clear hI; first | (go_simp; done) | (go_simp; (try go_bits); (try go_simp); rfl) | go_simp)); simp only [Act.put, List.setIfInBounds_toArray, List.set_cons_succ, List.set_cons_zero]; (try simp only [List.cons_append]); (try simp only [List.nil_append]); apply hK; clear hK K))
  refine phiU_done ?_
  rintro w9 ⟨g1, g2⟩ hf
  have h9 : RowZ w.heap.size w9 (.slice (some ⟨gc, 0, none⟩) (st.ls.length - 1) cc) (st.ls.length - 1) (cel (toS (st.ls.eraseIdx i))) := hf (15, fun w1 => (PZ w.heap.size (st.ls.length - 1) (cel (toS (st.ls.eraseIdx i)))).fact w1 (.slice (some ⟨gc, 0, none⟩) (st.ls.length - 1) cc)) (by simp) rfl
  have H9 := Lib.hid (And.intro h9 g1)
  clear hf h9 g1 g2
  refine wpList_nil ?_
  go_wp2_with fail
  go_ret
  exact ⟨_, rfl, H9.out.1, H9.out.2⟩
end Go.Proofs.YtbbhecadpbnobaaDoor
