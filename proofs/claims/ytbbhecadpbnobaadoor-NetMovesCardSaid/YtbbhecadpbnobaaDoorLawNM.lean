/-
  LawNM: NetMoves answers true.
-/
import Derived.Test.YtbbhecadpbnobaaDoorNetV
namespace Go.Proofs.YtbbhecadpbnobaaDoor
open Go.RowKit
attribute [local irreducible] wpPhi wpPhiU

def ff : Int → Int → Bool := fun _ _ => false
def PFactN (c : Value) (F : World → Prop) : Part := ⟨fun v => v = c, fun w _ => F w⟩
/-- the call at the place jc turns the blocks S; any other operation nothing -/
def rNet (jc : Nat) (S : List Nat) (j : Nat) (w w' : World) : Prop := if j = jc then But S w w' else Below w.heap.size w w'
theorem rNet_at {jc : Nat} {S : List Nat} {w w' : World} : rNet jc S jc w w' = But S w w' := by unfold rNet; rw [if_pos rfl]
theorem rNet_o {jc j : Nat} {S : List Nat} {w w' : World} (h : j ≠ jc) : rNet jc S j w w' = Below w.heap.size w w' := by unfold rNet; rw [if_neg h]
theorem rNet_but {jc j : Nat} {S : List Nat} {w w' : World} (h : rNet jc S j w w') : But S w w' := by
  unfold rNet at h
  split at h
  · exact h
  · exact But.of_below h
/-- the first loop's state -/
def PutR (w : World) (N : Nat) (ls : List (List UInt8)) (k : Nat) (p : Option Nat) (wr : World) : Prop :=
  Nn wr (N + 1) N p 0 (kS (ls.take k) ff 0) ∧ (∀ l ∈ ls.take k, l.length ≤ 1000) ∧ (∀ q, p = some q → w.heap.size ≤ q) ∧ Below w.heap.size w wr
set_option maxRecDepth 20000 in
set_option maxHeartbeats 8000000 in
theorem nmoves_any (w : World) (E : Nat → Addr) (he : ErrsOn [0, 2, 5] w E) (v1 : Value) (ls : List (List UInt8)) (x y : Int) (hv1 : BytL w v1 ls) :
    Calls Tryd.prog 4 #[v1, .int .i64 x, .int .i64 y] w (fun e w' => e = .returned (.bool true) ∧ Below w.heap.size w w') := by
  have HE := Lib.hid he
  have HAL := Lib.hid (nalive_any w E he)
  have HV1 := Lib.hid hv1
  obtain ⟨p1, c1, us1, rfl, _, a2, _⟩ := hv1
  unfold maxLen at a2
  clear he
  by_cases h1 : ls.length < 1 ∨ 50 < ls.length
  · have h1' : (decide ((ls.length : Int) < 1) = true) ∨ (decide ((ls.length : Int) < 1) = false ∧ decide (50 < (ls.length : Int)) = true) := by
      simp only [decide_eq_true_eq, decide_eq_false_iff_not]; omega
    have d : ls.length < 1 ∨ (¬ ls.length < 1 ∧ 50 < ls.length) := by omega
    rcases d with d | ⟨d, d'⟩
    · have e1 : decide ((ls.length : Int) < 1) = true := by rw [decide_eq_true_eq]; omega
      clear h1 h1'
      go_enter Tryd.func4, Tryd.ntmps4
      go_wp2_with fail
      refine HAL.out.mono ?_
      rintro e w1 ⟨rfl, hb1⟩
      go_wp2_with fail
      go_ret
      exact ⟨rfl, hb1⟩
    · have e1 : decide ((ls.length : Int) < 1) = false := by rw [decide_eq_false_iff_not]; omega
      have e2 : decide (50 < (ls.length : Int)) = true := by rw [decide_eq_true_eq]; omega
      clear h1 h1'
      go_enter Tryd.func4, Tryd.ntmps4
      go_wp2_with fail
      refine HAL.out.mono ?_
      rintro e w1 ⟨rfl, hb1⟩
      go_wp2_with fail
      go_ret
      exact ⟨rfl, hb1⟩
  have e1 : decide ((ls.length : Int) < 1) = false := by rw [decide_eq_false_iff_not]; omega
  have e2 : decide (50 < (ls.length : Int)) = false := by rw [decide_eq_false_iff_not]; omega
  have d1 : ¬ ls.length < 1 := by omega
  have d2 : ¬ 50 < ls.length := by omega
  have HLE := Lib.hid (show 0 < ls.length ∧ ls.length ≤ 50 by omega)
  clear h1
  go_enter Tryd.func4, Tryd.ntmps4
  go_wp2_with fail
  refine HAL.out.mono ?_
  rintro e w0 ⟨rfl, hb0⟩
  have HB0 := Lib.hid hb0
  clear hb0 HAL
  go_wp2_with fail
  refine (nnew_any w0 2 (by decide)).mono ?_
  rintro e w1 ⟨rfl, hn1, hb1⟩
  have HN1 := Lib.hid hn1
  have HB1 := Lib.hid (HB0.out.trans (hb1.mono HB0.out.size))
  have HSZ := Lib.hid (show w.heap.size ≤ w0.heap.size from HB0.out.size)
  clear hn1 hb1 HB0
  generalize w0.heap.size = N at *
  clear d1 d2 e1 e2
  go_wp2_with fail
  have HST := Lib.hid (show PutR w N ls 0 none w1 from ⟨HN1.out, nofun, nofun, HB1.out⟩)
  go_loopw [33] (fun i wr => ∃ (k : Nat) (p : Option Nat), k ≤ ls.length ∧ i = .int .i64 k ∧ PutR w N ls k p wr) (fun i _ => ls.length - (intOf i).toNat)
  case atStart => exact ⟨0, none, by omega, rfl, HST.out⟩
  case round =>
    clear HST HN1 HB1
    obtain ⟨k, p, hk, rfl, hr⟩ := hrel
    have HR := Lib.hid hr
    clear hr
    by_cases hlt : k < ls.length
    · obtain ⟨q1, e1, us1', he1, _, _, r1, l1, f1⟩ := HV1.out
      cases he1
      obtain ⟨u, hu, hby⟩ := f1 k ls[k] (by simp)
      obtain ⟨b1, off1, rfl, hc1⟩ := r1.has (by rintro rfl; simp at hu)
      have hc1 := Below.keeps HR.out.2.2.2 _ _ (hc1 k u hu)
      have HTK := Lib.hid (show ls.take (k + 1) = ls.take k ++ [ls[k]] from List.take_succ_eq_append_getElem hlt)
      obtain ⟨qd, cd, rfl, hl2, hl3, _⟩ := id hby
      unfold maxLen at hl3
      have HBY := Lib.hid hby
      clear r1 l1 f1 hu hby
      generalize ls[k] = l at *
      by_cases hlong : 1000 < l.length
      · have d3 : decide (1000 < (l.length : Int)) = true := by rw [decide_eq_true_eq]; omega
        have d3' : decide (1000 < l.length) = true := by rw [decide_eq_true_eq]; exact hlong
        clear hlong
        go_wp2_with fail
        go_ret
        exact ⟨rfl, HR.out.2.2.2⟩
      · have d3 : decide (1000 < (l.length : Int)) = false := by rw [decide_eq_false_iff_not]; omega
        have d3' : decide (1000 < l.length) = false := by rw [decide_eq_false_iff_not]; exact hlong
        have HLN := Lib.hid (show l.length ≤ 1000 by omega)
        have hq := kS_putF (L := ls.take k) (f := ff) (x := 0) (l := l) rfl HLN.out (by rw [List.length_take]; have := HLE.out.2; omega)
        have HPU := Lib.hid (nput_any wr E (HE.out.below HR.out.2.2.2) (N + 1) N p 0 _ HR.out.1 0 1 (by unfold In64; omega) (by unfold In64; omega) _ l (fun w' k => byt_far HBY.out HR.out.2.2.2 (nS_low HSZ.out HR.out.2.2.1) k) (show (0 : Int) ≤ 0 ∧ (0 : Int) ≤ 1000000 from by omega))
        rw [hq.1, hq.2.1, hq.2.2, errV_zero, ← HTK.out] at HPU
        clear hlong hq
        go_wp2_with fail
        refine HPU.out.mono ?_
        rintro e w4 ⟨rfl, ⟨p4, hp4, hn4⟩, k4⟩
        have HP4 := Lib.hid (nx_low hp4 HR.out.2.2.1 HR.out.2.2.2.size)
        have HN4 := Lib.hid hn4
        have HB4 := Lib.hid (HR.out.2.2.2.trans (k4.below (nS_low HSZ.out HR.out.2.2.1) HR.out.2.2.2.size))
        clear hp4 hn4 k4 HPU
        go_wp2_with fail
        go_roundw
        case rel => exact ⟨k + 1, p4, hlt, by go_num, HN4.out, fun l' hl' => by
          rw [HTK.out] at hl'
          rcases List.mem_append.1 hl' with h | h
          · exact HR.out.2.1 l' h
          · obtain rfl : l' = l := by simpa using h
            exact HLN.out, HP4.out, HB4.out⟩
        case measure => simp [intOf]; omega
    · obtain rfl : k = ls.length := by omega
      have HR := Lib.hid (show Nn wr (N + 1) N p 0 (kS ls ff 0) ∧ (∀ l ∈ ls, l.length ≤ 1000) ∧ (∀ q, p = some q → w.heap.size ≤ q) ∧ Below w.heap.size w wr from by
        have h := HR.out
        unfold PutR at h
        rw [List.take_of_length_le (Nat.le_refl _)] at h
        exact h)
      clear hk hlt
      go_wp2_with fail
      have hbb : Below wr.heap.size wr wr := Below.refl _ _
      have hne : ¬ (ls.length : Int) = 0 := by have := HLE.out.1; omega
      have hne' : ¬ ls.length = 0 := by have := HLE.out.1; omega
      have hne2 : ((ls.length : Int) == 0) = false := by rw [beq_eq_false_iff_ne]; exact hne
      have hu := u64_conv x
      have huy := u64_conv y
      have hu2 := fun w => u64_conv (ls.length : Int) w
      have hu3 : u64n (ls.length : Int) = ls.length := by have := HLE.out.2; unfold u64n; omega
      obtain ⟨i, hi, hiw⟩ := mod_k x ls.length HLE.out.1 (by have := HLE.out.2; omega)
      obtain ⟨t, ht, htw⟩ := mod_k y ls.length HLE.out.1 (by have := HLE.out.2; omega)
      have HI := Lib.hid hi
      have HTT := Lib.hid ht
      have HIW := Lib.hid (And.intro hiw htw)
      clear hi ht hiw htw
      refine wp_phi (fun w' => Below wr.heap.size wr w') [] [] (by kernel_rfl) (by kernel_rfl) ?_ ?_ (hbb).drew ?_
      · rintro w1' w2' hIB hb
        exact hIB.trans (hb.mono hIB.size)
      · intro p hp; cases hp
      repeat (first | (refine phi_skipK rfl (fun K hK => ?_); simp only [Act.put, List.setIfInBounds_toArray, List.set_cons_succ, List.set_cons_zero]; (try simp only [List.cons_append]); (try simp only [List.nil_append]); apply hK; clear hK K) | (refine phi_pureK rfl rfl (fun K hK => ?_); apply Exists.intro; constructor; (focus (rintro w' hIB; clear hIB; first | (go_simp; done) | (go_simp; (try go_bits); (try go_simp); rfl) | go_simp)); simp only [Act.put, List.setIfInBounds_toArray, List.set_cons_succ, List.set_cons_zero]; (try simp only [List.cons_append]); (try simp only [List.nil_append]); apply hK; clear hK K))
      refine phi_done ?_
      rintro w5 hb5 _
      refine wpList_nil ?_
      rw [HIW.out.1, HIW.out.2]
      clear hu huy hu2 hu3 HIW hbb hne hne' hne2
      obtain ⟨q1, e1, us1', he1, _, _, r1, l1, f1⟩ := HV1.out
      cases he1
      have hii := HI.out
      have htt := HTT.out
      obtain ⟨u, hu, hby⟩ := f1 i ls[i] (List.getElem?_eq_getElem HI.out)
      obtain ⟨b1, off1, rfl, hc1⟩ := r1.has (by rintro rfl; simp at hu)
      have HCI := Lib.hid (hc1 i u hu)
      obtain ⟨qd, cd, rfl, _, _, _⟩ := id hby
      have HBY := Lib.hid hby
      have HGI := Lib.hid (show (kS ls ff 0).ls[i]? = some (0, 1, ls[i]) from kS_get HI.out)
      have HML := Lib.hid (movL_len (L := ls) (i := i) (t := t) ls[i] HI.out)
      have HMG := Lib.hid (movL_get (L := ls) (i := i) (t := t) ls[i] HI.out HTT.out)
      have HMB := Lib.hid (movL_back (L := ls) (i := i) (t := t) HI.out HTT.out)
      have HMM := Lib.hid (fun y (hy : y ∈ movL ls i t ls[i]) => HR.out.2.1 y (movL_mem (List.getElem_mem HI.out) hy))
      clear hc1 hu hby r1 l1 f1
      generalize ls[i] = l at *
      have HN5 := Lib.hid (HR.out.1.below hb5)
      have HB5 := Lib.hid (HR.out.2.2.2.trans (hb5.mono HR.out.2.2.2.size))
      have HLO := Lib.hid (nS_low HSZ.out HR.out.2.2.1)
      have HLT := Lib.hid (HN5.out.lt)
      clear hb5
      go_wp2_with fail
      refine wp_phiU_tail (List.take 24 _) (List.drop 24 _) (List.take_append_drop 24 _).symm (rNet 3 (nS (N + 1) N p)) (fun w' => Below w.heap.size w w' ∧ w5.heap.size ≤ w'.heap.size)
        [(3, PFactN .nilIface (fun w' => Nn w' (N + 1) N p 0 (kS (movL ls i t l) ff 0))), (7, PLts w5.heap.size (kS (movL ls i t l) ff 0).ls ls.length), (11, POwn w5.heap.size l), (12, PVal (.string (bs l)))]
        [(7, [3]), (11, [3, 7]), (12, [11])] [(3, fun w' => Nn w' (N + 1) N p 0 (kS ls ff 0))] [] (by kernel_rfl) (by kernel_rfl) ?_ ?_ ?_ ?_ ⟨HB5.out.drew, Nat.le_refl _⟩ ?_
      · rintro p1 hp1 w1 w2 ⟨g1, g2⟩ hR
        have hR := rNet_but hR
        exact ⟨g1.trans (hR.below HLO.out g1.size), Nat.le_trans g2 hR.size⟩
      · intro p1 hp p' hp' hne hks hns w1 w2 v hI hR hf
        simp only [List.mem_cons, List.not_mem_nil, or_false] at hp hp'
        have hj : p'.1 ≠ 3 → p1.2.fact w2 v := fun h3 => by
          rw [rNet_o h3] at hR
          rcases hp with rfl | rfl | rfl | rfl
          · exact Nn.below hf hR
          · obtain ⟨xs, h1, h2⟩ := hf
            exact ⟨xs, h1, h2.below hR⟩
          · exact owns_below hf hR
          · trivial
        rcases hp' with rfl | rfl | rfl | rfl
        · rcases hp with rfl | rfl | rfl | rfl
          · exact absurd rfl hne
          · exact absurd (show 3 ∈ needs [(7, [3]), (11, [3, 7]), (12, [11])] 7 by decide) hns
          · exact absurd (show 3 ∈ needs [(7, [3]), (11, [3, 7]), (12, [11])] 11 by decide) hns
          · trivial
        all_goals first | exact hj (show (7 : Nat) ≠ 3 by decide) | exact hj (show (11 : Nat) ≠ 3 by decide) | exact hj (show (12 : Nat) ≠ 3 by decide)
      · intro p1 hp u hu hne w1 w2 hI hR hf
        simp only [List.mem_cons, List.not_mem_nil, or_false] at hp hu
        subst hu
        rw [rNet_o (fun e => hne e.symm)] at hR
        exact Nn.below hf hR
      · intro u hu
        simp only [List.mem_cons, List.not_mem_nil, or_false] at hu
        subst hu
        exact HN5.out.below (Below.refl _ _).drew
      simp only [List.take_succ_cons, List.take_zero, List.drop_succ_cons, List.drop_zero]
      repeat (first | (refine phiU_skipK rfl (fun K hK => ?_); simp only [Act.put, List.setIfInBounds_toArray, List.set_cons_succ, List.set_cons_zero]; (try simp only [List.cons_append]); (try simp only [List.nil_append]); apply hK; clear hK K) | (refine phiU_pureK rfl rfl (fun K hK => ?_); apply Exists.intro; constructor; (focus (rintro w' hI; have q0 := Below.keeps hI.1 _ _ HCI.out; have sS := str_of (HBY.out.below hI.1); clear hI; first | (go_simp; done) | (go_simp; (try go_bits); (try go_simp); rfl) | go_simp)); simp only [Act.put, List.setIfInBounds_toArray, List.set_cons_succ, List.set_cons_zero]; (try simp only [List.cons_append]); (try simp only [List.nil_append]); apply hK; clear hK K))
      refine phiU_partK (PFactN .nilIface (fun w' => Nn w' (N + 1) N p 0 (kS (movL ls i t l) ff 0))) rfl rfl ⟨_, rfl⟩ ?_ (fun K hK v hv => ?_)
      · rintro w' ⟨g1, g2⟩ hf hu
        have hn : Nn w' (N + 1) N p 0 (kS ls ff 0) := hu (3, fun w' => Nn w' (N + 1) N p 0 (kS ls ff 0)) (by simp) rfl
        unfold gives
        clear hf hu
        go_simp
        refine (nmove_at w' (N + 1) N p 0 (kS ls ff 0) hn i t (0, 1, l) HGI.out (by rw [kS_len]; exact HTT.out) (by rw [kS_len]; have := HLE.out; omega)).mono ?_
        rintro e w'' ⟨rfl, hn2, k2⟩
        rw [kS_moved] at hn2
        exact ⟨_, rfl, rfl, hn2, by rw [rNet_at]; exact k2⟩
      obtain rfl : v = _ := hv
      simp only [Act.put, List.setIfInBounds_toArray, List.set_cons_succ, List.set_cons_zero]; (try simp only [List.cons_append]); (try simp only [List.nil_append])
      apply hK
      clear hK K
      repeat (first | (refine phiU_skipK rfl (fun K hK => ?_); simp only [Act.put, List.setIfInBounds_toArray, List.set_cons_succ, List.set_cons_zero]; (try simp only [List.cons_append]); (try simp only [List.nil_append]); apply hK; clear hK K) | (refine phiU_pureK rfl rfl (fun K hK => ?_); apply Exists.intro; constructor; (focus (rintro w' hI; have q0 := Below.keeps hI.1 _ _ HCI.out; have sS := str_of (HBY.out.below hI.1); clear hI; first | (go_simp; done) | (go_simp; (try go_bits); (try go_simp); rfl) | go_simp)); simp only [Act.put, List.setIfInBounds_toArray, List.set_cons_succ, List.set_cons_zero]; (try simp only [List.cons_append]); (try simp only [List.nil_append]); apply hK; clear hK K))
      refine phiU_partK (PLts w5.heap.size (kS (movL ls i t l) ff 0).ls ls.length) rfl rfl ⟨_, 0, 0, rfl⟩ ?_ (fun K hK v hv => ?_)
      · rintro w' ⟨g1, g2⟩ hf hu
        have hn : Nn w' (N + 1) N p 0 (kS (movL ls i t l) ff 0) := hf (3, fun ww => (PFactN .nilIface (fun w' => Nn w' (N + 1) N p 0 (kS (movL ls i t l) ff 0))).fact ww .nilIface) (by simp) (List.contains_iff_mem.1 rfl) rfl
        unfold gives
        clear hf hu
        go_simp
        refine (letters_any w' _ _ _ _ _ hn (by rw [kS_len, HML.out]; have := HLE.out; omega) (kS_el HMM.out)).mono ?_
        rintro e w'' ⟨⟨v, xs, rfl, hx, hL⟩, hb⟩
        have hxl : xs.length = ls.length := by
          have := congrArg List.length hx
          rwa [List.length_map, kS_len, HML.out] at this
        obtain ⟨g, c, hv⟩ := owns_some hL.own (by rw [hxl]; exact HLE.out.1)
        rw [hxl] at hv
        exact ⟨_, rfl, ⟨g, c, hv⟩, ⟨xs, hx, hL.lower g2⟩, by rw [rNet_o (by decide)]; exact hb⟩
      obtain ⟨g7, c7, rfl⟩ := hv
      simp only [Act.put, List.setIfInBounds_toArray, List.set_cons_succ, List.set_cons_zero]; (try simp only [List.cons_append]); (try simp only [List.nil_append])
      apply hK
      clear hK K
      repeat (first | (refine phiU_skipK rfl (fun K hK => ?_); simp only [Act.put, List.setIfInBounds_toArray, List.set_cons_succ, List.set_cons_zero]; (try simp only [List.cons_append]); (try simp only [List.nil_append]); apply hK; clear hK K) | (refine phiU_pureK rfl rfl (fun K hK => ?_); apply Exists.intro; constructor; (focus (rintro w' hI; have q0 := Below.keeps hI.1 _ _ HCI.out; have sS := str_of (HBY.out.below hI.1); clear hI; first | (go_simp; done) | (go_simp; (try go_bits); (try go_simp); rfl) | go_simp)); simp only [Act.put, List.setIfInBounds_toArray, List.set_cons_succ, List.set_cons_zero]; (try simp only [List.cons_append]); (try simp only [List.nil_append]); apply hK; clear hK K))
      refine phiU_partK (POwn w5.heap.size l) rfl rfl ⟨_, none, 0, rfl⟩ ?_ (fun K hK v hv => ?_)
      · rintro w' ⟨g1, g2⟩ hf hu
        obtain ⟨xs, hx, hL⟩ : ∃ xs : List (Lt × Value), xs.map (·.1) = (kS (movL ls i t l) ff 0).ls ∧ LetF w5.heap.size w' (.slice (some ⟨g7, 0, none⟩) ls.length c7) xs := hf (7, fun ww => (PLts w5.heap.size (kS (movL ls i t l) ff 0).ls ls.length).fact ww (.slice (some ⟨g7, 0, none⟩) ls.length c7)) (by simp) (List.contains_iff_mem.1 rfl) rfl
        obtain ⟨u, ho, _, _, hc2⟩ := hL.at_ hx (k := t) (x := (0, 1, l)) (by show (List.map _ _)[t]? = _; rw [List.getElem?_map, HMG.out]; rfl)
        obtain ⟨pu, cu, rfl, _⟩ := owns_rd ho
        unfold gives
        clear hf hu hL hx
        go_simp
        exact ⟨⟨pu, cu, rfl⟩, ho, by rw [rNet_o (by decide)]; exact Below.refl _ _⟩
      obtain ⟨p11, c11, rfl⟩ := hv
      simp only [Act.put, List.setIfInBounds_toArray, List.set_cons_succ, List.set_cons_zero]; (try simp only [List.cons_append]); (try simp only [List.nil_append])
      apply hK
      clear hK K
      refine phiU_partK (PVal (.string (bs l))) rfl rfl ⟨_, rfl⟩ ?_ (fun K hK v hv => ?_)
      · rintro w' ⟨g1, g2⟩ hf hu
        have ho : w'.ownsRow w5.heap.size 5 1 (.slice p11 l.length c11) l.length (bvs l) := hf (11, fun ww => (POwn w5.heap.size l).fact ww (.slice p11 l.length c11)) (by simp) (List.contains_iff_mem.1 rfl) rfl
        have sS := str_of (owns_byt ho)
        clear hf hu ho
        unfold gives
        go_simp
        exact ⟨rfl, trivial, by rw [rNet_o (by decide)]; exact Below.refl _ _⟩
      obtain rfl : v = _ := hv
      simp only [Act.put, List.setIfInBounds_toArray, List.set_cons_succ, List.set_cons_zero]; (try simp only [List.cons_append]); (try simp only [List.nil_append])
      apply hK
      clear hK K
      repeat (first | (refine phiU_skipK rfl (fun K hK => ?_); simp only [Act.put, List.setIfInBounds_toArray, List.set_cons_succ, List.set_cons_zero]; (try simp only [List.cons_append]); (try simp only [List.nil_append]); apply hK; clear hK K) | (refine phiU_pureK rfl rfl (fun K hK => ?_); apply Exists.intro; constructor; (focus (rintro w' hI; have q0 := Below.keeps hI.1 _ _ HCI.out; have sS := str_of (HBY.out.below hI.1); clear hI; first | (go_simp; done) | (go_simp; (try go_bits); (try go_simp); rfl) | go_simp)); simp only [Act.put, List.setIfInBounds_toArray, List.set_cons_succ, List.set_cons_zero]; (try simp only [List.cons_append]); (try simp only [List.nil_append]); apply hK; clear hK K))
      refine phiU_done ?_
      rintro w9 ⟨g1, g2⟩ hf
      have hn9 : Nn w9 (N + 1) N p 0 (kS (movL ls i t l) ff 0) := hf (3, fun ww => (PFactN .nilIface (fun w' => Nn w' (N + 1) N p 0 (kS (movL ls i t l) ff 0))).fact ww .nilIface) (by simp) rfl
      have HN9 := Lib.hid hn9
      have HB9 := Lib.hid g1
      clear g1 g2 hf hn9
      go_wp2_with fail
      refine (nmove_at w9 (N + 1) N p 0 (kS (movL ls i t l) ff 0) HN9.out t i (0, 1, l) (by show (List.map _ _)[t]? = _; rw [List.getElem?_map, HMG.out]; rfl) (by rw [kS_len, HML.out]; exact HI.out) (by rw [kS_len, HML.out]; have := HLE.out; omega)).mono ?_
      rintro e w10 ⟨rfl, hn10, k10⟩
      rw [kS_moved, HMB.out] at hn10
      have HN10 := Lib.hid hn10
      have HB10 := Lib.hid (HB9.out.trans (k10.below HLO.out HB9.out.size))
      clear hn10 k10 HN9 HB9
      go_wp2_with fail
      refine (letters_any w10 _ _ _ _ _ HN10.out (by rw [kS_len]; have := HLE.out; omega) (kS_el HR.out.2.1)).mono ?_
      rintro e w11 ⟨⟨v, xs, rfl, hx, hL⟩, hb11⟩
      have hxl : xs.length = ls.length := by
        have := congrArg List.length hx
        rwa [List.length_map, kS_len] at this
      obtain ⟨g, c, rfl⟩ := owns_some hL.own (by rw [hxl]; exact HLE.out.1)
      rw [hxl] at *
      have HL := Lib.hid hL
      have HX := Lib.hid hx
      have HN11 := Lib.hid (HN10.out.below hb11)
      have HB11 := Lib.hid (HB10.out.trans (hb11.mono HB10.out.size))
      clear hL hx hb11 hxl
      go_wp2_with fail
      obtain ⟨wo, rfl⟩ : ∃ wo, wo = wr := ⟨_, rfl⟩
      go_loopw [98] (fun i wr => ∃ k : Nat, k ≤ ls.length ∧ i = .int .i64 k ∧ Below w11.heap.size w11 wr) (fun i _ => ls.length - (intOf i).toNat)
      case atStart => exact ⟨0, by omega, rfl, Below.refl _ _⟩
      case round =>
        obtain ⟨k, hk, rfl, hr⟩ := hrel
        have HR2 := Lib.hid hr
        clear hr
        by_cases hlt : k < ls.length
        · obtain ⟨u, ho, z0, z1, z2⟩ := HL.out.at_ HX.out (kS_get (L := ls) (f := ff) (x := 0) hlt)
          have a0 := Below.keeps HR2.out _ _ z0
          have a1 := Below.keeps HR2.out _ _ z1
          have a2 := Below.keeps HR2.out _ _ z2
          have ho2 := owns_below ho HR2.out
          obtain ⟨q1, e1, us1', he1, _, _, r1, l1, f1⟩ := HV1.out
          cases he1
          obtain ⟨u', hu', hby'⟩ := f1 k ls[k] (List.getElem?_eq_getElem hlt)
          obtain ⟨b1', off1', hp', hc1'⟩ := r1.has (by rintro rfl; simp at hu')
          cases hp'
          have HCK := Lib.hid ((HB11.out.trans (HR2.out.mono HB11.out.size)))
          have hck := Below.keeps HCK.out _ _ (hc1' k u' hu')
          have hyk := hby'.below HCK.out
          generalize ls[k] = lk at *
          obtain ⟨pu, cu, rfl, _⟩ := owns_rd ho2
          obtain ⟨pq, cq, rfl, _⟩ := id hby'
          have hnb := below_alloc1 wr (.cells #[.int .i64 0, .int .i64 1, .slice pu lk.length cu] 37)
          have HLT2 := Lib.hid (Blk.new wr 37 #[.int .i64 0, .int .i64 1, .slice pu lk.length cu])
          have HNB := Lib.hid hnb
          have HYD := Lib.hid (owns_byt (owns_below ho2 hnb))
          have HYK := Lib.hid (hyk.below hnb)
          have HCC := Lib.hid (Below.keeps hnb _ _ hck)
          clear z0 z1 z2 ho ho2 r1 l1 f1 hu' hby' hc1' hck hyk hnb
          go_wp2_with fail
          generalize wr.alloc (.cells #[.int .i64 0, .int .i64 1, .slice pu lk.length cu] 37) = wz at *
          have hbb : Below wz.heap.size wz wz := Below.refl _ _
          refine wp_phi (fun w' => (Blk w' wr.heap.size 37 #[.int .i64 0, .int .i64 1, .slice pu lk.length cu]) ∧ (w'.cell? ⟨b1, off1 + k, none⟩ = some (.slice pq lk.length cq)) ∧ (Byt w' (.slice pu lk.length cu) lk) ∧ (Byt w' (.slice pq lk.length cq) lk) ∧ Below wz.heap.size wz w') [] [] (by kernel_rfl) (by kernel_rfl) ?_ ?_ ⟨HLT2.out, HCC.out, HYD.out, HYK.out, (hbb).drew⟩ ?_
          · rintro w1' w2' ⟨gl, gc, gy, gk, hIB⟩ hb
            exact ⟨(by first | exact gl.below hb | exact gl.keep (Below.keeps hb) | exact Below.keeps hb _ _ gl | exact Blk.below gl hb (Blk.lt gl)), (by first | exact gc.below hb | exact gc.keep (Below.keeps hb) | exact Below.keeps hb _ _ gc | exact Blk.below gc hb (Blk.lt gc)), (by first | exact gy.below hb | exact gy.keep (Below.keeps hb) | exact Below.keeps hb _ _ gy | exact Blk.below gy hb (Blk.lt gy)), (by first | exact gk.below hb | exact gk.keep (Below.keeps hb) | exact Below.keeps hb _ _ gk | exact Blk.below gk hb (Blk.lt gk)), hIB.trans (hb.mono hIB.size)⟩
          · intro p hp; cases hp
          repeat (first | (refine phi_skipK rfl (fun K hK => ?_); simp only [Act.put, List.setIfInBounds_toArray, List.set_cons_succ, List.set_cons_zero]; (try simp only [List.cons_append]); (try simp only [List.nil_append]); apply hK; clear hK K) | (refine phi_pureK rfl rfl (fun K hK => ?_); apply Exists.intro; constructor; (focus (rintro w' ⟨gl, gc, gy, gk, hIB⟩; have q2 := (gl.cell 2).trans rfl; have sS := str_of gy; have sK := str_of gk; clear gl gy gk hIB; first | (go_simp; done) | (go_simp; (try go_bits); (try go_simp); rfl) | go_simp)); simp only [Act.put, List.setIfInBounds_toArray, List.set_cons_succ, List.set_cons_zero]; (try simp only [List.cons_append]); (try simp only [List.nil_append]); apply hK; clear hK K))
          refine phi_done ?_
          rintro w6 ⟨gl, gc, gy, gk, hb6⟩ _
          refine wpList_nil ?_
          clear gl gc gy gk hbb
          have HB6 := Lib.hid (HR2.out.trans ((HNB.out.trans (hb6.mono HNB.out.size)).mono HR2.out.size))
          clear hb6
          go_wp2_with fail
          go_roundw
          case rel => exact ⟨k + 1, hlt, by go_num, HB6.out⟩
          case measure => simp [intOf]; omega
        · obtain rfl : k = ls.length := by omega
          clear hk hlt
          have HN12 := Lib.hid (HN11.out.below HR2.out)
          have HB12 := Lib.hid (HB11.out.trans (HR2.out.mono HB11.out.size))
          have hl50 := HLE.out.2
          have hls1 : (ls.length : Int) < (ls.length : Int) + 1 := by omega
          go_wp2_with fail
          have hadd := kS_add (L := ls) (f := ff) (x := 0) (l := l) (by omega)
          have HAD := Lib.hid hadd
          have HMX := Lib.hid (fun y (hy : y ∈ ls ++ [l]) => show y.length ≤ 1000 from by
            rcases List.mem_append.1 hy with h | h
            · exact HR.out.2.1 y h
            · obtain rfl : y = l := by simpa using h
              have h9 := HMM.out y (List.mem_of_getElem? HMG.out)
              exact h9)
          have HLX := Lib.hid (HMX.out l (by simp))
          clear hadd
          generalize hw12 : wr = w12 at *
          clear hw12
          refine wp_phiU (rNet 2 (nS (N + 1) N p)) (fun w' => Below w.heap.size w w' ∧ w12.heap.size ≤ w'.heap.size)
            [(2, PFactN .nilIface (fun w' => ∃ p', Nn w' (N + 1) N p' 0 (kS (ls ++ [l]) ff 0))), (6, PVal (.int .i64 ((ls.length : Int) + 1))), (14, PLts w12.heap.size (kS (ls ++ [l]) ff 0).ls (ls.length + 1)), (19, POwn w12.heap.size l), (20, PVal (.string (bs l)))]
            [(6, [2]), (14, [2]), (19, [2, 14]), (20, [19])] [(2, fun w' => Nn w' (N + 1) N p 0 (kS ls ff 0))] [] (by kernel_rfl) (by kernel_rfl) ?_ ?_ ?_ ?_ ⟨HB12.out.drew, Nat.le_refl _⟩ ?_
          · rintro p1 hp1 w1 w2 ⟨g1, g2⟩ hR
            have hR := rNet_but hR
            exact ⟨g1.trans (hR.below HLO.out g1.size), Nat.le_trans g2 hR.size⟩
          · intro p1 hp p' hp' hne hks hns w1 w2 v hI hR hf
            simp only [List.mem_cons, List.not_mem_nil, or_false] at hp hp'
            have hj : p'.1 ≠ 2 → p1.2.fact w2 v := fun h3 => by
              rw [rNet_o h3] at hR
              rcases hp with rfl | rfl | rfl | rfl | rfl
              · obtain ⟨p9, h9⟩ := hf
                exact ⟨p9, h9.below hR⟩
              · trivial
              · obtain ⟨xs, h1, h2⟩ := hf
                exact ⟨xs, h1, h2.below hR⟩
              · exact owns_below hf hR
              · trivial
            rcases hp' with rfl | rfl | rfl | rfl | rfl
            · rcases hp with rfl | rfl | rfl | rfl | rfl
              · exact absurd rfl hne
              · trivial
              · exact absurd (show 2 ∈ needs [(6, [2]), (14, [2]), (19, [2, 14]), (20, [19])] 14 by decide) hns
              · exact absurd (show 2 ∈ needs [(6, [2]), (14, [2]), (19, [2, 14]), (20, [19])] 19 by decide) hns
              · trivial
            all_goals first | exact hj (show (6 : Nat) ≠ 2 by decide) | exact hj (show (14 : Nat) ≠ 2 by decide) | exact hj (show (19 : Nat) ≠ 2 by decide) | exact hj (show (20 : Nat) ≠ 2 by decide)
          · intro p1 hp u hu hne w1 w2 hI hR hf
            simp only [List.mem_cons, List.not_mem_nil, or_false] at hp hu
            subst hu
            rw [rNet_o (fun e => hne e.symm)] at hR
            exact Nn.below hf hR
          · intro u hu
            simp only [List.mem_cons, List.not_mem_nil, or_false] at hu
            subst hu
            exact HN12.out.below (Below.refl _ _).drew
          repeat (first | (refine phiU_skipK rfl (fun K hK => ?_); simp only [Act.put, List.setIfInBounds_toArray, List.set_cons_succ, List.set_cons_zero]; (try simp only [List.cons_append]); (try simp only [List.nil_append]); apply hK; clear hK K) | (refine phiU_pureK rfl rfl (fun K hK => ?_); apply Exists.intro; constructor; (focus (rintro w' hI; have q0 := Below.keeps hI.1 _ _ HCI.out; have sS := str_of (HBY.out.below hI.1); clear hI; first | (go_simp; done) | (go_simp; (try go_bits); (try go_simp); rfl) | go_simp)); simp only [Act.put, List.setIfInBounds_toArray, List.set_cons_succ, List.set_cons_zero]; (try simp only [List.cons_append]); (try simp only [List.nil_append]); apply hK; clear hK K))
          refine phiU_partK (PFactN .nilIface (fun w' => ∃ p', Nn w' (N + 1) N p' 0 (kS (ls ++ [l]) ff 0))) rfl rfl ⟨_, rfl⟩ ?_ (fun K hK v hv => ?_)
          · rintro w' ⟨g1, g2⟩ hf hu
            have hn : Nn w' (N + 1) N p 0 (kS ls ff 0) := hu (2, fun w' => Nn w' (N + 1) N p 0 (kS ls ff 0)) (by simp) rfl
            have HCO := Lib.hid (ncopy_any w' E (HE.out.below g1) (N + 1) N p 0 (kS ls ff 0) hn i (0, 1, l) HGI.out HLX.out)
            rw [HAD.out.1, HAD.out.2, errV_zero] at HCO
            unfold gives
            clear hf hu
            go_simp
            refine HCO.out.mono ?_
            rintro e w'' ⟨rfl, ⟨p9, _, hn2⟩, k2⟩
            exact ⟨_, rfl, rfl, ⟨p9, hn2⟩, by rw [rNet_at]; exact k2⟩
          obtain rfl : v = _ := hv
          simp only [Act.put, List.setIfInBounds_toArray, List.set_cons_succ, List.set_cons_zero]; (try simp only [List.cons_append]); (try simp only [List.nil_append])
          apply hK
          clear hK K
          repeat (first | (refine phiU_skipK rfl (fun K hK => ?_); simp only [Act.put, List.setIfInBounds_toArray, List.set_cons_succ, List.set_cons_zero]; (try simp only [List.cons_append]); (try simp only [List.nil_append]); apply hK; clear hK K) | (refine phiU_pureK rfl rfl (fun K hK => ?_); apply Exists.intro; constructor; (focus (rintro w' hI; have q0 := Below.keeps hI.1 _ _ HCI.out; have sS := str_of (HBY.out.below hI.1); clear hI; first | (go_simp; done) | (go_simp; (try go_bits); (try go_simp); rfl) | go_simp)); simp only [Act.put, List.setIfInBounds_toArray, List.set_cons_succ, List.set_cons_zero]; (try simp only [List.cons_append]); (try simp only [List.nil_append]); apply hK; clear hK K))
          refine phiU_partK (PVal (.int .i64 ((ls.length : Int) + 1))) rfl rfl ⟨_, rfl⟩ ?_ (fun K hK v hv => ?_)
          · rintro w' ⟨g1, g2⟩ hf hu
            obtain ⟨p9, hn⟩ : ∃ p', Nn w' (N + 1) N p' 0 (kS (ls ++ [l]) ff 0) := hf (2, fun ww => (PFactN .nilIface (fun w' => ∃ p', Nn w' (N + 1) N p' 0 (kS (ls ++ [l]) ff 0))).fact ww .nilIface) (by simp) (List.contains_iff_mem.1 rfl) rfl
            have HLN := Lib.hid (len_any w' _ _ p9 0 _ hn)
            rw [kS_len, List.length_append, List.length_singleton, Int.natCast_add, Int.natCast_one] at HLN
            unfold gives
            clear hf hu
            go_simp
            refine HLN.out.mono ?_
            rintro e w'' ⟨rfl, rfl⟩
            exact ⟨_, rfl, rfl, trivial, by rw [rNet_o (by decide)]; exact Below.refl _ _⟩
          obtain rfl : v = _ := hv
          simp only [Act.put, List.setIfInBounds_toArray, List.set_cons_succ, List.set_cons_zero]; (try simp only [List.cons_append]); (try simp only [List.nil_append])
          apply hK
          clear hK K
          repeat (first | (refine phiU_skipK rfl (fun K hK => ?_); simp only [Act.put, List.setIfInBounds_toArray, List.set_cons_succ, List.set_cons_zero]; (try simp only [List.cons_append]); (try simp only [List.nil_append]); apply hK; clear hK K) | (refine phiU_pureK rfl rfl (fun K hK => ?_); apply Exists.intro; constructor; (focus (rintro w' hI; have q0 := Below.keeps hI.1 _ _ HCI.out; have sS := str_of (HBY.out.below hI.1); clear hI; first | (go_simp; done) | (go_simp; (try go_bits); (try go_simp); rfl) | go_simp)); simp only [Act.put, List.setIfInBounds_toArray, List.set_cons_succ, List.set_cons_zero]; (try simp only [List.cons_append]); (try simp only [List.nil_append]); apply hK; clear hK K))
          refine phiU_partK (PLts w12.heap.size (kS (ls ++ [l]) ff 0).ls (ls.length + 1)) rfl rfl ⟨_, 0, 0, rfl⟩ ?_ (fun K hK v hv => ?_)
          · rintro w' ⟨g1, g2⟩ hf hu
            obtain ⟨p9, hn⟩ : ∃ p', Nn w' (N + 1) N p' 0 (kS (ls ++ [l]) ff 0) := hf (2, fun ww => (PFactN .nilIface (fun w' => ∃ p', Nn w' (N + 1) N p' 0 (kS (ls ++ [l]) ff 0))).fact ww .nilIface) (by simp) (List.contains_iff_mem.1 rfl) rfl
            unfold gives
            clear hf hu
            go_simp
            refine (letters_any w' _ _ _ _ _ hn (by rw [kS_len, List.length_append, List.length_singleton]; omega) (kS_el HMX.out)).mono ?_
            rintro e w'' ⟨⟨v, xs, rfl, hx, hL⟩, hb⟩
            have hxl : xs.length = ls.length + 1 := by
              have := congrArg List.length hx
              rwa [List.length_map, kS_len, List.length_append, List.length_singleton] at this
            obtain ⟨g, c, hv⟩ := owns_some hL.own (by rw [hxl]; omega)
            rw [hxl] at hv
            exact ⟨_, rfl, ⟨g, c, hv⟩, ⟨xs, hx, hL.lower g2⟩, by rw [rNet_o (by decide)]; exact hb⟩
          obtain ⟨g7, c7, rfl⟩ := hv
          simp only [Act.put, List.setIfInBounds_toArray, List.set_cons_succ, List.set_cons_zero]; (try simp only [List.cons_append]); (try simp only [List.nil_append])
          apply hK
          clear hK K
          repeat (first | (refine phiU_skipK rfl (fun K hK => ?_); simp only [Act.put, List.setIfInBounds_toArray, List.set_cons_succ, List.set_cons_zero]; (try simp only [List.cons_append]); (try simp only [List.nil_append]); apply hK; clear hK K) | (refine phiU_pureK rfl rfl (fun K hK => ?_); apply Exists.intro; constructor; (focus (rintro w' hI; have q0 := Below.keeps hI.1 _ _ HCI.out; have sS := str_of (HBY.out.below hI.1); clear hI; first | (go_simp; done) | (go_simp; (try go_bits); (try go_simp); rfl) | go_simp)); simp only [Act.put, List.setIfInBounds_toArray, List.set_cons_succ, List.set_cons_zero]; (try simp only [List.cons_append]); (try simp only [List.nil_append]); apply hK; clear hK K))
          refine phiU_partK (POwn w12.heap.size l) rfl rfl ⟨_, none, 0, rfl⟩ ?_ (fun K hK v hv => ?_)
          · rintro w' ⟨g1, g2⟩ hf hu
            obtain ⟨xs, hx, hL⟩ : ∃ xs : List (Lt × Value), xs.map (·.1) = (kS (ls ++ [l]) ff 0).ls ∧ LetF w12.heap.size w' (.slice (some ⟨g7, 0, none⟩) (ls.length + 1) c7) xs := hf (14, fun ww => (PLts w12.heap.size (kS (ls ++ [l]) ff 0).ls (ls.length + 1)).fact ww (.slice (some ⟨g7, 0, none⟩) (ls.length + 1) c7)) (by simp) (List.contains_iff_mem.1 rfl) rfl
            obtain ⟨u, ho, _, _, hc2⟩ := hL.at_ hx (k := ls.length) (x := (0, 1, l)) (by show (List.map _ _)[ls.length]? = _; rw [List.getElem?_map, List.getElem?_append_right (Nat.le_refl _), Nat.sub_self]; rfl)
            obtain ⟨pu, cu, rfl, _⟩ := owns_rd ho
            unfold gives
            clear hf hu hL hx
            go_simp
            exact ⟨⟨pu, cu, rfl⟩, ho, by rw [rNet_o (by decide)]; exact Below.refl _ _⟩
          obtain ⟨p11, c11, rfl⟩ := hv
          simp only [Act.put, List.setIfInBounds_toArray, List.set_cons_succ, List.set_cons_zero]; (try simp only [List.cons_append]); (try simp only [List.nil_append])
          apply hK
          clear hK K
          refine phiU_partK (PVal (.string (bs l))) rfl rfl ⟨_, rfl⟩ ?_ (fun K hK v hv => ?_)
          · rintro w' ⟨g1, g2⟩ hf hu
            have ho : w'.ownsRow w12.heap.size 5 1 (.slice p11 l.length c11) l.length (bvs l) := hf (19, fun ww => (POwn w12.heap.size l).fact ww (.slice p11 l.length c11)) (by simp) (List.contains_iff_mem.1 rfl) rfl
            have sS := str_of (owns_byt ho)
            clear hf hu ho
            unfold gives
            go_simp
            exact ⟨rfl, trivial, by rw [rNet_o (by decide)]; exact Below.refl _ _⟩
          obtain rfl : v = _ := hv
          simp only [Act.put, List.setIfInBounds_toArray, List.set_cons_succ, List.set_cons_zero]; (try simp only [List.cons_append]); (try simp only [List.nil_append])
          apply hK
          clear hK K
          repeat (first | (refine phiU_skipK rfl (fun K hK => ?_); simp only [Act.put, List.setIfInBounds_toArray, List.set_cons_succ, List.set_cons_zero]; (try simp only [List.cons_append]); (try simp only [List.nil_append]); apply hK; clear hK K) | (refine phiU_pureK rfl rfl (fun K hK => ?_); apply Exists.intro; constructor; (focus (rintro w' hI; have q0 := Below.keeps hI.1 _ _ HCI.out; have sS := str_of (HBY.out.below hI.1); clear hI; first | (go_simp; done) | (go_simp; (try go_bits); (try go_simp); rfl) | go_simp)); simp only [Act.put, List.setIfInBounds_toArray, List.set_cons_succ, List.set_cons_zero]; (try simp only [List.cons_append]); (try simp only [List.nil_append]); apply hK; clear hK K))
          refine phiU_done ?_
          rintro w13 ⟨g1, g2⟩ hf
          have HB13 := Lib.hid g1
          clear g1 g2 hf
          refine wpList_nil ?_
          go_wp2_with fail
          go_ret
          exact ⟨rfl, HB13.out⟩
end Go.Proofs.YtbbhecadpbnobaaDoor
