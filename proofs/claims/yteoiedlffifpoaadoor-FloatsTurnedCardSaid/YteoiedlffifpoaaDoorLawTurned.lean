/-
  LawTurned: the walk of FloatsTurned.
-/
import Derived.Test.YteoiedlffifpoaaDoorLawLeast
import Derived.Test.YteoiedlffifpoaaDoorAppK
namespace Go.Proofs.YteoiedlffifpoaaDoor
open Go.RowKit Ieee
attribute [local go_sem] flt_def fgt_def feq_def fne_def

/-! ### the least by places -/
theorem place_inj {x y : Nat} (hx : isNan x = false) (hy : isNan y = false) (h : place x = place y) : x = y := by
  rw [place_num hx, place_num hy] at h
  repeat' split at h
  all_goals omega
theorem inf_nan : isNan infR = false := by decide
theorem leastF_nan (l : List Nat) (h : ∀ x ∈ l, x < 18446744073709551616) : isNan (leastF l) = false := by
  have : ∀ (l : List Nat) (m : Nat), isNan m = false → m < 18446744073709551616 → (∀ x ∈ l, x < 18446744073709551616) → isNan (l.foldl leastStep m) = false := by
    intro l
    induction l with
    | nil => intro m hm _ _; exact hm
    | cons x l ih =>
      intro m hm hlt hl
      have hx := hl x (by simp)
      have : isNan (leastStep m x) = false ∧ leastStep m x < 18446744073709551616 := by
        unfold leastStep
        split
        · rename_i hc
          refine ⟨?_, hx⟩
          cases hnx : isNan x
          · rfl
          · exfalso
            have := step_nan hlt hnx
            unfold leastStep at this
            rw [if_pos hc] at this
            subst this
            rw [hm] at hnx; cases hnx
        · exact ⟨hm, hlt⟩
      exact ih _ this.1 this.2 (fun y hy => hl y (by simp [hy]))
  exact this l infR inf_nan (by decide) h
theorem place_step (m x : Nat) : place (leastStep m x) = min (place m) (place x) := by
  unfold leastStep cmpI
  repeat' split
  all_goals omega
theorem place_fold (l : List Nat) (m : Nat) : place (l.foldl leastStep m) = l.foldl (fun p x => min p (place x)) (place m) := by
  induction l generalizing m with
  | nil => rfl
  | cons x l ih => rw [List.foldl_cons, List.foldl_cons, ih, place_step]
theorem fold_min (l : List Nat) (p q : Int) : l.foldl (fun p x => min p (place x)) (min p q) = min (l.foldl (fun p x => min p (place x)) p) q := by
  induction l generalizing p with
  | nil => rfl
  | cons x l ih =>
    rw [List.foldl_cons, List.foldl_cons, ← ih]
    congr 1
    omega
theorem fold_rev (l : List Nat) (p : Int) : l.reverse.foldl (fun p x => min p (place x)) p = l.foldl (fun p x => min p (place x)) p := by
  induction l generalizing p with
  | nil => rfl
  | cons x l ih =>
    rw [List.reverse_cons, List.foldl_append, ih]
    exact (fold_min l p (place x)).symm
/-- a list that is turned has the same least -/
theorem least_rev (l : List Nat) (h : ∀ x ∈ l, x < 18446744073709551616) : leastF l.reverse = leastF l := by
  have h' : ∀ x ∈ l.reverse, x < 18446744073709551616 := fun x hx => h x (by simpa using hx)
  refine place_inj (leastF_nan _ h') (leastF_nan _ h) ?_
  unfold leastF
  rw [place_fold, place_fold, fold_rev]
theorem plain_mono {m n : Nat} (hm : isNan m = false) (hn : isNan n = false) (hmb : m < 18446744073709551616) (hnb : n < 18446744073709551616) (h : place m ≤ place n) : place (plainN m) ≤ place (plainN n) := by
  have e : ∀ x, isNan x = false → x < 18446744073709551616 → place (plainN x) = if place x = -1 then 0 else place x := by
    intro x hx hxb
    unfold plainN
    rw [hx]
    simp only [Bool.false_eq_true, if_false]
    by_cases h0 : x = 9223372036854775808
    · subst h0; rw [if_pos rfl]; rfl
    · rw [if_neg h0, if_neg]
      rw [place_num hx]; split <;> omega
  rw [e m hm hmb, e n hn hnb]
  split <;> split <;> omega
theorem least_more (l : List Nat) (a : Nat) (h : ∀ x ∈ l, x < 18446744073709551616) (ha : a < 18446744073709551616) :
    cmpI (place (plainN (leastF (l ++ [a])))) (place (plainN (leastF l))) ≤ 0 := by
  have h' : ∀ x ∈ l ++ [a], x < 18446744073709551616 := fun x hx => by
    rcases List.mem_append.1 hx with hx | hx
    · exact h x hx
    · rw [List.mem_singleton.1 hx]; exact ha
  have e : leastF (l ++ [a]) = leastStep (leastF l) a := by unfold leastF; rw [List.foldl_append]; rfl
  have := plain_mono (leastF_nan _ h') (leastF_nan _ h) (leastF_lt _ h') (leastF_lt _ h) (by rw [e, place_step]; omega)
  unfold cmpI
  split
  · omega
  · split <;> omega
theorem bothDel_comm (a b : Nat) : bothDel a b = bothDel b a := by unfold bothDel; rw [Bool.and_comm]
theorem laterF_comm (a b : Nat) : laterF a b = laterF b a := by unfold laterF; rw [bothDel_comm, addN_comm]
theorem laterE_comm (a b : Nat) : laterE a b = laterE b a := by unfold laterE; rw [bothDel_comm]
theorem plainN_lt {x : Nat} (hx : x < 18446744073709551616) : plainN x < 18446744073709551616 := by
  unfold plainN nanC; repeat' split
  all_goals omega
theorem fltInfo : (Tryd.prog.info? 22).map (fun i => (i.zero, i.size, i.bytes)) = some (some (.float .f64 0), 1, 8) := by kernel_rfl
theorem owns_fl {w : World} {base : Nat} {e : TypeId} {v : Value} {l : List Nat} (h : w.ownsRow base e 1 v l.length (fvs l)) (hl : ∀ x ∈ l, x < 18446744073709551616) : Fl w v l := by
  obtain ⟨p, cap, rfl, h1, h2, h3⟩ := owns_rd h
  exact ⟨⟨p, cap, rfl, h1, h2, h3⟩, hl⟩
theorem fvs_one {l : List Nat} : ∀ u ∈ fvs l, u.oneCell' = true := by
  intro u hu
  obtain ⟨c, _, rfl⟩ := List.mem_map.1 hu
  rfl
theorem fvs_app (l m : List Nat) : fvs (l ++ m) = fvs l ++ fvs m := by simp [fvs]
theorem rev_take (l : List Nat) (k : Nat) (h : k < l.length) : (l.drop k).reverse = (l.drop (k + 1)).reverse ++ [l[k]] := by
  rw [List.drop_eq_getElem_cons h, List.reverse_cons]

set_option maxRecDepth 20000 in
set_option maxHeartbeats 2000000 in
theorem turned_any (v : Value) (l : List Nat) (a b : Nat) (ha : a < 18446744073709551616) (hb : b < 18446744073709551616) (w : World) (E : Nat → Addr) (he : ErrsOn [0, 3] w E) (hv : Fl w v l) :
    Calls Tryd.prog 7 #[v, .float .f64 a, .float .f64 b] w (Gives w (.bool true)) := by
  have HA := alive_any w E he
  have HV := Lib.hid hv
  have HE := Lib.hid he
  obtain ⟨i0, hi, hz0, hz1, hz2⟩ := info_parts fltInfo
  obtain ⟨⟨p, cap, rfl, h1, h2, h3⟩, h4⟩ := hv
  have H3 := Lib.hid h3
  have H4 := Lib.hid h4
  clear h3 h4 he
  unfold maxLen at h2
  go_enter Tryd.func7, Tryd.ntmps7
  go_wp2_with fail
  refine HA.mono ?_
  rintro e w1 ⟨rfl, hb1⟩
  by_cases hl : l.length ≤ 300
  · have hld : decide (300 < (l.length : Int)) = false := decide_eq_false (by omega)
    have hld' : decide (300 < l.length) = false := decide_eq_false (by omega)
    go_wp2_with fail
    go_loopw [7, 8] (fun o i wr => ∃ k : Nat, k ≤ l.length ∧ i = .int .i64 ((k : Int) - 1) ∧ wr.ownsRow w.heap.size 22 1 o ((l.drop k).reverse).length (fvs (l.drop k).reverse) ∧ Below w.heap.size w wr) (fun _ i _ => (intOf i + 1).toNat)
    case atStart =>
      refine ⟨l.length, by omega, rfl, ?_, by first | exact below_alloc hb1 _ | exact hb1⟩
      rw [List.drop_of_length_le (Nat.le_refl _)]
      have hs := hb1.size
      simpa [fvs] using World.ownsRow_lit (base := w.heap.size) (e := 22) (size := 1) w1 #[] 0 hs (by unfold maxLen; omega) rfl
    case round =>
      obtain ⟨k, hk, rfl, hown, hbw⟩ := hrel
      have hs0 := hbw.size
      cases k with
      | succ j =>
        rw [show ((j + 1 : Nat) : Int) - 1 = (j : Int) by omega]
        obtain ⟨b', off, rfl, hc⟩ := fl_cell H3.out (show j < l.length by omega)
        have hcw := Below.keeps hbw _ _ hc
        have HS := Lib.hid (rev_take l j (by omega))
        have d0 : decide ((0 : Int) ≤ (j : Int)) = true := by simp
        have hx : l[j] < 18446744073709551616 := H4.out _ (List.getElem_mem (by omega))
        generalize l[j] = x at *
        clear hc
        have hown1 := owns_below hown (below_alloc1 wr (.cells #[.float .f64 x] 22))
        have hs1 := (below_alloc hbw (.cells #[.float .f64 x] 22)).size
        have hrl : (l.drop (j + 1)).reverse.length ≤ 300 := by simp; omega
        go_wp2_with (at_builtin; refine wpList_app (.tmp 28) (.tmp 33) 29 rfl rfl w.heap.size 22 i0 (.float .f64 0) 1 8 Tryd.underlying29 hi hz0 hz1 hz2 rfl (by decide) _ _ _ rfl hown1 _ _ _ (fvs [x]) rfl ?a0 ?a1 fvs_one ?a2 ?a3 hs1 ?_)
        case a0 => rfl
        case a1 => exact rd_at _ #[_] _ _ _ rfl
        case a2 => unfold maxLen; omega
        case a3 => omega
        intro v1 w2 ho1 hg1
        have hb2 := (below_alloc hbw (.cells #[.float .f64 x] 22)).grown hg1 hs1 (fun j hj => (hown1.lt j hj).1)
        clear hown hown1 hg1
        go_wp2_with fail
        go_roundw
        case rel => exact ⟨j, by omega, by go_num, by rw [HS.out, fvs_app, List.length_append]; simpa using ho1, hb2⟩
        case measure => simp [intOf]
      | zero =>
        rw [show (((0 : Nat) : Int) - 1) = -1 from rfl]
        rw [List.drop_zero] at hown
        have hlr : ∀ x ∈ l.reverse, x < 18446744073709551616 := fun x hx => H4.out x (by simpa using hx)
        have HLR := Lib.hid hlr
        have HREV := Lib.hid (least_rev l H4.out)
        have hrl : l.reverse.length ≤ 300 := by simp; omega
        have hlm := leastF_lt l H4.out
        have hmm := leastF_lt (l.reverse ++ [a]) (fun x hx => by
          rcases List.mem_append.1 hx with hx | hx
          · exact hlr x hx
          · rw [List.mem_singleton.1 hx]; exact ha)
        have hcmp := least_more l.reverse a hlr ha
        rw [HREV.out] at hcmp
        have HL := fun w hv => least_any (.slice p l.length cap) l w (by omega) hv
        have HLV := fun v w hv => least_any v l.reverse w (by omega) hv
        have HMV := fun v w hv => least_any v (l.reverse ++ [a]) w (by simp; omega) hv
        have hqb := plainN_lt hlm
        have hmb := plainN_lt hmm
        clear hlm hmm hlr
        rw [HREV.out] at HLV
        clear HREV
        generalize l.reverse = r at *
        generalize plainN (leastF l) = q at *
        generalize plainN (leastF (r ++ [a])) = m at *
        have HLAT := fun w he => later_any a b ha hb w E he
        have HLAT2 := fun w he => later_any b a hb ha w E he
        rw [laterF_comm b a, laterE_comm b a] at HLAT2
        generalize laterF a b = s at *
        go_wp2_with fail
        have hbr : Below wr.heap.size wr wr := Below.refl _ _
        have HEr := Lib.hid (HE.out.below hbw)
        refine (HL wr (HV.out.keep (Below.keeps hbw))).mono ?_
        rintro e w5 ⟨rfl, hb5'⟩
        have hb5 := hbr.trans (hb5'.mono hbr.size)
        clear hb5'
        go_wp2_with fail
        refine (HLAT w5 (HEr.out.below hb5)).mono ?_
        rintro e w6 ⟨rfl, hb6'⟩
        have hb6 := hb5.trans (hb6'.mono hb5.size)
        clear hb6'
        go_wp2_with fail
        refine (HLAT2 w6 (HEr.out.below hb6)).mono ?_
        rintro e w7 ⟨rfl, hb7'⟩
        have hb7 := hb6.trans (hb7'.mono hb6.size)
        clear hb7'
        have hown70 := owns_below hown hb7
        obtain ⟨p7, c7, rfl, h71, h72, h73⟩ := owns_rd hown70
        have hown7 := owns_below hown70 (below_alloc1 w7 (.cells #[.float .f64 a] 22))
        have hs7 := (below_alloc (hbw.trans (hb7.mono hs0)) (.cells #[.float .f64 a] 22)).size
        have hbw7 := hbw.trans (hb7.mono hs0)
        clear hb5 hb6 hbr HL HLAT HLAT2 hown h73
        go_wp2_with (at_builtin; refine wpList_appK (.tmp 49) (.tmp 51) 29 rfl rfl w.heap.size 22 i0 (.float .f64 0) 1 8 Tryd.underlying29 hi hz0 hz1 hz2 rfl (by decide) _ _ _ rfl hown7 _ _ _ (fvs [a]) rfl ?b0 ?b1 fvs_one ?b2 ?b3 hs7 ?_)
        case b0 => rfl
        case b1 => exact rd_at _ #[_] _ _ _ rfl
        case b2 => unfold maxLen; omega
        case b3 => omega
        intro v8 w8 ho8 hg8 hk8
        have hb8 := (below_alloc hbw7 (.cells #[.float .f64 a] 22)).grown hg8 hs7 (fun j hj => (hown7.lt j hj).1)
        have hF8 := Lib.hid (show Fl w8 (.slice p7 r.length c7) r from ⟨⟨p7, c7, rfl, h71, h72, (by first | exact hk8 | exact hk8 _ _ rfl)⟩, HLR.out⟩)
        have hM8 := Lib.hid (show Fl w8 v8 (r ++ [a]) from owns_fl (by rw [fvs_app, List.length_append]; exact ho8) (fun x hx => by
          rcases List.mem_append.1 hx with hx | hx
          · exact HLR.out x hx
          · rw [List.mem_singleton.1 hx]; exact ha))
        have hbr8 : Below w8.heap.size w8 w8 := Below.refl _ _
        clear ho8 hg8 hk8 hown7 hown70 hb7 hbw7
        have HMV' := fun w => HMV v8 w
        go_wp2_with fail
        refine (HMV _ w8 hM8.out).mono ?_
        rintro e w9 ⟨rfl, hb9'⟩
        have hb9 := hbr8.trans (hb9'.mono hbr8.size)
        clear hb9'
        have hF9 := hF8.out.keep (Below.keeps hb9)
        have hb9' := hb8.trans (hb9.mono hb8.size)
        have hqq : ((q : Int) == (q : Int)) = true := by simp
        have hss : ((s : Int) == (s : Int)) = true := by simp
        have hdc := decide_eq_true hcmp
        obtain ⟨cm, hcm⟩ : ∃ c, cmpI (place m) (place q) = c := ⟨_, rfl⟩
        have HCM := Lib.hid hcm
        rw [hcm] at hdc hcmp
        clear hcm
        have hee : laterE a b = 0 ∨ laterE a b = 4 := by unfold laterE; split <;> simp
        rcases hee with he0 | he0
        all_goals
          rw [he0]
          first | rw [errV_zero] | rw [errV_four]
          clear he0
          go_wp2_with fail
          refine wp_phi (fun w' => (Fl w' (.slice p7 r.length c7) r) ∧ Below w.heap.size w w') [(1, PVal (.int .u64 (q : Int))), (3, PVal (.float .f64 q)), (4, PVal (.int .u64 (q : Int))), (9, PVal (.int .i64 cm)), (21, PVal (.int .u64 (s : Int))), (23, PVal (.int .u64 (s : Int)))] [] (by kernel_rfl) (by kernel_rfl) ?_ ?_ ⟨hF9, (hb9').drew⟩ ?_
          · rintro w1' w2' ⟨hT, hIB⟩ hb
            exact ⟨(by first | exact hT.below hb | exact hT.keep (Below.keeps hb)), hIB.trans (hb.mono hIB.size)⟩
          · simp only [List.mem_cons, List.not_mem_nil, or_false, forall_eq_or_imp, forall_eq]
            exact ⟨fun _ _ _ _ h' h => PVal_stays _ _ _ _ h' h, fun _ _ _ _ h' h => PVal_stays _ _ _ _ h' h, fun _ _ _ _ h' h => PVal_stays _ _ _ _ h' h, fun _ _ _ _ h' h => PVal_stays _ _ _ _ h' h, fun _ _ _ _ h' h => PVal_stays _ _ _ _ h' h, fun _ _ _ _ h' h => PVal_stays _ _ _ _ h' h⟩
          repeat (first | (refine phi_skipK rfl (fun K hK => ?_); simp only [Act.put, List.setIfInBounds_toArray, List.set_cons_succ, List.set_cons_zero, List.nil_append, List.cons_append]; apply hK; clear hK K) | (refine phi_pureK rfl rfl (fun K hK => ?_); apply Exists.intro; constructor; (rintro w' ⟨hT, hIB⟩; skip; first | (go_simp; (try go_bits); (try go_simp); rfl) | go_simp); simp only [Act.put, List.setIfInBounds_toArray, List.set_cons_succ, List.set_cons_zero, List.nil_append, List.cons_append]; apply hK; clear hK K))
          refine phi_partK (PVal (.int .u64 (q : Int))) rfl rfl ⟨_, rfl⟩ ?_ (fun K hK v hv => ?_)
          · rintro w' ⟨hT, hIB⟩ hf
            unfold gives
            clear hf
            go_simp
            refine (raw_any q w').mono ?_
            rintro e w'' ⟨rfl, hb⟩
            exact ⟨_, rfl, rfl, trivial, hb⟩
          obtain rfl : v = _ := hv
          simp only [Act.put, List.setIfInBounds_toArray, List.set_cons_succ, List.set_cons_zero, List.nil_append, List.cons_append]
          apply hK
          clear hK K
          repeat (first | (refine phi_skipK rfl (fun K hK => ?_); simp only [Act.put, List.setIfInBounds_toArray, List.set_cons_succ, List.set_cons_zero, List.nil_append, List.cons_append]; apply hK; clear hK K) | (refine phi_pureK rfl rfl (fun K hK => ?_); apply Exists.intro; constructor; (rintro w' ⟨hT, hIB⟩; skip; first | (go_simp; (try go_bits); (try go_simp); rfl) | go_simp); simp only [Act.put, List.setIfInBounds_toArray, List.set_cons_succ, List.set_cons_zero, List.nil_append, List.cons_append]; apply hK; clear hK K))
          refine phi_partK (PVal (.float .f64 q)) rfl rfl ⟨_, rfl⟩ ?_ (fun K hK v hv => ?_)
          · rintro w' ⟨hT, hIB⟩ hf
            unfold gives
            clear hf
            go_simp
            refine (HLV _ w' hT).mono ?_
            rintro e w'' ⟨rfl, hb⟩
            exact ⟨_, rfl, rfl, trivial, hb⟩
          obtain rfl : v = _ := hv
          simp only [Act.put, List.setIfInBounds_toArray, List.set_cons_succ, List.set_cons_zero, List.nil_append, List.cons_append]
          apply hK
          clear hK K
          repeat (first | (refine phi_skipK rfl (fun K hK => ?_); simp only [Act.put, List.setIfInBounds_toArray, List.set_cons_succ, List.set_cons_zero, List.nil_append, List.cons_append]; apply hK; clear hK K) | (refine phi_pureK rfl rfl (fun K hK => ?_); apply Exists.intro; constructor; (rintro w' ⟨hT, hIB⟩; skip; first | (go_simp; (try go_bits); (try go_simp); rfl) | go_simp); simp only [Act.put, List.setIfInBounds_toArray, List.set_cons_succ, List.set_cons_zero, List.nil_append, List.cons_append]; apply hK; clear hK K))
          refine phi_partK (PVal (.int .u64 (q : Int))) rfl rfl ⟨_, rfl⟩ ?_ (fun K hK v hv => ?_)
          · rintro w' ⟨hT, hIB⟩ hf
            unfold gives
            clear hf
            go_simp
            refine (raw_any q w').mono ?_
            rintro e w'' ⟨rfl, hb⟩
            exact ⟨_, rfl, rfl, trivial, hb⟩
          obtain rfl : v = _ := hv
          simp only [Act.put, List.setIfInBounds_toArray, List.set_cons_succ, List.set_cons_zero, List.nil_append, List.cons_append]
          apply hK
          clear hK K
          repeat (first | (refine phi_skipK rfl (fun K hK => ?_); simp only [Act.put, List.setIfInBounds_toArray, List.set_cons_succ, List.set_cons_zero, List.nil_append, List.cons_append]; apply hK; clear hK K) | (refine phi_pureK rfl rfl (fun K hK => ?_); apply Exists.intro; constructor; (rintro w' ⟨hT, hIB⟩; skip; first | (go_simp; (try go_bits); (try go_simp); rfl) | go_simp); simp only [Act.put, List.setIfInBounds_toArray, List.set_cons_succ, List.set_cons_zero, List.nil_append, List.cons_append]; apply hK; clear hK K))
          refine phi_partK (PVal (.int .i64 cm)) rfl rfl ⟨_, rfl⟩ ?_ (fun K hK v hv => ?_)
          · rintro w' ⟨hT, hIB⟩ hf
            unfold gives
            clear hf
            go_simp
            refine ((HCM.out ▸ order_any m q hmb hqb w' : Calls _ _ _ _ (Gives w' (.int .i64 cm)))).mono ?_
            rintro e w'' ⟨rfl, hb⟩
            exact ⟨_, rfl, rfl, trivial, hb⟩
          obtain rfl : v = _ := hv
          simp only [Act.put, List.setIfInBounds_toArray, List.set_cons_succ, List.set_cons_zero, List.nil_append, List.cons_append]
          apply hK
          clear hK K
          repeat (first | (refine phi_skipK rfl (fun K hK => ?_); simp only [Act.put, List.setIfInBounds_toArray, List.set_cons_succ, List.set_cons_zero, List.nil_append, List.cons_append]; apply hK; clear hK K) | (refine phi_pureK rfl rfl (fun K hK => ?_); apply Exists.intro; constructor; (rintro w' ⟨hT, hIB⟩; skip; first | (go_simp; (try go_bits); (try go_simp); rfl) | go_simp); simp only [Act.put, List.setIfInBounds_toArray, List.set_cons_succ, List.set_cons_zero, List.nil_append, List.cons_append]; apply hK; clear hK K))
          refine phi_partK (PVal (.int .u64 (s : Int))) rfl rfl ⟨_, rfl⟩ ?_ (fun K hK v hv => ?_)
          · rintro w' ⟨hT, hIB⟩ hf
            unfold gives
            clear hf
            go_simp
            refine (raw_any s w').mono ?_
            rintro e w'' ⟨rfl, hb⟩
            exact ⟨_, rfl, rfl, trivial, hb⟩
          obtain rfl : v = _ := hv
          simp only [Act.put, List.setIfInBounds_toArray, List.set_cons_succ, List.set_cons_zero, List.nil_append, List.cons_append]
          apply hK
          clear hK K
          repeat (first | (refine phi_skipK rfl (fun K hK => ?_); simp only [Act.put, List.setIfInBounds_toArray, List.set_cons_succ, List.set_cons_zero, List.nil_append, List.cons_append]; apply hK; clear hK K) | (refine phi_pureK rfl rfl (fun K hK => ?_); apply Exists.intro; constructor; (rintro w' ⟨hT, hIB⟩; skip; first | (go_simp; (try go_bits); (try go_simp); rfl) | go_simp); simp only [Act.put, List.setIfInBounds_toArray, List.set_cons_succ, List.set_cons_zero, List.nil_append, List.cons_append]; apply hK; clear hK K))
          refine phi_partK (PVal (.int .u64 (s : Int))) rfl rfl ⟨_, rfl⟩ ?_ (fun K hK v hv => ?_)
          · rintro w' ⟨hT, hIB⟩ hf
            unfold gives
            clear hf
            go_simp
            refine (raw_any s w').mono ?_
            rintro e w'' ⟨rfl, hb⟩
            exact ⟨_, rfl, rfl, trivial, hb⟩
          obtain rfl : v = _ := hv
          simp only [Act.put, List.setIfInBounds_toArray, List.set_cons_succ, List.set_cons_zero, List.nil_append, List.cons_append]
          apply hK
          clear hK K
          repeat (first | (refine phi_skipK rfl (fun K hK => ?_); simp only [Act.put, List.setIfInBounds_toArray, List.set_cons_succ, List.set_cons_zero, List.nil_append, List.cons_append]; apply hK; clear hK K) | (refine phi_pureK rfl rfl (fun K hK => ?_); apply Exists.intro; constructor; (rintro w' ⟨hT, hIB⟩; skip; first | (go_simp; (try go_bits); (try go_simp); rfl) | go_simp); simp only [Act.put, List.setIfInBounds_toArray, List.set_cons_succ, List.set_cons_zero, List.nil_append, List.cons_append]; apply hK; clear hK K))
          refine phi_done ?_
          rintro w10 ⟨hT, hb10⟩ _
          refine wpList_nil ?_
          go_wp2_with fail
          go_ret
          exact ⟨rfl, hb10⟩
  · have hld : decide (300 < (l.length : Int)) = true := decide_eq_true (by omega)
    have hld' : decide (300 < l.length) = true := decide_eq_true (by omega)
    go_wp2_with fail
    go_ret
    exact ⟨rfl, hb1⟩
end Go.Proofs.YteoiedlffifpoaaDoor
