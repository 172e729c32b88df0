/-
  IdsRead2: the walk of the document's Read.
-/
import Derived.Test.YtehdbiilbbbbpaaDoorIdsRead
import Derived.BigQuiet
import Derived.Deep.QuietTactic
namespace Go.Proofs.YtehdbiilbbbbpaaDoor
open Go.RowKit Go.Extern.Stop Go.Stop Go.Extern

def nvs (l : List Nat) : List Value := ivs (l.map fun n : Nat => (n : Int))
theorem nvs_len (l : List Nat) : (nvs l).length = l.length := by simp [nvs, ivs]
theorem nvs_app (l m : List Nat) : nvs (l ++ m) = nvs l ++ nvs m := by simp [nvs, ivs]
theorem nvs_one {l : List Nat} : ∀ u ∈ nvs l, u.oneCell' = true := ivs_one
theorem intInfo : (Tryd.prog.info? 3).map (fun i => (i.zero, i.size, i.bytes)) = some (some (.int .i64 0), 1, 8) := by kernel_rfl
theorem head_take (s : List UInt8) (a b : Nat) (hab : a < b) (hb : b ≤ s.length) : ((s.drop a).take (b - a)).head? = some (s[a]'(by omega)) := by
  rw [List.drop_eq_getElem_cons (by omega), show b - a = (b - a - 1) + 1 by omega, List.take_succ_cons, List.head?_cons]
theorem headB_take (s : List UInt8) (a b : Nat) (hab : a ≤ b) (hb : b ≤ s.length) : headB ((s.drop a).take (b - a)) = true ↔ a ≠ b ∧ ∀ h : a < b, (1 < b - a → (s[a]'(by omega)) ≠ 48) := by
  unfold headB
  have hl : ((s.drop a).take (b - a)).length = b - a := by rw [List.length_take, List.length_drop]; omega
  simp only [Bool.and_eq_true, Bool.not_eq_true', beq_eq_false_iff_ne, Bool.and_eq_false_iff, decide_eq_false_iff_not, hl]
  by_cases h : a = b
  · subst h
    simp
  · rw [head_take s a b (by omega) hb]
    constructor
    · rintro ⟨_, h2⟩
      refine ⟨h, fun _ h1 => ?_⟩
      rcases h2 with h2 | h2
      · exact absurd h1 h2
      · exact fun e => h2 (by rw [e])
    · rintro ⟨_, h2⟩
      refine ⟨?_, ?_⟩
      · intro e
        have := congrArg List.length e
        rw [hl] at this
        simp at this
        omega
      · by_cases h1 : 1 < b - a
        · exact .inr (fun e => h2 (by omega) h1 (Option.some.inj e))
        · exact .inl h1
theorem headB_false (s : List UInt8) (a b : Nat) (hab : a ≤ b) (hb : b ≤ s.length) (hh : headB ((s.drop a).take (b - a)) = false) : a = b ∨ (a ≠ b ∧ 1 < b - a ∧ ∃ h : a < s.length, s[a] = 48) := by
  by_cases h : a = b
  · exact .inl h
  · have ha : a < s.length := by omega
    have hl : ((s.drop a).take (b - a)).length = b - a := by rw [List.length_take, List.length_drop]; omega
    have hne : (s.drop a).take (b - a) ≠ [] := by
      intro e
      rw [e] at hl
      simp at hl
      omega
    unfold headB at hh
    rw [hl, head_take s a b (by omega) hb] at hh
    simp only [Bool.and_eq_false_iff, Bool.not_eq_false', beq_iff_eq, Bool.and_eq_true, decide_eq_true_eq, Option.some.injEq] at hh
    rcases hh with hh | hh
    · exact absurd hh hne
    · exact .inr ⟨h, hh.1, ha, hh.2⟩
set_option maxRecDepth 20000 in
set_option maxHeartbeats 8000000 in
theorem read_any (s pat : List UInt8) (hs : s.length ≤ 1000) (hp : pat.length ≤ 100) (w : World) :
    Calls Tryd.prog 45 #[.string (bs s), .string (bs pat)] w (ReadR (readL pat s) w) := by
  obtain ⟨i0, hi, hz0, hz1, hz2⟩ := info_parts intInfo
  have hss := bs_size s
  have hps := bs_size pat
  go_enter Tryd.func45, Tryd.ntmps45
  go_wp2_with fail
  go_loopw [6, 7, 8] (fun o a i wr => ∃ (k at_ : Nat) (l : List Nat), Sofar pat s k at_ l ∧ i = .int .i64 k ∧ a = .int .i64 at_ ∧ wr.ownsRow w.heap.size 3 1 o l.length (nvs l) ∧ l.length ≤ k ∧ Below w.heap.size w wr) (fun _ _ i _ => pat.length - (intOf i).toNat)
  case atStart =>
    exact ⟨0, 0, [], Sofar.start pat s, rfl, rfl, by simpa [nvs, ivs] using World.ownsRow_lit (base := w.heap.size) (e := 3) (size := 1) w #[] 0 (Nat.le_refl _) (by unfold maxLen; omega) rfl, by simp, below_alloc1 w _⟩
  case round =>
    obtain ⟨k, at_, l, hso, rfl, rfl, hown, hlk, hbw⟩ := hrel
    have hsz := hbw.size
    obtain ⟨wo, rfl⟩ : ∃ x, x = wr := ⟨wr, rfl⟩
    have hk1 := hso.1
    have ha1 := hso.2.1
    by_cases hlt : k < pat.length
    · have hki : (k : Int) < ((bs pat).size : Int) := by rw [hps]; omega
      have hpk := bs_get pat k hlt
      by_cases hc : pat[k] = 35
      · have hc1 : ((pat[k].toNat : Int) == 35) = true := by rw [hc]; rfl
        have hc2 : (pat[k].toNat == 35) = true := by rw [hc]; rfl
        have HSO := Lib.hid hso
        have HOWN := Lib.hid hown
        have HBW := Lib.hid hbw
        have HC := Lib.hid hc
        have HLT := Lib.hid hlt
        clear hso hown hbw hc
        go_wp2_with fail
        clear hc1 hc2 hpk hki
        generalize pat[k].toNat = pk
        go_loopw [7, 10] (fun a n wx => ∃ b : Nat, at_ ≤ b ∧ b ≤ s.length ∧ a = .int .i64 b ∧ n = .int .i64 ((capV ((s.drop at_).take (b - at_)) : Nat) : Int) ∧ ((s.drop at_).take (b - at_)).all digitB = true ∧ wo = wx) (fun a _ _ => s.length - (intOf a).toNat)
        case atStart => exact ⟨at_, by omega, ha1, rfl, by simp [capV], by simp, rfl⟩
        case round =>
          obtain ⟨b, hab, hbl, rfl, rfl, hall, rfl⟩ := hrel
          by_cases hb : b < s.length
          · have hbi : (b : Int) < ((bs s).size : Int) := by rw [hss]; omega
            have hbb := bs_get s b hb
            have ht : (s.drop at_).take (b + 1 - at_) = (s.drop at_).take (b - at_) ++ [s[b]] := by
              rw [show b + 1 - at_ = (b - at_) + 1 by omega, List.take_add_one, List.getElem?_drop, show at_ + (b - at_) = b by omega, List.getElem?_eq_getElem hb]; rfl
            by_cases hd : digitB s[b] = true
            · have h48 := digitB_le hd
              have q1 : decide ((48 : Int) ≤ (s[b].toNat : Int)) = true := decide_eq_true (by omega)
              have q2 : decide ((s[b].toNat : Int) ≤ 57) = true := decide_eq_true (by omega)
              have q3 : decide (48 ≤ s[b].toNat) = true := decide_eq_true h48.1
              have q4 : decide (s[b].toNat ≤ 57) = true := decide_eq_true h48.2
              have HA := Lib.hid (show ((s.drop at_).take (b + 1 - at_)).all digitB = true by rw [ht, List.all_append, hall]; simp [hd])
              have HCV := Lib.hid (show capV ((s.drop at_).take (b + 1 - at_)) = capS (capV ((s.drop at_).take (b - at_))) s[b] by rw [ht, capV_snoc])
              have hV := capV_le ((s.drop at_).take (b - at_))
              generalize capV ((s.drop at_).take (b - at_)) = V at *
              unfold capS at HCV
              clear ht hall hd
              by_cases hbig : 1000000 < 10 * V + (s[b].toNat - 48)
              · have q5 : decide ((1000000 : Int) < 10 * (V : Int) + (s[b].toNat : Int) - 48) = true := decide_eq_true (by omega)
                rw [if_pos hbig] at HCV
                go_wp2_with fail
                go_roundw
                case rel => exact ⟨b + 1, by omega, by omega, by simp, by rw [HCV.out]; rfl, HA.out, by trivial⟩
                all_goals (simp [intOf]; try omega)
              · have q5 : decide ((1000000 : Int) < 10 * (V : Int) + (s[b].toNat : Int) - 48) = false := decide_eq_false (by omega)
                rw [if_neg hbig] at HCV
                go_wp2_with fail
                go_roundw
                case rel => exact ⟨b + 1, by omega, by omega, by simp, by rw [HCV.out]; congr 1; omega, HA.out, by trivial⟩
                all_goals (simp [intOf]; try omega)
            · have hdf : digitB s[b] = false := by simpa using hd
              have hend : b = s.length ∨ ∃ h : b < s.length, digitB s[b] = false := .inr ⟨hb, hdf⟩
              have hor : s[b].toNat < 48 ∨ 48 ≤ s[b].toNat ∧ 57 < s[b].toNat := by
                unfold digitB at hdf
                simp only [Bool.and_eq_false_iff, decide_eq_false_iff_not] at hdf
                omega
              clear ht hd hdf
              rcases hor with h1 | ⟨h1, h2⟩
              · have q1 : decide ((48 : Int) ≤ (s[b].toNat : Int)) = false := decide_eq_false (by omega)
                have q3 : decide (48 ≤ s[b].toNat) = false := decide_eq_false (by omega)
                have dg := digs_at s at_ b hab hbl hall hend
                have hlen : ((s.drop at_).take (b - at_)).length = b - at_ := by rw [List.length_take, List.length_drop]; omega
                cases hh : headB ((s.drop at_).take (b - at_)) with
                | true =>
                  have hh2 := (headB_take s at_ b hab hbl).1 hh
                  have HS := Lib.hid (sofar_hash HSO.out HLT.out HC.out hbl hab dg.1 dg.2 hh)
                  have hV := capV_le ((s.drop at_).take (b - at_))
                  generalize capV ((s.drop at_).take (b - at_)) = V at *
                  have e1 : ((b : Int) == (at_ : Int)) = false := by rw [beq_eq_false_iff_ne]; have := hh2.1; omega
                  have e2 : (b == at_) = false := by rw [beq_eq_false_iff_ne]; have := hh2.1; omega
                  have HO1 := Lib.hid (owns_below HOWN.out (below_alloc1 wo (.cells #[.int .i64 (V : Int)] 3)))
                  have hs1 := (below_alloc HBW.out (.cells #[.int .i64 (V : Int)] 3)).size
                  have HB2 := Lib.hid (below_alloc HBW.out (.cells #[.int .i64 (V : Int)] 3))
                  have HLK := Lib.hid hlk
                  have HBL := Lib.hid hbl
                  clear dg hlen hh hall hend
                  by_cases h1 : 1 < b - at_
                  · have ha : at_ < s.length := by omega
                    have hx := hh2.2 (by omega) h1
                    have d1 : decide ((1 : Int) < (b : Int) - (at_ : Int)) = true := decide_eq_true (by omega)
                    have hbs := bs_get s at_ ha
                    have hsi : (at_ : Int) < ((bs s).size : Int) := by rw [hss]; omega
                    have x1 : ((s[at_].toNat : Int) == 48) = false := by
                      rw [beq_eq_false_iff_ne]
                      intro e
                      exact hx (UInt8.toNat_inj.1 (by show s[at_].toNat = 48; omega))
                    have x2 : (s[at_].toNat == 48) = false := by
                      rw [beq_eq_false_iff_ne]
                      intro e
                      exact hx (UInt8.toNat_inj.1 e)
                    clear hh2 hx
                    go_wp2_with (at_builtin; refine wpList_app (.tmp 81) (.tmp 83) 49 rfl rfl w.heap.size 3 i0 (.int .i64 0) 1 8 Tryd.underlying49 hi hz0 hz1 hz2 rfl (by decide) _ _ _ rfl HO1.out _ _ _ (nvs [V]) rfl rfl (rd_at _ #[_] _ _ _ rfl) nvs_one (by unfold maxLen; omega) (by omega) hs1 ?_)
                    intro v1 w2 ho1 hg1
                    have HB3 := Lib.hid (HB2.out.grown hg1 hs1 (fun j hj => (HO1.out.lt j hj).1))
                    have HO3 := Lib.hid ho1
                    clear ho1 hg1 HO1 HB2 x1 x2 hbs
                    go_wp2_with fail
                    go_roundw
                    case rel => exact ⟨k + 1, b, _, HS.out, by simp, rfl, by rw [nvs_app, List.length_append]; exact HO3.out, by simp; exact HLK.out, HB3.out⟩
                    all_goals (simp [intOf]; try omega)
                  · have d1 : decide ((1 : Int) < (b : Int) - (at_ : Int)) = false := decide_eq_false (by omega)
                    clear hh2
                    go_wp2_with (at_builtin; refine wpList_app (.tmp 81) (.tmp 83) 49 rfl rfl w.heap.size 3 i0 (.int .i64 0) 1 8 Tryd.underlying49 hi hz0 hz1 hz2 rfl (by decide) _ _ _ rfl HO1.out _ _ _ (nvs [V]) rfl rfl (rd_at _ #[_] _ _ _ rfl) nvs_one (by unfold maxLen; omega) (by omega) hs1 ?_)
                    intro v1 w2 ho1 hg1
                    have HB3 := Lib.hid (HB2.out.grown hg1 hs1 (fun j hj => (HO1.out.lt j hj).1))
                    have HO3 := Lib.hid ho1
                    clear ho1 hg1 HO1 HB2
                    go_wp2_with fail
                    go_roundw
                    case rel => exact ⟨k + 1, b, _, HS.out, by simp, rfl, by rw [nvs_app, List.length_append]; exact HO3.out, by simp; exact HLK.out, HB3.out⟩
                    all_goals (simp [intOf]; try omega)
                | false =>
                  have HX := Lib.hid (sofar_bad HSO.out HLT.out HC.out dg.1 hh)
                  have hh2 := headB_false s at_ b hab hbl hh
                  clear dg hlen hh hall hend
                  rcases hh2 with rfl | ⟨h0, h1, ha, hx⟩
                  · have e1 : ((at_ : Int) == (at_ : Int)) = true := by simp
                    go_wp2_with fail
                    go_ret2
                    exact ⟨HBW.out, .inr ⟨fun l h => (by rw [HX.out] at h; cases h), _, rfl⟩⟩
                  · have e1 : ((b : Int) == (at_ : Int)) = false := by rw [beq_eq_false_iff_ne]; omega
                    have e2 : (b == at_) = false := by rw [beq_eq_false_iff_ne]; omega
                    have d1 : decide ((1 : Int) < (b : Int) - (at_ : Int)) = true := decide_eq_true (by omega)
                    have hbs := bs_get s at_ ha
                    have hsi : (at_ : Int) < ((bs s).size : Int) := by rw [hss]; omega
                    have x1 : ((s[at_].toNat : Int) == 48) = true := by rw [hx]; rfl
                    have x2 : (s[at_].toNat == 48) = true := by rw [hx]; rfl
                    clear hx
                    go_wp2_with fail
                    go_ret2
                    exact ⟨HBW.out, .inr ⟨fun l h => (by rw [HX.out] at h; cases h), _, rfl⟩⟩
              · have q1 : decide ((48 : Int) ≤ (s[b].toNat : Int)) = true := decide_eq_true (by omega)
                have q3 : decide (48 ≤ s[b].toNat) = true := decide_eq_true h1
                have q2 : decide ((s[b].toNat : Int) ≤ 57) = false := decide_eq_false (by omega)
                have q4 : decide (s[b].toNat ≤ 57) = false := decide_eq_false (by omega)
                have dg := digs_at s at_ b hab hbl hall hend
                have hlen : ((s.drop at_).take (b - at_)).length = b - at_ := by rw [List.length_take, List.length_drop]; omega
                cases hh : headB ((s.drop at_).take (b - at_)) with
                | true =>
                  have hh2 := (headB_take s at_ b hab hbl).1 hh
                  have HS := Lib.hid (sofar_hash HSO.out HLT.out HC.out hbl hab dg.1 dg.2 hh)
                  have hV := capV_le ((s.drop at_).take (b - at_))
                  generalize capV ((s.drop at_).take (b - at_)) = V at *
                  have e1 : ((b : Int) == (at_ : Int)) = false := by rw [beq_eq_false_iff_ne]; have := hh2.1; omega
                  have e2 : (b == at_) = false := by rw [beq_eq_false_iff_ne]; have := hh2.1; omega
                  have HO1 := Lib.hid (owns_below HOWN.out (below_alloc1 wo (.cells #[.int .i64 (V : Int)] 3)))
                  have hs1 := (below_alloc HBW.out (.cells #[.int .i64 (V : Int)] 3)).size
                  have HB2 := Lib.hid (below_alloc HBW.out (.cells #[.int .i64 (V : Int)] 3))
                  have HLK := Lib.hid hlk
                  have HBL := Lib.hid hbl
                  clear dg hlen hh hall hend
                  by_cases h1 : 1 < b - at_
                  · have ha : at_ < s.length := by omega
                    have hx := hh2.2 (by omega) h1
                    have d1 : decide ((1 : Int) < (b : Int) - (at_ : Int)) = true := decide_eq_true (by omega)
                    have hbs := bs_get s at_ ha
                    have hsi : (at_ : Int) < ((bs s).size : Int) := by rw [hss]; omega
                    have x1 : ((s[at_].toNat : Int) == 48) = false := by
                      rw [beq_eq_false_iff_ne]
                      intro e
                      exact hx (UInt8.toNat_inj.1 (by show s[at_].toNat = 48; omega))
                    have x2 : (s[at_].toNat == 48) = false := by
                      rw [beq_eq_false_iff_ne]
                      intro e
                      exact hx (UInt8.toNat_inj.1 e)
                    clear hh2 hx
                    go_wp2_with (at_builtin; refine wpList_app (.tmp 81) (.tmp 83) 49 rfl rfl w.heap.size 3 i0 (.int .i64 0) 1 8 Tryd.underlying49 hi hz0 hz1 hz2 rfl (by decide) _ _ _ rfl HO1.out _ _ _ (nvs [V]) rfl rfl (rd_at _ #[_] _ _ _ rfl) nvs_one (by unfold maxLen; omega) (by omega) hs1 ?_)
                    intro v1 w2 ho1 hg1
                    have HB3 := Lib.hid (HB2.out.grown hg1 hs1 (fun j hj => (HO1.out.lt j hj).1))
                    have HO3 := Lib.hid ho1
                    clear ho1 hg1 HO1 HB2 x1 x2 hbs
                    go_wp2_with fail
                    go_roundw
                    case rel => exact ⟨k + 1, b, _, HS.out, by simp, rfl, by rw [nvs_app, List.length_append]; exact HO3.out, by simp; exact HLK.out, HB3.out⟩
                    all_goals (simp [intOf]; try omega)
                  · have d1 : decide ((1 : Int) < (b : Int) - (at_ : Int)) = false := decide_eq_false (by omega)
                    clear hh2
                    go_wp2_with (at_builtin; refine wpList_app (.tmp 81) (.tmp 83) 49 rfl rfl w.heap.size 3 i0 (.int .i64 0) 1 8 Tryd.underlying49 hi hz0 hz1 hz2 rfl (by decide) _ _ _ rfl HO1.out _ _ _ (nvs [V]) rfl rfl (rd_at _ #[_] _ _ _ rfl) nvs_one (by unfold maxLen; omega) (by omega) hs1 ?_)
                    intro v1 w2 ho1 hg1
                    have HB3 := Lib.hid (HB2.out.grown hg1 hs1 (fun j hj => (HO1.out.lt j hj).1))
                    have HO3 := Lib.hid ho1
                    clear ho1 hg1 HO1 HB2
                    go_wp2_with fail
                    go_roundw
                    case rel => exact ⟨k + 1, b, _, HS.out, by simp, rfl, by rw [nvs_app, List.length_append]; exact HO3.out, by simp; exact HLK.out, HB3.out⟩
                    all_goals (simp [intOf]; try omega)
                | false =>
                  have HX := Lib.hid (sofar_bad HSO.out HLT.out HC.out dg.1 hh)
                  have hh2 := headB_false s at_ b hab hbl hh
                  clear dg hlen hh hall hend
                  rcases hh2 with rfl | ⟨h0, h1, ha, hx⟩
                  · have e1 : ((at_ : Int) == (at_ : Int)) = true := by simp
                    go_wp2_with fail
                    go_ret2
                    exact ⟨HBW.out, .inr ⟨fun l h => (by rw [HX.out] at h; cases h), _, rfl⟩⟩
                  · have e1 : ((b : Int) == (at_ : Int)) = false := by rw [beq_eq_false_iff_ne]; omega
                    have e2 : (b == at_) = false := by rw [beq_eq_false_iff_ne]; omega
                    have d1 : decide ((1 : Int) < (b : Int) - (at_ : Int)) = true := decide_eq_true (by omega)
                    have hbs := bs_get s at_ ha
                    have hsi : (at_ : Int) < ((bs s).size : Int) := by rw [hss]; omega
                    have x1 : ((s[at_].toNat : Int) == 48) = true := by rw [hx]; rfl
                    have x2 : (s[at_].toNat == 48) = true := by rw [hx]; rfl
                    clear hx
                    go_wp2_with fail
                    go_ret2
                    exact ⟨HBW.out, .inr ⟨fun l h => (by rw [HX.out] at h; cases h), _, rfl⟩⟩
          · have hbe : b = s.length := by omega
            have hend : b = s.length ∨ ∃ h : b < s.length, digitB s[b] = false := .inl hbe
            have q0 : ¬ ((b : Int) < ((bs s).size : Int)) := by rw [hss]; omega
            have q1 : ((b : Int) < (s.length : Int)) = False := by rw [eq_iff_iff]; exact ⟨fun h => by omega, False.elim⟩
            have q2 : (b < s.length) = False := by rw [eq_iff_iff]; exact ⟨fun h => by omega, False.elim⟩
            clear hbe hb
            have dg := digs_at s at_ b hab hbl hall hend
            have hlen : ((s.drop at_).take (b - at_)).length = b - at_ := by rw [List.length_take, List.length_drop]; omega
            cases hh : headB ((s.drop at_).take (b - at_)) with
            | true =>
              have hh2 := (headB_take s at_ b hab hbl).1 hh
              have HS := Lib.hid (sofar_hash HSO.out HLT.out HC.out hbl hab dg.1 dg.2 hh)
              have hV := capV_le ((s.drop at_).take (b - at_))
              generalize capV ((s.drop at_).take (b - at_)) = V at *
              have e1 : ((b : Int) == (at_ : Int)) = false := by rw [beq_eq_false_iff_ne]; have := hh2.1; omega
              have e2 : (b == at_) = false := by rw [beq_eq_false_iff_ne]; have := hh2.1; omega
              have HO1 := Lib.hid (owns_below HOWN.out (below_alloc1 wo (.cells #[.int .i64 (V : Int)] 3)))
              have hs1 := (below_alloc HBW.out (.cells #[.int .i64 (V : Int)] 3)).size
              have HB2 := Lib.hid (below_alloc HBW.out (.cells #[.int .i64 (V : Int)] 3))
              have HLK := Lib.hid hlk
              have HBL := Lib.hid hbl
              clear dg hlen hh hall hend
              by_cases h1 : 1 < b - at_
              · have ha : at_ < s.length := by omega
                have hx := hh2.2 (by omega) h1
                have d1 : decide ((1 : Int) < (b : Int) - (at_ : Int)) = true := decide_eq_true (by omega)
                have hbs := bs_get s at_ ha
                have hsi : (at_ : Int) < ((bs s).size : Int) := by rw [hss]; omega
                have x1 : ((s[at_].toNat : Int) == 48) = false := by
                  rw [beq_eq_false_iff_ne]
                  intro e
                  exact hx (UInt8.toNat_inj.1 (by show s[at_].toNat = 48; omega))
                have x2 : (s[at_].toNat == 48) = false := by
                  rw [beq_eq_false_iff_ne]
                  intro e
                  exact hx (UInt8.toNat_inj.1 e)
                clear hh2 hx
                go_wp2_with (at_builtin; refine wpList_app (.tmp 81) (.tmp 83) 49 rfl rfl w.heap.size 3 i0 (.int .i64 0) 1 8 Tryd.underlying49 hi hz0 hz1 hz2 rfl (by decide) _ _ _ rfl HO1.out _ _ _ (nvs [V]) rfl rfl (rd_at _ #[_] _ _ _ rfl) nvs_one (by unfold maxLen; omega) (by omega) hs1 ?_)
                intro v1 w2 ho1 hg1
                have HB3 := Lib.hid (HB2.out.grown hg1 hs1 (fun j hj => (HO1.out.lt j hj).1))
                have HO3 := Lib.hid ho1
                clear ho1 hg1 HO1 HB2 x1 x2 hbs
                go_wp2_with fail
                go_roundw
                case rel => exact ⟨k + 1, b, _, HS.out, by simp, rfl, by rw [nvs_app, List.length_append]; exact HO3.out, by simp; exact HLK.out, HB3.out⟩
                all_goals (simp [intOf]; try omega)
              · have d1 : decide ((1 : Int) < (b : Int) - (at_ : Int)) = false := decide_eq_false (by omega)
                clear hh2
                go_wp2_with (at_builtin; refine wpList_app (.tmp 81) (.tmp 83) 49 rfl rfl w.heap.size 3 i0 (.int .i64 0) 1 8 Tryd.underlying49 hi hz0 hz1 hz2 rfl (by decide) _ _ _ rfl HO1.out _ _ _ (nvs [V]) rfl rfl (rd_at _ #[_] _ _ _ rfl) nvs_one (by unfold maxLen; omega) (by omega) hs1 ?_)
                intro v1 w2 ho1 hg1
                have HB3 := Lib.hid (HB2.out.grown hg1 hs1 (fun j hj => (HO1.out.lt j hj).1))
                have HO3 := Lib.hid ho1
                clear ho1 hg1 HO1 HB2
                go_wp2_with fail
                go_roundw
                case rel => exact ⟨k + 1, b, _, HS.out, by simp, rfl, by rw [nvs_app, List.length_append]; exact HO3.out, by simp; exact HLK.out, HB3.out⟩
                all_goals (simp [intOf]; try omega)
            | false =>
              have HX := Lib.hid (sofar_bad HSO.out HLT.out HC.out dg.1 hh)
              have hh2 := headB_false s at_ b hab hbl hh
              clear dg hlen hh hall hend
              rcases hh2 with rfl | ⟨h0, h1, ha, hx⟩
              · have e1 : ((at_ : Int) == (at_ : Int)) = true := by simp
                go_wp2_with fail
                go_ret2
                exact ⟨HBW.out, .inr ⟨fun l h => (by rw [HX.out] at h; cases h), _, rfl⟩⟩
              · have e1 : ((b : Int) == (at_ : Int)) = false := by rw [beq_eq_false_iff_ne]; omega
                have e2 : (b == at_) = false := by rw [beq_eq_false_iff_ne]; omega
                have d1 : decide ((1 : Int) < (b : Int) - (at_ : Int)) = true := decide_eq_true (by omega)
                have hbs := bs_get s at_ ha
                have hsi : (at_ : Int) < ((bs s).size : Int) := by rw [hss]; omega
                have x1 : ((s[at_].toNat : Int) == 48) = true := by rw [hx]; rfl
                have x2 : (s[at_].toNat == 48) = true := by rw [hx]; rfl
                clear hx
                go_wp2_with fail
                go_ret2
                exact ⟨HBW.out, .inr ⟨fun l h => (by rw [HX.out] at h; cases h), _, rfl⟩⟩
      · have hc1 : ((pat[k].toNat : Int) == 35) = false := by
          rw [beq_eq_false_iff_ne]
          intro e
          exact hc (UInt8.toNat_inj.1 (by show pat[k].toNat = 35; omega))
        have hc2 : (pat[k].toNat == 35) = false := by
          rw [beq_eq_false_iff_ne]
          intro e
          exact hc (UInt8.toNat_inj.1 e)
        by_cases ha : at_ = s.length
        · have HX := Lib.hid (sofar_stop hso hlt hc (.inl ha))
          have e1 : ((at_ : Int) == (s.length : Int)) = true := by rw [ha]; simp
          have e2 : (at_ == s.length) = true := by rw [ha]; simp
          have e3 : ((at_ : Int) == ((bs s).size : Int)) = true := by rw [ha, hss]; simp
          have HB := Lib.hid hbw
          clear ha hso hown hbw hc
          go_wp2_with fail
          go_quiet (fail)
          go_wp2_with fail
          go_ret2
          exact ⟨HB.out.trans ((below_drewN _ _).mono HB.out.size), .inr ⟨fun l h => (by rw [HX.out] at h; cases h), _, rfl⟩⟩
        · have hal : at_ < s.length := by omega
          have e1 : ((at_ : Int) == (s.length : Int)) = false := by rw [beq_eq_false_iff_ne]; omega
          have e2 : (at_ == s.length) = false := by rw [beq_eq_false_iff_ne]; exact ha
          have e3 : ((at_ : Int) == ((bs s).size : Int)) = false := by rw [hss]; exact e1
          have hbs := bs_get s at_ hal
          have hsi : (at_ : Int) < ((bs s).size : Int) := by rw [hss]; omega
          have HB := Lib.hid hbw
          have HO := Lib.hid hown
          by_cases he : s[at_] = pat[k]
          · have HS := Lib.hid (sofar_sign hso hlt hc hal he)
            have q1 : ((s[at_].toNat : Int) == (pat[k].toNat : Int)) = true := by rw [he]; simp
            have q2 : (s[at_].toNat == pat[k].toNat) = true := by rw [he]; simp
            clear hso hown hbw hc he ha
            go_wp2_with fail
            go_quiet (fail)
            go_wp2_with fail
            go_roundw
            case rel => exact ⟨k + 1, at_ + 1, l, HS.out, by simp, by simp, owns_below HO.out (below_drewN _ _), by omega, HB.out.trans ((below_drewN _ _).mono HB.out.size)⟩
            all_goals (simp [intOf]; try omega)
          · have HX := Lib.hid (sofar_stop hso hlt hc (.inr ⟨hal, he⟩))
            have q1 : ((s[at_].toNat : Int) == (pat[k].toNat : Int)) = false := by
              rw [beq_eq_false_iff_ne]
              intro e
              exact he (UInt8.toNat_inj.1 (by omega))
            have q2 : (s[at_].toNat == pat[k].toNat) = false := by
              rw [beq_eq_false_iff_ne]
              intro e
              exact he (UInt8.toNat_inj.1 e)
            clear hso hown hbw hc he ha
            go_wp2_with fail
            go_quiet (fail)
            go_wp2_with fail
            go_ret2
            exact ⟨HB.out.trans ((below_drewN _ _).mono HB.out.size), .inr ⟨fun l h => (by rw [HX.out] at h; cases h), _, rfl⟩⟩
    · obtain rfl : k = pat.length := by omega
      have hki : ¬ ((pat.length : Int) < ((bs pat).size : Int)) := by rw [hps]; omega
      have hfin : readL pat s = some (l, s.drop at_) := by
        rw [hso.2.2, List.drop_length]
        simp [readL]
      obtain ⟨q, c, rfl, h1, h2, h3⟩ := owns_rd hown
      have HB := Lib.hid hbw
      have HIV := Lib.hid (show Iv wo (.slice q l.length c) (l.map fun n : Nat => (n : Int)) from ⟨q, c, by simp, by simpa using h1, h2, h3⟩)
      have HF := Lib.hid hfin
      clear hso hown hbw hfin h1 h2 h3
      by_cases ha : at_ = s.length
      · subst ha
        go_wp2_with fail
        go_ret2
        refine ⟨HB.out, .inl ⟨_, l, by rw [HF.out, List.drop_length], ?_, HIV.out⟩⟩
        simp [hss]
      · have e1 : ((at_ : Int) == (s.length : Int)) = false := by rw [beq_eq_false_iff_ne]; omega
        have e2 : (at_ == s.length) = false := by rw [beq_eq_false_iff_ne]; exact ha
        go_wp2_with fail
        go_ret2
        refine ⟨HB.out, .inr ⟨fun l' h => ?_, _, rfl⟩⟩
        rw [HF.out] at h
        have := congrArg (fun o : Option (List Nat × List UInt8) => (o.getD ([], [])).2.length) h
        simp at this
        omega
end Go.Proofs.YtehdbiilbbbbpaaDoor
