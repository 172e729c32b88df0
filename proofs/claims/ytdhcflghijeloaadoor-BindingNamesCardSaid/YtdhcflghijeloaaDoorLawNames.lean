/-
  LawNames: the walk of BindingNames.
-/
import Derived.Test.YtdhcflghijeloaaDoorBindK
namespace Go.Proofs.YtdhcflghijeloaaDoor
open Go.RowKit
attribute [local go_sem] bs_toList bs_size

def ok1 (w : World) (e : Ending) (w' : World) : Prop := e = .returned (.bool true) ∧ Below w.heap.size w w'
theorem act_one : bs (actF 1) = { data := #[104, 116, 116, 112, 58, 47, 47, 100, 111, 99, 115, 46, 111, 97, 115, 105, 115, 45, 111, 112, 101, 110, 46, 111, 114, 103, 47, 119, 115, 45, 116, 120, 47, 119, 115, 98, 97, 47, 50, 48, 48, 54, 47, 48, 54, 47, 69, 120, 105, 116] } := by kernel_rfl
theorem alive_any (w : World) (E : Nat → Addr) (he : ErrsOn [3] w E) (ht : Tab w 16 kindsL) :
    Calls Tryd.prog 4 #[] w (Gives w (.bool true)) := by
  have HA := action_any 1 w E he ht
  rw [act_one, actE_in (by omega), errV_nil] at HA
  have HA2 := Lib.hid HA
  clear HA he ht
  go_enter Tryd.func4, Tryd.ntmps4
  go_wp2_with fail
  refine HA2.out.mono ?_
  rintro e w1 ⟨rfl, hb1⟩
  go_wp2_with fail
  go_ret
  exact ⟨rfl, hb1⟩
theorem kindIs_act {n : Int} (h : 1 ≤ n ∧ n ≤ 19) : KindIs (actF n) n := ⟨by omega, fun i h1 h2 => ⟨fun e => act_inj' ⟨h1, h2⟩ h e, fun e => by rw [e]⟩⟩
def soFar (K i : Int) : Int := if K < i then K else 0
theorem soFar_hit (K : Int) : soFar K (K + 1) = K := by unfold soFar; rw [if_pos (by omega)]
theorem soFar_miss {K i : Int} (h : i ≠ K) : soFar K (i + 1) = soFar K i := by
  unfold soFar
  by_cases h1 : K < i
  · rw [if_pos h1, if_pos (by omega)]
  · rw [if_neg h1, if_neg (by omega)]
/-- the three tables -/
structure Tabs (w : World) : Prop where
  k : Tab w 16 kindsL
  s : Tab w 14 statesL
  c : Tab w 15 codesL
theorem Tabs.below {w w' : World} (h : Tabs w) (hb : Below w.heap.size w w') : Tabs w' := ⟨h.k.below hb, h.s.below hb, h.c.below hb⟩
set_option maxRecDepth 20000 in
set_option maxHeartbeats 4000000 in
theorem names_any (n : Int) (s : List UInt8) (w : World) (E : Nat → Addr) (he : Errs w E) (ht : Tabs w) (hsl : s.length ≤ 9223372036854775807) :
    Calls Tryd.prog 3 #[.int .i64 n, .string (bs s)] w (ok1 w) := by
  have HE := Lib.hid he
  have HT := Lib.hid ht
  have HA := alive_any w E (he.on [3] rfl) ht.k
  obtain ⟨K, hK1, hK2⟩ := kind_of s
  have HK := Lib.hid (KindIs.mk hK1 hK2)
  clear he ht hK1 hK2
  go_enter Tryd.func3, Tryd.ntmps3
  go_wp2_with fail
  refine HA.mono ?_
  rintro e w1 ⟨rfl, hb1⟩
  clear HA
  by_cases hl : s.length ≤ 200
  · have dl : decide (200 < (s.length : Int)) = false := by simp; omega
    have dl' : decide (200 < s.length) = false := by simp; omega
    go_wp2_with fail
    refine (action_any n w1 E ((HE.out.below hb1).on [3] rfl) (HT.out.below hb1).k).mono ?_
    rintro e w2 ⟨rfl, hb2'⟩
    have hb2 := hb1.trans (hb2'.mono hb1.size)
    clear hb2'
    go_wp2_with fail
    refine (refaction_any n w2).mono ?_
    rintro e w3 ⟨rfl, hb3'⟩
    have hb3 := hb2.trans (hb3'.mono hb2.size)
    clear hb3'
    by_cases hin : 1 ≤ n ∧ n ≤ 19
    · rw [actE_in hin, errV_nil]
      have HKA := Lib.hid (kindIs_act hin)
      have hne : ¬ actF n = [] := by rw [act_nil]; omega
      have g1 : (actF n == []) = false := by simpa using hne
      have g2 : (actF n).isEmpty = false := by simpa using hne
      have HKE := Lib.hid (show errV E (kindE n) = .nilIface by unfold kindE; rw [if_neg (by omega)]; rfl)
      clear hne hin
      generalize hal : actF n = al at *
      clear hal
      go_wp2_with fail
      refine (kind_any al n HKA.out w3 E ((HE.out.below hb3).on [3] rfl) (HT.out.below hb3).k).mono ?_
      rintro e w4 ⟨rfl, hb4'⟩
      have hb4 := hb3.trans (hb4'.mono hb3.size)
      clear hb4'
      rw [HKE.out]
      clear g1 g2
      go_wp2_with fail
      refine (kind_any s K HK.out w4 E ((HE.out.below hb4).on [3] rfl) (HT.out.below hb4).k).mono ?_
      rintro e wk ⟨rfl, hbk'⟩
      have hbk := hb4.trans (hbk'.mono hb4.size)
      clear hbk'
      generalize hke : errV E (kindE K) = ve at *
      go_wp2_with fail
      go_loopw [11, 12] (fun v i wr => ∃ k : Nat, 1 ≤ k ∧ k ≤ 20 ∧ i = .int .i64 k ∧ v = .int .i64 (soFar K k) ∧ Below w.heap.size w wr) (fun _ i _ => 20 - (intOf i).toNat)
      case atStart => exact ⟨1, by omega, by omega, rfl, by unfold soFar; split <;> (try rfl); have := HK.out.rng; rw [show K = 0 by omega], hbk⟩
      case round =>
        obtain ⟨k, hk1, hk, rfl, rfl, hbw⟩ := hrel
        by_cases hlt : k ≤ 19
        · have hd : decide ((k : Int) ≤ 19) = true := by simp; omega
          have hiff := HK.out.is (k : Int) (by omega) (by omega)
          by_cases heq : (k : Int) = K
          · have hs := hiff.2 heq
            have HS := Lib.hid (show soFar K ((k + 1 : Nat) : Int) = (k : Int) by rw [show ((k + 1 : Nat) : Int) = K + 1 by omega, soFar_hit]; exact heq.symm)
            clear hiff heq
            go_wp2_with fail
            refine (refaction_any (k : Int) wr).mono ?_
            rintro e w2 ⟨rfl, hb2'⟩
            have hb2 := hbw.trans (hb2'.mono hbw.size)
            clear hb2'
            rw [hs]
            clear hs
            go_wp2_with fail
            go_roundw
            case rel => exact ⟨k + 1, by omega, by omega, by go_num, by rw [HS.out], hb2⟩
            case measure => simp [intOf]; omega
          · have g1 : (actF (k : Int) == s) = false := by
              have : ¬ actF (k : Int) = s := fun h => heq (hiff.1 h)
              simpa using this
            have HS := Lib.hid (show soFar K ((k + 1 : Nat) : Int) = soFar K (k : Int) by rw [show ((k + 1 : Nat) : Int) = (k : Int) + 1 by omega, soFar_miss heq])
            clear hiff heq
            go_wp2_with fail
            refine (refaction_any (k : Int) wr).mono ?_
            rintro e w2 ⟨rfl, hb2'⟩
            have hb2 := hbw.trans (hb2'.mono hbw.size)
            clear hb2'
            generalize actF (k : Int) = ak at *
            go_wp2_with fail
            go_roundw
            case rel => exact ⟨k + 1, by omega, by omega, by go_num, by rw [HS.out], hb2⟩
            case measure => simp [intOf]; omega
        · obtain rfl : k = 20 := by omega
          have hd : decide (((20 : Nat) : Int) ≤ 19) = false := by decide
          rw [show soFar K ((20 : Nat) : Int) = K by unfold soFar; rw [if_pos (by have := HK.out.rng; omega)]]
          have hkk : (K == K) = true := by simp
          subst hke
          by_cases hK0 : K = 0
          · subst hK0
            rw [show errV E (kindE 0) = errV E 4 from rfl]
            have HN := Lib.hid (fun w' he => num_any w' E 4 (by omega) he)
            rw [errV_four] at HN ⊢
            go_wp2_with fail
            refine (HN.out wr (HE.out.below hbw)).mono ?_
            rintro e w3 ⟨rfl, hb3'⟩
            have hb3 := hbw.trans (hb3'.mono hbw.size)
            clear hb3'
            go_wp2_with fail
            refine (stateName_any n w3 (HT.out.below hb3).s).mono ?_
            rintro e wp ⟨rfl, hbp'⟩
            have hbp := hb3.trans (hbp'.mono hb3.size)
            clear hbp'
            go_wp2_with fail
            refine (refState_any n wp).mono ?_
            rintro e wq ⟨rfl, hbq'⟩
            have hbq := hbp.trans (hbq'.mono hbp.size)
            clear hbq'
            go_wp2_with fail
            refine (codeName_any n wq (HT.out.below hbq).c).mono ?_
            rintro e wr2 ⟨rfl, hbr'⟩
            have hbr := hbq.trans (hbr'.mono hbq.size)
            clear hbr'
            go_wp2_with fail
            refine (refCode_any n wr2).mono ?_
            rintro e ws ⟨rfl, hbs'⟩
            have hbs := hbr.trans (hbs'.mono hbr.size)
            clear hbs'
            go_wp2_with fail
            go_ret
            exact ⟨by simp, hbs⟩
          · rw [show errV E (kindE K) = .nilIface by unfold kindE; rw [if_neg hK0]; rfl]
            have g0 : (K == 0) = false := by simpa using hK0
            have g00 : (K != 0) = true := by unfold bne; rw [g0]; rfl
            go_wp2_with fail
            refine (stateName_any n wr (HT.out.below hbw).s).mono ?_
            rintro e wp ⟨rfl, hbp'⟩
            have hbp := hbw.trans (hbp'.mono hbw.size)
            clear hbp'
            go_wp2_with fail
            refine (refState_any n wp).mono ?_
            rintro e wq ⟨rfl, hbq'⟩
            have hbq := hbp.trans (hbq'.mono hbp.size)
            clear hbq'
            go_wp2_with fail
            refine (codeName_any n wq (HT.out.below hbq).c).mono ?_
            rintro e wr2 ⟨rfl, hbr'⟩
            have hbr := hbq.trans (hbr'.mono hbq.size)
            clear hbr'
            go_wp2_with fail
            refine (refCode_any n wr2).mono ?_
            rintro e ws ⟨rfl, hbs'⟩
            have hbs := hbr.trans (hbs'.mono hbr.size)
            clear hbs'
            go_wp2_with fail
            go_ret
            exact ⟨by simp, hbs⟩
    · have hout : n < 1 ∨ 19 < n := by omega
      rw [actE_out hout, (act_nil n).2 hout]
      have HN := Lib.hid (fun w' he => num_any w' E 4 (by omega) he)
      rw [errV_four] at HN ⊢
      clear hin hout
      go_wp2_with fail
      refine (HN.out w3 (HE.out.below hb3)).mono ?_
      rintro e w4 ⟨rfl, hb4'⟩
      have hb4 := hb3.trans (hb4'.mono hb3.size)
      clear hb4'
      go_wp2_with fail
      refine (kind_any s K HK.out w4 E ((HE.out.below hb4).on [3] rfl) (HT.out.below hb4).k).mono ?_
      rintro e wk ⟨rfl, hbk'⟩
      have hbk := hb4.trans (hbk'.mono hb4.size)
      clear hbk'
      generalize hke : errV E (kindE K) = ve at *
      go_wp2_with fail
      go_loopw [11, 12] (fun v i wr => ∃ k : Nat, 1 ≤ k ∧ k ≤ 20 ∧ i = .int .i64 k ∧ v = .int .i64 (soFar K k) ∧ Below w.heap.size w wr) (fun _ i _ => 20 - (intOf i).toNat)
      case atStart => exact ⟨1, by omega, by omega, rfl, by unfold soFar; split <;> (try rfl); have := HK.out.rng; rw [show K = 0 by omega], hbk⟩
      case round =>
        obtain ⟨k, hk1, hk, rfl, rfl, hbw⟩ := hrel
        by_cases hlt : k ≤ 19
        · have hd : decide ((k : Int) ≤ 19) = true := by simp; omega
          have hiff := HK.out.is (k : Int) (by omega) (by omega)
          by_cases heq : (k : Int) = K
          · have hs := hiff.2 heq
            have HS := Lib.hid (show soFar K ((k + 1 : Nat) : Int) = (k : Int) by rw [show ((k + 1 : Nat) : Int) = K + 1 by omega, soFar_hit]; exact heq.symm)
            clear hiff heq
            go_wp2_with fail
            refine (refaction_any (k : Int) wr).mono ?_
            rintro e w2 ⟨rfl, hb2'⟩
            have hb2 := hbw.trans (hb2'.mono hbw.size)
            clear hb2'
            rw [hs]
            clear hs
            go_wp2_with fail
            go_roundw
            case rel => exact ⟨k + 1, by omega, by omega, by go_num, by rw [HS.out], hb2⟩
            case measure => simp [intOf]; omega
          · have g1 : (actF (k : Int) == s) = false := by
              have : ¬ actF (k : Int) = s := fun h => heq (hiff.1 h)
              simpa using this
            have HS := Lib.hid (show soFar K ((k + 1 : Nat) : Int) = soFar K (k : Int) by rw [show ((k + 1 : Nat) : Int) = (k : Int) + 1 by omega, soFar_miss heq])
            clear hiff heq
            go_wp2_with fail
            refine (refaction_any (k : Int) wr).mono ?_
            rintro e w2 ⟨rfl, hb2'⟩
            have hb2 := hbw.trans (hb2'.mono hbw.size)
            clear hb2'
            generalize actF (k : Int) = ak at *
            go_wp2_with fail
            go_roundw
            case rel => exact ⟨k + 1, by omega, by omega, by go_num, by rw [HS.out], hb2⟩
            case measure => simp [intOf]; omega
        · obtain rfl : k = 20 := by omega
          have hd : decide (((20 : Nat) : Int) ≤ 19) = false := by decide
          rw [show soFar K ((20 : Nat) : Int) = K by unfold soFar; rw [if_pos (by have := HK.out.rng; omega)]]
          have hkk : (K == K) = true := by simp
          subst hke
          by_cases hK0 : K = 0
          · subst hK0
            rw [show errV E (kindE 0) = errV E 4 from rfl]
            have HN := Lib.hid (fun w' he => num_any w' E 4 (by omega) he)
            rw [errV_four] at HN ⊢
            go_wp2_with fail
            refine (HN.out wr (HE.out.below hbw)).mono ?_
            rintro e w3 ⟨rfl, hb3'⟩
            have hb3 := hbw.trans (hb3'.mono hbw.size)
            clear hb3'
            go_wp2_with fail
            refine (stateName_any n w3 (HT.out.below hb3).s).mono ?_
            rintro e wp ⟨rfl, hbp'⟩
            have hbp := hb3.trans (hbp'.mono hb3.size)
            clear hbp'
            go_wp2_with fail
            refine (refState_any n wp).mono ?_
            rintro e wq ⟨rfl, hbq'⟩
            have hbq := hbp.trans (hbq'.mono hbp.size)
            clear hbq'
            go_wp2_with fail
            refine (codeName_any n wq (HT.out.below hbq).c).mono ?_
            rintro e wr2 ⟨rfl, hbr'⟩
            have hbr := hbq.trans (hbr'.mono hbq.size)
            clear hbr'
            go_wp2_with fail
            refine (refCode_any n wr2).mono ?_
            rintro e ws ⟨rfl, hbs'⟩
            have hbs := hbr.trans (hbs'.mono hbr.size)
            clear hbs'
            go_wp2_with fail
            go_ret
            exact ⟨by simp, hbs⟩
          · rw [show errV E (kindE K) = .nilIface by unfold kindE; rw [if_neg hK0]; rfl]
            have g0 : (K == 0) = false := by simpa using hK0
            have g00 : (K != 0) = true := by unfold bne; rw [g0]; rfl
            go_wp2_with fail
            refine (stateName_any n wr (HT.out.below hbw).s).mono ?_
            rintro e wp ⟨rfl, hbp'⟩
            have hbp := hbw.trans (hbp'.mono hbw.size)
            clear hbp'
            go_wp2_with fail
            refine (refState_any n wp).mono ?_
            rintro e wq ⟨rfl, hbq'⟩
            have hbq := hbp.trans (hbq'.mono hbp.size)
            clear hbq'
            go_wp2_with fail
            refine (codeName_any n wq (HT.out.below hbq).c).mono ?_
            rintro e wr2 ⟨rfl, hbr'⟩
            have hbr := hbq.trans (hbr'.mono hbq.size)
            clear hbr'
            go_wp2_with fail
            refine (refCode_any n wr2).mono ?_
            rintro e ws ⟨rfl, hbs'⟩
            have hbs := hbr.trans (hbs'.mono hbr.size)
            clear hbs'
            go_wp2_with fail
            go_ret
            exact ⟨by simp, hbs⟩
  · have dl : decide (200 < (s.length : Int)) = true := by simp; omega
    have dl' : decide (200 < s.length) = true := by simp; omega
    go_wp2_with fail
    go_ret
    exact ⟨rfl, hb1⟩
end Go.Proofs.YtdhcflghijeloaaDoor
