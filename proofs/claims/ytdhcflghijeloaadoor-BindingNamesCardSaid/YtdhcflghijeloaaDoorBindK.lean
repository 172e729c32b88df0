/-
  BindK: the walk of binding.Kind.
-/
import Derived.Test.YtdhcflghijeloaaDoorBindR
namespace Go.Proofs.YtdhcflghijeloaaDoor
open Go.RowKit
attribute [local go_sem] bs_toList bs_size
attribute [local irreducible] wpPhi

theorem actE_in {n : Int} (h : 1 ≤ n ∧ n ≤ 19) : actE n = 0 := by
  unfold actE
  rw [if_neg]
  rw [kind_nil]; omega
theorem actE_out {n : Int} (h : n < 1 ∨ 19 < n) : actE n = 4 := by
  unfold actE
  rw [if_pos]
  rw [kind_nil]; exact h
/-- which kind s is: K, or none (0) -/
structure KindIs (s : List UInt8) (K : Int) : Prop where
  rng : 0 ≤ K ∧ K ≤ 19
  is : ∀ i : Int, 1 ≤ i → i ≤ 19 → (actF i = s ↔ i = K)
def kindE (K : Int) : Nat := if K = 0 then 4 else 0
set_option maxRecDepth 20000 in
set_option maxHeartbeats 2000000 in
theorem kind_any (s : List UInt8) (K : Int) (hK : KindIs s K) (w : World) (E : Nat → Addr) (he : ErrsOn [3] w E) (ht : Tab w 16 kindsL) :
    Calls Tryd.prog 8 #[.string (bs s)] w (Gives w (.tuple #[.int .i64 K, errV E (kindE K)])) := by
  have HE := Lib.hid he
  have HT := Lib.hid ht
  have HK := Lib.hid hK
  clear he ht hK
  go_enter Tryd.func8, Tryd.ntmps8
  go_wp2_with fail
  go_loopw [7] (fun i wr => ∃ k : Nat, k ≤ 20 ∧ i = .int .i64 k ∧ (K = 0 ∨ (k : Int) ≤ K) ∧ Below w.heap.size w wr) (fun i _ => 20 - (intOf i).toNat)
  case atStart => exact ⟨0, by omega, rfl, by have := HK.out.rng; omega, Below.refl _ _⟩
  case round =>
    obtain ⟨k, hk, rfl, hkK, hbw⟩ := hrel
    by_cases hlt : k < 20
    · have HA := Lib.hid (action_any (k : Int) wr E (HE.out.below hbw) (HT.out.below hbw))
      by_cases hin : 1 ≤ k
      · have hE := actE_in (n := (k : Int)) (by omega)
        rw [hE, errV_nil] at HA
        have hiff := HK.out.is (k : Int) (by omega) (by omega)
        clear hE
        by_cases heq : (k : Int) = K
        · have hs := hiff.2 heq
          have HC := Lib.hid (show (k : Int) = K ∧ kindE K = 0 by refine ⟨heq, ?_⟩; unfold kindE; rw [if_neg (by omega)])
          rw [hs] at HA
          clear hiff heq hs hkK
          go_wp2_with fail
          refine HA.out.mono ?_
          rintro e w2 ⟨rfl, hb2'⟩
          have hb2 := hbw.trans (hb2'.mono hbw.size)
          clear hb2'
          go_wp2_with fail
          go_ret2
          exact ⟨by rw [← HC.out.1]; rw [HC.out.1, HC.out.2]; first | rfl | (rw [← HC.out.1]; rfl), hb2⟩
        · have hs : ¬ actF (k : Int) = s := fun h => heq (hiff.1 h)
          have g1 : (actF (k : Int) == s) = false := by simpa using hs
          have hnext : K = 0 ∨ ((k + 1 : Nat) : Int) ≤ K := by omega
          clear hiff heq hs hkK
          generalize actF (k : Int) = a at *
          go_wp2_with fail
          refine HA.out.mono ?_
          rintro e w2 ⟨rfl, hb2'⟩
          have hb2 := hbw.trans (hb2'.mono hbw.size)
          clear hb2'
          go_wp2_with fail
          go_roundw
          case rel => exact ⟨k + 1, by omega, by go_num, hnext, hb2⟩
          case measure => simp [intOf]; omega
      · obtain rfl : k = 0 := by omega
        have hE := actE_out (n := ((0 : Nat) : Int)) (by omega)
        rw [hE, errV_four] at HA
        have hnext : K = 0 ∨ ((0 + 1 : Nat) : Int) ≤ K := by have := HK.out.rng; omega
        clear hE hkK
        go_wp2_with fail
        refine HA.out.mono ?_
        rintro e w2 ⟨rfl, hb2'⟩
        have hb2 := hbw.trans (hb2'.mono hbw.size)
        clear hb2'
        go_wp2_with fail
        go_roundw
        case rel => exact ⟨0 + 1, by omega, by go_num, hnext, hb2⟩
        case measure => simp [intOf]
    · obtain rfl : k = 20 := by omega
      obtain rfl : K = 0 := by have := HK.out.rng; omega
      have he3 := (HE.out.below hbw).cell 3 rfl
      simp only [errVar, List.getD_cons_zero, List.getD_cons_succ, errAt] at he3
      have HC := Lib.hid (show errV E (kindE 0) = .iface 56 (.pointer (some (E 3))) from rfl)
      clear hkK
      go_wp2_with fail
      go_quiet (fail)
      go_wp2_with fail
      go_ret2
      exact ⟨by rw [HC.out]; rfl, hbw.trans ((below_drewN _ _).mono hbw.size)⟩
end Go.Proofs.YtdhcflghijeloaaDoor
