/-
  RefAll: the document's All and Until.
-/
import Derived.Test.YtliapmjocgohfaaDoorActs
import Derived.Test.YtliapmjocgohfaaDoorTryNil
namespace Go.Proofs.YtliapmjocgohfaaDoor
open Go.RowKit Go.Extern.Stop Go.Stop Go.Extern

def kErrs (kl : List Nat) : List Nat := kl.map kindE
set_option maxRecDepth 20000 in
set_option maxHeartbeats 2000000 in
theorem refall_any (w : World) (p : Option Addr) (cap : Nat) (kl : List Nat) (hk : ∀ k ∈ kl, k ≤ 21) (hl : kl.length ≤ 100) (hr : Rd w p (ivs (kvs kl))) :
    Calls Tryd.prog 25 #[.slice p kl.length cap] w fun e w' => e = .returned (.tuple #[.int .i64 (badN (kErrs kl) : Int), .int .i64 (firstE (kErrs kl) : Int)]) ∧ w' = w := by
  have HR := Lib.hid hr
  have HK := Lib.hid hk
  clear hr hk
  go_enter Tryd.func25, Tryd.ntmps25
  go_wp2_with fail
  go_loopw [4, 5, 10] (fun n v i wr => ∃ k : Nat, k ≤ kl.length ∧ i = .int .i64 k ∧ n = .int .i64 (badN (kErrs (kl.take k)) : Int) ∧ v = .int .i64 (firstE (kErrs (kl.take k)) : Int) ∧ wr = w) (fun _ _ i _ => kl.length - (intOf i).toNat)
  case atStart => exact ⟨0, by omega, rfl, rfl, rfl, rfl⟩
  case round =>
    obtain ⟨k, hk, rfl, rfl, rfl, rfl⟩ := hrel
    by_cases hlt : k < kl.length
    · obtain ⟨b, off, rfl, hc⟩ := iv_cell HR.out (show k < (kvs kl).length by rw [kvs_len]; exact hlt)
      rw [kvs_get kl k hlt] at hc
      have HE := Lib.hid (referr_any kl[k] (HK.out _ (List.getElem_mem hlt)))
      have ht : kErrs (kl.take (k + 1)) = kErrs (kl.take k) ++ [kindE kl[k]] := by unfold kErrs; rw [List.take_add_one, List.getElem?_eq_getElem hlt, List.map_append]; rfl
      have hbn : badN (kErrs (kl.take k)) ≤ 100 := by have h1 := badN_le (kErrs (kl.take k)); simp only [kErrs, List.length_map, List.length_take] at h1; unfold kErrs; omega
      have HT1 := Lib.hid (show badN (kErrs (kl.take (k + 1))) = badN (kErrs (kl.take k)) + (if kindE kl[k] = 0 then 0 else 1) by rw [ht, badN_snoc])
      have HT2 := Lib.hid (show firstE (kErrs (kl.take (k + 1))) = if firstE (kErrs (kl.take k)) = 0 then kindE kl[k] else firstE (kErrs (kl.take k)) by rw [ht, firstE_snoc])
      have HZ := Lib.hid (badN_zero (kErrs (kl.take k)))
      clear ht
      generalize kindE kl[k] = m at *
      generalize kl[k] = kk at *
      generalize badN (kErrs (kl.take k)) = B at *
      generalize firstE (kErrs (kl.take k)) = F at *
      by_cases hm : m = 0
      · subst hm
        go_wp2_with fail
        refine (HE.out _).mono ?_
        rintro e w1 ⟨rfl, rfl⟩
        go_wp2_with fail
        refine ⟨⟨k + 1, by omega, by simp, by rw [HT1.out]; simp, by rw [HT2.out]; by_cases hF : F = 0 <;> simp [hF], trivial⟩, ?_⟩
        simp [intOf]; omega
      · have hm0 : ((m : Int) == 0) = false := by rw [beq_eq_false_iff_ne]; omega
        have hm1 : (m == 0) = false := by rw [beq_eq_false_iff_ne]; omega
        by_cases hB : B = 0
        · subst hB
          have hF : F = 0 := HZ.out.1 rfl
          subst hF
          have HM := Lib.hid hm
          clear hm
          go_wp2_with fail
          refine (HE.out _).mono ?_
          rintro e w1 ⟨rfl, rfl⟩
          go_wp2_with fail
          refine (HE.out _).mono ?_
          rintro e w1 ⟨rfl, rfl⟩
          go_wp2_with fail
          refine ⟨⟨k + 1, by omega, by simp, by rw [HT1.out, if_neg HM.out]; simp, by rw [HT2.out]; simp, trivial⟩, ?_⟩
          simp [intOf]; omega
        · have hB0 : ((B : Int) == 0) = false := by rw [beq_eq_false_iff_ne]; omega
          have hB1 : (B == 0) = false := by rw [beq_eq_false_iff_ne]; omega
          have HF := Lib.hid (fun h => hB (HZ.out.2 h))
          have HM := Lib.hid hm
          clear hm hB
          go_wp2_with fail
          refine (HE.out _).mono ?_
          rintro e w1 ⟨rfl, rfl⟩
          go_wp2_with fail
          refine ⟨⟨k + 1, by omega, by simp, by rw [HT1.out, if_neg HM.out]; simp, by rw [HT2.out, if_neg HF.out], trivial⟩, ?_⟩
          simp [intOf]; omega
    · obtain rfl : k = kl.length := by omega
      rw [List.take_length]
      go_wp2_with fail
      go_ret2
      exact ⟨rfl, rfl⟩
set_option maxRecDepth 20000 in
set_option maxHeartbeats 2000000 in
theorem refuntil_any (w : World) (p : Option Addr) (cap : Nat) (kl : List Nat) (hk : ∀ k ∈ kl, k ≤ 21) (hl : kl.length ≤ 100) (hr : Rd w p (ivs (kvs kl))) :
    Calls Tryd.prog 27 #[.slice p kl.length cap] w fun e w' => e = .returned (.tuple #[.int .i64 (aheadN (kErrs kl) : Int), .int .i64 (firstE (kErrs kl) : Int)]) ∧ w' = w := by
  have HR := Lib.hid hr
  have HK := Lib.hid hk
  clear hr hk
  go_enter Tryd.func27, Tryd.ntmps27
  go_wp2_with fail
  go_loopw [8] (fun i wr => ∃ k : Nat, k ≤ kl.length ∧ i = .int .i64 k ∧ firstE (kErrs (kl.take k)) = 0 ∧ wr = w) (fun i _ => kl.length - (intOf i).toNat)
  case atStart => exact ⟨0, by omega, rfl, rfl, rfl⟩
  case round =>
    obtain ⟨k, hk, rfl, hf, rfl⟩ := hrel
    by_cases hlt : k < kl.length
    · obtain ⟨b, off, rfl, hc⟩ := iv_cell HR.out (show k < (kvs kl).length by rw [kvs_len]; exact hlt)
      rw [kvs_get kl k hlt] at hc
      have HE := Lib.hid (referr_any kl[k] (HK.out _ (List.getElem_mem hlt)))
      have ht : kErrs (kl.take (k + 1)) = kErrs (kl.take k) ++ [kindE kl[k]] := by unfold kErrs; rw [List.take_add_one, List.getElem?_eq_getElem hlt, List.map_append]; rfl
      have HT2 := Lib.hid (show firstE (kErrs (kl.take (k + 1))) = if firstE (kErrs (kl.take k)) = 0 then kindE kl[k] else firstE (kErrs (kl.take k)) by rw [ht, firstE_snoc])
      have hd : kErrs kl = kErrs (kl.take k) ++ kindE kl[k] :: kErrs (kl.drop (k + 1)) := by
        have : kl = kl.take k ++ kl[k] :: kl.drop (k + 1) := by simp
        conv => lhs; rw [this]
        unfold kErrs
        rw [List.map_append, List.map_cons]
      have HA := Lib.hid (fun hm : kindE kl[k] ≠ 0 => by
        have := aheadN_of (kErrs (kl.take k)) (kErrs (kl.drop (k + 1))) (kindE kl[k]) hf hm
        rw [← hd, show (kErrs (kl.take k)).length = k by simp [kErrs]; omega] at this
        exact this)
      have HF := Lib.hid hf
      clear ht hd hf
      generalize kindE kl[k] = m at *
      generalize kl[k] = kk at *
      by_cases hm : m = 0
      · subst hm
        go_wp2_with fail
        refine (HE.out _).mono ?_
        rintro e w1 ⟨rfl, rfl⟩
        go_wp2_with fail
        refine ⟨⟨k + 1, by omega, by simp, by rw [HT2.out, if_pos HF.out], trivial⟩, ?_⟩
        simp [intOf]; omega
      · have hm0 : ((m : Int) == 0) = false := by rw [beq_eq_false_iff_ne]; omega
        have hm1 : (m == 0) = false := by rw [beq_eq_false_iff_ne]; omega
        have HA' := Lib.hid (HA.out hm)
        clear hm HA
        go_wp2_with fail
        refine (HE.out _).mono ?_
        rintro e w1 ⟨rfl, rfl⟩
        go_wp2_with fail
        refine (HE.out _).mono ?_
        rintro e w1 ⟨rfl, rfl⟩
        go_wp2_with fail
        go_ret2
        rw [HA'.out.1, HA'.out.2]
        exact ⟨rfl, rfl⟩
    · obtain rfl : k = kl.length := by omega
      rw [List.take_length] at hf
      have HT := Lib.hid hf
      have HA := Lib.hid (show aheadN (kErrs kl) = kl.length by rw [aheadN_all _ hf]; simp [kErrs])
      clear hf
      go_wp2_with fail
      go_ret2
      rw [HT.out, HA.out]
      exact ⟨rfl, rfl⟩
end Go.Proofs.YtliapmjocgohfaaDoor
