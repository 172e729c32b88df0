/-
  Kept: the contract of liaisonnum.Kept.
-/
import Derived.Test.YtpbgappggmcmgaaDoorNumBytes
namespace Go.Proofs.YtpbgappggmcmgaaDoor
open Go.RowKit

theorem marks_get (l : List UInt8) (k : Nat) (h : k < 6) : (bvs (l ++ marks))[l.length + k]? = some (.int .u8 (201 + k : Int)) := by
  rw [bvs_app, List.getElem?_append_right (by rw [bvs_len]; omega), bvs_len, Nat.add_sub_cancel_left]
  have : k = 0 ∨ k = 1 ∨ k = 2 ∨ k = 3 ∨ k = 4 ∨ k = 5 := by omega
  rcases this with rfl | rfl | rfl | rfl | rfl | rfl <;> rfl

attribute [local go_sem] bs_toList
set_option maxRecDepth 20000 in
set_option maxHeartbeats 1000000 in
theorem kept_any (v1 v2 : Value) (l : List UInt8) (w : World) (h1 : Marked w v1 l) (h2 : Byt w v2 l) :
    Calls Tryd.prog 22 #[v1, v2] w fun e w' => e = .returned (.bool true) ∧ Below w.heap.size w w' := by
  have hB := Marked.byt h1
  have HB2 := Lib.hid h2
  obtain ⟨p1, cap1, rfl, h11, h12, h13⟩ := h1
  obtain ⟨p2, cap2, rfl, h21, h22, h23⟩ := h2
  have H13 := Lib.hid h13; clear h13
  have H23 := Lib.hid h23; clear h23
  unfold maxLen at h12 h22
  obtain ⟨i0, hi, hz0, hz1, hz2⟩ := info_parts byt8Info
  have hc1 := fun w => run_slice_to (P := Tryd.prog) Tryd.underlying27 hi p1 l.length cap1 cap1 (Nat.le_refl _) w
  have hc2 := fun w => run_slice_to (P := Tryd.prog) Tryd.underlying27 hi p1 cap1 cap1 l.length (by omega) w
  have hd : decide ((cap1 : Int) < (l.length : Int) + 6) = false := by simp; omega
  go_enter Tryd.func22, Tryd.ntmps22
  go_wp2_with fail
  refine wp_phi (fun w' => Byt w' (.slice p1 l.length cap1) l ∧ Byt w' (.slice p2 l.length cap2) l ∧ Below w.heap.size w w') [] [] (by kernel_rfl) (by kernel_rfl) ?_ ?_ ⟨hB, HB2.out, (Below.refl _ _).drew⟩ ?_
  · rintro w1 w2 ⟨a1, a2, a3⟩ hb
    exact ⟨a1.below hb, a2.below hb, a3.trans (hb.mono a3.size)⟩
  · intro p hp; cases hp
  repeat (refine phi_pureK rfl rfl (fun K hK => ?_); apply Exists.intro; constructor; (rintro w' ⟨hI1, hI2, hI3⟩; have s1 := run_str (P := Tryd.prog) Tryd.underlying27 Tryd.underlying5 Tryd.underlying9 hI1; have s2 := run_str (P := Tryd.prog) Tryd.underlying27 Tryd.underlying5 Tryd.underlying9 hI2; clear hI1 hI2 hI3; first | (go_simp; (try go_bits); (try go_simp); rfl) | go_simp); simp only [Act.put, List.setIfInBounds_toArray, List.set_cons_succ, List.set_cons_zero]; (try simp only [List.cons_append]); (try simp only [List.nil_append]); apply hK; clear hK K)
  refine phi_done ?_
  rintro w1 ⟨_, _, hbw⟩ _
  refine wpList_nil ?_
  clear hc1 hc2 hd hB HB2
  go_wp2_with fail
  go_loop [6] (fun i => ∃ k : Nat, k ≤ 6 ∧ i = .int .i64 k) (fun i => 6 - (intOf i).toNat)
  case atStart => exact ⟨0, by omega, rfl⟩
  case round =>
    obtain ⟨k, hk, rfl⟩ := hrel
    by_cases hlt : k < 6
    · obtain ⟨b, off, rfl, hc⟩ := (H13.out.keep (Below.keeps hbw)).has (by simp [bvs, marks])
      have hck := hc _ _ (marks_get l k hlt)
      clear hc
      have hne : ((201 + (k : Int)) != (201 + (k : Int))) = false := by simp
      go_wp2_with fail
      go_round
      case rel => exact ⟨k + 1, by omega, by go_num⟩
      case measure => simp [intOf]; omega
    · obtain rfl : k = 6 := by omega
      go_wp2_with fail
      go_ret
      exact ⟨rfl, hbw⟩
end Go.Proofs.YtpbgappggmcmgaaDoor
