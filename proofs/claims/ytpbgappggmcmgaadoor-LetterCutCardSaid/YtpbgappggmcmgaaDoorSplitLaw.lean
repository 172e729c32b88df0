/-
  SplitLaw: what is split is a right row, and its bytes are the same. No program.
-/
import Derived.Test.YtpbgappggmcmgaaDoorSplitW
import Derived.Test.YtpbgappggmcmgaaDoorJoinW
namespace Go.Proofs.YtpbgappggmcmgaaDoor
open Go.RowKit

theorem splitF_right (b : List UInt8) : ∀ (last : Int) (cnt : Nat), cnt ≤ 16 → (splitF last cnt b).2 = none →
    rowOk last (splitF last cnt b).1 = true ∧ cnt + (splitF last cnt b).1.length ≤ 16 ∧ joinL (splitF last cnt b).1 = b := by
  induction hn : b.length using Nat.strongRecOn generalizing b with
  | _ n ih =>
    intro last cnt hc h
    by_cases hb : b = []
    · subst hb
      rw [splitF_nil] at *
      exact ⟨rfl, by simpa using hc, rfl⟩
    · cases hf : fieldBad last cnt b with
      | some m => rw [splitF_bad hb hf] at h; cases h
      | none =>
        rw [splitF_ok hb hf] at h ⊢
        have h16 := cnt_lt hf
        obtain ⟨i1, i2, i3⟩ := ih (restOf b).length (by rw [← hn]; exact rest_lt hf) (restOf b) rfl (tagOf b) (cnt + 1) (by omega) h
        have hbd := tagOf_bd b
        match b, hb, hf, i1, i2, i3, hbd with
        | x0 :: x1 :: x2 :: r, _, hf, i1, i2, i3, hbd =>
          have hsz : sizeOfF (x0 :: x1 :: x2 :: r) = 256 * x1.toNat + x2.toNat := rfl
          have ht : tagOf (x0 :: x1 :: x2 :: r) = (x0.toNat : Int) := rfl
          have hd : dataOf (x0 :: x1 :: x2 :: r) = r.take (256 * x1.toNat + x2.toNat) := by unfold dataOf; rw [hsz]; rfl
          have hr : restOf (x0 :: x1 :: x2 :: r) = r.drop (256 * x1.toNat + x2.toNat) := by unfold restOf; rw [hsz]; rfl
          unfold fieldBad at hf
          rw [hsz, ht] at hf
          simp only [List.length_cons] at hf
          split at hf
          · cases hf
          · split at hf
            · cases hf
            · split at hf
              · cases hf
              · rename_i q1 q2 q3
                have y0 := x0.toNat_lt
                have y1 := x1.toNat_lt
                have y2 := x2.toNat_lt
                have hlen : (r.take (256 * x1.toNat + x2.toNat)).length = 256 * x1.toNat + x2.toNat := by rw [List.length_take]; omega
                refine ⟨?_, ?_, ?_⟩
                · simp only [rowOk, i1, Bool.and_true, fieldOk, Bool.and_eq_true, decide_eq_true_eq]
                  rw [hd, hlen, ht]
                  omega
                · simp only [List.length_cons]; omega
                · have e : ∀ (f : Int × List UInt8) fs, joinL (f :: fs) = fieldB f ++ joinL fs := fun _ _ => rfl
                  rw [e, i3, hr, ht, hd]
                  unfold fieldB
                  simp only [hlen]
                  have e0 : UInt8.ofNat ((x0.toNat : Int) % 256).toNat = x0 := by
                    apply UInt8.toNat_inj.1; simp; omega
                  have e1 : UInt8.ofNat ((256 * x1.toNat + x2.toNat) / 256) = x1 := by
                    apply UInt8.toNat_inj.1; simp; omega
                  have e2 : UInt8.ofNat (256 * x1.toNat + x2.toNat) = x2 := by
                    apply UInt8.toNat_inj.1; simp
                  rw [e0, e1, e2]
                  simp
        | [_], _, hf, _, _, _, _ => simp [fieldBad] at hf
        | [_, _], _, hf, _, _, _, _ => simp [fieldBad] at hf
theorem split_law (b : List UInt8) (h : splitE b = 0) : joinE (splitL b) = 0 ∧ joinR (splitL b) = b := by
  unfold splitE at h
  split at h
  · rename_i h2
    obtain ⟨a1, a2, a3⟩ := splitF_right b 0 0 (by omega) h2
    have hL : splitL b = (splitF 0 0 b).1 := by unfold splitL; rw [h2]
    have hR : rightRow (splitL b) = true := by unfold rightRow; rw [hL, a1]; simp; omega
    unfold joinE joinR
    rw [hR, hL]
    exact ⟨rfl, a3⟩
  · omega
theorem splitE_le (b : List UInt8) : splitE b ≤ 14 := by
  unfold splitE
  split
  · omega
  · rename_i n h
    have : ∀ (m : Nat) (b : List UInt8), b.length ≤ m → ∀ (last : Int) (cnt n : Nat), (splitF last cnt b).2 = some n → n < 14 := by
      intro m
      induction m with
      | zero =>
        intro b hb last cnt n h
        obtain rfl : b = [] := List.length_eq_zero_iff.1 (by omega)
        rw [splitF_nil] at h; cases h
      | succ m ih =>
        intro b hb last cnt n h
        by_cases h0 : b = []
        · subst h0; rw [splitF_nil] at h; cases h
        · cases hf : fieldBad last cnt b with
          | some k => rw [splitF_bad h0 hf] at h; cases h; exact fieldBad_lt hf
          | none =>
            rw [splitF_ok h0 hf] at h
            have := rest_lt hf
            exact ih (restOf b) (by omega) _ _ n h
    have := this b.length b (Nat.le_refl _) 0 0 n h
    omega

end Go.Proofs.YtpbgappggmcmgaaDoor
