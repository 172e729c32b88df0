/-
  CutLaw: rows of fields that are joined, joined behind one another, cut short. No program.
-/
import Derived.Test.YtpbgappggmcmgaaDoorSplitLaw
namespace Go.Proofs.YtpbgappggmcmgaaDoor
open Go.RowKit

/-- a field's bytes ahead of others -/
theorem splitF_one (last : Int) (cnt : Nat) (f : Int × List UInt8) (r : List UInt8) (hok : fieldOk last f = true) (h0 : 0 ≤ last) (hc : cnt < 16) :
    splitF last cnt (fieldB f ++ r) = (f :: (splitF f.1 (cnt + 1) r).1, (splitF f.1 (cnt + 1) r).2) := by
  obtain ⟨t, d⟩ := f
  simp only [fieldOk, Bool.and_eq_true, decide_eq_true_eq] at hok
  obtain ⟨⟨h1, h2⟩, h3⟩ := hok
  have hb : fieldB (t, d) ++ r = UInt8.ofNat (t % 256).toNat :: UInt8.ofNat (d.length / 256) :: UInt8.ofNat d.length :: (d ++ r) := rfl
  rw [hb]
  have hs : sizeOfF (UInt8.ofNat (t % 256).toNat :: UInt8.ofNat (d.length / 256) :: UInt8.ofNat d.length :: (d ++ r)) = d.length := by
    show 256 * (UInt8.ofNat (d.length / 256)).toNat + (UInt8.ofNat d.length).toNat = _
    simp; omega
  have ht : tagOf (UInt8.ofNat (t % 256).toNat :: UInt8.ofNat (d.length / 256) :: UInt8.ofNat d.length :: (d ++ r)) = t := by
    show ((UInt8.ofNat (t % 256).toNat).toNat : Int) = t
    simp; omega
  have hd : dataOf (UInt8.ofNat (t % 256).toNat :: UInt8.ofNat (d.length / 256) :: UInt8.ofNat d.length :: (d ++ r)) = d := by
    unfold dataOf; rw [hs]
    show (d ++ r).take d.length = d
    simp
  have hr : restOf (UInt8.ofNat (t % 256).toNat :: UInt8.ofNat (d.length / 256) :: UInt8.ofNat d.length :: (d ++ r)) = r := by
    unfold restOf; rw [hs]
    show (d ++ r).drop d.length = r
    simp
  rw [splitF_ok (by simp) (by
    unfold fieldBad
    rw [hs, ht, if_neg (by simp), if_neg (by omega), if_neg (by simp)])]
  rw [ht, hd, hr]
theorem splitF_app (fs : List (Int × List UInt8)) : ∀ (last : Int) (cnt : Nat) (r : List UInt8), rowOk last fs = true → 0 ≤ last → cnt + fs.length ≤ 16 →
    splitF last cnt (joinL fs ++ r) = (fs ++ (splitF (lastOf last fs) (cnt + fs.length) r).1, (splitF (lastOf last fs) (cnt + fs.length) r).2) := by
  induction fs with
  | nil => intro last cnt r _ _ _; simp [joinL, lastOf]
  | cons f fs ih =>
    intro last cnt r hok h0 hc
    simp only [rowOk, Bool.and_eq_true] at hok
    simp only [List.length_cons] at hc ⊢
    have e : joinL (f :: fs) ++ r = fieldB f ++ (joinL fs ++ r) := by show (fieldB f ++ joinL fs) ++ r = _; rw [List.append_assoc]
    have hf := hok.1
    simp only [fieldOk, Bool.and_eq_true, decide_eq_true_eq] at hf
    rw [e, splitF_one last cnt f _ hok.1 h0 (by omega), ih f.1 (cnt + 1) r hok.2 (by omega) (by omega)]
    have el : lastOf last (f :: fs) = lastOf f.1 fs := rfl
    rw [el, show cnt + 1 + fs.length = cnt + (fs.length + 1) by omega]
    simp
theorem splitF_row (fs : List (Int × List UInt8)) (last : Int) (cnt : Nat) (hok : rowOk last fs = true) (h0 : 0 ≤ last) (hc : cnt + fs.length ≤ 16) : splitF last cnt (joinL fs) = (fs, none) := by
  have := splitF_app fs last cnt [] hok h0 hc
  simpa [splitF_nil] using this
/-- more fields than there may be -/
theorem splitF_over (fs : List (Int × List UInt8)) : ∀ (last : Int) (cnt : Nat), rowOk last fs = true → 0 ≤ last → cnt ≤ 16 → 16 < cnt + fs.length → (splitF last cnt (joinL fs)).2 ≠ none := by
  induction fs with
  | nil => intro last cnt _ _ h1 h2; simp at h2; omega
  | cons f fs ih =>
    intro last cnt hok h0 h1 h2
    simp only [rowOk, Bool.and_eq_true] at hok
    simp only [List.length_cons] at h2
    have hf := hok.1
    simp only [fieldOk, Bool.and_eq_true, decide_eq_true_eq] at hf
    have e : joinL (f :: fs) = fieldB f ++ joinL fs := rfl
    rw [e]
    by_cases hc : cnt < 16
    · rw [splitF_one last cnt f _ hok.1 h0 hc]
      exact ih f.1 (cnt + 1) hok.2 (by omega) (by omega) (by omega)
    · intro h
      have hne : fieldB f ++ joinL fs ≠ [] := by simp [fieldB]
      cases hb : fieldBad last cnt (fieldB f ++ joinL fs) with
      | some n => rw [splitF_bad hne hb] at h; cases h
      | none => have := cnt_lt hb; omega
/-- a tag that does not go on -/
theorem splitF_back (f : Int × List UInt8) (fs : List (Int × List UInt8)) (last : Int) (cnt : Nat) (h0 : 0 < f.1) (h255 : f.1 ≤ 255) (h : f.1 ≤ last) : (splitF last cnt (joinL (f :: fs))).2 ≠ none := by
  intro h2
  have e : joinL (f :: fs) = fieldB f ++ joinL fs := rfl
  rw [e] at h2
  have hne : fieldB f ++ joinL fs ≠ [] := by simp [fieldB]
  have ht : tagOf (fieldB f ++ joinL fs) = f.1 := by
    show ((UInt8.ofNat (f.1 % 256).toNat).toNat : Int) = f.1
    simp; omega
  cases hb : fieldBad last cnt (fieldB f ++ joinL fs) with
  | some n => rw [splitF_bad hne hb] at h2; cases h2
  | none =>
    unfold fieldBad at hb
    rw [ht] at hb
    split at hb
    · cases hb
    · split at hb
      · cases hb
      · omega
/-- a row that is cut short has fewer fields, where it is one -/
theorem splitF_cut (fs : List (Int × List UInt8)) : ∀ (last : Int) (cnt k : Nat), rowOk last fs = true → 0 ≤ last → cnt + fs.length ≤ 16 → k < (joinL fs).length →
    (splitF last cnt ((joinL fs).take k)).2 = none → (splitF last cnt ((joinL fs).take k)).1.length < fs.length := by
  induction fs with
  | nil => intro last cnt k _ _ _ hk; simp [joinL] at hk
  | cons f fs ih =>
    intro last cnt k hok h0 hc hk h
    simp only [rowOk, Bool.and_eq_true] at hok
    simp only [List.length_cons] at hc ⊢
    have hf := hok.1
    obtain ⟨t, d⟩ := f
    simp only [fieldOk, Bool.and_eq_true, decide_eq_true_eq] at hf
    have e : joinL ((t, d) :: fs) = fieldB (t, d) ++ joinL fs := rfl
    have hfl : (fieldB (t, d)).length = d.length + 3 := rfl
    rw [e] at h hk ⊢
    rw [List.length_append, hfl] at hk
    by_cases hk0 : k = 0
    · subst hk0; rw [List.take_zero, splitF_nil]; simp
    · by_cases hks : k < d.length + 3
      · exfalso
        rw [List.take_append_of_le_length (by omega)] at h
        have hne : (fieldB (t, d)).take k ≠ [] := by
          intro he
          have := congrArg List.length he
          rw [List.length_take, hfl] at this
          simp at this; omega
        cases hb : fieldBad last cnt ((fieldB (t, d)).take k) with
        | some n => rw [splitF_bad hne hb] at h; cases h
        | none =>
          unfold fieldBad at hb
          have hl : ((fieldB (t, d)).take k).length = k := by rw [List.length_take, hfl]; omega
          rw [hl] at hb
          split at hb
          · cases hb
          · rename_i h3
            obtain ⟨j, rfl⟩ : ∃ j, k = j + 3 := ⟨k - 3, by omega⟩
            have hs : sizeOfF ((fieldB (t, d)).take (j + 3)) = d.length := by
              show 256 * (UInt8.ofNat (d.length / 256)).toNat + (UInt8.ofNat d.length).toNat = _
              simp; omega
            rw [hs] at hb
            split at hb
            · cases hb
            · split at hb
              · cases hb
              · omega
      · have ek : (fieldB (t, d) ++ joinL fs).take k = fieldB (t, d) ++ (joinL fs).take (k - (d.length + 3)) := by
          rw [List.take_append, List.take_of_length_le (by rw [hfl]; omega), hfl]
        rw [ek, splitF_one last cnt (t, d) _ hok.1 h0 (by omega)] at h ⊢
        simp only [List.length_cons]
        have := ih t (cnt + 1) (k - (d.length + 3)) hok.2 (by omega) (by omega) (by omega) h
        omega
theorem right_parts {fs : List (Int × List UInt8)} (h : rightRow fs = true) : fs.length ≤ 16 ∧ rowOk 0 fs = true := by
  unfold rightRow at h
  simpa using h
theorem rowOk_lastOf : ∀ (fs : List (Int × List UInt8)) (last : Int), 0 ≤ last → rowOk last fs = true → 0 ≤ lastOf last fs
  | [], last, h, _ => h
  | f :: fs, last, h0, h => by
    simp only [rowOk, fieldOk, Bool.and_eq_true, decide_eq_true_eq] at h
    exact rowOk_lastOf fs f.1 (by omega) h.2
/-- do the tags go on? -/
def goesOn (a b : List (Int × List UInt8)) : Bool := match b with | [] => true | f :: _ => a.isEmpty || decide (lastOf 0 a < f.1)
theorem split_both (a b : List (Int × List UInt8)) (ha : rightRow a = true) (hb : rightRow b = true) :
    (splitE (joinL a ++ joinL b) = 0 ↔ (goesOn a b = true ∧ a.length + b.length ≤ 16)) ∧ (splitE (joinL a ++ joinL b) = 0 → splitL (joinL a ++ joinL b) = a ++ b) := by
  obtain ⟨a1, a2⟩ := right_parts ha
  obtain ⟨b1, b2⟩ := right_parts hb
  have hl := rowOk_lastOf a 0 (by omega) a2
  have h1 := splitF_app a 0 0 (joinL b) a2 (by omega) (by omega)
  rw [Nat.zero_add] at h1
  have key : (splitF (lastOf 0 a) a.length (joinL b)).2 = none ↔ (goesOn a b = true ∧ a.length + b.length ≤ 16) := by
    cases b with
    | nil => simp [joinL, splitF_nil, goesOn, a1]
    | cons f fs =>
      have b3 := b2
      simp only [rowOk, fieldOk, Bool.and_eq_true, decide_eq_true_eq] at b3
      have hgo : goesOn a (f :: fs) = true ↔ lastOf 0 a < f.1 := by
        simp only [goesOn, Bool.or_eq_true, decide_eq_true_eq, List.isEmpty_iff]
        constructor
        · rintro (rfl | h)
          · exact b3.1.1.1
          · exact h
        · exact .inr
      rw [hgo]
      by_cases hlt : lastOf 0 a < f.1
      · have hok : rowOk (lastOf 0 a) (f :: fs) = true := by
          simp only [rowOk, fieldOk, Bool.and_eq_true, decide_eq_true_eq]
          exact ⟨⟨⟨hlt, b3.1.1.2⟩, b3.1.2⟩, b3.2⟩
        by_cases hc : a.length + (f :: fs).length ≤ 16
        · rw [splitF_row (f :: fs) _ _ hok hl hc]
          exact ⟨fun _ => ⟨hlt, hc⟩, fun _ => rfl⟩
        · exact ⟨fun h => absurd h (splitF_over (f :: fs) _ _ hok hl a1 (by omega)), fun h => absurd h.2 hc⟩
      · exact ⟨fun h => absurd h (splitF_back f fs _ _ b3.1.1.1 b3.1.1.2 (by omega)), fun h => absurd h.1 hlt⟩
  have hE : splitE (joinL a ++ joinL b) = 0 ↔ (splitF (lastOf 0 a) a.length (joinL b)).2 = none := by
    unfold splitE; rw [h1]
    cases (splitF (lastOf 0 a) a.length (joinL b)).2 <;> simp
  refine ⟨hE.trans key, fun h => ?_⟩
  have h2 := hE.1 h
  obtain ⟨_, _, h5⟩ := splitF_right (joinL b) (lastOf 0 a) a.length a1 h2
  unfold splitL
  rw [h1, h2]
  simp only
  congr 1
  have h3 := key.1 h2
  cases b with
  | nil => simp [joinL, splitF_nil]
  | cons f fs =>
    have b3 := b2
    simp only [rowOk, fieldOk, Bool.and_eq_true, decide_eq_true_eq] at b3
    have hlt : lastOf 0 a < f.1 := by
      have := h3.1
      simp only [goesOn, Bool.or_eq_true, decide_eq_true_eq, List.isEmpty_iff] at this
      rcases this with rfl | h
      · exact b3.1.1.1
      · exact h
    rw [splitF_row (f :: fs) _ _ (by
      simp only [rowOk, fieldOk, Bool.and_eq_true, decide_eq_true_eq]
      exact ⟨⟨⟨hlt, b3.1.1.2⟩, b3.1.2⟩, b3.2⟩) hl h3.2]
theorem split_joined (fs : List (Int × List UInt8)) (h : rightRow fs = true) : splitE (joinL fs) = 0 ∧ splitL (joinL fs) = fs := by
  obtain ⟨a1, a2⟩ := right_parts h
  unfold splitE splitL
  rw [splitF_row fs 0 0 a2 (by omega) (by omega)]
  exact ⟨rfl, rfl⟩
theorem split_short (fs : List (Int × List UInt8)) (h : rightRow fs = true) (k : Nat) (hk : k < (joinL fs).length) : splitE ((joinL fs).take k) ≠ 0 ∨ (splitL ((joinL fs).take k)).length < fs.length := by
  obtain ⟨a1, a2⟩ := right_parts h
  by_cases hn : (splitF 0 0 ((joinL fs).take k)).2 = none
  · right
    have := splitF_cut fs 0 0 k a2 (by omega) (by omega) hk hn
    unfold splitL; rw [hn]; exact this
  · left
    unfold splitE
    cases hx : (splitF 0 0 ((joinL fs).take k)).2 with
    | none => exact absurd hx hn
    | some n => simp
end Go.Proofs.YtpbgappggmcmgaaDoor
