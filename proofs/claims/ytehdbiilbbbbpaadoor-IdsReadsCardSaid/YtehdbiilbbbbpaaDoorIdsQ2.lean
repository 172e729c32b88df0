/-
  IdsQ2: what the document's four patterns read is what package ids reads. No program.
-/
import Derived.Test.YtehdbiilbbbbpaaDoorIdsQ
namespace Go.Proofs.YtehdbiilbbbbpaaDoor
open Go.RowKit

theorem cutT_split (c : UInt8) : ∀ (l p q : List UInt8), cutT c l = some (p, q) → l = p ++ c :: q
  | [], p, q, h => by simp [cutT] at h
  | x :: xs, p, q, h => by
    unfold cutT at h
    split at h
    · rename_i e
      cases h
      rw [e]; rfl
    · rw [Option.map_eq_some_iff] at h
      obtain ⟨⟨a, b⟩, h1, h2⟩ := h
      cases h2
      rw [cutT_split c xs _ _ h1]; rfl
theorem digs_un (t : List UInt8) : digs t ++ undigs t = t := List.takeWhile_append_dropWhile
theorem digs_all (t : List UInt8) : ∀ x ∈ digs t, digitB x = true := fun x hx => by
  have := List.all_takeWhile (p := digitB) (l := t)
  rw [List.all_eq_true] at this
  exact this x hx
theorem dig_notin {l : List UInt8} {c : UInt8} (h : ∀ x ∈ l, digitB x = true) (hc : digitB c = false) : c ∉ l := fun hm => by
  rw [h c hm] at hc; cases hc
theorem digX_ok {t : List UInt8} {n : Nat} (h : digX t = .ok n) : headB t = true ∧ (∀ x ∈ t, digitB x = true) ∧ n = val7 (t.take 7) := by
  unfold digX digT at h
  split at h
  · rename_i m hm
    split at hm
    · rename_i hc
      cases hm
      cases h
      exact ⟨hc.1, List.all_eq_true.1 hc.2, rfl⟩
    · cases hm
  · cases h
theorem digX_is {t : List UInt8} (h1 : headB t = true) (h2 : ∀ x ∈ t, digitB x = true) : digX t = .ok (val7 (t.take 7)) := by
  unfold digX digT
  rw [if_pos ⟨h1, List.all_eq_true.2 h2⟩]
theorem digX_or (t : List UInt8) : (∃ n, digX t = .ok n) ∨ digX t = .error 3 := by
  unfold digX
  cases digT t with
  | some n => exact .inl ⟨n, rfl⟩
  | none => exact .inr rfl
/-- a number at the end -/
theorem read_end {t : List UInt8} {n : Nat} (h : digX t = .ok n) : readL [35] t = some ([min n 1000000], []) := by
  obtain ⟨h1, h2, h3⟩ := digX_ok h
  have e1 : digs t = t := (tw_all t h2).1
  have e2 : undigs t = [] := (tw_all t h2).2
  rw [readL_hash, e1, if_pos h1, e2, cap_dig t h1 (List.all_eq_true.2 h2), ← h3]
  rfl
theorem end_read {t : List UInt8} {l : List Nat} (h : readL [35] t = some (l, [])) : ∃ n, digX t = .ok n := by
  rw [readL_hash] at h
  split at h
  · rename_i h1
    rw [Option.map_eq_some_iff] at h
    obtain ⟨p, hp, he⟩ := h
    have hu : undigs t = [] := by
      simp only [readL] at hp
      cases hp
      simp only [Prod.mk.injEq] at he
      exact he.2
    have e := digs_un t
    rw [hu, List.append_nil] at e
    exact ⟨_, digX_is (by rw [← e]; exact h1) (by rw [← e]; exact digs_all t)⟩
  · cases h
/-- a number ahead of a sign -/
theorem read_num {p q : List UInt8} {c : UInt8} {n : Nat} (hc : digitB c = false) (h35 : c ≠ 35) (h : digX p = .ok n) (ps : List UInt8) : readL (35 :: c :: ps) (p ++ c :: q) = (readL ps q).map fun x => (min n 1000000 :: x.1, x.2) := by
  obtain ⟨h1, h2, h3⟩ := digX_ok h
  have e1 : digs (p ++ c :: q) = p := (tw_stop p h2 c q hc).1
  have e2 : undigs (p ++ c :: q) = c :: q := (tw_stop p h2 c q hc).2
  rw [readL_hash, e1, if_pos h1, e2, cap_dig p h1 (List.all_eq_true.2 h2), ← h3, readL_sign c ps h35, if_pos rfl]
theorem num_read {t : List UInt8} {c : UInt8} {ps : List UInt8} {l : List Nat} {r : List UInt8} (h35 : c ≠ 35) (h : readL (35 :: c :: ps) t = some (l, r)) : ∃ p q n l', t = p ++ c :: q ∧ digX p = .ok n ∧ readL ps q = some (l', r) := by
  rw [readL_hash] at h
  split at h
  · rename_i h1
    rw [Option.map_eq_some_iff] at h
    obtain ⟨x, hx, he⟩ := h
    have e := digs_un t
    cases hu : undigs t with
    | nil => rw [hu, readL_nil c ps h35] at hx; cases hx
    | cons y ys =>
      rw [hu, readL_sign c ps h35] at hx
      split at hx
      · rename_i e2
        subst e2
        cases he
        refine ⟨digs t, ys, _, x.1, ?_, digX_is h1 (digs_all t), ?_⟩
        · rw [← hu]; exact e.symm
        · exact hx
      · cases hx
  · cases h
theorem two_ok {t : List UInt8} {p : Nat × Nat} (c : UInt8) (h : twoT c t = .ok p) : ∃ a b, t = a ++ c :: b ∧ digX a = .ok p.1 ∧ digX b = .ok p.2 := by
  unfold twoT at h
  split at h
  · cases h
  · rename_i x hx
    split at h
    · cases h
    · rename_i a ha
      split at h
      · cases h
      · rename_i b hb
        cases h
        exact ⟨x.1, x.2, cutT_split c t x.1 x.2 hx, ha, hb⟩
theorem two_is {a b : List UInt8} {n m : Nat} {c : UInt8} (hc : digitB c = false) (ha : digX a = .ok n) (hb : digX b = .ok m) : twoT c (a ++ c :: b) = .ok (n, m) := by
  unfold twoT
  rw [cutT_at c a b (dig_notin (digX_ok ha).2.1 hc)]
  simp only [ha, hb]
theorem two_or (c : UInt8) (t : List UInt8) : (∃ p, twoT c t = .ok p) ∨ twoT c t = .error 3 := by
  unfold twoT
  split
  · exact .inr rfl
  · rename_i x hx
    rcases digX_or x.1 with ⟨a, ha⟩ | ha
    · rcases digX_or x.2 with ⟨b, hb⟩ | hb
      · exact .inl ⟨(a, b), by simp only [ha, hb]⟩
      · exact .inr (by simp only [ha, hb])
    · exact .inr (by simp only [ha])
theorem after_or (c : UInt8) (s : List UInt8) : (∃ t, s = c :: t ∧ afterT c s = .ok t) ∨ (afterT c s = .error 3 ∧ ∀ t, s ≠ c :: t) := by
  unfold afterT
  cases s with
  | nil => exact .inr ⟨rfl, fun t h => by cases h⟩
  | cons x xs =>
    by_cases h : x = c
    · subst h; exact .inl ⟨xs, rfl, if_pos rfl⟩
    · refine .inr ⟨if_neg h, fun t e => ?_⟩
      cases e
      exact h rfl
theorem sign_read {c : UInt8} {ps s : List UInt8} {x : List Nat × List UInt8} (h35 : c ≠ 35) (h : readL (c :: ps) s = some x) : ∃ t, s = c :: t ∧ readL ps t = some x := by
  cases s with
  | nil => rw [readL_nil c ps h35] at h; cases h
  | cons y ys =>
    rw [readL_sign c ps h35] at h
    split at h
    · rename_i e; subst e; exact ⟨ys, rfl, h⟩
    · cases h
theorem read_sign (c : UInt8) (h35 : c ≠ 35) (ps t : List UInt8) : readL (c :: ps) (c :: t) = readL ps t := by
  rw [readL_sign c ps h35, if_pos rfl]
theorem lim_min {n m : Nat} (hm : m ≤ 1000000) : (min n 1000000 < m) ↔ n < m := by omega
theorem nums_node (s : List UInt8) : numsX [110, 35] [4] s = (toNodeT s).map fun n => [n] := by
  unfold toNodeT
  rcases after_or 110 s with ⟨t, rfl, ht⟩ | ⟨ht, hno⟩
  · rw [ht]
    rcases digX_or t with ⟨n, hn⟩ | hn
    · rw [nums_some (l := [min n 1000000]) (by rw [read_sign 110 (by decide)]; exact read_end hn)]
      simp only [Except.bind, hn, limX]
      by_cases h : n ≤ 3
      · rw [if_pos (by simp [below]; omega), if_pos h, show min n 1000000 = n by omega]; rfl
      · rw [if_neg (by simp [below]; omega), if_neg h]; rfl
    · rw [nums_none (fun l hl => by
        rw [read_sign 110 (by decide)] at hl
        obtain ⟨n, h⟩ := end_read hl
        rw [hn] at h; cases h)]
      simp only [Except.bind, hn]; rfl
  · rw [ht, nums_none (fun l hl => by
      obtain ⟨t, h, _⟩ := sign_read (by decide) hl
      exact hno t h)]
    rfl
theorem nums_two (c : UInt8) (h35 : c ≠ 35) (m : Nat) (hm : m + 1 ≤ 1000000) (s : List UInt8) : numsX [c, 35, 46, 35] [4, m + 1] s = ((afterT c s).bind fun t => (twoT 46 t).bind fun p => (limX p.1 3).bind fun _ => (limX p.2 m).bind fun _ => (.ok p : Except Nat (Nat × Nat))).map fun p => [p.1, p.2] := by
  rcases after_or c s with ⟨t, rfl, ht⟩ | ⟨ht, hno⟩
  · rw [ht]
    rcases two_or 46 t with ⟨p, hp⟩ | hp
    · obtain ⟨a, b, rfl, ha, hb⟩ := two_ok 46 hp
      rw [nums_some (l := [min p.1 1000000, min p.2 1000000]) (by rw [read_sign c h35, read_num (by decide) (by decide) ha, read_end hb]; rfl)]
      simp only [Except.bind, hp, limX]
      by_cases h : p.1 ≤ 3
      · by_cases h2 : p.2 ≤ m
        · rw [if_pos (by simp [below]; omega), if_pos h, if_pos h2, show min p.1 1000000 = p.1 by omega, show min p.2 1000000 = p.2 by omega]; rfl
        · rw [if_neg (by simp [below]; omega), if_pos h, if_neg h2]; rfl
      · rw [if_neg (by simp [below]; omega), if_neg h]; rfl
    · rw [nums_none (fun l hl => by
        rw [read_sign c h35] at hl
        obtain ⟨a, q, n, l', rfl, h1, h2⟩ := num_read (by decide) hl
        obtain ⟨k, h3⟩ := end_read h2
        rw [two_is (by decide) h1 h3] at hp; cases hp)]
      simp only [Except.bind, hp]; rfl
  · rw [ht, nums_none (fun l hl => by
      obtain ⟨t, h, _⟩ := sign_read h35 hl
      exact hno t h)]
    rfl
theorem nums_act (s : List UInt8) : numsX [97, 35, 46, 35] [4, 1000000] s = (toActT s).map fun p => [p.1, p.2] := nums_two 97 (by decide) 999999 (by omega) s
theorem nums_part (s : List UInt8) : numsX [112, 35, 46, 35] [4, 8] s = (toPartT s).map fun p => [p.1, p.2] := nums_two 112 (by decide) 7 (by omega) s
theorem reg_form (s : List UInt8) : (∃ a b r n m k, s = 97 :: (a ++ 46 :: (b ++ 47 :: r)) ∧ digX a = .ok n ∧ digX b = .ok m ∧ digX r = .ok k) ∨
    (toRegT s = .error 3 ∧ ∀ a b r n m k, s = 97 :: (a ++ 46 :: (b ++ 47 :: r)) → digX a = .ok n → digX b = .ok m → digX r = .ok k → False) := by
  by_cases hx : ∃ a b r n m k, s = 97 :: (a ++ 46 :: (b ++ 47 :: r)) ∧ digX a = .ok n ∧ digX b = .ok m ∧ digX r = .ok k
  · exact .inl hx
  · refine .inr ⟨?_, fun a b r n m k h1 h2 h3 h4 => hx ⟨a, b, r, n, m, k, h1, h2, h3, h4⟩⟩
    cases hc : cutT 47 s with
    | none => exact toRegT_none hc
    | some c =>
      rw [toRegT_some hc]
      rcases after_or 97 c.1 with ⟨t, he, ht⟩ | ⟨ht, _⟩
      · rw [bind_ok ht]
        rcases two_or 46 t with ⟨p, hp⟩ | hp
        · rw [bind_ok hp]
          rcases digX_or c.2 with ⟨k, hk⟩ | hk
          · obtain ⟨a, b, rfl, ha, hb⟩ := two_ok 46 hp
            refine absurd ⟨a, b, c.2, p.1, p.2, k, ?_, ha, hb, hk⟩ hx
            rw [cutT_split 47 s c.1 c.2 hc, he]
            simp
          · rw [bind_error hk]
        · rw [bind_error hp]
      · rw [bind_error ht]
theorem nums_reg (s : List UInt8) : numsX [97, 35, 46, 35, 47, 35] [4, 1000000, 6] s = (toRegT s).map fun p => [p.1, p.2.1, p.2.2] := by
  rcases reg_form s with ⟨a, b, r, n, m, k, rfl, ha, hb, hr⟩ | ⟨h, hno⟩
  · rw [nums_some (l := [min n 1000000, min m 1000000, min k 1000000]) (by rw [read_sign 97 (by decide), read_num (by decide) (by decide) ha, read_num (by decide) (by decide) hb, read_end hr]; rfl)]
    have hn : (47 : UInt8) ∉ 97 :: (a ++ 46 :: b) := by
      have h1 := dig_notin (c := 47) (digX_ok ha).2.1 (by decide)
      have h2 := dig_notin (c := 47) (digX_ok hb).2.1 (by decide)
      simp [h1, h2]
    have e : (97 : UInt8) :: (a ++ 46 :: (b ++ 47 :: r)) = (97 :: (a ++ 46 :: b)) ++ 47 :: r := by simp
    rw [e, toRegT_some (cutT_at 47 _ r hn)]
    rw [bind_ok (show afterT 97 ((97 : UInt8) :: (a ++ 46 :: b)) = .ok (a ++ 46 :: b) by unfold afterT; exact if_pos rfl), bind_ok (two_is (by decide) ha hb), bind_ok hr]
    simp only [Except.bind, limX]
    by_cases h1 : n ≤ 3
    · by_cases h2 : m ≤ 999999
      · by_cases h3 : k ≤ 5
        · rw [if_pos (by simp [below]; omega), if_pos h1, if_pos h2, if_pos h3, show min n 1000000 = n by omega, show min m 1000000 = m by omega, show min k 1000000 = k by omega]; rfl
        · rw [if_neg (by simp [below]; omega), if_pos h1, if_pos h2, if_neg h3]; rfl
      · rw [if_neg (by simp [below]; omega), if_pos h1, if_neg h2]; rfl
    · rw [if_neg (by simp [below]; omega), if_neg h1]; rfl
  · rw [h, nums_none (fun l hl => by
      obtain ⟨t, rfl, h1⟩ := sign_read (by decide) hl
      obtain ⟨a, q, n, l1, rfl, h2, h3⟩ := num_read (by decide) h1
      obtain ⟨b, r, m, l2, rfl, h4, h5⟩ := num_read (by decide) h3
      obtain ⟨k, h6⟩ := end_read h5
      exact hno a b r n m k rfl h2 h4 h6)]
    rfl
end Go.Proofs.YtehdbiilbbbbpaaDoor
