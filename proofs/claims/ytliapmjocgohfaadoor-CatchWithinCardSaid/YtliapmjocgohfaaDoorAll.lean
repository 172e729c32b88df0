/-
  All: catch.All and catch.Until over a list of acts.
-/
import Derived.Test.YtliapmjocgohfaaDoorOne
namespace Go.Proofs.YtliapmjocgohfaaDoor
open Go.RowKit Go.Extern.Stop Go.Stop Go.Extern

/-- how many panic; the first one's error; how many ahead of it -/
def badN (ms : List Nat) : Nat := (ms.filter (fun m => m != 0)).length
def firstE : List Nat → Nat
  | [] => 0
  | m :: ms => if m = 0 then firstE ms else m
def aheadN : List Nat → Nat
  | [] => 0
  | m :: ms => if m = 0 then aheadN ms + 1 else 0
theorem badN_snoc (ms : List Nat) (m : Nat) : badN (ms ++ [m]) = badN ms + (if m = 0 then 0 else 1) := by
  unfold badN; by_cases h : m = 0 <;> simp [h]
theorem firstE_snoc (ms : List Nat) (m : Nat) : firstE (ms ++ [m]) = if firstE ms = 0 then m else firstE ms := by
  induction ms with
  | nil => by_cases h : m = 0 <;> simp [firstE, h]
  | cons x xs ih => by_cases h : x = 0 <;> simp [firstE, h, ih]
theorem badN_zero (ms : List Nat) : badN ms = 0 ↔ firstE ms = 0 := by
  induction ms with
  | nil => simp [badN, firstE]
  | cons x xs ih => by_cases h : x = 0 <;> simp_all [badN, firstE]
theorem badN_le (ms : List Nat) : badN ms ≤ ms.length := List.length_filter_le _ _
theorem firstE_le (ms : List Nat) (h : ∀ m ∈ ms, m ≤ 14) : firstE ms ≤ 14 := by
  induction ms with
  | nil => simp [firstE]
  | cons x xs ih =>
    unfold firstE
    split
    · exact ih (fun m hm => h m (List.mem_cons_of_mem _ hm))
    · exact h x (List.mem_cons_self ..)
theorem aheadN_of (a b : List Nat) (m : Nat) (ha : firstE a = 0) (hm : m ≠ 0) : aheadN (a ++ m :: b) = a.length ∧ firstE (a ++ m :: b) = m := by
  induction a with
  | nil => simp [aheadN, firstE, hm]
  | cons x xs ih =>
    by_cases h : x = 0
    · subst h
      simp only [firstE, if_true] at ha
      have := ih ha
      simp [aheadN, firstE, this]
    · simp [firstE, h] at ha
theorem aheadN_all (a : List Nat) (ha : firstE a = 0) : aheadN a = a.length := by
  induction a with
  | nil => rfl
  | cons x xs ih =>
    by_cases h : x = 0
    · subst h
      simp only [firstE, if_true] at ha
      simp [aheadN, ih ha]
    · simp [firstE, h] at ha
/-- acts in a row: the i-th brings C i to C (i + 1) -/
structure Acting (S : List Nat) (w0 : World) (E : Nat → Addr) (C : Nat → World → Prop) (p : Option Addr) (vs : List Value) (ms : List Nat) : Prop where
  len : vs.length = ms.length
  few : vs.length ≤ 1000
  sub : ∀ s ∈ S, s < w0.heap.size
  stays : ∀ i w w', C i w → Below w0.heap.size w w' → C i w'
  errs : ∀ w', But S w0 w' → Errs w' E
  row : ∀ w', But S w0 w' → Rd w' p vs
  small : ∀ m ∈ ms, m ≤ 14
  act : ∀ (i : Nat) v m, vs[i]? = some v → ms[i]? = some m → ActAt S w0 E (C i) (C (i + 1)) m v
theorem fv_cell {w : World} {p : Option Addr} {vs : List Value} (h : Rd w p vs) {k : Nat} (hk : k < vs.length) :
    ∃ b off, p = some ⟨b, off, none⟩ ∧ w.cell? ⟨b, off + k, none⟩ = some vs[k] := by
  obtain ⟨b, off, hp, hc⟩ := h.has (by intro e; subst e; simp at hk)
  exact ⟨b, off, hp, hc k _ (List.getElem?_eq_getElem hk)⟩
set_option maxRecDepth 20000 in
set_option maxHeartbeats 2000000 in
theorem all_any (S : List Nat) (w0 : World) (E : Nat → Addr) (C : Nat → World → Prop) (p : Option Addr) (cap : Nat) (vs : List Value) (ms : List Nat) (h : Acting S w0 E C p vs ms) (hC : C 0 w0) :
    Calls Tryd.prog 23 #[.slice p vs.length cap] w0 fun e w' => e = .returned (.tuple #[.int .i64 (badN ms : Int), errV E (firstE ms)]) ∧ But S w0 w' ∧ C vs.length w' := by
  have HC := Lib.hid hC
  have HB := Lib.hid (But.of_below (S := S) (Below.refl w0.heap.size w0))
  have hfew := h.few
  clear hC
  go_enter Tryd.func23, Tryd.ntmps23
  go_wp2_with fail
  go_loopw [4, 5, 11] (fun n v i wr => ∃ k : Nat, k ≤ vs.length ∧ i = .int .i64 k ∧ n = .int .i64 (badN (ms.take k) : Int) ∧ v = errV E (firstE (ms.take k)) ∧ But S w0 wr ∧ C k wr) (fun _ _ i _ => vs.length - (intOf i).toNat)
  case atStart => exact ⟨0, by omega, rfl, rfl, rfl, HB.out, HC.out⟩
  case round =>
    obtain ⟨k, hk, rfl, rfl, rfl, hbut, hc⟩ := hrel
    by_cases hlt : k < vs.length
    · have hlm : k < ms.length := by rw [← h.len]; exact hlt
      obtain ⟨b, off, rfl, hc0⟩ := fv_cell (h.row wr hbut) hlt
      have hone := one_any S w0 wr E (C k) (C (k + 1)) ms[k] (h.small _ (List.getElem_mem hlm)) vs[k] h.sub (h.stays k) (h.stays (k + 1)) h.errs (h.act k _ _ (List.getElem?_eq_getElem hlt) (List.getElem?_eq_getElem hlm)) hbut hc
      have ht : ms.take (k + 1) = ms.take k ++ [ms[k]] := by rw [List.take_add_one, List.getElem?_eq_getElem hlm]; rfl
      have hbn : badN (ms.take k) ≤ 1000 := by have h1 := badN_le (ms.take k); have h2 := h.few; rw [List.length_take] at h1; omega
      have HT1 := Lib.hid (show badN (ms.take (k + 1)) = badN (ms.take k) + (if ms[k] = 0 then 0 else 1) by rw [ht, badN_snoc])
      have HT2 := Lib.hid (show firstE (ms.take (k + 1)) = if firstE (ms.take k) = 0 then ms[k] else firstE (ms.take k) by rw [ht, firstE_snoc])
      have HZ := Lib.hid (badN_zero (ms.take k))
      have HONE := Lib.hid hone
      generalize vs[k] = v at *
      generalize ms[k] = m at *
      generalize badN (ms.take k) = B at *
      generalize firstE (ms.take k) = F at *
      have HLT := Lib.hid hlt
      clear hone ht hbut hc hlm
      by_cases hm : m = 0
      · subst hm
        go_wp2_with fail
        refine HONE.out.mono ?_
        rintro e w1 ⟨rfl, hb1, hc1⟩
        have HB1 := Lib.hid hb1
        have HC1 := Lib.hid hc1
        clear hb1 hc1
        rw [errV_zero]
        go_wp2_with fail
        refine ⟨⟨k + 1, by have := HLT.out; omega, by simp, by rw [HT1.out]; simp, by rw [HT2.out]; by_cases hF : F = 0 <;> simp [hF], HB1.out, HC1.out⟩, ?_⟩
        simp [intOf]; have := HLT.out; omega
      · obtain ⟨n, rfl⟩ : ∃ n, m = n + 1 := ⟨m - 1, by omega⟩
        by_cases hB : B = 0
        · subst hB
          have hF : F = 0 := HZ.out.1 rfl
          subst hF
          go_wp2_with fail
          refine HONE.out.mono ?_
          rintro e w1 ⟨rfl, hb1, hc1⟩
          have HB1 := Lib.hid hb1
          have HC1 := Lib.hid hc1
          clear hb1 hc1
          rw [errV_suc]
          go_wp2_with fail
          refine ⟨⟨k + 1, by have := HLT.out; omega, by simp, by rw [HT1.out]; simp, by rw [HT2.out]; simp [errV_suc], HB1.out, HC1.out⟩, ?_⟩
          simp [intOf]; have := HLT.out; omega
        · have hF : F ≠ 0 := fun h => hB (HZ.out.2 h)
          have hB0 : ((B : Int) == 0) = false := by rw [beq_eq_false_iff_ne]; omega
          have hB1 : (B == 0) = false := by rw [beq_eq_false_iff_ne]; omega
          have HF := Lib.hid hF
          clear hB hF
          go_wp2_with fail
          refine HONE.out.mono ?_
          rintro e w1 ⟨rfl, hb1, hc1⟩
          have HB1 := Lib.hid hb1
          have HC1 := Lib.hid hc1
          clear hb1 hc1
          rw [errV_suc]
          go_wp2_with fail
          refine ⟨⟨k + 1, by have := HLT.out; omega, by simp, by rw [HT1.out]; simp, by rw [HT2.out, if_neg HF.out], HB1.out, HC1.out⟩, ?_⟩
          simp [intOf]; have := HLT.out; omega
    · obtain rfl : k = vs.length := by omega
      have HB := Lib.hid hbut
      have HC := Lib.hid hc
      have HT := Lib.hid (show ms.take vs.length = ms by rw [h.len]; simp)
      clear hbut hc
      go_wp2_with fail
      go_ret2
      rw [HT.out]
      exact ⟨rfl, HB.out, HC.out⟩
set_option maxRecDepth 20000 in
set_option maxHeartbeats 2000000 in
theorem until_any (S : List Nat) (w0 : World) (E : Nat → Addr) (C : Nat → World → Prop) (p : Option Addr) (cap : Nat) (vs : List Value) (ms : List Nat) (h : Acting S w0 E C p vs ms) (hC : C 0 w0) :
    Calls Tryd.prog 26 #[.slice p vs.length cap] w0 fun e w' => e = .returned (.tuple #[.int .i64 (aheadN ms : Int), errV E (firstE ms)]) ∧ But S w0 w' := by
  have HC := Lib.hid hC
  have HB := Lib.hid (But.of_below (S := S) (Below.refl w0.heap.size w0))
  have hfew := h.few
  clear hC
  go_enter Tryd.func26, Tryd.ntmps26
  go_wp2_with fail
  go_loopw [9] (fun i wr => ∃ k : Nat, k ≤ vs.length ∧ i = .int .i64 k ∧ firstE (ms.take k) = 0 ∧ But S w0 wr ∧ C k wr) (fun i _ => vs.length - (intOf i).toNat)
  case atStart => exact ⟨0, by omega, rfl, rfl, HB.out, HC.out⟩
  case round =>
    obtain ⟨k, hk, rfl, hf, hbut, hc⟩ := hrel
    by_cases hlt : k < vs.length
    · have hlm : k < ms.length := by rw [← h.len]; exact hlt
      obtain ⟨b, off, rfl, hc0⟩ := fv_cell (h.row wr hbut) hlt
      have hone := one_any S w0 wr E (C k) (C (k + 1)) ms[k] (h.small _ (List.getElem_mem hlm)) vs[k] h.sub (h.stays k) (h.stays (k + 1)) h.errs (h.act k _ _ (List.getElem?_eq_getElem hlt) (List.getElem?_eq_getElem hlm)) hbut hc
      have ht : ms.take (k + 1) = ms.take k ++ [ms[k]] := by rw [List.take_add_one, List.getElem?_eq_getElem hlm]; rfl
      have HT2 := Lib.hid (show firstE (ms.take (k + 1)) = if firstE (ms.take k) = 0 then ms[k] else firstE (ms.take k) by rw [ht, firstE_snoc])
      have hd : ms = ms.take k ++ ms[k] :: ms.drop (k + 1) := by simp
      have HA := Lib.hid (fun hm : ms[k] ≠ 0 => by
        have := aheadN_of (ms.take k) (ms.drop (k + 1)) ms[k] hf hm
        rw [← hd] at this
        rwa [List.length_take, Nat.min_eq_left (Nat.le_of_lt hlm)] at this)
      have HONE := Lib.hid hone
      have HF := Lib.hid hf
      generalize vs[k] = v at *
      generalize ms[k] = m at *
      have HLT := Lib.hid hlt
      clear hone ht hbut hc hlm hd hf
      by_cases hm : m = 0
      · subst hm
        go_wp2_with fail
        refine HONE.out.mono ?_
        rintro e w1 ⟨rfl, hb1, hc1⟩
        have HB1 := Lib.hid hb1
        have HC1 := Lib.hid hc1
        clear hb1 hc1
        rw [errV_zero]
        go_wp2_with fail
        refine ⟨⟨k + 1, by have := HLT.out; omega, by simp, by rw [HT2.out, if_pos HF.out], HB1.out, HC1.out⟩, ?_⟩
        simp [intOf]; have := HLT.out; omega
      · have HA' := Lib.hid (HA.out hm)
        obtain ⟨n, rfl⟩ : ∃ n, m = n + 1 := ⟨m - 1, by omega⟩
        clear hm HA
        go_wp2_with fail
        refine HONE.out.mono ?_
        rintro e w1 ⟨rfl, hb1, hc1⟩
        have HB1 := Lib.hid hb1
        clear hb1 hc1
        rw [errV_suc]
        go_wp2_with fail
        go_ret2
        rw [HA'.out.1, HA'.out.2, errV_suc]
        exact ⟨rfl, HB1.out⟩
    · obtain rfl : k = vs.length := by omega
      have HB := Lib.hid hbut
      have HT := Lib.hid (show firstE ms = 0 by rw [h.len] at hf; simpa using hf)
      have HA := Lib.hid (show aheadN ms = vs.length by rw [aheadN_all ms HT.out, h.len])
      clear hbut hc hf
      go_wp2_with fail
      go_ret2
      rw [HT.out, HA.out]
      exact ⟨rfl, HB.out⟩
end Go.Proofs.YtliapmjocgohfaaDoor
