/-
  LetterP: numbers by tag as rows of fields, and back. No program.
-/
import Derived.Test.YtpbgappggmcmgaaDoorCutLaw
import Derived.Test.YtpbgappggmcmgaaDoorToNum
namespace Go.Proofs.YtpbgappggmcmgaaDoor
open Go.RowKit

/-- the fields of numbers, tags from i + 1 on -/
def tagRow : Nat → List Int → List (Int × List UInt8)
  | _, [] => []
  | i, x :: l => (if x = 0 then [] else [((i : Int) + 1, numB x.toNat)]) ++ tagRow (i + 1) l
theorem tagRow_app : ∀ (l m : List Int) (i : Nat), tagRow i (l ++ m) = tagRow i l ++ tagRow (i + l.length) m
  | [], m, i => by simp [tagRow]
  | x :: l, m, i => by
    have := tagRow_app l m (i + 1)
    simp only [List.cons_append, tagRow, this, List.length_cons, List.append_assoc]
    rw [show i + 1 + l.length = i + (l.length + 1) by omega]
theorem tagRow_take (l : List Int) (k : Nat) (hk : k < l.length) :
    tagRow 0 (l.take (k + 1)) = tagRow 0 (l.take k) ++ (if l[k] = 0 then [] else [((k : Int) + 1, numB l[k].toNat)]) := by
  rw [List.take_succ_eq_append_getElem hk, tagRow_app]
  simp [tagRow, Nat.min_eq_left (Nat.le_of_lt hk)]
theorem tagRow_len : ∀ (l : List Int) (i : Nat), (tagRow i l).length ≤ l.length
  | [], _ => by simp [tagRow]
  | x :: l, i => by
    have := tagRow_len l (i + 1)
    simp only [tagRow]
    split <;> simp <;> omega
/-- numbers that a field may hold -/
def numsOk (l : List Int) : Prop := ∀ x ∈ l, 0 ≤ x ∧ x ≤ 9223372036854775807
theorem numB_len8 {x : Int} (h : x ≤ 9223372036854775807) : (numB x.toNat).length ≤ 8 := by
  refine numB_len 8 ?_
  have : (256 : Nat) ^ 8 = 18446744073709551616 := rfl
  omega
theorem tagRow_ok : ∀ (l : List Int) (i : Nat) (last : Int), numsOk l → 0 ≤ last → last ≤ i → i + l.length ≤ 255 → rowOk last (tagRow i l) = true
  | [], _, _, _, _, _, _ => rfl
  | x :: l, i, last, h, h0, hi, hl => by
    have hx := h x (List.mem_cons_self ..)
    have hr : numsOk l := fun y hy => h y (List.mem_cons_of_mem _ hy)
    simp only [List.length_cons] at hl
    simp only [tagRow]
    split
    · exact tagRow_ok l (i + 1) last hr h0 (by omega) (by omega)
    · simp only [List.cons_append, List.nil_append, rowOk, Bool.and_eq_true, fieldOk, decide_eq_true_eq]
      have := numB_len8 hx.2
      exact ⟨⟨⟨by omega, by omega⟩, by omega⟩, tagRow_ok l (i + 1) _ hr (by omega) (by omega) (by omega)⟩
theorem tagRow_right (l : List Int) (h : numsOk l) (hl : l.length ≤ 16) : rightRow (tagRow 0 l) = true := by
  unfold rightRow
  rw [tagRow_ok l 0 0 h (Int.le_refl _) (Int.le_refl _) (by omega), Bool.and_true, decide_eq_true_eq]
  exact Nat.le_trans (tagRow_len l 0) hl
/-- what a field does to numbers; none: it isn't one -/
def putF (l : List Int) (f : Int × List UInt8) : Option (List Int) :=
  if (l.length : Int) < f.1 ∨ f.2 = [] ∨ toNumE f.2 ≠ 0 then none else some (l.set (f.1 - 1).toNat (toNumF f.2 : Int))
def putsF : List Int → List (Int × List UInt8) → Option (List Int)
  | l, [] => some l
  | l, f :: fs => (putF l f).bind fun l => putsF l fs
theorem putsF_app : ∀ (fs gs : List (Int × List UInt8)) (l : List Int), putsF l (fs ++ gs) = (putsF l fs).bind fun l => putsF l gs
  | [], _, _ => rfl
  | f :: fs, gs, l => by
    simp only [List.cons_append, putsF]
    cases putF l f with
    | none => rfl
    | some m => exact putsF_app fs gs m
theorem putF_len {l m : List Int} {f : Int × List UInt8} (h : putF l f = some m) : m.length = l.length := by
  unfold putF at h
  split at h
  · cases h
  · cases h; simp
theorem putsF_len : ∀ (fs : List (Int × List UInt8)) {l m : List Int}, putsF l fs = some m → m.length = l.length
  | [], _, _, h => by cases h; rfl
  | f :: fs, l, m, h => by
    simp only [putsF] at h
    cases hp : putF l f with
    | none => rw [hp] at h; cases h
    | some x => rw [hp] at h; exact (putsF_len fs h).trans (putF_len hp)
theorem putsF_take (l : List Int) (fs : List (Int × List UInt8)) (k : Nat) (hk : k < fs.length) : putsF l (fs.take (k + 1)) = (putsF l (fs.take k)).bind fun m => putF m fs[k] := by
  rw [List.take_succ_eq_append_getElem hk, putsF_app]
  congr 1
  funext m
  simp only [putsF]
  cases putF m fs[k] <;> rfl
theorem toNum_numB {n : Nat} (h : n ≤ 9223372036854775807) : toNumE (numB n) = 0 ∧ toNumF (numB n) = n := by
  have hv := valB_numB n
  have hh := numB_head n
  have h8 : (numB n).length ≤ 8 := numB_len 8 (by have : (256 : Nat) ^ 8 = 18446744073709551616 := rfl; omega)
  have hE : toNumE (numB n) = 0 := by
    unfold toNumE
    rw [if_neg hh, hv, if_neg (by omega)]
  exact ⟨hE, by unfold toNumF; rw [if_pos hE, hv]⟩
theorem numB_ne {n : Nat} (h : n ≠ 0) : numB n ≠ [] := by rw [numB_pos h]; simp
/-- the fields of numbers are read back -/
theorem puts_tagRow : ∀ (l pre : List Int), numsOk l → putsF (pre ++ List.replicate l.length 0) (tagRow pre.length l) = some (pre ++ l)
  | [], pre, _ => by simp [tagRow, putsF]
  | x :: l, pre, h => by
    have hx := h x (List.mem_cons_self ..)
    have hr : numsOk l := fun y hy => h y (List.mem_cons_of_mem _ hy)
    have ih := puts_tagRow l (pre ++ [x]) hr
    rw [List.length_append, List.length_singleton] at ih
    simp only [tagRow, List.length_cons, List.replicate_succ]
    split
    · rename_i h0
      subst h0
      simpa using ih
    · rename_i h0
      have hn := toNum_numB (n := x.toNat) (by omega)
      have hne := numB_ne (n := x.toNat) (by omega)
      simp only [List.cons_append, List.nil_append, putsF]
      have hp : putF (pre ++ 0 :: List.replicate l.length 0) ((pre.length : Int) + 1, numB x.toNat) = some (pre ++ x :: List.replicate l.length 0) := by
        unfold putF
        rw [if_neg]
        · have e1 : ((pre.length : Int) + 1 - 1).toNat = pre.length := by omega
          have e2 : ((x.toNat : Nat) : Int) = x := by omega
          simp only [hn.2, e1, e2]
          rw [List.set_append_right _ _ (Nat.le_refl _)]
          simp
        · simp only [not_or, List.length_append, List.length_cons, List.length_replicate]
          exact ⟨by omega, hne, by simp [hn.1]⟩
      rw [hp]
      simpa using ih
theorem puts_zero (l : List Int) (h : numsOk l) : putsF (List.replicate l.length 0) (tagRow 0 l) = some l := by
  have := puts_tagRow l [] h
  simpa using this
/-- what is read is numbers, and they are the row's -/
theorem tagRow_puts : ∀ (fs : List (Int × List UInt8)) (pre : List Int) (n : Nat) (m : List Int), rowOk (pre.length : Int) fs = true → putsF (pre ++ List.replicate n 0) fs = some m →
    ∃ l, m = pre ++ l ∧ l.length = n ∧ tagRow pre.length l = fs ∧ numsOk l
  | [], pre, n, m, _, h => by
    cases h
    refine ⟨List.replicate n 0, rfl, by simp, ?_, ?_⟩
    · have : ∀ (n i : Nat), tagRow i (List.replicate n 0) = [] := by
        intro n
        induction n with
        | zero => intro i; rfl
        | succ n ih => intro i; simp [List.replicate_succ, tagRow, ih]
      exact this _ _
    · intro x hx
      rw [List.mem_replicate] at hx
      omega
  | f :: fs, pre, n, m, ho, h => by
    simp only [putsF] at h
    simp only [rowOk, Bool.and_eq_true, fieldOk, decide_eq_true_eq] at ho
    obtain ⟨⟨⟨h1, h2⟩, h3⟩, h4⟩ := ho
    cases hp : putF (pre ++ List.replicate n 0) f with
    | none => rw [hp] at h; cases h
    | some m1 =>
      rw [hp] at h
      unfold putF at hp
      split at hp
      · cases hp
      · rename_i hc
        simp only [not_or, List.length_append, List.length_replicate, Decidable.not_not] at hc
        obtain ⟨hc1, hc2, hc3⟩ := hc
        obtain ⟨j, hj⟩ : ∃ j : Nat, f.1 = (pre.length : Int) + j + 1 := ⟨(f.1 - (pre.length : Int) - 1).toNat, by omega⟩
        have hjn : j < n := by omega
        simp only [Option.some.injEq] at hp
        have e0 : (f.1 - 1).toNat = pre.length + j := by omega
        rw [e0, List.set_append_right _ _ (by omega), show pre.length + j - pre.length = j by omega] at hp
        have e1 : (List.replicate n (0 : Int)).set j (toNumF f.2 : Int) = List.replicate j 0 ++ (toNumF f.2 : Int) :: List.replicate (n - j - 1) 0 := by
          apply List.ext_getElem
          · simp; omega
          · intro i g1 g2
            rw [List.getElem_set]
            split
            · subst_vars; simp
            · rw [List.getElem_append]
              split
              · simp
              · rename_i q1 q2
                simp only [List.length_replicate] at q2
                rw [List.getElem_cons]
                simp only [List.length_replicate]
                rw [dif_neg (by omega)]
                simp
        rw [e1] at hp
        have e2 : m1 = (pre ++ (List.replicate j 0 ++ [(toNumF f.2 : Int)])) ++ List.replicate (n - j - 1) 0 := by rw [← hp]; simp
        rw [e2] at h
        have hlen : (((pre ++ (List.replicate j 0 ++ [(toNumF f.2 : Int)])).length : Nat) : Int) = f.1 := by simp; omega
        obtain ⟨l, hm, hl, ht, hok⟩ := tagRow_puts fs _ (n - j - 1) m (by rw [hlen]; exact h4) h
        refine ⟨List.replicate j 0 ++ (toNumF f.2 : Int) :: l, by rw [hm]; simp, by simp; omega, ?_, ?_⟩
        · have hz : ∀ (n i : Nat), tagRow i (List.replicate n 0) = [] := by
            intro n
            induction n with
            | zero => intro i; rfl
            | succ n ih => intro i; simp [List.replicate_succ, tagRow, ih]
          rw [tagRow_app, hz, List.nil_append, List.length_replicate]
          have hF : toNumF f.2 = valB f.2 := by unfold toNumF; rw [if_pos hc3]
          have hhd : f.2.head? ≠ some 0 := by
            intro hh
            unfold toNumE at hc3
            rw [if_pos hh] at hc3
            cases hc3
          have hb := numB_valB f.2 hhd
          have hv0 : valB f.2 ≠ 0 := by
            intro h0
            rw [h0, numB_zero] at hb
            exact hc2 hb.symm
          simp only [tagRow]
          rw [if_neg (by omega)]
          have e3 : ((pre.length + j : Nat) : Int) + 1 = f.1 := by omega
          rw [e3, show ((toNumF f.2 : Nat) : Int).toNat = toNumF f.2 by omega, hF, hb]
          have e4 : pre.length + j + 1 = (pre ++ (List.replicate j 0 ++ [(toNumF f.2 : Int)])).length := by simp; omega
          rw [e4, ht]
          rfl
        · intro x hx
          rw [List.mem_append, List.mem_cons, List.mem_replicate] at hx
          rcases hx with ⟨_, rfl⟩ | rfl | hx
          · omega
          · refine ⟨by omega, ?_⟩
            unfold toNumF
            rw [if_pos hc3]
            unfold toNumE at hc3
            split at hc3
            · cases hc3
            · split at hc3
              · cases hc3
              · rename_i q
                by_cases h8 : f.2.length = 8
                · omega
                · have := valB_7 f.2 (by omega)
                  omega
          · exact hok x hx
theorem tagRow_inj {l m : List Int} (hl : numsOk l) (hm : numsOk m) (he : l.length = m.length) (h : tagRow 0 l = tagRow 0 m) : l = m := by
  have a := puts_zero l hl
  have b := puts_zero m hm
  rw [h, he, b] at a
  exact (Option.some.inj a).symm
end Go.Proofs.YtpbgappggmcmgaaDoor
