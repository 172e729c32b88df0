/-
  ScopeB1: contexts' bytes, plainly: rows of fields, and back. No program.
-/
import Derived.Test.YtejdnpbkljdahaaGreatDoorZF
import Derived.Test.YtejdnpbkljdahaaGreatDoorZD
namespace Go.Proofs.YtejdnpbkljdahaaGreatDoor
open Go.RowKit

theorem valB_inj : ∀ (l m : List UInt8), l.length = m.length → valB l = valB m → l = m
  | [], [], _, _ => rfl
  | [], _ :: _, h, _ => by simp at h
  | _ :: _, [], h, _ => by simp at h
  | a :: l, b :: m, h, hv => by
    have hl : l.length = m.length := by simpa using h
    rw [valB_cons, valB_cons, hl] at hv
    have h1 := valB_lt l
    have h2 := valB_lt m
    rw [hl] at h1
    have hpos : 0 < 256 ^ m.length := Nat.pow_pos (by decide)
    have e1 : (a.toNat * 256 ^ m.length + valB l) / 256 ^ m.length = a.toNat := by
      rw [Nat.mul_comm, Nat.mul_add_div hpos, Nat.div_eq_of_lt h1, Nat.add_zero]
    have e2 : (b.toNat * 256 ^ m.length + valB m) / 256 ^ m.length = b.toNat := by
      rw [Nat.mul_comm, Nat.mul_add_div hpos, Nat.div_eq_of_lt h2, Nat.add_zero]
    have hab : a.toNat = b.toNat := by rw [← e1, ← e2, hv]
    have hvv : valB l = valB m := by rw [hab] at hv; omega
    rw [UInt8.toNat_inj.1 hab, valB_inj l m hl hvv]
theorem valB_eight (n : Nat) (h : n < 18446744073709551616) : valB (eightB n) = n := by
  unfold eightB valB
  simp only [List.foldl_cons, List.foldl_nil, byte_wrap]
  omega
theorem eight_valB (l : List UInt8) (h : l.length = 8) : eightB (valB l) = l := by
  have hv := valB_lt l
  rw [h] at hv
  have : (256 : Nat) ^ 8 = 18446744073709551616 := rfl
  exact valB_inj _ _ (by rw [eightB_len, h]) (valB_eight _ (by omega))
theorem toFlt_eight {x : Nat} (hx : x < 18446744073709551616) (hp : plainN x = x) : toFltF (eightB x) = x ∧ toFltE (eightB x) = 0 := by
  have hv := valB_eight x hx
  unfold toFltF toFltE
  rw [hv, eightB_len, hp]
  exact ⟨if_pos ⟨rfl, rfl⟩, if_pos ⟨rfl, rfl⟩⟩
theorem toFlt_back {l : List UInt8} (h : toFltE l = 0) : l = eightB (toFltF l) ∧ plainN (toFltF l) = toFltF l ∧ toFltF l < 18446744073709551616 := by
  unfold toFltE at h
  split at h
  · rename_i hc
    have e : toFltF l = valB l := by unfold toFltF; exact if_pos hc
    rw [e]
    have hv := valB_lt l
    rw [hc.1] at hv
    have : (256 : Nat) ^ 8 = 18446744073709551616 := rfl
    exact ⟨(eight_valB l hc.1).symm, hc.2, by omega⟩
  · cases h
def ctxL (c : Ctx) : List Int := [c.n, c.s, c.o, c.d]
def rowC (c : Ctx) : List (Int × List UInt8) := tagRow 0 (ctxL c) ++ [(5, eightB c.x)]
theorem rightC_nums {c : Ctx} (h : rightC c = true) : numsOk (ctxL c) ∧ c.x ≤ infR := by
  have hx := right_x h
  unfold rightC at h
  simp only [Bool.and_eq_true] at h
  obtain ⟨⟨⟨_, h2⟩, h3⟩, h4⟩ := h
  have hd : 0 ≤ c.d ∧ c.d ≤ 3 := by simpa using h4
  have ho : c.o = 1 ∨ c.o = 2 := by unfold isOut at h3; simpa using h3
  have ha : (0 ≤ c.n ∧ c.n ≤ 3) ∧ 0 ≤ c.s ∧ c.s ≤ 999999 := by
    unfold actB actT numT at h2
    split at h2
    · rename_i q1
      split at h2
      · rename_i q2; exact ⟨q1, q2⟩
      · cases h2
    · cases h2
  refine ⟨?_, hx⟩
  intro y hy
  unfold ctxL at hy
  simp only [List.mem_cons, List.not_mem_nil, or_false] at hy
  rcases hy with rfl | rfl | rfl | rfl <;> omega
theorem lastOf_tagRow : ∀ (l : List Int) (i : Nat) (last : Int), last ≤ i → lastOf last (tagRow i l) ≤ i + l.length
  | [], i, last, h => by simp [tagRow, lastOf]; omega
  | x :: l, i, last, h => by
    have ih := lastOf_tagRow l (i + 1)
    simp only [tagRow, List.length_cons]
    split
    · have := ih last (by omega)
      rw [List.nil_append]
      omega
    · have := ih ((i : Int) + 1) (by omega)
      simp only [lastOf, List.cons_append, List.nil_append, List.foldl_cons] at this ⊢
      omega
theorem rowC_right {c : Ctx} (h : rightC c = true) : rightRow (rowC c) = true := by
  have hn := (rightC_nums h).1
  have h1 := tagRow_ok (ctxL c) 0 0 hn (Int.le_refl _) (Int.le_refl _) (by unfold ctxL; simp)
  have h2 := lastOf_tagRow (ctxL c) 0 0 (Int.le_refl _)
  have h3 := tagRow_len (ctxL c) 0
  have h4 : (ctxL c).length = 4 := rfl
  unfold rightRow rowC
  rw [rowOk_app, h1, Bool.true_and, Bool.and_eq_true, decide_eq_true_eq]
  refine ⟨by rw [List.length_append]; simp; omega, ?_⟩
  rw [h4] at h2
  generalize lastOf 0 (tagRow 0 (ctxL c)) = z at *
  simp [rowOk, fieldOk, eightB_len]
  omega
def encCE (c : Ctx) : Nat := if rightC c then 0 else 4
def encCL (c : Ctx) : List UInt8 := if rightC c then joinL (rowC c) else []
/-- what a field does to a context's numbers and time -/
def putC (st : List Int × Option Nat) (f : Int × List UInt8) : Option (List Int × Option Nat) :=
  if f.1 = 5 then (if toFltE f.2 = 0 then some (st.1, some (toFltF f.2)) else none) else (putF st.1 f).map fun l => (l, st.2)
def putsC : List Int × Option Nat → List (Int × List UInt8) → Option (List Int × Option Nat)
  | st, [] => some st
  | st, f :: fs => (putC st f).bind fun st => putsC st fs
theorem putsC_app : ∀ (fs gs : List (Int × List UInt8)) (st : List Int × Option Nat), putsC st (fs ++ gs) = (putsC st fs).bind fun st => putsC st gs
  | [], _, _ => rfl
  | f :: fs, gs, st => by
    simp only [List.cons_append, putsC]
    cases putC st f with
    | none => rfl
    | some m => exact putsC_app fs gs m
theorem putsC_take (st : List Int × Option Nat) (fs : List (Int × List UInt8)) (k : Nat) (hk : k < fs.length) : putsC st (fs.take (k + 1)) = (putsC st (fs.take k)).bind fun m => putC m fs[k] := by
  rw [List.take_succ_eq_append_getElem hk, putsC_app]
  congr 1
  funext m
  simp only [putsC]
  cases putC m fs[k] <;> rfl
theorem putC_len {st st' : List Int × Option Nat} {f : Int × List UInt8} (h : putC st f = some st') : st'.1.length = st.1.length := by
  unfold putC at h
  split at h
  · split at h
    · cases h; rfl
    · cases h
  · simp only [Option.map_eq_some_iff] at h
    obtain ⟨l, hl, rfl⟩ := h
    exact putF_len hl
theorem putsC_len : ∀ (fs : List (Int × List UInt8)) {st st' : List Int × Option Nat}, putsC st fs = some st' → st'.1.length = st.1.length
  | [], _, _, h => by cases h; rfl
  | f :: fs, st, st', h => by
    simp only [putsC] at h
    cases hp : putC st f with
    | none => rw [hp] at h; cases h
    | some x => rw [hp] at h; exact (putsC_len fs h).trans (putC_len hp)
theorem putsC_low : ∀ (fs : List (Int × List UInt8)) (l : List Int) (o : Option Nat), (∀ f ∈ fs, f.1 ≠ 5) → putsC (l, o) fs = (putsF l fs).map fun l => (l, o)
  | [], _, _, _ => rfl
  | f :: fs, l, o, h => by
    simp only [putsC, putsF, putC]
    rw [if_neg (h f (List.mem_cons_self ..))]
    cases putF l f with
    | none => rfl
    | some m => exact putsC_low fs m o (fun g hg => h g (List.mem_cons_of_mem _ hg))
theorem tagRow_tags : ∀ (l : List Int) (i : Nat) (f : Int × List UInt8), f ∈ tagRow i l → f.1 ≤ i + l.length
  | [], _, f, h => by simp [tagRow] at h
  | x :: l, i, f, h => by
    simp only [tagRow, List.mem_append] at h
    rcases h with h | h
    · split at h
      · simp at h
      · simp only [List.mem_singleton] at h
        subst h
        simp only [List.length_cons]
        omega
    · have := tagRow_tags l (i + 1) f h
      simp only [List.length_cons]
      omega
/-- a row that was read: numbers, and the time last -/
theorem putsC_split : ∀ (fs : List (Int × List UInt8)) (l l' : List Int) (last x : Int) (y : Nat), l.length = 4 → rowOk last fs = true → putsC (l, none) fs = some (l', some y) →
    ∃ gs f2, fs = gs ++ [(5, f2)] ∧ putsF l gs = some l' ∧ rowOk last gs = true ∧ toFltE f2 = 0 ∧ toFltF f2 = y
  | [], l, l', last, x, y, _, _, h => by cases h
  | f :: fs, l, l', last, x, y, hl, ho, h => by
    simp only [rowOk, Bool.and_eq_true] at ho
    simp only [putsC] at h
    by_cases h5 : f.1 = 5
    · have hp : putC (l, none) f = if toFltE f.2 = 0 then some (l, some (toFltF f.2)) else none := by unfold putC; rw [if_pos h5]
      rw [hp] at h
      split at h
      · rename_i h0
        simp only [Option.bind_some] at h
        cases fs with
        | nil =>
          cases h
          refine ⟨[], f.2, ?_, rfl, rfl, h0, rfl⟩
          show [f] = [(5, f.2)]
          rw [← h5]
        | cons g gs =>
          exfalso
          have ho2 := ho.2
          simp only [rowOk, Bool.and_eq_true, fieldOk, decide_eq_true_eq] at ho2
          have hg : putC (l, some (toFltF f.2)) g = none := by
            unfold putC
            rw [if_neg (by omega)]
            have : putF l g = none := by unfold putF; rw [if_pos (.inl (by rw [hl]; omega))]
            simp only [this]
            rfl
          simp only [putsC, hg] at h
          cases h
      · cases h
    · have hp : putC (l, none) f = (putF l f).map fun l => (l, none) := by unfold putC; rw [if_neg h5]
      rw [hp] at h
      cases hf : putF l f with
      | none => rw [hf] at h; cases h
      | some m =>
        rw [hf] at h
        obtain ⟨gs, f2, e, h1, h2, h3, h4⟩ := putsC_split fs m l' f.1 x y ((putF_len hf).trans hl) ho.2 h
        refine ⟨f :: gs, f2, by rw [e]; rfl, by simp only [putsF, hf]; exact h1, ?_, h3, h4⟩
        simp only [rowOk, Bool.and_eq_true]
        exact ⟨ho.1, h2⟩
def ctxOf (l : List Int) (x : Nat) : Ctx := ⟨l.getD 0 0, l.getD 1 0, l.getD 2 0, l.getD 3 0, x⟩
def endC (st : List Int × Option Nat) : Option Ctx := match st.2 with | none => none | some x => if rightC (ctxOf st.1 x) then some (ctxOf st.1 x) else none
def rowCtx (fs : List (Int × List UInt8)) : Option Ctx := (putsC ([0, 0, 0, 0], none) fs).bind endC
theorem four {l : List Int} (h : l.length = 4) : ∃ a b c d, l = [a, b, c, d] := by
  match l, h with
  | [a, b, c, d], _ => exact ⟨a, b, c, d, rfl⟩
theorem rowCtx_row {c : Ctx} (h : rightC c = true) : rowCtx (rowC c) = some c := by
  obtain ⟨hn, hx⟩ := rightC_nums h
  have hp := plain_small hx
  have hx' : c.x < 18446744073709551616 := by unfold infR at hx; omega
  have hf := toFlt_eight hx' hp
  have hz := puts_zero (ctxL c) hn
  have h5 : ∀ f ∈ tagRow 0 (ctxL c), f.1 ≠ 5 := fun f hf => by
    have := tagRow_tags _ _ f hf
    have h4 : (ctxL c).length = 4 := rfl
    rw [h4] at this
    omega
  have e : putsC ([0, 0, 0, 0], none) (rowC c) = some (ctxL c, some c.x) := by
    unfold rowC
    rw [putsC_app, putsC_low _ _ _ h5, show ([0, 0, 0, 0] : List Int) = List.replicate (ctxL c).length 0 from rfl, hz]
    simp only [Option.map_some, Option.bind_some, putsC, putC]
    rw [if_pos trivial, if_pos hf.2, hf.1]
    rfl
  unfold rowCtx
  rw [e]
  show (if rightC (ctxOf (ctxL c) c.x) then some (ctxOf (ctxL c) c.x) else none) = some c
  exact if_pos h
theorem row_rowCtx {fs : List (Int × List UInt8)} {c : Ctx} (ho : rowOk 0 fs = true) (h : rowCtx fs = some c) : rightC c = true ∧ rowC c = fs := by
  unfold rowCtx at h
  simp only [Option.bind_eq_some_iff] at h
  obtain ⟨⟨l, o⟩, hl, h⟩ := h
  unfold endC at h
  cases o with
  | none => cases h
  | some x =>
    simp only at h
    split at h
    · rename_i hr
      cases h
      obtain ⟨gs, f2, e, h1, h2, h3, h4⟩ := putsC_split fs [0, 0, 0, 0] l 0 0 x rfl ho hl
      obtain ⟨l', e2, hn, ht, _⟩ := tagRow_puts gs [] 4 l h2 (by simpa using h1)
      rw [List.nil_append] at e2
      subst e2
      obtain ⟨b1, _, _⟩ := toFlt_back h3
      rw [h4] at b1
      refine ⟨hr, ?_⟩
      obtain ⟨a, b, c, d, rfl⟩ := four hn
      show tagRow 0 [a, b, c, d] ++ [(5, eightB x)] = fs
      rw [e, ← b1, show tagRow 0 [a, b, c, d] = gs from ht]
    · cases h
def decCE (b : List UInt8) : Nat := if splitE b = 0 then (if (rowCtx (splitL b)).isSome then 0 else 4) else splitE b
def decCC (b : List UInt8) : Ctx := if splitE b = 0 then (rowCtx (splitL b)).getD ctx0 else ctx0
theorem split_ok {b : List UInt8} (h : splitE b = 0) : rightRow (splitL b) = true ∧ joinL (splitL b) = b := by
  have := split_law b h
  unfold joinE joinR at this
  split at this
  · rename_i hr
    exact ⟨hr, this.2⟩
  · exact absurd this.1 (by decide)
theorem decC_encC {c : Ctx} (h : rightC c = true) : decCE (encCL c) = 0 ∧ decCC (encCL c) = c := by
  have hj := split_joined _ (rowC_right h)
  have e : encCL c = joinL (rowC c) := by unfold encCL; rw [if_pos h]
  unfold decCE decCC
  rw [e, hj.1, if_pos rfl, if_pos rfl, hj.2, rowCtx_row h]
  exact ⟨rfl, rfl⟩
theorem encC_decC {b : List UInt8} (h : decCE b = 0) : rightC (decCC b) = true ∧ encCL (decCC b) = b := by
  unfold decCE at h
  unfold decCC
  split at h
  · rename_i h2
    rw [if_pos h2]
    obtain ⟨hr, hj⟩ := split_ok h2
    split at h
    · rename_i h3
      obtain ⟨m, hm⟩ := Option.isSome_iff_exists.1 h3
      obtain ⟨a1, a2⟩ := row_rowCtx (right_parts hr).2 hm
      rw [hm]
      refine ⟨a1, ?_⟩
      show encCL m = b
      unfold encCL
      rw [if_pos a1, a2, hj]
    · cases h
  · rename_i h2; exact absurd h h2
theorem decCE_le (b : List UInt8) : decCE b ≤ 14 := by
  unfold decCE
  split
  · split <;> omega
  · exact splitE_le b
end Go.Proofs.YtejdnpbkljdahaaGreatDoor
