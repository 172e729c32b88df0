/-
  FactP: facts, plainly: which are right, their bytes, and back. No program.
-/
import Derived.Test.YtjklcbdlfmmllaaGreatDoorYF
import Derived.Test.YtjklcbdlfmmllaaGreatDoorYD
namespace Go.Proofs.YtjklcbdlfmmllaaGreatDoor
open Go.RowKit Ieee

structure Fct where
  k : Int
  n : Int
  s : Int
  r : Int
  nd : Int
  p : Int
  q : Int
  o : Int
  d : Int
  pa : Int
  st : Int
  hw : Int
  dc : Int
  x : Nat
def Fct.l (f : Fct) : List Int := [f.k, f.n, f.s, f.r, f.nd, f.p, f.q, f.o, f.d, f.pa, f.st, f.hw, f.dc]
def fctA (f : Fct) : Array Value := #[.int .i64 f.k, .int .i64 f.n, .int .i64 f.s, .int .i64 f.r, .int .i64 f.nd, .int .i64 f.p, .int .i64 f.q, .int .i64 f.o, .int .i64 f.d, .int .i64 f.pa, .int .i64 f.st, .int .i64 f.hw, .int .i64 f.dc, .float .f64 f.x]
def fctV (f : Fct) : Value := .agg (fctA f)
def fct0 : Fct := ⟨0, 0, 0, 0, 0, 0, 0, 0, 0, 0, 0, 0, 0, 0⟩
def fctOf (l : List Int) (x : Nat) : Fct := ⟨l.getD 0 0, l.getD 1 0, l.getD 2 0, l.getD 3 0, l.getD 4 0, l.getD 5 0, l.getD 6 0, l.getD 7 0, l.getD 8 0, l.getD 9 0, l.getD 10 0, l.getD 11 0, l.getD 12 0, x⟩
theorem fctOf_l (f : Fct) : fctOf f.l f.x = f := rfl
theorem fct_len (f : Fct) : f.l.length = 13 := rfl
theorem thirteen {l : List Int} (h : l.length = 13) : ∃ x0 x1 x2 x3 x4 x5 x6 x7 x8 x9 x10 x11 x12, l = [x0, x1, x2, x3, x4, x5, x6, x7, x8, x9, x10, x11, x12] := by
  match l, h with
  | [x0, x1, x2, x3, x4, x5, x6, x7, x8, x9, x10, x11, x12], _ => exact ⟨x0, x1, x2, x3, x4, x5, x6, x7, x8, x9, x10, x11, x12, rfl⟩
theorem l_fctOf {l : List Int} (x : Nat) (h : l.length = 13) : (fctOf l x).l = l := by
  obtain ⟨x0, x1, x2, x3, x4, x5, x6, x7, x8, x9, x10, x11, x12, rfl⟩ := thirteen h
  rfl
def Fct.wf (f : Fct) : Prop := (∀ y ∈ f.l, -9223372036854775808 ≤ y ∧ y ≤ 9223372036854775807) ∧ f.x < 18446744073709551616
def inR (x a b : Int) : Bool := decide (a ≤ x) && decide (x ≤ b)
theorem inR_yes {x a b : Int} (h : inR x a b = true) : a ≤ x ∧ x ≤ b := by
  unfold inR at h
  rw [Bool.and_eq_true, decide_eq_true_eq, decide_eq_true_eq] at h
  exact h
def stB (st hw : Int) : Bool := if st = 14 then (hw == 1) || inR hw 4 8 else inR st 1 13 && (hw == 0)
def plainO (f : Fct) : Bool :=
  if f.k = 1 then rightC ⟨f.n, f.s, f.o, f.d, f.x⟩ && inR f.pa 0 8
  else if f.k = 2 then actB f.n f.s && inR f.r 0 5 && inR f.nd 0 3 && inR f.p 0 7 && inR f.q 1 2
  else if f.k = 3 then actB f.n f.s && inR f.r 0 5 && stB f.st f.hw
  else if f.k = 4 then actB f.n f.s && inR f.dc 1 2
  else if f.k = 5 then actB f.n f.s
  else if f.k = 6 then actB f.n f.s && inR f.p 0 7 && inR f.q 1 2
  else if f.k = 7 then inR f.p 0 7 && inR f.r 0 5
  else if f.k = 8 then inR f.p 0 7 && stB f.st f.hw
  else false
def plainP (f : Fct) : Fct :=
  if f.k = 1 then ⟨f.k, f.n, f.s, 0, 0, 0, 0, f.o, f.d, f.pa, 0, 0, 0, f.x⟩
  else if f.k = 2 then ⟨f.k, f.n, f.s, f.r, f.nd, f.p, f.q, 0, 0, 0, 0, 0, 0, 0⟩
  else if f.k = 3 then ⟨f.k, f.n, f.s, f.r, 0, 0, 0, 0, 0, 0, f.st, f.hw, 0, 0⟩
  else if f.k = 4 then ⟨f.k, f.n, f.s, 0, 0, 0, 0, 0, 0, 0, 0, 0, f.dc, 0⟩
  else if f.k = 5 then ⟨f.k, f.n, f.s, 0, 0, 0, 0, 0, 0, 0, 0, 0, 0, 0⟩
  else if f.k = 6 then ⟨f.k, f.n, f.s, 0, 0, f.p, f.q, 0, 0, 0, 0, 0, 0, 0⟩
  else if f.k = 7 then ⟨f.k, 0, 0, f.r, 0, f.p, 0, 0, 0, 0, 0, 0, 0, 0⟩
  else if f.k = 8 then ⟨f.k, 0, 0, 0, 0, f.p, 0, 0, 0, 0, f.st, f.hw, 0, 0⟩
  else fct0
def eqF (a b : Fct) : Bool := decide (a.l = b.l)
def sameF (a b : Fct) : Bool := (plainN a.x == plainN b.x) && eqF a b
def rightF (f : Fct) : Bool := plainO f && sameF (plainP f) f && (cmpI (place (plainP f).x) (place f.x) == 0)
theorem plainN_zero {x : Nat} (h : plainN x = 0) : x = 0 ∨ x = 9223372036854775808 := by
  unfold plainN at h
  split at h
  · unfold nanC at h; omega
  · split at h
    · rename_i h2; exact .inr h2
    · exact .inl h
theorem zero_x {x : Nat} (h1 : plainN 0 = plainN x) (h2 : (cmpI (place 0) (place x) == 0) = true) : x = 0 := by
  have e0 : plainN 0 = 0 := by decide
  rw [e0] at h1
  rcases plainN_zero h1.symm with h | h
  · exact h
  · subst h
    exact absurd h2 (by decide)
theorem stB_yes {st hw : Int} (h : stB st hw = true) : (0 ≤ st ∧ st ≤ 14) ∧ 0 ≤ hw ∧ hw ≤ 8 := by
  unfold stB at h
  split at h
  · rw [Bool.or_eq_true, beq_iff_eq] at h
    rcases h with h | h
    · omega
    · have := inR_yes h; omega
  · rw [Bool.and_eq_true, beq_iff_eq] at h
    have := inR_yes h.1
    omega
theorem actB_yes {x y : Int} (h : actB x y = true) : (0 ≤ x ∧ x ≤ 3) ∧ 0 ≤ y ∧ y ≤ 999999 := by
  unfold actB actT numT at h
  split at h
  · rename_i q1
    split at h
    · rename_i q2; exact ⟨q1, q2⟩
    · cases h
  · cases h
theorem rightC_all {c : Ctx} (h : rightC c = true) : actB c.n c.s = true ∧ (1 ≤ c.o ∧ c.o ≤ 2) ∧ (0 ≤ c.d ∧ c.d ≤ 3) ∧ c.x ≤ infR := by
  unfold rightC at h
  simp only [Bool.and_eq_true] at h
  obtain ⟨⟨⟨h1, h2⟩, h3⟩, h4⟩ := h
  have hx := okF_yes h1
  have hd : 0 ≤ c.d ∧ c.d ≤ 3 := by simpa using h4
  have ho : c.o = 1 ∨ c.o = 2 := by unfold isOut at h3; simpa using h3
  exact ⟨h2, by omega, hd, hx⟩
theorem eqF_iff (a b : Fct) : eqF a b = true ↔ a.l = b.l := by unfold eqF; exact decide_eq_true_iff
/-- what a right fact's numbers are -/
structure FOk (f : Fct) : Prop where
  kind : 1 ≤ f.k ∧ f.k ≤ 8
  nums : numsOk f.l
  time : f.x ≤ infR
  none : f.k ≠ 1 → f.x = 0
theorem right_ok {f : Fct} (h : rightF f = true) : FOk f := by
  unfold rightF sameF at h
  simp only [Bool.and_eq_true, beq_iff_eq] at h
  obtain ⟨⟨h1, h2, h3⟩, h4⟩ := h
  rw [eqF_iff] at h3
  have h4' : (cmpI (place (plainP f).x) (place f.x) == 0) = true := by rw [beq_iff_eq]; exact h4
  clear h4
  obtain ⟨k, n, s, r, nd, p, q, o, d, pa, st, hw, dc, x⟩ := f
  unfold plainO at h1
  unfold plainP at h2 h3 h4'
  simp only at h1 h2 h3 h4'
  by_cases k1 : k = 1
  · subst k1
    simp only [if_true] at h1 h2 h3 h4'
    rw [Bool.and_eq_true] at h1
    obtain ⟨a1, a2, a3, a4⟩ := rightC_all h1.1
    have a5 := inR_yes h1.2
    have a6 := actB_yes a1
    simp only [Fct.l, List.cons.injEq, and_true, true_and] at h3
    simp only at a2 a3 a4 a6
    refine ⟨⟨by simp, by simp⟩, ?_, a4, fun h => absurd rfl h⟩
    intro y hy
    simp only [Fct.l, List.mem_cons, List.not_mem_nil, or_false] at hy
    omega
  by_cases k2 : k = 2
  · subst k2
    simp only [show ¬ ((2 : Int) = 1) by decide, if_false, if_true] at h1 h2 h3 h4'
    simp only [Bool.and_eq_true] at h1
    have e0 := zero_x h2 h4'
    obtain ⟨⟨⟨⟨b1, b2⟩, b3⟩, b4⟩, b5⟩ := h1
    have c1 := actB_yes b1
    have c2 := inR_yes b2
    have c3 := inR_yes b3
    have c4 := inR_yes b4
    have c5 := inR_yes b5
    simp only [Fct.l, List.cons.injEq, and_true, true_and] at h3
    subst e0
    refine ⟨⟨by simp, by simp⟩, ?_, Nat.zero_le _, fun _ => rfl⟩
    intro y hy
    simp only [Fct.l, List.mem_cons, List.not_mem_nil, or_false] at hy
    omega
  by_cases k3 : k = 3
  · subst k3
    simp only [show ¬ ((3 : Int) = 1) by decide, show ¬ ((3 : Int) = 2) by decide, if_false, if_true] at h1 h2 h3 h4'
    simp only [Bool.and_eq_true] at h1
    have e0 := zero_x h2 h4'
    obtain ⟨⟨b1, b2⟩, b3⟩ := h1
    have c1 := actB_yes b1
    have c2 := inR_yes b2
    have c3 := stB_yes b3
    simp only [Fct.l, List.cons.injEq, and_true, true_and] at h3
    subst e0
    refine ⟨⟨by simp, by simp⟩, ?_, Nat.zero_le _, fun _ => rfl⟩
    intro y hy
    simp only [Fct.l, List.mem_cons, List.not_mem_nil, or_false] at hy
    omega
  by_cases k4 : k = 4
  · subst k4
    simp only [show ¬ ((4 : Int) = 1) by decide, show ¬ ((4 : Int) = 2) by decide, show ¬ ((4 : Int) = 3) by decide, if_false, if_true] at h1 h2 h3 h4'
    simp only [Bool.and_eq_true] at h1
    have e0 := zero_x h2 h4'
    obtain ⟨b1, b2⟩ := h1
    have c1 := actB_yes b1
    have c2 := inR_yes b2
    simp only [Fct.l, List.cons.injEq, and_true, true_and] at h3
    subst e0
    refine ⟨⟨by simp, by simp⟩, ?_, Nat.zero_le _, fun _ => rfl⟩
    intro y hy
    simp only [Fct.l, List.mem_cons, List.not_mem_nil, or_false] at hy
    omega
  by_cases k5 : k = 5
  · subst k5
    simp only [show ¬ ((5 : Int) = 1) by decide, show ¬ ((5 : Int) = 2) by decide, show ¬ ((5 : Int) = 3) by decide, show ¬ ((5 : Int) = 4) by decide, if_false, if_true] at h1 h2 h3 h4'
    have e0 := zero_x h2 h4'
    have b1 := h1
    have c1 := actB_yes b1
    simp only [Fct.l, List.cons.injEq, and_true, true_and] at h3
    subst e0
    refine ⟨⟨by simp, by simp⟩, ?_, Nat.zero_le _, fun _ => rfl⟩
    intro y hy
    simp only [Fct.l, List.mem_cons, List.not_mem_nil, or_false] at hy
    omega
  by_cases k6 : k = 6
  · subst k6
    simp only [show ¬ ((6 : Int) = 1) by decide, show ¬ ((6 : Int) = 2) by decide, show ¬ ((6 : Int) = 3) by decide, show ¬ ((6 : Int) = 4) by decide, show ¬ ((6 : Int) = 5) by decide, if_false, if_true] at h1 h2 h3 h4'
    simp only [Bool.and_eq_true] at h1
    have e0 := zero_x h2 h4'
    obtain ⟨⟨b1, b2⟩, b3⟩ := h1
    have c1 := actB_yes b1
    have c2 := inR_yes b2
    have c3 := inR_yes b3
    simp only [Fct.l, List.cons.injEq, and_true, true_and] at h3
    subst e0
    refine ⟨⟨by simp, by simp⟩, ?_, Nat.zero_le _, fun _ => rfl⟩
    intro y hy
    simp only [Fct.l, List.mem_cons, List.not_mem_nil, or_false] at hy
    omega
  by_cases k7 : k = 7
  · subst k7
    simp only [show ¬ ((7 : Int) = 1) by decide, show ¬ ((7 : Int) = 2) by decide, show ¬ ((7 : Int) = 3) by decide, show ¬ ((7 : Int) = 4) by decide, show ¬ ((7 : Int) = 5) by decide, show ¬ ((7 : Int) = 6) by decide, if_false, if_true] at h1 h2 h3 h4'
    simp only [Bool.and_eq_true] at h1
    have e0 := zero_x h2 h4'
    obtain ⟨b1, b2⟩ := h1
    have c1 := inR_yes b1
    have c2 := inR_yes b2
    simp only [Fct.l, List.cons.injEq, and_true, true_and] at h3
    subst e0
    refine ⟨⟨by simp, by simp⟩, ?_, Nat.zero_le _, fun _ => rfl⟩
    intro y hy
    simp only [Fct.l, List.mem_cons, List.not_mem_nil, or_false] at hy
    omega
  by_cases k8 : k = 8
  · subst k8
    simp only [show ¬ ((8 : Int) = 1) by decide, show ¬ ((8 : Int) = 2) by decide, show ¬ ((8 : Int) = 3) by decide, show ¬ ((8 : Int) = 4) by decide, show ¬ ((8 : Int) = 5) by decide, show ¬ ((8 : Int) = 6) by decide, show ¬ ((8 : Int) = 7) by decide, if_false, if_true] at h1 h2 h3 h4'
    simp only [Bool.and_eq_true] at h1
    have e0 := zero_x h2 h4'
    obtain ⟨b1, b2⟩ := h1
    have c1 := inR_yes b1
    have c2 := stB_yes b2
    simp only [Fct.l, List.cons.injEq, and_true, true_and] at h3
    subst e0
    refine ⟨⟨by simp, by simp⟩, ?_, Nat.zero_le _, fun _ => rfl⟩
    intro y hy
    simp only [Fct.l, List.mem_cons, List.not_mem_nil, or_false] at hy
    omega
  exfalso
  simp only [k1, k2, k3, k4, k5, k6, k7, k8, if_false] at h1
  exact absurd h1 (by decide)
theorem valB_inj : ∀ (l m : List UInt8), l.length = m.length → valB l = valB m → l = m
  | [], [], _, _ => rfl
  | [], _ :: _, h, _ => by simp at h
  | _ :: _, [], h, _ => by simp at h
  | a :: l, b :: m, h, hv => by
    have hl : l.length = m.length := by simpa using h
    rw [valB_cons, valB_cons, hl] at hv
    have h1 := valB_lt l
    have h2 := valB_lt m
    rw [hl] at h1
    have hpos : 0 < 256 ^ m.length := Nat.pow_pos (by decide)
    have e1 : (a.toNat * 256 ^ m.length + valB l) / 256 ^ m.length = a.toNat := by
      rw [Nat.mul_comm, Nat.mul_add_div hpos, Nat.div_eq_of_lt h1, Nat.add_zero]
    have e2 : (b.toNat * 256 ^ m.length + valB m) / 256 ^ m.length = b.toNat := by
      rw [Nat.mul_comm, Nat.mul_add_div hpos, Nat.div_eq_of_lt h2, Nat.add_zero]
    have hab : a.toNat = b.toNat := by rw [← e1, ← e2, hv]
    have hvv : valB l = valB m := by rw [hab] at hv; omega
    rw [UInt8.toNat_inj.1 hab, valB_inj l m hl hvv]
theorem valB_eight (n : Nat) (h : n < 18446744073709551616) : valB (eightB n) = n := by
  unfold eightB valB
  simp only [List.foldl_cons, List.foldl_nil, byte_wrap]
  omega
theorem eight_valB (l : List UInt8) (h : l.length = 8) : eightB (valB l) = l := by
  have hv := valB_lt l
  rw [h] at hv
  have : (256 : Nat) ^ 8 = 18446744073709551616 := rfl
  exact valB_inj _ _ (by rw [eightB_len, h]) (valB_eight _ (by omega))
theorem toFlt_eight {x : Nat} (hx : x < 18446744073709551616) (hp : plainN x = x) : toFltF (eightB x) = x ∧ toFltE (eightB x) = 0 := by
  have hv := valB_eight x hx
  unfold toFltF toFltE
  rw [hv, eightB_len, hp]
  exact ⟨if_pos ⟨rfl, rfl⟩, if_pos ⟨rfl, rfl⟩⟩
theorem toFlt_back {l : List UInt8} (h : toFltE l = 0) : l = eightB (toFltF l) ∧ plainN (toFltF l) = toFltF l ∧ toFltF l < 18446744073709551616 := by
  unfold toFltE at h
  split at h
  · rename_i hc
    have e : toFltF l = valB l := by unfold toFltF; exact if_pos hc
    rw [e]
    have hv := valB_lt l
    rw [hc.1] at hv
    have : (256 : Nat) ^ 8 = 18446744073709551616 := rfl
    exact ⟨(eight_valB l hc.1).symm, hc.2, by omega⟩
  · cases h
def rowF (f : Fct) : List (Int × List UInt8) := tagRow 0 f.l ++ (if f.k = 1 then [(14, eightB f.x)] else [])
theorem lastOf_tagRow : ∀ (l : List Int) (i : Nat) (last : Int), last ≤ i → lastOf last (tagRow i l) ≤ i + l.length
  | [], i, last, h => by simp [tagRow, lastOf]; omega
  | x :: l, i, last, h => by
    have ih := lastOf_tagRow l (i + 1)
    simp only [tagRow, List.length_cons]
    split
    · have := ih last (by omega)
      rw [List.nil_append]
      omega
    · have := ih ((i : Int) + 1) (by omega)
      simp only [lastOf, List.cons_append, List.nil_append, List.foldl_cons] at this ⊢
      omega
theorem rowF_right {f : Fct} (h : rightF f = true) : rightRow (rowF f) = true := by
  have hf := right_ok h
  have h1 := tagRow_ok f.l 0 0 hf.nums (Int.le_refl _) (Int.le_refl _) (by rw [fct_len]; omega)
  have h2 := lastOf_tagRow f.l 0 0 (Int.le_refl _)
  have h3 := tagRow_len f.l 0
  have h4 := fct_len f
  unfold rightRow rowF
  rw [rowOk_app, h1, Bool.true_and, Bool.and_eq_true, decide_eq_true_eq]
  rw [h4] at h2 h3
  generalize lastOf 0 (tagRow 0 f.l) = z at *
  generalize tagRow 0 f.l = R at *
  split
  · refine ⟨by rw [List.length_append]; simp; omega, ?_⟩
    simp [rowOk, fieldOk, eightB_len]
    omega
  · exact ⟨by rw [List.append_nil]; omega, rfl⟩
def encE (f : Fct) : Nat := if rightF f then 0 else 4
def encL (f : Fct) : List UInt8 := if rightF f then joinL (rowF f) else []
/-- what a field does to a fact's numbers and time -/
def putC (st : List Int × Option Nat) (f : Int × List UInt8) : Option (List Int × Option Nat) :=
  if f.1 = 14 then (if toFltE f.2 = 0 then some (st.1, some (toFltF f.2)) else none) else (putF st.1 f).map fun l => (l, st.2)
def putsC : List Int × Option Nat → List (Int × List UInt8) → Option (List Int × Option Nat)
  | st, [] => some st
  | st, f :: fs => (putC st f).bind fun st => putsC st fs
theorem putsC_app : ∀ (fs gs : List (Int × List UInt8)) (st : List Int × Option Nat), putsC st (fs ++ gs) = (putsC st fs).bind fun st => putsC st gs
  | [], _, _ => rfl
  | f :: fs, gs, st => by
    simp only [List.cons_append, putsC]
    cases putC st f with
    | none => rfl
    | some m => exact putsC_app fs gs m
theorem putsC_take (st : List Int × Option Nat) (fs : List (Int × List UInt8)) (k : Nat) (hk : k < fs.length) : putsC st (fs.take (k + 1)) = (putsC st (fs.take k)).bind fun m => putC m fs[k] := by
  rw [List.take_succ_eq_append_getElem hk, putsC_app]
  congr 1
  funext m
  simp only [putsC]
  cases putC m fs[k] <;> rfl
theorem putC_len {st st' : List Int × Option Nat} {f : Int × List UInt8} (h : putC st f = some st') : st'.1.length = st.1.length := by
  unfold putC at h
  split at h
  · split at h
    · cases h; rfl
    · cases h
  · simp only [Option.map_eq_some_iff] at h
    obtain ⟨l, hl, rfl⟩ := h
    exact putF_len hl
theorem putsC_len : ∀ (fs : List (Int × List UInt8)) {st st' : List Int × Option Nat}, putsC st fs = some st' → st'.1.length = st.1.length
  | [], _, _, h => by cases h; rfl
  | f :: fs, st, st', h => by
    simp only [putsC] at h
    cases hp : putC st f with
    | none => rw [hp] at h; cases h
    | some x => rw [hp] at h; exact (putsC_len fs h).trans (putC_len hp)
theorem putsC_low : ∀ (fs : List (Int × List UInt8)) (l : List Int) (o : Option Nat), (∀ f ∈ fs, f.1 ≠ 14) → putsC (l, o) fs = (putsF l fs).map fun l => (l, o)
  | [], _, _, _ => rfl
  | f :: fs, l, o, h => by
    simp only [putsC, putsF, putC]
    rw [if_neg (h f (List.mem_cons_self ..))]
    cases putF l f with
    | none => rfl
    | some m => exact putsC_low fs m o (fun g hg => h g (List.mem_cons_of_mem _ hg))
theorem tagRow_tags : ∀ (l : List Int) (i : Nat) (f : Int × List UInt8), f ∈ tagRow i l → f.1 ≤ i + l.length
  | [], _, f, h => by simp [tagRow] at h
  | x :: l, i, f, h => by
    simp only [tagRow, List.mem_append] at h
    rcases h with h | h
    · split at h
      · simp at h
      · simp only [List.mem_singleton] at h
        subst h
        simp only [List.length_cons]
        omega
    · have := tagRow_tags l (i + 1) f h
      simp only [List.length_cons]
      omega
/-- a row that was read: numbers, and the time last -/
theorem putsC_split : ∀ (fs : List (Int × List UInt8)) (l l' : List Int) (last x : Int) (y : Nat), l.length = 13 → rowOk last fs = true → putsC (l, none) fs = some (l', some y) →
    ∃ gs f2, fs = gs ++ [(14, f2)] ∧ putsF l gs = some l' ∧ rowOk last gs = true ∧ toFltE f2 = 0 ∧ toFltF f2 = y
  | [], l, l', last, x, y, _, _, h => by cases h
  | f :: fs, l, l', last, x, y, hl, ho, h => by
    simp only [rowOk, Bool.and_eq_true] at ho
    simp only [putsC] at h
    by_cases h5 : f.1 = 14
    · have hp : putC (l, none) f = if toFltE f.2 = 0 then some (l, some (toFltF f.2)) else none := by unfold putC; rw [if_pos h5]
      rw [hp] at h
      split at h
      · rename_i h0
        simp only [Option.bind_some] at h
        cases fs with
        | nil =>
          cases h
          refine ⟨[], f.2, ?_, rfl, rfl, h0, rfl⟩
          show [f] = [(14, f.2)]
          rw [← h5]
        | cons g gs =>
          exfalso
          have ho2 := ho.2
          simp only [rowOk, Bool.and_eq_true, fieldOk, decide_eq_true_eq] at ho2
          have hg : putC (l, some (toFltF f.2)) g = none := by
            unfold putC
            rw [if_neg (by omega)]
            have : putF l g = none := by unfold putF; rw [if_pos (.inl (by rw [hl]; omega))]
            simp only [this]
            rfl
          simp only [putsC, hg] at h
          cases h
      · cases h
    · have hp : putC (l, none) f = (putF l f).map fun l => (l, none) := by unfold putC; rw [if_neg h5]
      rw [hp] at h
      cases hf : putF l f with
      | none => rw [hf] at h; cases h
      | some m =>
        rw [hf] at h
        obtain ⟨gs, f2, e, h1, h2, h3, h4⟩ := putsC_split fs m l' f.1 x y ((putF_len hf).trans hl) ho.2 h
        refine ⟨f :: gs, f2, by rw [e]; rfl, by simp only [putsF, hf]; exact h1, ?_, h3, h4⟩
        simp only [rowOk, Bool.and_eq_true]
        exact ⟨ho.1, h2⟩
theorem putsC_none : ∀ (fs : List (Int × List UInt8)) (l l' : List Int), putsC (l, none) fs = some (l', none) → putsF l fs = some l'
  | [], _, _, h => by cases h; rfl
  | f :: fs, l, l', h => by
    simp only [putsC] at h
    by_cases h5 : f.1 = 14
    · have hp : putC (l, none) f = if toFltE f.2 = 0 then some (l, some (toFltF f.2)) else none := by unfold putC; rw [if_pos h5]
      rw [hp] at h
      split at h
      · exfalso
        have : ∀ (fs : List (Int × List UInt8)) (l l' : List Int) (y : Nat), putsC (l, some y) fs = some (l', none) → False := by
          intro fs
          induction fs with
          | nil => intro l l' y h; cases h
          | cons g gs ih =>
            intro l l' y h
            simp only [putsC] at h
            cases hg : putC (l, some y) g with
            | none => rw [hg] at h; cases h
            | some st =>
              rw [hg] at h
              unfold putC at hg
              split at hg
              · split at hg
                · cases hg; exact ih _ _ _ h
                · cases hg
              · simp only [Option.map_eq_some_iff] at hg
                obtain ⟨m, _, rfl⟩ := hg
                exact ih _ _ _ h
        exact this _ _ _ _ h
      · cases h
    · have hp : putC (l, none) f = (putF l f).map fun l => (l, none) := by unfold putC; rw [if_neg h5]
      rw [hp] at h
      simp only [putsF]
      cases hf : putF l f with
      | none => rw [hf] at h; cases h
      | some m =>
        rw [hf] at h
        exact putsC_none fs m l' h
def endF (st : List Int × Option Nat) : Option Fct := if st.2.isSome = decide ((fctOf st.1 (st.2.getD 0)).k = 1) then (if rightF (fctOf st.1 (st.2.getD 0)) then some (fctOf st.1 (st.2.getD 0)) else none) else none
def zeros13 : List Int := [0, 0, 0, 0, 0, 0, 0, 0, 0, 0, 0, 0, 0]
def rowFct (fs : List (Int × List UInt8)) : Option Fct := (putsC (zeros13, none) fs).bind endF
theorem rowFct_row {f : Fct} (h : rightF f = true) : rowFct (rowF f) = some f := by
  have hf := right_ok h
  have hp := plain_small hf.time
  have hx' : f.x < 18446744073709551616 := by have := hf.time; unfold infR at this; omega
  have hfl := toFlt_eight hx' hp
  have hz := puts_zero f.l hf.nums
  rw [fct_len] at hz
  have h5 : ∀ g ∈ tagRow 0 f.l, g.1 ≠ 14 := fun g hg => by
    have := tagRow_tags _ _ g hg
    rw [fct_len] at this
    omega
  have e0 : putsC (zeros13, none) (tagRow 0 f.l) = some (f.l, none) := by
    rw [putsC_low _ _ _ h5, show zeros13 = List.replicate 13 0 from rfl, hz]
    rfl
  have e : putsC (zeros13, none) (rowF f) = some (f.l, if f.k = 1 then some f.x else none) := by
    unfold rowF
    rw [putsC_app, e0]
    split
    · simp only [Option.bind_some, putsC, putC]
      rw [if_pos trivial, if_pos hfl.2, hfl.1]
      rfl
    · rfl
  unfold rowFct
  rw [e]
  simp only [Option.bind_some]
  unfold endF
  by_cases hk : f.k = 1
  · rw [if_pos hk]
    show (if true = decide ((fctOf f.l f.x).k = 1) then (if rightF (fctOf f.l f.x) then some (fctOf f.l f.x) else none) else none) = some f
    rw [fctOf_l, if_pos (by rw [decide_eq_true hk]), if_pos h]
  · have hx0 := hf.none hk
    rw [if_neg hk]
    show (if false = decide ((fctOf f.l 0).k = 1) then (if rightF (fctOf f.l 0) then some (fctOf f.l 0) else none) else none) = some f
    have e9 : fctOf f.l 0 = f := by rw [← hx0]; rfl
    rw [e9, if_pos (by rw [decide_eq_false hk]), if_pos h]
theorem row_rowFct {fs : List (Int × List UInt8)} {f : Fct} (ho : rowOk 0 fs = true) (h : rowFct fs = some f) : rightF f = true ∧ rowF f = fs := by
  unfold rowFct at h
  simp only [Option.bind_eq_some_iff] at h
  obtain ⟨⟨l, o⟩, hl, h⟩ := h
  have hlen : l.length = 13 := putsC_len fs hl
  unfold endF at h
  cases o with
  | none =>
    have hs := putsC_none fs _ _ hl
    obtain ⟨l', e2, hn, ht, _⟩ := tagRow_puts fs [] 13 l ho (by simpa [zeros13] using hs)
    rw [List.nil_append] at e2
    subst e2
    split at h
    · rename_i hk
      split at h
      · rename_i hr
        cases h
        refine ⟨hr, ?_⟩
        have hk' : ¬ (fctOf l 0).k = 1 := by
          intro h9
          have : decide ((fctOf l ((none : Option Nat).getD 0)).k = 1) = true := decide_eq_true h9
          rw [this] at hk
          cases hk
        unfold rowF
        show tagRow 0 (fctOf l 0).l ++ (if (fctOf l 0).k = 1 then _ else []) = fs
        rw [if_neg hk', l_fctOf 0 hlen, List.append_nil]
        exact ht
      · cases h
    · cases h
  | some x =>
    obtain ⟨gs, f2, e, h1, h2, h3, h4⟩ := putsC_split fs zeros13 l 0 0 x rfl ho hl
    obtain ⟨l', e2, hn, ht, _⟩ := tagRow_puts gs [] 13 l h2 (by simpa [zeros13] using h1)
    rw [List.nil_append] at e2
    subst e2
    obtain ⟨b1, _, _⟩ := toFlt_back h3
    rw [h4] at b1
    split at h
    · rename_i hk
      split at h
      · rename_i hr
        cases h
        refine ⟨hr, ?_⟩
        have hk' : (fctOf l x).k = 1 := of_decide_eq_true hk.symm
        unfold rowF
        show tagRow 0 (fctOf l x).l ++ (if (fctOf l x).k = 1 then [(14, eightB x)] else []) = fs
        rw [if_pos hk', l_fctOf x hlen, e, ← b1]
        rw [show tagRow 0 l = gs from ht]
      · cases h
    · cases h
theorem read_nums {fs : List (Int × List UInt8)} {l : List Int} {o : Option Nat} (ho : rowOk 0 fs = true) (h : putsC (zeros13, none) fs = some (l, o)) : numsOk l ∧ o.getD 0 < 18446744073709551616 := by
  cases o with
  | none =>
    have hs := putsC_none fs _ _ h
    obtain ⟨l', e2, hn, ht, hok⟩ := tagRow_puts fs [] 13 l ho (by simpa [zeros13] using hs)
    rw [List.nil_append] at e2
    subst e2
    exact ⟨hok, by decide⟩
  | some x =>
    obtain ⟨gs, f2, e, h1, h2, h3, h4⟩ := putsC_split fs zeros13 l 0 0 x rfl ho h
    obtain ⟨l', e2, hn, ht, hok⟩ := tagRow_puts gs [] 13 l h2 (by simpa [zeros13] using h1)
    rw [List.nil_append] at e2
    subst e2
    have := (toFlt_back h3).2.2
    rw [h4] at this
    exact ⟨hok, this⟩
def decE (b : List UInt8) : Nat := if splitE b = 0 then (if (rowFct (splitL b)).isSome then 0 else 4) else splitE b
def decF (b : List UInt8) : Fct := if splitE b = 0 then (rowFct (splitL b)).getD fct0 else fct0
theorem split_ok {b : List UInt8} (h : splitE b = 0) : rightRow (splitL b) = true ∧ joinL (splitL b) = b := by
  have := split_law b h
  unfold joinE joinR at this
  split at this
  · rename_i hr
    exact ⟨hr, this.2⟩
  · exact absurd this.1 (by decide)
theorem dec_enc {f : Fct} (h : rightF f = true) : decE (encL f) = 0 ∧ decF (encL f) = f := by
  have hj := split_joined _ (rowF_right h)
  have e : encL f = joinL (rowF f) := by unfold encL; rw [if_pos h]
  unfold decE decF
  rw [e, hj.1, if_pos rfl, if_pos rfl, hj.2, rowFct_row h]
  exact ⟨rfl, rfl⟩
theorem enc_dec {b : List UInt8} (h : decE b = 0) : rightF (decF b) = true ∧ encL (decF b) = b := by
  unfold decE at h
  unfold decF
  split at h
  · rename_i h2
    rw [if_pos h2]
    obtain ⟨hr, hj⟩ := split_ok h2
    split at h
    · rename_i h3
      obtain ⟨m, hm⟩ := Option.isSome_iff_exists.1 h3
      obtain ⟨a1, a2⟩ := row_rowFct (right_parts hr).2 hm
      rw [hm]
      refine ⟨a1, ?_⟩
      show encL m = b
      unfold encL
      rw [if_pos a1, a2, hj]
    · cases h
  · rename_i h2; exact absurd h h2
theorem decE_le (b : List UInt8) : decE b ≤ 14 := by
  unfold decE
  split
  · split <;> omega
  · exact splitE_le b
theorem fct_ext {a b : Fct} (h : a.l = b.l) (hx : a.x = b.x) : a = b := by
  rw [← fctOf_l a, ← fctOf_l b, h, hx]
theorem same_iff {a b : Fct} (ha : rightF a = true) (hb : rightF b = true) : sameF a b = true ↔ a = b := by
  have pa := plain_small (right_ok ha).time
  have pb := plain_small (right_ok hb).time
  unfold sameF
  rw [Bool.and_eq_true, beq_iff_eq, eqF_iff, pa, pb]
  exact ⟨fun h => fct_ext h.2 h.1, fun h => by rw [h]; exact ⟨rfl, rfl⟩⟩
theorem enc_same {a b : Fct} (ha : rightF a = true) (hb : rightF b = true) : (encL a == encL b) = sameF a b := by
  rw [Bool.eq_iff_iff, beq_iff_eq, same_iff ha hb]
  refine ⟨fun h => ?_, fun h => by rw [h]⟩
  have x := dec_enc ha
  have y := dec_enc hb
  rw [← x.2, h, y.2]
theorem cut_same {f : Fct} (h : rightF f = true) (k : Nat) (hk : k < (encL f).length) (h0 : decE ((encL f).take k) = 0) : sameF (decF ((encL f).take k)) f = false := by
  obtain ⟨a1, a2⟩ := enc_dec h0
  rw [Bool.eq_false_iff]
  intro he
  rw [(same_iff a1 h).1 he] at a2
  have := congrArg List.length a2
  rw [List.length_take] at this
  omega
theorem enc_some {f : Fct} (h : rightF f = true) : 0 < (encL f).length := by
  have hk := (right_ok h).kind
  unfold encL
  rw [if_pos h]
  unfold rowF Fct.l
  simp only [tagRow]
  rw [if_neg (by omega)]
  simp [joinL, fieldB]
theorem enc_small {f : Fct} (h : rightF f = true) : (encL f).length ≤ 2842 := by
  have h1 := joinL_len (rowF f) 0 (right_parts (rowF_right h)).2
  have h2 := (right_parts (rowF_right h)).1
  have h3 : (rowF f).length ≤ 14 := by
    unfold rowF
    rw [List.length_append]
    have := tagRow_len f.l 0
    rw [fct_len] at this
    split <;> simp <;> omega
  unfold encL
  rw [if_pos h]
  omega
end Go.Proofs.YtjklcbdlfmmllaaGreatDoor
