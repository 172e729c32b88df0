/- PhiX -/
import Derived.Test.YthboiahdheehkaaGreatDoorBA
import Derived.Lib.ItoaNum
import Derived.Lib.ItoaMem
import Derived.Lib.IndexMore
import Derived.Test.YthboiahdheehkaaGreatDoorShelf
import Derived.WalkSmall
open Array renaming getElem?_eq_some_iff → aA
open Option renaming bind_some → oC
open Bool renaming and_eq_true → bA
open Nat renaming le_refl → nR
namespace Go.Proofs.YthboiahdheehkaaGreatDoor.PX
open Go.RowKit
def gives (P : Program) (o : Oper) (ρ : Operand → Value) (w : World) (T : Value → World → Prop) (X : List PanicEntry → World → Prop) : Prop :=
 match (execOp ρ o).run P w with
 | .ok (.value v) w' => T v w'
 | .ok .skip w' => T undef w'
 | .ok (.enter f args) w' => Calls P f args w' fun e w'' => (∃ v, e = .returned v ∧ T v w'') ∨ ∃ ch, e = .panicked ch ∧ X ch w''
 | .halt (.panic v) w' => X [{ v, recovered := false }] w'
 | _ => False
theorem gives_wp {P : Program} {o : Oper} {a : Act} {ρ : Operand → Value} {w : World} {T : Value → World → Prop} {X : List PanicEntry → World → Prop} {K : Act → World → Prop} {Q : Exit → Act → World → Prop}
  (he : execOp a.eval o = execOp ρ o) (h : gives P o ρ w T X) (hk : ∀ v w', T v w' → K (a.put o.dst v) w') (hx : ∀ ch w', X ch w' → Q (.panic ch) a w') : o.wp P a w K Q := by
 unfold gives at h
 unfold Oper.wp
 rw [he]
 generalize (execOp ρ o).run P w = r at *
 cases r with
 | ok n w' =>
  cases n <;> simp only at h <;> try exact h.elim
  case value v => exact hk v w' h
  case skip => exact hk undef w' h
  case enter f args =>
   refine Calls.mono h fun e w'' he => ?_
   rcases he with ⟨v, rfl, ht⟩ | ⟨ch, rfl, ht⟩
   ·exact hk v w'' ht
   ·exact hx ch w'' ht
 | halt x w' => cases x <;> simp only at h <;> first | exact h.elim | exact hx _ _ h
section
variable (P : Program) (ops : Array Oper) (E : Act → World → Prop) (I : World → Prop) (R : World → World → Prop) (pl : Nat → Option Part) (nd : Nat → List Nat) (X : List PanicEntry → World → Prop)
def wpPhi : Nat → List Oper → Act → List (Nat × (World → Prop)) → Prop
 | _, [], a, kn => ∀ w, I w → (∀ p ∈ kn, p.2 w) → E a w
 | j, o :: l, a, kn =>
  if Region.wanted o (yielded ops a.tmps) = true then
   match pl j with
   | none => ∃ v, (∀ w, I w → (execOp a.eval o).run P w = .ok (.value v) w) ∧ wpPhi (j + 1) l (a.put o.dst v) kn
   | some q => (∃ v, q.val v) ∧ (∀ w, I w → (∀ p ∈ kn, p.1 ∈ nd j → p.2 w) → gives P o a.eval w (fun v w' => q.val v ∧ q.fact w' v ∧ R w w') X) ∧
     ∀ v, q.val v → wpPhi (j + 1) l (a.put o.dst v) (kn ++ [(j, fun w => q.fact w v)])
  else wpPhi (j + 1) l (a.put o.dst undef) kn
end
section rules
variable {P : Program} {ops : Array Oper} {E : Act → World → Prop} {I : World → Prop} {R : World → World → Prop} {pl : Nat → Option Part} {nd : Nat → List Nat} {X : List PanicEntry → World → Prop}
variable {j : Nat} {o : Oper} {l : List Oper} {a : Act} {kn : List (Nat × (World → Prop))}
theorem phi_pure {v : Value} (hw : Region.wanted o (yielded ops a.tmps) = true) (hp : pl j = none) (hv : ∀ w, I w → (execOp a.eval o).run P w = .ok (.value v) w)
  (h : wpPhi P ops E I R pl nd X (j + 1) l (a.put o.dst v) kn) : wpPhi P ops E I R pl nd X j (o :: l) a kn := by
 unfold wpPhi; rw [if_pos hw, hp]; exact ⟨v, hv, h⟩
theorem phi_pureK (hw : Region.wanted o (yielded ops a.tmps) = true) (hp : pl j = none)
  (h : ∀ K : Act → Prop, (∀ a', Veil (wpPhi P ops E I R pl nd X (j + 1) l a' kn) → K a') → ∃ v, (∀ w, I w → (execOp a.eval o).run P w = .ok (.value v) w) ∧ K (a.put o.dst v)) :
  Veil (wpPhi P ops E I R pl nd X j (o :: l) a kn) := by
 obtain ⟨v, h1, h2⟩ := h _ (fun _ h => h)
 exact ⟨phi_pure hw hp h1 h2.out⟩
theorem phi_skipK (hw : Region.wanted o (yielded ops a.tmps) = false)
  (h : ∀ K : Act → Prop, (∀ a', Veil (wpPhi P ops E I R pl nd X (j + 1) l a' kn) → K a') → K (a.put o.dst undef)) : Veil (wpPhi P ops E I R pl nd X j (o :: l) a kn) := by
 refine ⟨?_⟩
 unfold wpPhi; rw [if_neg (by rw [hw]; decide)]; exact (h _ (fun _ h => h)).out
theorem phi_partK (q : Part) (hw : Region.wanted o (yielded ops a.tmps) = true) (hp : pl j = some q) (hv : ∃ v, q.val v)
  (hg : ∀ w, I w → (∀ p ∈ kn, p.1 ∈ nd j → p.2 w) → gives P o a.eval w (fun v w' => q.val v ∧ q.fact w' v ∧ R w w') X)
  (h : ∀ K : Act → List (Nat × (World → Prop)) → Prop, (∀ a' kn', Veil (wpPhi P ops E I R pl nd X (j + 1) l a' kn') → K a' kn') → ∀ v, q.val v → K (a.put o.dst v) (kn ++ [(j, fun w => q.fact w v)])) :
  Veil (wpPhi P ops E I R pl nd X j (o :: l) a kn) := by
 refine ⟨?_⟩
 unfold wpPhi; rw [if_pos hw, hp]; exact ⟨hv, hg, fun v hv => (h _ (fun _ _ h => h) v hv).out⟩
theorem phi_done (h : ∀ w, I w → (∀ p ∈ kn, p.2 w) → E a w) : Veil (wpPhi P ops E I R pl nd X j [] a kn) := ⟨h⟩
end rules
def dstOf (ops : Array Oper) (i : Nat) : Option Tmp := (ops[i]?).bind (·.dst)
def clash (ops : Array Oper) (x y : Oper) : Bool :=
 (match x.dst with | some d => (y.looksAt ops).contains d || y.dst == some d | none => false) ||
 (match y.dst with | some d => (x.looksAt ops).contains d | none => false)
def edgeBits (B : List Nat) (o : Oper) : Nat :=
 o.after.toList.foldl (fun s e => if Region.binds .any e then s ||| 2 ^ e.on ||| B.getD e.on 0 else s) 0
def notSelect (o : Oper) : Bool := match o.op with | .select .. => false | _ => true
def okAt (ops : Array Oper) (nd : Nat → List Nat) (m : Nat) (B : List Nat) (j : Nat) (o : Oper) : Bool :=
 (B.getD j 0 == edgeBits B o) && decide (B.getD j 0 < 2 ^ j) && notSelect o && (nd j).all ((B.getD j 0).testBit ·) &&
 ((List.range j).all fun i => match ops[i]? with | some x => !clash ops x o || (B.getD j 0).testBit i | none => true) &&
 (decide (j < m) || (List.range j).all fun i => (B.getD j 0).testBit i)
def okAll (ops : Array Oper) (nd : Nat → List Nat) (m : Nat) (B : List Nat) : Bool :=
 (List.range ops.size).all fun j => match ops[j]? with | some o => okAt ops nd m B j o | none => true
def forceNat (n : Nat) (k : Nat → Bool) : Bool := match n with | 0 => k 0 | m + 1 => k (m + 1)
theorem forceNat_eq (n : Nat) (k : Nat → Bool) : forceNat n k = k n := by cases n <;> rfl
def buildB : List Oper → List Nat → (List Nat → Bool) → Bool
 | [], B, k => k B
 | o :: l, B, k => forceNat (edgeBits B o) fun b => buildB l (B ++ [b]) k
theorem buildB_some : ∀ (l : List Oper) (B : List Nat) (k : List Nat → Bool), buildB l B k = true → ∃ B', k B' = true
 | [], B, _, h => ⟨B, h⟩
 | _ :: l, _, k, h => by
  simp only [buildB, forceNat_eq] at h
  exact buildB_some l _ k h
def phiOk (ops : Array Oper) (nd : Nat → List Nat) (m : Nat) : Bool := buildB ops.toList [] (okAll ops nd m)
theorem edgeBits_testBit (B : List Nat) (o : Oper) (i : Nat) : (edgeBits B o).testBit i = true ↔
  ∃ e ∈ o.after.toList, Region.binds .any e = true ∧ (i = e.on ∨ (B.getD e.on 0).testBit i = true) := by
 unfold edgeBits
 have gen : ∀ (l : List Edge) (s : Nat), (l.foldl (fun s e => if Region.binds .any e then s ||| 2 ^ e.on ||| B.getD e.on 0 else s) s).testBit i = true ↔
   (s.testBit i = true ∨ ∃ e ∈ l, Region.binds .any e = true ∧ (i = e.on ∨ (B.getD e.on 0).testBit i = true)) := by
  intro l
  induction l with
  | nil => simp
  | cons e l ih =>
   intro s
   rw [List.foldl_cons, ih]
   by_cases hb : Region.binds .any e = true
   ·rw [if_pos hb]
    simp only [Nat.testBit_or, Bool.or_eq_true, Nat.testBit_two_pow, decide_eq_true_eq, List.mem_cons, exists_eq_or_imp, hb, true_and]
    constructor
    ·rintro ((h | h) | h)
     ·rcases h with h | h
      ·exact .inl h
      ·exact .inr (.inl (.inl h.symm))
     ·exact .inr (.inl (.inr h))
     ·exact .inr (.inr h)
    ·rintro (h | (h | h) | h)
     ·exact .inl (.inl (.inl h))
     ·exact .inl (.inl (.inr h.symm))
     ·exact .inl (.inr h)
     ·exact .inr h
   ·rw [if_neg hb]
    simp only [List.mem_cons, exists_eq_or_imp, hb, false_and, false_or, Bool.false_eq_true]
 rw [gen]
 simp
structure Hangs (ops : Array Oper) (nd : Nat → List Nat) (m : Nat) (pr : Nat → Nat → Bool) : Prop where
 edge' : ∀ j o, ops[j]? = some o → ∀ e ∈ o.after, Region.binds .any e = true → pr j e.on = true
 lt : ∀ j i, j < ops.size → pr j i = true → i < j
 edge : ∀ j o, ops[j]? = some o → ∀ i, pr j i = true → ∃ e ∈ o.after, Region.binds .any e = true ∧ (i = e.on ∨ pr e.on i = true)
 sel : ∀ (j : Nat) o, ops[j]? = some o → ∀ cs b, o.op ≠ .select cs b
 need : ∀ j, j < ops.size → ∀ i ∈ nd j, pr j i = true
 clash : ∀ (i j : Nat) x o, ops[i]? = some x → ops[j]? = some o → i < j → clash ops x o = true → pr j i = true
 tail : ∀ j, m ≤ j → j < ops.size → ∀ i, i < j → pr j i = true
theorem hangs_of_ok {ops : Array Oper} {nd : Nat → List Nat} {m : Nat} (h : phiOk ops nd m = true) : ∃ pr, Hangs ops nd m pr := by
 obtain ⟨B, hB⟩ := buildB_some _ _ _ h
 unfold okAll at hB
 rw [List.all_eq_true] at hB
 have at' : ∀ (j : Nat) o, ops[j]? = some o → okAt ops nd m B j o = true := by
  intro j o ho
  have := hB j (List.mem_range.2 (aA.1 ho).1)
  simpa [ho] using this
 refine ⟨fun j i => (B.getD j 0).testBit i, ?_, ?_, ?_, ?_, ?_, ?_, ?_⟩
 ·intro j o ho e he hb
  have := at' j o ho
  simp only [okAt, bA, beq_iff_eq] at this
  show (B.getD j 0).testBit e.on = true
  rw [this.1.1.1.1.1, edgeBits_testBit]
  exact ⟨e, Array.mem_toList_iff.2 he, hb, .inl rfl⟩
 ·intro j i hj hp
  obtain ⟨o, ho⟩ : ∃ o, ops[j]? = some o := ⟨ops[j], by simp [hj]⟩
  have := at' j o ho
  simp only [okAt, bA, decide_eq_true_eq] at this
  have hlt := this.1.1.1.1.2
  rcases Nat.lt_or_ge i j with h' | h'
  ·exact h'
  ·have := Nat.testBit_lt_two_pow (Nat.lt_of_lt_of_le hlt (Nat.pow_le_pow_right (by omega) h'))
   rw [this] at hp; cases hp
 ·intro j o ho i hp
  have := at' j o ho
  simp only [okAt, bA, beq_iff_eq] at this
  rw [this.1.1.1.1.1, edgeBits_testBit] at hp
  obtain ⟨e, he, hb, hi⟩ := hp
  exact ⟨e, Array.mem_toList_iff.1 he, hb, hi⟩
 ·intro j o ho cs b hop
  have := at' j o ho
  simp only [okAt, bA, notSelect, hop] at this
  simp at this
 ·intro j hj i hi
  obtain ⟨o, ho⟩ : ∃ o, ops[j]? = some o := ⟨ops[j], by simp [hj]⟩
  have := at' j o ho
  simp only [okAt, bA, List.all_eq_true] at this
  exact this.1.1.2 i hi
 ·intro i j x o hx ho hij hc
  have := at' j o ho
  simp only [okAt, bA, List.all_eq_true] at this
  have := this.1.2 i (List.mem_range.2 hij)
  simpa [hx, hc] using this
 ·intro j hm hj i hi
  obtain ⟨o, ho⟩ : ∃ o, ops[j]? = some o := ⟨ops[j], by simp [hj]⟩
  have := at' j o ho
  simp only [okAt, bA, Bool.or_eq_true, decide_eq_true_eq, List.all_eq_true] at this
  rcases this.2 with h | h
  ·omega
  ·exact h i (List.mem_range.2 hi)
section frames
variable (ops : Array Oper) (a₀ : Act)
def FF (L : Nat → Bool) (vs : Nat → Value) : Nat → Act
 | 0 => a₀
 | k + 1 => if L k then (FF L vs k).put (dstOf ops k) (vs k) else FF L vs k
end frames
section
variable {ops : Array Oper} {a₀ : Act}
theorem put_size (a : Act) (d : Option Tmp) (v : Value) : (a.put d v).tmps.size = a.tmps.size := by cases d <;> simp [Act.put]
theorem put_defers (a : Act) (d : Option Tmp) (v : Value) : (a.put d v).defers = a.defers := by cases d <;> rfl
theorem put_slot_ne (a : Act) (d : Option Tmp) (v : Value) (t : Tmp) (h : d ≠ some t) : (a.put d v).tmps[t]? = a.tmps[t]? := by
 cases d with
 | none => rfl
 | some d => simp only [Act.put]; rw [Array.getElem?_setIfInBounds_ne (by intro e; exact h (by rw [e]))]
theorem put_slot_eq (a : Act) (v : Value) (t : Tmp) : (a.put (some t) v).tmps[t]? = if t < a.tmps.size then some v else none := by
 simp only [Act.put]; rw [Array.getElem?_setIfInBounds_self]
theorem FF_size (L : Nat → Bool) (vs : Nat → Value) (k : Nat) : (FF ops a₀ L vs k).tmps.size = a₀.tmps.size := by
 induction k with
 | zero => rfl
 | succ k ih => simp only [FF]; split <;> simp [put_size, ih]
theorem FF_defers (L : Nat → Bool) (vs : Nat → Value) (k : Nat) : (FF ops a₀ L vs k).defers = a₀.defers := by
 induction k with
 | zero => rfl
 | succ k ih => simp only [FF]; split <;> simp [put_defers, ih]
theorem FF_slot {L L' : Nat → Bool} {vs vs' : Nat → Value} {t : Tmp} (k : Nat) (h : ∀ i, i < k → dstOf ops i = some t → L i = L' i ∧ (L i = true → vs i = vs' i)) :
  (FF ops a₀ L vs k).tmps[t]? = (FF ops a₀ L' vs' k).tmps[t]? := by
 induction k with
 | zero => rfl
 | succ k ih =>
  have ih' := ih (fun i hi => h i (by omega))
  by_cases hd : dstOf ops k = some t
  ·obtain ⟨h1, h2⟩ := h k (by omega) hd
   simp only [FF]
   rw [← h1]
   by_cases hL : L k = true
   ·rw [if_pos hL, if_pos hL, hd, h2 hL, put_slot_eq, put_slot_eq, FF_size, FF_size]
   ·rw [if_neg hL, if_neg hL]; exact ih'
  ·simp only [FF]
   have e1 : (if L k then (FF ops a₀ L vs k).put (dstOf ops k) (vs k) else FF ops a₀ L vs k).tmps[t]? = (FF ops a₀ L vs k).tmps[t]? := by
    split
    ·exact put_slot_ne _ _ _ _ hd
    ·rfl
   have e2 : (if L' k then (FF ops a₀ L' vs' k).put (dstOf ops k) (vs' k) else FF ops a₀ L' vs' k).tmps[t]? = (FF ops a₀ L' vs' k).tmps[t]? := by
    split
    ·exact put_slot_ne _ _ _ _ hd
    ·rfl
   rw [e1, e2]; exact ih'
theorem FF_below (vs : Nat → Value) (j k : Nat) (h : j ≤ k) : FF ops a₀ (fun i => decide (i < j)) vs k = FF ops a₀ (fun _ => true) vs j := by
 induction k with
 | zero => obtain rfl : j = 0 := by omega
           rfl
 | succ k ih =>
  by_cases hk : j ≤ k
  ·simp only [FF]
   rw [if_neg (by simp; omega)]
   exact ih hk
  ·obtain rfl : j = k + 1 := by omega
   have gen : ∀ m, m ≤ k + 1 → FF ops a₀ (fun i => decide (i < k + 1)) vs m = FF ops a₀ (fun _ => true) vs m := by
    intro m
    induction m with
    | zero => intro _; rfl
    | succ m ihm =>
     intro hm
     simp only [FF]
     rw [if_pos (by simp; omega), ihm (by omega)]
     simp
   exact gen _ (nR _)
def GG (ops : Array Oper) (a₀ : Act) (vs : Nat → Value) (j : Nat) : Act := FF ops a₀ (fun _ => true) vs j
theorem same_look {o : Oper} {a b : Act} (hs : ∀ cs c, o.op ≠ .select cs c) (h : ∀ t ∈ o.looksAt ops, a.tmps[t]? = b.tmps[t]?) :
  execOp a.eval o = execOp b.eval o ∧ Region.wanted o (yielded ops a.tmps) = Region.wanted o (yielded ops b.tmps) := by
 constructor
 ·refine execOp_congr o hs fun x hx => ?_
  cases x with
  | tmp t =>
   have := h t (List.mem_append_left _ (List.mem_filterMap.2 ⟨.tmp t, by simpa using hx, rfl⟩))
   simp only [Act.eval, Array.getD_eq_getD_getElem?, this]
  | _ => rfl
 ·unfold Region.wanted
  cases hg : o.guard with
  | none => rfl
  | some gw =>
   obtain ⟨g, want⟩ := gw
   have hy : yielded ops a.tmps g = yielded ops b.tmps g := by
    unfold yielded
    cases ht : (ops[g]?).bind (·.dst) with
    | none => rfl
    | some t => simp only [oC]; rw [h t (by simp [Oper.looksAt, hg, ht])]
   simp only [hy]
theorem clash_look {x o : Oper} {d : Tmp} (hd : x.dst = some d) (h : d ∈ o.looksAt ops ∨ o.dst = some d) : clash ops x o = true := by
 unfold clash
 rw [hd]
 rcases h with h | h
 ·simp [h]
 ·simp [h]
theorem clash_look' {x o : Oper} {d : Tmp} (hd : o.dst = some d) (h : d ∈ x.looksAt ops) : clash ops x o = true := by
 unfold clash
 rw [hd]
 simp [h]
end
section main
variable {P : Program} {ops : Array Oper} {Q : Exit → Act → World → Prop} {E : Act → World → Prop} {lo : List Oper} {I : World → Prop} {R : World → World → Prop} {pl : Nat → Option Part} {nd : Nat → List Nat} {X : List PanicEntry → World → Prop} {a₀ : Act} {pr : Nat → Nat → Bool}
def upd (vs : Nat → Value) (k : Nat) (v : Value) : Nat → Value := fun i => if i = k then v else vs i
theorem FF_congr {L L' : Nat → Bool} {vs vs' : Nat → Value} (k : Nat) (h : ∀ i, i < k → L i = L' i ∧ (L i = true → vs i = vs' i)) : FF ops a₀ L vs k = FF ops a₀ L' vs' k := by
 induction k with
 | zero => rfl
 | succ k ih =>
  obtain ⟨h1, h2⟩ := h k (by omega)
  simp only [FF]
  rw [ih (fun i hi => h i (by omega)), ← h1]
  split
  ·rename_i hL; rw [h2 hL]
  ·rfl
def wantAt (ops : Array Oper) (a₀ : Act) (vs : Nat → Value) (j : Nat) (o : Oper) : Prop := Region.wanted o (yielded ops (GG ops a₀ vs j).tmps) = true
def StepOk (P : Program) (ops : Array Oper) (I : World → Prop) (pl : Nat → Option Part) (a₀ : Act) (vs : Nat → Value) (j : Nat) : Prop :=
 ∀ o, ops[j]? = some o →
  (wantAt ops a₀ vs j o → (pl j = none → ∀ w, I w → (execOp (GG ops a₀ vs j).eval o).run P w = .ok (.value (vs j)) w) ∧ ∀ q, pl j = some q → q.val (vs j)) ∧
  (¬ wantAt ops a₀ vs j o → vs j = undef)
theorem look_congr (hH : Hangs ops nd lo.length pr) {vs vs' : Nat → Value} {j : Nat} {o : Oper} (ho : ops[j]? = some o) (h : ∀ i, pr j i = true → vs i = vs' i) :
  execOp (GG ops a₀ vs j).eval o = execOp (GG ops a₀ vs' j).eval o ∧ (wantAt ops a₀ vs j o ↔ wantAt ops a₀ vs' j o) := by
 have := same_look (ops := ops) (a := GG ops a₀ vs j) (b := GG ops a₀ vs' j) (hH.sel j o ho) (fun t ht => by
  refine FF_slot j fun i hi hd => ⟨rfl, fun _ => h i ?_⟩
  obtain ⟨x, hx, hxd⟩ : ∃ x, ops[i]? = some x ∧ x.dst = some t := by
   unfold dstOf at hd
   cases hx : ops[i]? with
   | none => simp [hx] at hd
   | some x => exact ⟨x, rfl, by simpa [hx] using hd⟩
  exact hH.clash i j x o hx ho hi (clash_look hxd (.inl ht)))
 exact ⟨this.1, by unfold wantAt; rw [this.2]⟩
theorem stepOk_congr (hH : Hangs ops nd lo.length pr) {vs vs' : Nat → Value} {j : Nat} (h : ∀ i, pr j i = true → vs i = vs' i) (hj : vs j = vs' j)
  (hs : StepOk P ops I pl a₀ vs j) : StepOk P ops I pl a₀ vs' j := by
 intro o ho
 obtain ⟨h1, h2⟩ := hs o ho
 obtain ⟨e1, e2⟩ := look_congr (a₀ := a₀) hH ho h
 rw [← e2, ← e1, ← hj]
 exact ⟨h1, h2⟩
open Classical in
noncomputable def knOf (ops : Array Oper) (pl : Nat → Option Part) (a₀ : Act) (vs : Nat → Value) : Nat → List (Nat × (World → Prop))
 | 0 => []
 | k + 1 => match ops[k]?, pl k with
  | some o, some q => if wantAt ops a₀ vs k o then knOf ops pl a₀ vs k ++ [(k, fun w => q.fact w (vs k))] else knOf ops pl a₀ vs k
  | _, _ => knOf ops pl a₀ vs k
theorem mem_knOf {vs : Nat → Value} {p : Nat × (World → Prop)} : ∀ {k : Nat}, p ∈ knOf ops pl a₀ vs k →
  ∃ i o q, i < k ∧ ops[i]? = some o ∧ pl i = some q ∧ wantAt ops a₀ vs i o ∧ p = (i, fun w => q.fact w (vs i))
 | 0, h => by cases h
 | k + 1, h => by
  have up : p ∈ knOf ops pl a₀ vs k → ∃ i o q, i < k + 1 ∧ ops[i]? = some o ∧ pl i = some q ∧ wantAt ops a₀ vs i o ∧ p = (i, fun w => q.fact w (vs i)) := fun h => by
   obtain ⟨i, o, q, hi, r⟩ := mem_knOf h
   exact ⟨i, o, q, by omega, r⟩
  unfold knOf at h
  split at h
  ·rename_i o q ho hq
   split at h
   ·rename_i hw
    rcases List.mem_append.1 h with h | h
    ·exact up h
    ·exact ⟨k, o, q, by omega, ho, hq, hw, List.mem_singleton.1 h⟩
   ·exact up h
  ·exact up h
theorem drop_cons (l : List Oper) (k : Nat) (o : Oper) (h : l[k]? = some o) : l.drop k = o :: l.drop (k + 1) := by
 obtain ⟨hlt, rfl⟩ := List.getElem?_eq_some_iff.1 h
 exact List.drop_eq_getElem_cons hlt
theorem phi_at (w₀ : World) (hw₀ : I w₀) (hlo : ∀ i, i < lo.length → ops[i]? = lo[i]?) (h : wpPhi P ops E I R pl nd X 0 lo a₀ []) (vs : Nat → Value) : ∀ k, k ≤ lo.length → (∀ i, i < k → StepOk P ops I pl a₀ vs i) →
  wpPhi P ops E I R pl nd X k (lo.drop k) (GG ops a₀ vs k) (knOf ops pl a₀ vs k)
 | 0, _, _ => by simpa [GG, FF, knOf] using h
 | k + 1, hk, hs => by
  have ih := phi_at w₀ hw₀ hlo h vs k (by omega) (fun i hi => hs i (by omega))
  obtain ⟨o, hol⟩ : ∃ o, lo[k]? = some o := ⟨lo[k], by simp⟩
  have ho : ops[k]? = some o := (hlo k (by omega)).trans hol
  rw [drop_cons lo k o hol] at ih
  have hg : GG ops a₀ vs (k + 1) = (GG ops a₀ vs k).put o.dst (vs k) := by
   simp only [GG, FF, if_true]
   congr 1
   simp [dstOf, ho]
  obtain ⟨h1, h2⟩ := hs k (by omega) o ho
  rw [hg]
  unfold wpPhi at ih
  unfold knOf
  by_cases hw : wantAt ops a₀ vs k o
  ·have hw' := hw
   unfold wantAt at hw'
   rw [if_pos hw'] at ih
   obtain ⟨h3, h4⟩ := h1 hw
   cases hp : pl k with
   | none =>
    rw [hp] at ih
    obtain ⟨v, hv, ih⟩ := ih
    have e := (hv w₀ hw₀).symm.trans (h3 hp w₀ hw₀)
    simp only [Result.ok.injEq, Next.value.injEq, and_true] at e
    subst e
    simpa [ho] using ih
   | some q =>
    rw [hp] at ih
    have := ih.2.2 (vs k) (h4 q hp)
    simpa [ho, hw] using this
  ·have hw' := hw
   unfold wantAt at hw'
   rw [if_neg hw'] at ih
   rw [h2 hw]
   cases hp : pl k with
   | none => simpa [ho] using ih
   | some q => simpa [ho, hw] using ih
theorem GG_upd (vs : Nat → Value) (k : Nat) (v : Value) : GG ops a₀ (upd vs k v) k = GG ops a₀ vs k :=
 FF_congr k fun i hi => ⟨rfl, fun _ => by unfold upd; rw [if_neg (by omega)]⟩
theorem step_ext (w₀ : World) (hw₀ : I w₀) (hlo : ∀ i, i < lo.length → ops[i]? = lo[i]?) (h : wpPhi P ops E I R pl nd X 0 lo a₀ []) (vs : Nat → Value) (k : Nat) (hk : k < lo.length) (hs : ∀ i, i < k → StepOk P ops I pl a₀ vs i) :
  ∃ v, StepOk P ops I pl a₀ (upd vs k v) k := by
 have ih := phi_at w₀ hw₀ hlo h vs k (by omega) hs
 obtain ⟨o, hol⟩ : ∃ o, lo[k]? = some o := ⟨lo[k], by simp [hk]⟩
 have ho : ops[k]? = some o := (hlo k hk).trans hol
 rw [drop_cons lo k o hol] at ih
 unfold wpPhi at ih
 have hu : ∀ v, upd vs k v k = v := fun v => by simp [upd]
 by_cases hw : Region.wanted o (yielded ops (GG ops a₀ vs k).tmps) = true
 ·rw [if_pos hw] at ih
  cases hp : pl k with
  | none =>
   rw [hp] at ih
   obtain ⟨v, hv, _⟩ := ih
   refine ⟨v, fun o' ho' => ?_⟩
   obtain rfl : o = o' := Option.some.inj (ho.symm.trans ho')
   unfold wantAt
   rw [GG_upd, hu]
   exact ⟨fun _ => ⟨fun _ => hv, fun q hq => (by rw [hp] at hq; cases hq)⟩, fun hn => absurd hw hn⟩
  | some q =>
   rw [hp] at ih
   obtain ⟨⟨v, hv⟩, _⟩ := ih
   refine ⟨v, fun o' ho' => ?_⟩
   obtain rfl : o = o' := Option.some.inj (ho.symm.trans ho')
   unfold wantAt
   rw [GG_upd, hu]
   exact ⟨fun _ => ⟨fun hn => (by rw [hp] at hn; cases hn), fun q' hq => (by rw [hp] at hq; cases hq; exact hv)⟩, fun hn => absurd hw hn⟩
 ·refine ⟨undef, fun o' ho' => ?_⟩
  obtain rfl : o = o' := Option.some.inj (ho.symm.trans ho')
  unfold wantAt
  rw [GG_upd, hu]
  exact ⟨fun hn => absurd hn hw, fun _ => rfl⟩
theorem complete (w₀ : World) (hw₀ : I w₀) (hlo : ∀ i, i < lo.length → ops[i]? = lo[i]?) (hle : lo.length ≤ ops.size) (hH : Hangs ops nd lo.length pr) (h : wpPhi P ops E I R pl nd X 0 lo a₀ []) (L : Nat → Bool) (vs : Nat → Value)
  (hc : ∀ j, j < lo.length → L j = true → ∀ i, pr j i = true → L i = true) (hL : ∀ j, j < lo.length → L j = true → StepOk P ops I pl a₀ vs j) :
  ∃ vs', (∀ j, L j = true → vs' j = vs j) ∧ ∀ j, j < lo.length → StepOk P ops I pl a₀ vs' j := by
 have key : ∀ k, k ≤ lo.length → ∃ vs', (∀ j, L j = true → vs' j = vs j) ∧ ∀ j, j < lo.length → (j < k ∨ L j = true) → StepOk P ops I pl a₀ vs' j := by
  intro k
  induction k with
  | zero => intro _; exact ⟨vs, fun _ _ => rfl, fun j hj hh => hL j hj (hh.resolve_left (by omega))⟩
  | succ k ih =>
   intro hk
   obtain ⟨vs', h1, h2⟩ := ih (by omega)
   by_cases hLk : L k = true
   ·refine ⟨vs', h1, fun j hj hh => ?_⟩
    rcases hh with hh | hh
    ·by_cases e : j = k
     ·subst e; exact h2 j hj (.inr hLk)
     ·exact h2 j hj (.inl (by omega))
    ·exact h2 j hj (.inr hh)
   ·obtain ⟨v, hv⟩ := step_ext w₀ hw₀ hlo h vs' k (by omega) (fun i hi => h2 i (by omega) (.inl hi))
    have ne : ∀ i, i ≠ k → vs' i = upd vs' k v i := fun i hi => by simp [upd, hi]
    refine ⟨upd vs' k v, fun j hj => ?_, fun j hj hh => ?_⟩
    ·have : j ≠ k := fun e => hLk (e ▸ hj)
     rw [← ne j this]; exact h1 j hj
    ·by_cases e : j = k
     ·subst e; exact hv
     ·have hs : StepOk P ops I pl a₀ vs' j := by
       rcases hh with hh | hh
       ·exact h2 j hj (.inl (by omega))
       ·exact h2 j hj (.inr hh)
      refine stepOk_congr hH (fun i hi => ne i ?_) (ne j e) hs
      intro ei
      subst ei
      rcases hh with hh | hh
      ·have := hH.lt j i (by omega) hi; omega
      ·exact hLk (hc j hj hh i hi)
 obtain ⟨vs', h1, h2⟩ := key lo.length (nR _)
 exact ⟨vs', h1, fun j hj => h2 j hj (.inl hj)⟩
theorem FF_add (hH : Hangs ops nd lo.length pr) (L : Nat → Bool) (vs : Nat → Value) (j : Nat) (o : Oper) (ho : ops[j]? = some o) (hj : L j = false)
  (hc : ∀ k, k < ops.size → L k = true → ∀ i, pr k i = true → L i = true) (hr : ∀ i, pr j i = true → L i = true) :
  (FF ops a₀ L vs ops.size).put o.dst (vs j) = FF ops a₀ (fun i => L i || i == j) vs ops.size := by
 have hjn : j < ops.size := (aA.1 ho).1
 have hdj : dstOf ops j = o.dst := by simp [dstOf, ho]
 have dst' : ∀ i t, dstOf ops i = some t → ∃ x, ops[i]? = some x ∧ x.dst = some t := by
  intro i t hd
  unfold dstOf at hd
  cases hx : ops[i]? with
  | none => simp [hx] at hd
  | some x => exact ⟨x, rfl, by simpa [hx] using hd⟩
 have slots : ∀ t : Nat, ((FF ops a₀ L vs ops.size).put o.dst (vs j)).tmps[t]? = (FF ops a₀ (fun i => L i || i == j) vs ops.size).tmps[t]? := by
  intro t
  by_cases hd : o.dst = some t
  ·have e1 : (FF ops a₀ (fun i => L i || i == j) vs ops.size).tmps[t]? = (FF ops a₀ (fun i => decide (i < j + 1)) vs ops.size).tmps[t]? := by
    refine FF_slot _ fun i hi hdi => ⟨?_, fun _ => rfl⟩
    obtain ⟨x, hx, hxd⟩ := dst' i t hdi
    rcases Nat.lt_trichotomy i j with h | h | h
    ·have := hr i (hH.clash i j x o hx ho h (clash_look hxd (.inr hd)))
     simp [this]; omega
    ·subst h; simp
    ·have h1 := hH.clash j i o x ho hx h (clash_look hd (.inr hxd))
     have h2 : L i = false := by
      cases hLi : L i with
      | false => rfl
      | true => rw [hc i hi hLi j h1] at hj; cases hj
     have h3 : (i == j) = false := by simp; omega
     have h4 : decide (i < j + 1) = false := by simp; omega
     rw [h2, h3, h4]; rfl
   rw [e1, FF_below vs (j + 1) ops.size (by omega)]
   simp only [FF, if_true]
   rw [hdj, hd, put_slot_eq, put_slot_eq, FF_size, FF_size]
  ·rw [put_slot_ne _ _ _ _ hd]
   refine FF_slot _ fun i hi hdi => ⟨?_, fun _ => rfl⟩
   have : i ≠ j := fun e => by subst e; rw [hdj] at hdi; exact hd hdi
   simp [this]
 have ht : ((FF ops a₀ L vs ops.size).put o.dst (vs j)).tmps = (FF ops a₀ (fun i => L i || i == j) vs ops.size).tmps := Array.ext_getElem? slots
 have hdf : ((FF ops a₀ L vs ops.size).put o.dst (vs j)).defers = (FF ops a₀ (fun i => L i || i == j) vs ops.size).defers := by rw [put_defers, FF_defers, FF_defers]
 generalize (FF ops a₀ L vs ops.size).put o.dst (vs j) = x at *
 generalize FF ops a₀ (fun i => L i || i == j) vs ops.size = y at *
 cases x; cases y; simp_all
theorem listed_set (listed : Array Bool) (j : Nat) (hs : j < listed.size) : (fun i => (listed.setIfInBounds j true).getD i false) = fun i => listed.getD i false || i == j := by
 funext i
 by_cases h : i = j
 ·subst h; simp [hs]
 ·rw [getD_set_ne false (Ne.symm h)]; simp [h]
theorem phi_run (w₀ : World) (hw₀ : I w₀) (hlo : ∀ i, i < lo.length → ops[i]? = lo[i]?) (hle : lo.length ≤ ops.size) (hH : Hangs ops nd lo.length pr) (h : wpPhi P ops E I R pl nd X 0 lo a₀ [])
  (htl : ∀ j, lo.length ≤ j → j < ops.size → ∀ i, i < lo.length → pr j i = true)
  (hE : ∀ a w, E a w → ∀ (fuel : Nat) (listed : Array Bool), listed.size = ops.size → (∀ i, listed.getD i false = decide (i < lo.length)) → ops.size - lo.length ≤ fuel → wpAny P .any ops Q fuel listed a w)
  (hI : ∀ w w', I w → R w w' → I w') (hS : ∀ j q, pl j = some q → ∀ w w' v, I w → R w w' → q.fact w v → q.fact w' v) (hX : ∀ ch a w, a.defers = a₀.defers → X ch w → Q (.panic ch) a w) :
  ∀ (fuel : Nat) (listed : Array Bool) (a : Act) (w : World) (vs : Nat → Value), listed.size = ops.size → (∀ i, listed.getD i false = true → i < lo.length) →
   (∀ k, k < ops.size → listed.getD k false = true → ∀ i, pr k i = true → listed.getD i false = true) →
   (∀ j, j < lo.length → StepOk P ops I pl a₀ vs j) → a = FF ops a₀ (fun i => listed.getD i false) vs ops.size → I w →
   (∀ i, i < ops.size → listed.getD i false = true → ∀ o q, ops[i]? = some o → wantAt ops a₀ vs i o → pl i = some q → q.fact w (vs i)) →
   ((List.range ops.size).filter fun i => !listed.getD i false).length ≤ fuel → wpAny P .any ops Q fuel listed a w := by
 have hedge : ∀ j o, ops[j]? = some o → ∀ (listed : Array Bool), (∀ k, k < ops.size → listed.getD k false = true → ∀ i, pr k i = true → listed.getD i false = true) →
   (∀ e ∈ o.after, Region.binds .any e = true → listed.getD e.on false = true) → ∀ i, pr j i = true → listed.getD i false = true := by
  intro j o ho listed hc he i hi
  have hjn := (aA.1 ho).1
  obtain ⟨e, hm, hb, hor⟩ := hH.edge j o ho i hi
  rcases hor with rfl | hor
  ·exact he e hm hb
  ·have hlt := hH.lt j e.on hjn (hH.edge' j o ho e hm hb)
   exact hc e.on (by omega) (he e hm hb) i hor
 have atEnd : ∀ (fuel : Nat) (listed : Array Bool) (w : World) (vs : Nat → Value), listed.size = ops.size → (∀ i, listed.getD i false = true → i < lo.length) → (∀ j, j < lo.length → StepOk P ops I pl a₀ vs j) → I w →
   (∀ i, i < ops.size → listed.getD i false = true → ∀ o q, ops[i]? = some o → wantAt ops a₀ vs i o → pl i = some q → q.fact w (vs i)) →
   ((List.range ops.size).filter fun i => !listed.getD i false).length ≤ fuel →
   (∀ i, i < lo.length → listed.getD i false = true) → wpAny P .any ops Q fuel listed (FF ops a₀ (fun i => listed.getD i false) vs ops.size) w := by
  intro fuel listed w vs hsz hin hs hw hf hn hall
  have hget : ∀ i, listed.getD i false = decide (i < lo.length) := by
   intro i
   by_cases hi : i < lo.length
   ·rw [hall i hi]; simp [hi]
   ·cases hl : listed.getD i false with
    | false => simp [hi]
    | true => exact absurd (hin i hl) hi
  have e : FF ops a₀ (fun i => listed.getD i false) vs ops.size = GG ops a₀ vs lo.length := by
   rw [show (fun i => listed.getD i false) = fun i => decide (i < lo.length) from funext hget, FF_below vs lo.length ops.size hle]; rfl
  rw [e]
  have := phi_at w₀ hw₀ hlo h vs lo.length (nR _) hs
  rw [List.drop_of_length_le (nR _)] at this
  unfold wpPhi at this
  refine hE _ _ (this w hw fun p hp => ?_) fuel listed hsz hget ?_
  ·obtain ⟨i, o, q, hi, ho, hq, hwant, rfl⟩ := mem_knOf hp
   exact hf i (by omega) (hall i hi) o q ho hwant hq
  ·have e2 : ((List.range ops.size).filter fun i => !listed.getD i false).length = ops.size - lo.length := by
    rw [show (fun i => !listed.getD i false) = fun i => !decide (i < lo.length) from funext fun i => by rw [hget]]
    have gen : ∀ n, ((List.range n).filter fun i => !decide (i < lo.length)).length = n - lo.length := by
     intro n
     induction n with
     | zero => simp
     | succ n ih =>
      rw [List.range_succ, List.filter_append, List.length_append, ih]
      by_cases hn : n < lo.length
      ·simp [hn]; omega
      ·simp [hn]; omega
    exact gen _
   omega
 intro fuel
 induction fuel with
 | zero =>
  intro listed a w vs hsz hin hc hs ha hw hf hn
  have hall : ∀ i, i < ops.size → listed.getD i false = true := by
   intro i hi
   have hnil := List.eq_nil_of_length_eq_zero (Nat.le_zero.1 hn)
   rw [List.filter_eq_nil_iff] at hnil
   have := hnil i (List.mem_range.2 hi)
   simpa using this
  rw [ha]
  exact atEnd 0 listed w vs hsz hin hs hw hf hn (fun i hi => hall i (by omega))
 | succ fuel ih =>
  intro listed a w vs hsz hin hc hs ha hw hf hn
  have getD_of : ∀ j, j < ops.size → listed.getD j true = listed.getD j false := by
   intro j hj
   have hjs : j < listed.size := by rw [hsz]; exact hj
   simp [hjs]
  by_cases hend : ∀ i, i < lo.length → listed.getD i false = true
  ·rw [ha]
   exact atEnd (fuel + 1) listed w vs hsz hin hs hw hf hn hend
  refine ⟨fun hnil => ?_, fun j hj => ?_⟩
  ·exfalso
   apply hend
   have key : ∀ i, i < ops.size → listed.getD i false = true := by
    intro i
    induction i using Nat.strongRecOn with
    | _ i ihi =>
     intro hi
     cases hl : listed.getD i false with
     | true => rfl
     | false =>
      obtain ⟨o, ho⟩ : ∃ o, ops[i]? = some o := ⟨ops[i], by simp [hi]⟩
      have : i ∈ Region.ready .any ops listed := by
       rw [mem_ready]
       refine ⟨by rw [getD_of i hi]; exact hl, o, ho, fun e he hb => ?_⟩
       have hlt := hH.lt i e.on hi (hH.edge' i o ho e he hb)
       exact ihi e.on hlt (by omega)
      rw [hnil] at this; cases this
   exact fun i hi => key i (by omega)
  ·rw [mem_ready] at hj
   obtain ⟨h0, o, ho, he⟩ := hj
   have hjn : j < ops.size := (aA.1 ho).1
   rw [getD_of j hjn] at h0
   have hpr := hedge j o ho listed hc he
   have hjm : j < lo.length := by
    rcases Nat.lt_or_ge j lo.length with h' | h'
    ·exact h'
    ·exact absurd (fun i hi => hpr i (htl j h' hjn i hi)) hend
   have hL' := listed_set listed j (by rw [hsz]; exact hjn)
   have hsz' : (listed.setIfInBounds j true).size = ops.size := by simp [hsz]
   have hget : ∀ i, (listed.setIfInBounds j true).getD i false = (listed.getD i false || i == j) := fun i => congrFun hL' i
   have hin' : ∀ i, (listed.setIfInBounds j true).getD i false = true → i < lo.length := by
    intro i hi
    rw [hget] at hi
    simp only [Bool.or_eq_true, beq_iff_eq] at hi
    rcases hi with hi | rfl
    ·exact hin i hi
    ·exact hjm
   have hc' : ∀ k, k < ops.size → (listed.setIfInBounds j true).getD k false = true → ∀ i, pr k i = true → (listed.setIfInBounds j true).getD i false = true := by
    intro k hk hk' i hi
    rw [hget] at hk' ⊢
    simp only [Bool.or_eq_true, beq_iff_eq] at hk' ⊢
    rcases hk' with hk' | rfl
    ·exact .inl (hc k hk hk' i hi)
    ·exact .inl (hpr i hi)
   have hn' : ((List.range ops.size).filter fun i => !(listed.setIfInBounds j true).getD i false).length ≤ fuel := by
    have hlt : ((List.range ops.size).filter fun i => !(listed.setIfInBounds j true).getD i false).length < ((List.range ops.size).filter fun i => !listed.getD i false).length := by
     have e : ((List.range ops.size).filter fun i => !(listed.setIfInBounds j true).getD i false) = (((List.range ops.size).filter fun i => !listed.getD i false).filter fun i => !(i == j)) := by
      rw [List.filter_filter]
      congr 1
      funext i
      rw [hget]
      cases listed.getD i false <;> simp
     rw [e]
     refine List.length_filter_lt_length_iff_exists.2 ⟨j, ?_, by simp⟩
     rw [List.mem_filter]
     exact ⟨List.mem_range.2 hjn, by rw [h0]; rfl⟩
    omega
   have look : execOp a.eval o = execOp (GG ops a₀ vs j).eval o ∧ Region.wanted o (yielded ops a.tmps) = Region.wanted o (yielded ops (GG ops a₀ vs j).tmps) := by
    subst ha
    refine same_look (hH.sel j o ho) fun t ht => ?_
    have e1 : (GG ops a₀ vs j).tmps[t]? = (FF ops a₀ (fun i => decide (i < j)) vs ops.size).tmps[t]? := by rw [FF_below vs j ops.size (by omega)]; rfl
    rw [e1]
    refine FF_slot _ fun i hi hd => ⟨?_, fun _ => rfl⟩
    obtain ⟨x, hx, hxd⟩ : ∃ x, ops[i]? = some x ∧ x.dst = some t := by
     unfold dstOf at hd
     cases hx : ops[i]? with
     | none => simp [hx] at hd
     | some x => exact ⟨x, rfl, by simpa [hx] using hd⟩
    rcases Nat.lt_trichotomy i j with hij | hij | hij
    ·rw [hpr i (hH.clash i j x o hx ho hij (clash_look hxd (.inl ht)))]; simp [hij]
    ·subst hij; rw [h0]; simp
    ·have h1 := hH.clash j i o x ho hx hij (clash_look' hxd ht)
     have h2 : listed.getD i false = false := by
      cases hLi : listed.getD i false with
      | false => rfl
      | true => rw [hc i hi hLi j h1] at h0; cases h0
     rw [h2]; simp; omega
   have add : ∀ vs', (∀ i, i < ops.size → listed.getD i false = true → vs' i = vs i) →
     a.put o.dst (vs' j) = FF ops a₀ (fun i => (listed.setIfInBounds j true).getD i false) vs' ops.size := by
    intro vs' hv
    rw [hL', ← FF_add hH (fun i => listed.getD i false) vs' j o ho h0 hc hpr, ha]
    congr 1
    exact FF_congr _ fun i hi => ⟨rfl, fun hl => (hv i hi hl).symm⟩
   unfold wpOp
   rw [ho]
   simp only
   obtain ⟨hs1, hs2⟩ := hs j hjm o ho
   by_cases hwant : wantAt ops a₀ vs j o
   ·have hwant' : Region.wanted o (yielded ops a.tmps) = true := by rw [look.2]; exact hwant
    rw [if_pos hwant']
    refine .inl ?_
    obtain ⟨hp1, hp2⟩ := hs1 hwant
    cases hp : pl j with
    | none =>
     refine gives_wp (ρ := (GG ops a₀ vs j).eval) (T := fun v w' => v = vs j ∧ w' = w) (X := X) look.1 ?_ ?_ (fun ch w' h => hX ch _ w' (by rw [ha]; exact FF_defers _ _ _) h)
     ·unfold gives; rw [hp1 hp w hw]; exact ⟨rfl, rfl⟩
     ·rintro v w' ⟨rfl, rfl⟩
      refine ih _ _ _ vs hsz' hin' hc' hs (add vs fun _ _ _ => rfl) hw (fun i hi hl o' q' ho' hwi hq' => ?_) hn'
      rw [hget] at hl
      simp only [Bool.or_eq_true, beq_iff_eq] at hl
      rcases hl with hl | rfl
      ·exact hf i hi hl o' q' ho' hwi hq'
      ·rw [hp] at hq'; cases hq'
    | some q =>
     have hat := phi_at w₀ hw₀ hlo h vs j (by omega) (fun i hi => hs i (by omega))
     rw [drop_cons lo j o (by rw [← hlo j hjm]; exact ho)] at hat
     unfold wpPhi at hat
     rw [if_pos (show Region.wanted o (yielded ops (GG ops a₀ vs j).tmps) = true from hwant), hp] at hat
     obtain ⟨_, hg, _⟩ := hat
     have hgive := hg w hw (fun p hpk hpn => by
      obtain ⟨i, o', q', hi, ho', hq', hwi, rfl⟩ := mem_knOf hpk
      have hpri := hH.need j hjn i (hpn)
      exact hf i (by omega) (hpr i hpri) o' q' ho' hwi hq')
     refine gives_wp (ρ := (GG ops a₀ vs j).eval) look.1 hgive ?_ (fun ch w' h => hX ch _ w' (by rw [ha]; exact FF_defers _ _ _) h)
     rintro v w' ⟨hv, hfact, hR⟩
     have hcL : ∀ k, k < lo.length → (listed.getD k false || k == j) = true → ∀ i, pr k i = true → (listed.getD i false || i == j) = true := by
      intro k hk hk' i hi
      have := hc' k (by omega) (by rw [hget]; exact hk') i hi
      rwa [hget] at this
     obtain ⟨vs', hv1, hv2⟩ := complete w₀ hw₀ hlo hle hH h (fun i => listed.getD i false || i == j) (upd vs j v) hcL (fun k hk hkL => by
      by_cases e : k = j
      ·subst e
       intro o' ho'
       obtain rfl : o = o' := Option.some.inj (ho.symm.trans ho')
       unfold wantAt
       rw [GG_upd]
       refine ⟨fun _ => ⟨fun hn => (by rw [hp] at hn; cases hn), fun q' hq' => ?_⟩, fun hn => absurd hwant hn⟩
       rw [hp] at hq'; cases hq'
       simpa [upd] using hv
      ·have hkl : listed.getD k false = true := by simpa [e] using hkL
       refine stepOk_congr hH (fun i hi => ?_) (by simp [upd, e]) (hs k hk)
       have hil := hc k (by omega) hkl i hi
       have : i ≠ j := fun e' => by subst e'; rw [hil] at h0; cases h0
       simp [upd, this])
     have agree : ∀ i, i < ops.size → listed.getD i false = true → vs' i = vs i := by
      intro i _ hil
      have hne : i ≠ j := fun e' => by subst e'; rw [hil] at h0; cases h0
      rw [hv1 i (show (listed.getD i false || i == j) = true by rw [hil]; rfl)]
      simp [upd, hne]
     have hvj : vs' j = v := by rw [hv1 j (by simp)]; simp [upd]
     have e2 := add vs' agree
     rw [hvj] at e2
     refine ih _ _ _ vs' hsz' hin' hc' hv2 e2 (hI w w' hw hR) (fun i hi hl o' q' ho' hwi hq' => ?_) hn'
     rw [hget] at hl
     simp only [Bool.or_eq_true, beq_iff_eq] at hl
     by_cases e : i = j
     ·subst e
      rw [hp] at hq'; cases hq'
      rw [hvj]; exact hfact
     ·have hil := hl.resolve_right e
      rw [agree i hi hil]
      refine hS i q' hq' w w' _ hw hR (hf i hi hil o' q' ho' ?_ hq')
      refine (look_congr hH ho' fun k hk => ?_).2.1 hwi
      have hlt := hH.lt i k hi hk
      exact agree k (by omega) (hc i hi hil k hk)
   ·have hwant' : ¬ Region.wanted o (yielded ops a.tmps) = true := by rw [look.2]; exact hwant
    rw [if_neg hwant']
    have e2 := add vs (fun _ _ _ => rfl)
    rw [hs2 hwant] at e2
    refine ih _ _ _ vs hsz' hin' hc' hs e2 hw (fun i hi hl o' q' ho' hwi hq' => ?_) hn'
    rw [hget] at hl
    simp only [Bool.or_eq_true, beq_iff_eq] at hl
    rcases hl with hl | rfl
    ·exact hf i hi hl o' q' ho' hwi hq'
    ·obtain rfl : o = o' := Option.some.inj (ho.symm.trans ho')
     exact absurd hwi hwant
theorem tail_run {m : Nat} (hH : Hangs ops nd m pr) : ∀ (fuel j : Nat) (listed : Array Bool) (a : Act) (w : World), m ≤ j → j ≤ ops.size → listed.size = ops.size → (∀ i, listed.getD i false = decide (i < j)) →
  ops.size - j ≤ fuel → wpList P ops Q (ops.toList.drop j) a w → wpAny P .any ops Q fuel listed a w := by
 intro fuel
 induction fuel with
 | zero =>
  intro j listed a w hmj hj hsz hget hf h
  obtain rfl : j = ops.size := by omega
  rw [List.drop_of_length_le (by simp)] at h
  refine ⟨?_, h⟩
  rw [List.eq_nil_iff_forall_not_mem]
  intro i hi
  rw [mem_ready] at hi
  obtain ⟨h0, o, ho, _⟩ := hi
  have hi := (aA.1 ho).1
  have h1 := hget i
  have his : i < listed.size := by omega
  simp [his, hi] at h0 h1
  rw [h1] at h0; cases h0
 | succ fuel ih =>
  intro j listed a w hmj hj hsz hget hf h
  have only : ∀ i, i ∈ Region.ready .any ops listed → i = j := by
   intro i hi
   rw [mem_ready] at hi
   obtain ⟨h0, o, ho, he⟩ := hi
   have hin := (aA.1 ho).1
   have hil : listed.getD i false = false := by
    have his : i < listed.size := by omega
    simp [his] at h0 ⊢
    exact h0
   have hij : j ≤ i := by rw [hget] at hil; simpa using hil
   rcases Nat.lt_or_ge j i with hlt | hge
   ·have hp := hH.tail i (by omega) hin j hlt
    obtain ⟨e, hm, hb, hor⟩ := hH.edge i o ho j hp
    have hel := he e hm hb
    rw [hget] at hel
    have hel' : e.on < j := by simpa using hel
    rcases hor with rfl | hor
    ·omega
    ·have := hH.lt e.on j (by omega) hor; omega
   ·omega
  by_cases hjn : j = ops.size
  ·subst hjn
   rw [List.drop_of_length_le (by simp)] at h
   refine ⟨fun _ => h, fun i hi => ?_⟩
   have := only i hi
   rw [mem_ready] at hi
   obtain ⟨_, o, ho, _⟩ := hi
   have := (aA.1 ho).1
   omega
  ·obtain ⟨o, ho⟩ : ∃ o, ops[j]? = some o := ⟨ops[j], by simp⟩
   have hjs : j < listed.size := by omega
   rw [drop_cons ops.toList j o (by simpa using ho)] at h
   have hset : ∀ i, (listed.setIfInBounds j true).getD i false = decide (i < j + 1) := by
    intro i
    rw [congrFun (listed_set listed j hjs) i, hget]
    by_cases h1 : i < j
    ·simp [h1]; omega
    ·by_cases h2 : i = j
     ·subst h2; simp
     ·have h3 : (i == j) = false := by simp [h2]
      have h4 : decide (i < j + 1) = false := decide_eq_false (by omega)
      have h5 : decide (i < j) = false := decide_eq_false h1
      rw [h3, h4, h5]; rfl
   refine ⟨fun hnil => ?_, fun i hi => ?_⟩
   ·exfalso
    have : j ∈ Region.ready .any ops listed := by
     rw [mem_ready]
     have h1 := hget j
     refine ⟨?_, o, ho, fun e he hb => ?_⟩
     ·simp [hjs] at h1 ⊢; exact h1
     ·rw [hget]
      have := hH.lt j e.on (by omega) (hH.edge' j o ho e he hb)
      simpa using this
    rw [hnil] at this; cases this
   ·obtain rfl := only i hi
    unfold wpList at h
    unfold wpOp
    rw [ho]
    simp only
    have next : ∀ a' w', wpList P ops Q (ops.toList.drop (i + 1)) a' w' → wpAny P .any ops Q fuel (listed.setIfInBounds i true) a' w' :=
     fun a' w' h' => ih (i + 1) _ a' w' (by omega) (by omega) (by simp [hsz]) hset (by omega) h'
    split
    ·rename_i hw
     rw [if_pos hw] at h
     exact h.imp (Oper.wp_mono next) id
    ·rename_i hw
     rw [if_neg hw] at h
     exact next _ _ h
def planOf (ps : List (Nat × Part)) : Nat → Option Part := fun j => ps.lookup j
theorem plan_stable {ps : List (Nat × Part)} {S : Part → Prop} (h : ∀ p ∈ ps, S p.2) : ∀ j q, planOf ps j = some q → S q := by
 intro j q hq
 induction ps with
 | nil => cases hq
 | cons p ps ih =>
  obtain ⟨k, x⟩ := p
  unfold planOf at hq
  rw [List.lookup_cons] at hq
  split at hq
  ·cases hq; exact h (k, q) (by simp)
  ·exact ih (fun p hp => h p (by simp [hp])) hq
def needs (ns : List (Nat × List Nat)) : Nat → List Nat := fun j => (ns.lookup j).getD []
theorem wp_phi_R {id : Nat} {w : World} (lo tl : List Oper) (X : List PanicEntry → World → Prop) (hX : ∀ ch a w, a.defers = a₀.defers → X ch w → Q (.panic ch) a w) (R : World → World → Prop) (I : World → Prop) (ps : List (Nat × Part)) (ns : List (Nat × List Nat)) (hm : P.follows .mixedOrders = true)
  (hok : phiOk (lo ++ tl).toArray (needs ns) lo.length = true)
  (hI : ∀ w w', I w → R w w' → I w') (hS : ∀ p ∈ ps, ∀ w w' v, I w → R w w' → p.2.fact w v → p.2.fact w' v)
  (hw : I w.drew) (h : wpPhi P (lo ++ tl).toArray (wpList P (lo ++ tl).toArray Q tl) I R (planOf ps) (needs ns) X 0 lo a₀ []) : (Code.region id (lo ++ tl).toArray true).wp P Q a₀ w := by
 generalize hops : (lo ++ tl).toArray = ops at *
 have hlo : ∀ i, i < lo.length → ops[i]? = lo[i]? := by
  intro i hi; rw [← hops]; simp [List.getElem?_append_left hi]
 have hle : lo.length ≤ ops.size := by rw [← hops]; simp
 have hdrop : ops.toList.drop lo.length = tl := by rw [← hops]; simp
 obtain ⟨pr, hH⟩ := hangs_of_ok hok
 obtain ⟨vs, _, hvs⟩ := complete w.drew hw hlo hle hH h (fun _ => false) (fun _ => undef) (fun _ _ h => by cases h) (fun _ _ h => by cases h)
 have hrep : ∀ i : Nat, (Array.replicate ops.size false).getD i false = false := by
  intro i
  rw [Array.getD_eq_getD_getElem?, Array.getElem?_replicate]
  split <;> rfl
 refine wp_region_any hm (phi_run w.drew hw hlo hle hH h (fun j h1 h2 i hi => hH.tail j h1 h2 i (by omega)) ?_ hI (plan_stable (S := fun q => ∀ w w' v, I w → R w w' → q.fact w v → q.fact w' v) hS) hX ops.size _ a₀ w.drew vs (by simp) ?_ ?_ hvs ?_ hw ?_ ?_)
 ·intro a w' hE fuel listed hsz hget hf
  exact tail_run hH fuel lo.length listed a w' (nR _) hle hsz hget hf (by rw [hdrop]; exact hE)
 ·intro i hi; rw [hrep] at hi; cases hi
 ·intro k _ hk; rw [hrep] at hk; cases hk
 ·have gen : ∀ k, FF ops a₀ (fun i => (Array.replicate ops.size false).getD i false) vs k = a₀ := by
   intro k
   induction k with
   | zero => rfl
   | succ k ih =>
    simp only [FF]
    rw [if_neg (by rw [hrep]; decide), ih]
  exact (gen _).symm
 ·intro i _ hk; rw [hrep] at hk; cases hk
 ·exact Nat.le_trans (List.length_filter_le _ _) (by simp)
theorem wp_phi {id : Nat} {w : World} {lo : List Oper} (X : List PanicEntry → World → Prop) (hX : ∀ ch a w, a.defers = a₀.defers → X ch w → Q (.panic ch) a w) (I : World → Prop) (ps : List (Nat × Part)) (ns : List (Nat × List Nat)) (hm : P.follows .mixedOrders = true) (hok : phiOk lo.toArray (needs ns) lo.length = true)
  (hI : ∀ w w', I w → Below w.heap.size w w' → I w') (hS : ∀ p ∈ ps, ∀ w w' v, I w → Below w.heap.size w w' → p.2.fact w v → p.2.fact w' v)
  (hw : I w.drew) (h : Veil (wpPhi P lo.toArray (wpList P lo.toArray Q []) I (fun w w' => Below w.heap.size w w') (planOf ps) (needs ns) X 0 lo a₀ [])) : (Code.region id lo.toArray true).wp P Q a₀ w := by
 have := wp_phi_R (P := P) (Q := Q) (id := id) (w := w) (a₀ := a₀) lo [] X hX (fun w w' => Below w.heap.size w w') I ps ns hm (by rw [List.append_nil]; exact hok) hI hS hw (by rw [List.append_nil]; exact h.out)
 rwa [List.append_nil] at this
theorem wp_phi_tail {id : Nat} {w : World} (lo tl : List Oper) {l : List Oper} (hl : l = lo ++ tl) (X : List PanicEntry → World → Prop) (hX : ∀ ch a w, a.defers = a₀.defers → X ch w → Q (.panic ch) a w) (I : World → Prop) (ps : List (Nat × Part)) (ns : List (Nat × List Nat)) (hm : P.follows .mixedOrders = true) (hok : phiOk l.toArray (needs ns) lo.length = true)
  (hI : ∀ w w', I w → Below w.heap.size w w' → I w') (hS : ∀ p ∈ ps, ∀ w w' v, I w → Below w.heap.size w w' → p.2.fact w v → p.2.fact w' v)
  (hw : I w.drew) (h : Veil (wpPhi P l.toArray (wpList P l.toArray Q tl) I (fun w w' => Below w.heap.size w w') (planOf ps) (needs ns) X 0 lo a₀ [])) : (Code.region id l.toArray true).wp P Q a₀ w := by
 subst hl
 exact wp_phi_R lo tl X hX (fun w w' => Below w.heap.size w w') I ps ns hm hok hI hS hw h.out
end main
end Go.Proofs.YthboiahdheehkaaGreatDoor.PX
namespace Go.Proofs.YthboiahdheehkaaGreatDoor
open Go.RowKit Go.Extern.Stop Go.Stop Go.Extern
theorem tryStr_idle (d x r : Nat) (w : World) (hd : w.cell? ⟨d, 0, none⟩ = some (.bool true)) :
  CallsD Tryz.prog 59 #[.pointer (some ⟨d, 0, none⟩), .pointer (some ⟨x, 0, none⟩), .pointer (some ⟨r, 0, none⟩)] .returning w fun e u' w' => e = .returned (.tuple #[]) ∧ u' = .returning ∧ w' = w := by
 refine callsD_of_wpS Tryz.func59 rfl fun c₀ cs hu => ?_
 apply wpS_seq
 apply wpS_region
 simp [wpOpsS, go_sem, recoverD, hu, Tryz.ntmps59, Exit.thenS]
 refine wpS_of_wp ?_
 have e : (#[Value.pointer (some ⟨d, 0, none⟩), .pointer (some ⟨x, 0, none⟩), .pointer (some ⟨r, 0, none⟩)] ++ ((Array.replicate 8 undef).setIfInBounds 2 Value.nilIface).setIfInBounds 0 Value.nilIface) =
   #[Value.pointer (some ⟨d, 0, none⟩), .pointer (some ⟨x, 0, none⟩), .pointer (some ⟨r, 0, none⟩), .nilIface, undef, .nilIface, undef, undef, undef, undef, undef] := rfl
 rw [e]
 clear e
 go_wp2_with fail
 cases c₀
 simp_all [bodyPostS, results, Tryz.results59]
theorem tryStr_err (d x r : Nat) (w : World) (E : Nat → Addr) (u : Value) (n : Nat) (older : List PanicEntry) (hu0 : ∃ T x, u = .iface T x) (ht : Tells w u E n) (he : Errs w E) (hd : w.cell? ⟨d, 0, none⟩ = some (.bool false))
  (hx : Blk w x 9 #[.string ⟨#[]⟩]) (hr : Blk w r 30 #[.nilIface]) (hxr : x ≠ r) :
  CallsD Tryz.prog 59 #[.pointer (some ⟨d, 0, none⟩), .pointer (some ⟨x, 0, none⟩), .pointer (some ⟨r, 0, none⟩)] (.panicking ({ v := u, recovered := false } :: older)) w fun e u' w' =>
   e = .returned (.tuple #[]) ∧ u' = .panicking ({ v := u, recovered := true } :: older) ∧ w'.cell? ⟨x, 0, none⟩ = some (.string ⟨#[]⟩) ∧ w'.cell? ⟨r, 0, none⟩ = some (errAt (E n)) ∧ But [x, r] w w' := by
 have HT := ht w (Below.refl _ _) he
 unfold errAt at HT ⊢
 obtain ⟨T, x0, rfl⟩ := hu0
 clear ht
 refine callsD_of_wpS Tryz.func59 rfl fun c₀ cs hu => ?_
 apply wpS_seq
 apply wpS_region
 simp [wpOpsS, go_sem, recoverD, hu, Tryz.ntmps59, Exit.thenS]
 refine wpS_of_wp ?_
 have e : (#[Value.pointer (some ⟨d, 0, none⟩), .pointer (some ⟨x, 0, none⟩), .pointer (some ⟨r, 0, none⟩)] ++ ((Array.replicate 8 undef).setIfInBounds 2 (Value.iface T x0)).setIfInBounds 0 (Value.iface T x0)) =
   #[Value.pointer (some ⟨d, 0, none⟩), .pointer (some ⟨x, 0, none⟩), .pointer (some ⟨r, 0, none⟩), .iface T x0, undef, .iface T x0, undef, undef, undef, undef, undef] := rfl
 rw [e]
 have HX := Lib.hid hx
 have HR := Lib.hid hr
 clear e he hx hr
 go_wp2_with fail
 refine HT.mono ?_
 rintro e w1 ⟨rfl, hb1⟩
 have hx1 := HX.out.below hb1 HX.out.lt
 have hr1 := HR.out.below hb1 HR.out.lt
 have HX1 := Lib.hid hx1
 have HR1 := Lib.hid hr1
 have cx := (hx1.cell 0).trans rfl
 have fx := hx1.frozen 0
 have cr := (hr1.cell 0).trans rfl
 have fr := hr1.frozen 0
 have HB1 := Lib.hid hb1
 clear hx1 hr1 hb1 HT
 go_wp2_with fail
 have hA := (((HX1.out.set_ 0 (.string ⟨#[]⟩)).cell 0).trans rfl : (w1.setCell ⟨x, 0, none⟩ (.string ⟨#[]⟩)).cell? ⟨x, 0, none⟩ = some (.string ⟨#[]⟩))
 have hA' : ((w1.setCell ⟨x, 0, none⟩ (.string ⟨#[]⟩)).setCell ⟨r, 0, none⟩ (.iface 313 (.pointer (some (E n))))).cell? ⟨x, 0, none⟩ = some (.string ⟨#[]⟩) := by
  refine (World.cell?_of_block (Below.heap_setCell _ _ _ _ ?_)).trans hA
  exact hxr
 have hr2 : Blk (w1.setCell ⟨x, 0, none⟩ (.string ⟨#[]⟩)) r 30 #[.nilIface] := (Below.heap_setCell _ _ _ _ (fun e => hxr e.symm)).trans HR1.out
 have hB := ((hr2.set_ 0 (.iface 313 (.pointer (some (E n))))).cell 0).trans rfl
 have hC : But [x, r] w ((w1.setCell ⟨x, 0, none⟩ (.string ⟨#[]⟩)).setCell ⟨r, 0, none⟩ (.iface 313 (.pointer (some (E n))))) :=
  ((But.of_below HB1.out).set_ x 0 _ (by simp)).set_ r 0 _ (by simp)
 cases c₀
 simp only [bodyPostS, results, Tryz.results59]
 exact ⟨trivial, _, rfl, .tuple #[], by simp, rfl, rfl, hA', hB, hC⟩
theorem tryStr_any (w : World) (E : Nat → Addr) (f : FuncId) (caps : Array Value) (S : List Nat) (R : World → Value → World → Prop) (Q : Nat → World → World → Prop) (hSl : ∀ s ∈ S, s < w.heap.size) (he : ∀ w', But S w w' → Errs w' E) (hRs : ∀ w1 v w2, R w1 v w2 → ∃ z : ByteArray, v = .string z) (hcf : ∀ w, (callFunc f caps).run Tryz.prog w = .ok (.enter f caps) w)
  (hdo : ∀ w1, Below w.heap.size w w1 → w1.heap.size = w.heap.size + 3 → Calls Tryz.prog f caps w1 fun e w2 => MayG (R w1) (fun n w2 => Q n w1 w2) E e w2 ∧ But S w1 w2) :
  Calls Tryz.prog 27 #[.func (.func f) #[] caps] w (TryG S R Q E (.string ⟨#[]⟩) w) := by
 have hmf := @run_makeFunc Tryz.prog
 have HE := Lib.hid he
 have HD := Lib.hid hdo
 have HRS := Lib.hid hRs
 have hno : ∀ k, w.heap.size ≤ k → S.contains k = false := fun k hk => by
  rw [Bool.eq_false_iff]
  intro hc
  have := hSl k (List.contains_iff_mem.1 hc)
  omega
 have HNO := Lib.hid hno
 clear he hdo hRs hSl hno
 go_enter_defers Tryz.func27, Tryz.ntmps27
 go_wp2_with fail
 have hb1 : Below w.heap.size w (((w.alloc (.cells #[.string ⟨#[]⟩] 9)).alloc (.cells #[.nilIface] 30)).alloc (.cells #[.bool false] 4)) := below_alloc (below_alloc (below_alloc1 w _) _) _
 refine (HD.out _ hb1 (by simp)).mono ?_
 rintro e w2 ⟨hm, hb2⟩
 have x1 := hb2.blk (((Blk.new w 9 #[.string ⟨#[]⟩]).alloc (.cells #[.nilIface] 30)).alloc (.cells #[.bool false] 4)) (HNO.out _ (nR _))
 have r1 := hb2.blk ((Blk.new (w.alloc (.cells #[.string ⟨#[]⟩] 9)) 30 #[.nilIface]).alloc (.cells #[.bool false] 4)) (HNO.out _ (by simp))
 have d1 := hb2.blk (Blk.new ((w.alloc (.cells #[.string ⟨#[]⟩] 9)).alloc (.cells #[.nilIface] 30)) 4 #[.bool false]) (HNO.out _ (by simp; omega))
 have hs1 : (((w.alloc (.cells #[.string ⟨#[]⟩] 9)).alloc (.cells #[.nilIface] 30)).alloc (.cells #[.bool false] 4)).heap.size = w.heap.size + 3 := by simp
 simp only [World.size_alloc] at r1 d1
 have X1 := Lib.hid x1
 have R1 := Lib.hid r1
 have D1 := Lib.hid d1
 have B1 := Lib.hid hb1
 have B2 := Lib.hid hb2
 have S1 := Lib.hid hs1
 rcases hm with ⟨v, rfl, hR⟩ | ⟨u, n, hn, hS, ⟨T, x0, rfl⟩, htells, rfl⟩
 ·obtain ⟨z, rfl⟩ := HRS.out _ _ _ hR
  have HR := Lib.hid hR
  have cx := (x1.cell 0).trans rfl
  have fx := x1.frozen 0
  have cr := (r1.cell 0).trans rfl
  have fr := r1.frozen 0
  have cd := (d1.cell 0).trans rfl
  have fd := d1.frozen 0
  clear x1 r1 d1 hb1 hb2 hs1 hR
  generalize (((w.alloc (.cells #[.string ⟨#[]⟩] 9)).alloc (.cells #[.nilIface] 30)).alloc (.cells #[.bool false] 4)) = w1 at *
  go_wp2_with fail
  clear cx fx cr fr cd fd
  have a1 : Blk (w2.setCell ⟨w.heap.size, 0, none⟩ (.string z)) w.heap.size 9 #[.string z] := X1.out.set_ 0 _
  have b1 := (R1.out.far (b := w.heap.size) (by omega) 0 (.string z))
  have e1 : Blk ((w2.setCell ⟨w.heap.size, 0, none⟩ (.string z)).setCell ⟨w.heap.size + 1 + 1, 0, none⟩ (.bool true)) (w.heap.size + 1 + 1) 4 #[.bool true] := (D1.out.far (b := w.heap.size) (by omega) 0 (.string z)).set_ 0 (.bool true)
  have a2 := a1.far (b := w.heap.size + 1 + 1) (by omega) 0 (.bool true)
  have b2 := b1.far (b := w.heap.size + 1 + 1) (by omega) 0 (.bool true)
  have a3 : Blk (((w2.setCell ⟨w.heap.size, 0, none⟩ (.string z)).setCell ⟨w.heap.size + 1 + 1, 0, none⟩ (.bool true)).setCell ⟨w.heap.size, 0, none⟩ (.string z)) w.heap.size 9 #[.string z] := a2.set_ 0 _
  have b3 := b2.far (b := w.heap.size) (by omega) 0 (.string z)
  have e3 := e1.far (b := w.heap.size) (by omega) 0 (.string z)
  have a4 := a3.far (b := w.heap.size + 1) (by omega) 0 .nilIface
  have b4 : Blk ((((w2.setCell ⟨w.heap.size, 0, none⟩ (.string z)).setCell ⟨w.heap.size + 1 + 1, 0, none⟩ (.bool true)).setCell ⟨w.heap.size, 0, none⟩ (.string z)).setCell ⟨w.heap.size + 1, 0, none⟩ .nilIface) (w.heap.size + 1) 30 #[.nilIface] := b3.set_ 0 _
  have e4 := e3.far (b := w.heap.size + 1) (by omega) 0 .nilIface
  have hBut : But [w.heap.size, w.heap.size + 1, w.heap.size + 2] w2 ((((w2.setCell ⟨w.heap.size, 0, none⟩ (.string z)).setCell ⟨w.heap.size + 1 + 1, 0, none⟩ (.bool true)).setCell ⟨w.heap.size, 0, none⟩ (.string z)).setCell ⟨w.heap.size + 1, 0, none⟩ .nilIface) :=
   ((((But.of_below (Below.refl _ _)).set_ _ 0 _ (by simp)).set_ _ 0 _ (by simp)).set_ _ 0 _ (by simp)).set_ _ 0 _ (by simp)
  clear a1 a2 a3 b1 b2 b3 e1 e3
  generalize ((((w2.setCell ⟨w.heap.size, 0, none⟩ (.string z)).setCell ⟨w.heap.size + 1 + 1, 0, none⟩ (.bool true)).setCell ⟨w.heap.size, 0, none⟩ (.string z)).setCell ⟨w.heap.size + 1, 0, none⟩ .nilIface) = w3 at *
  refine leaves_cons (f := 59) (args := #[.pointer (some ⟨w.heap.size + 1 + 1, 0, none⟩), .pointer (some ⟨w.heap.size, 0, none⟩), .pointer (some ⟨w.heap.size + 1, 0, none⟩)]) (by simp) (by simp [go_sem]) ?_
  refine (tryStr_idle _ _ _ w3 ((e4.cell 0).trans rfl)).mono ?_
  rintro e u' w4 ⟨rfl, rfl, rfl⟩
  have ca := (a4.cell 0).trans rfl
  have cb := (b4.cell 0).trans rfl
  have hfin : TryG S R Q E (.string ⟨#[]⟩) w (.returned (.tuple #[.string z, .nilIface])) w4 := by
   exact ⟨But.out ((But.of_below B1.out).trans B2.out) hBut (nR _), w1, w2, S1.out, B1.out, B2.out, hBut, .inl ⟨_, rfl, HR.out⟩⟩
  have HF := Lib.hid hfin
  clear hfin
  simp [Leaves, settle, results, Tryz.results27, go_sem, ca, cb]
  exact HF.out
 ·have cd := (d1.cell 0).trans rfl
  clear x1 r1 d1 hb1 hb2 hs1
  generalize (((w.alloc (.cells #[.string ⟨#[]⟩] 9)).alloc (.cells #[.nilIface] 30)).alloc (.cells #[.bool false] 4)) = w1 at *
  go_wp2_with fail
  have hb := (But.of_below B1.out).trans B2.out
  refine leaves_cons (f := 59) (args := #[.pointer (some ⟨w.heap.size + 1 + 1, 0, none⟩), .pointer (some ⟨w.heap.size, 0, none⟩), .pointer (some ⟨w.heap.size + 1, 0, none⟩)]) (by simp) (by simp [go_sem]) ?_
  refine (tryStr_err _ _ _ w2 E (.iface T x0) n [] ⟨T, x0, rfl⟩ htells (HE.out w2 hb) cd X1.out R1.out (by omega)).mono ?_
  rintro e u' w4 ⟨rfl, rfl, ca, cb, hBut⟩
  have hfin : TryG S R Q E (.string ⟨#[]⟩) w (.returned (.tuple #[.string ⟨#[]⟩, errAt (E n)])) w4 := by
   exact ⟨But.out hb (But.wide hBut) (nR _), w1, w2, S1.out, B1.out, B2.out, But.wide hBut, .inr ⟨n, hn, hS, rfl⟩⟩
  have HF := Lib.hid hfin
  clear hfin
  unfold errAt at cb HF
  simp [Leaves, settle, results, Tryz.results27, go_sem, ca, cb]
  exact HF.out
end Go.Proofs.YthboiahdheehkaaGreatDoor
namespace Go.Proofs.YthboiahdheehkaaGreatDoor
open Go.RowKit
def dec (n : Nat) : List UInt8 := Lib.decDigits n
def numT (n m : Int) : Option (List UInt8) := if 0 ≤ n ∧ n ≤ m then some (dec n.toNat) else none
def nodeT (n : Int) : Option (List UInt8) := (numT n 3).map fun l => 110 :: l
def actT (a b : Int) : Option (List UInt8) := (numT a 3).bind fun l => (numT b 999999).map fun m => 97 :: l ++ 46 :: m
end Go.Proofs.YthboiahdheehkaaGreatDoor
namespace Go.Proofs.YthboiahdheehkaaGreatDoor
open Go.RowKit Go.Extern.Stop Go.Stop Go.Extern
structure IdsG (w : World) (E : Nat → Addr) : Prop where
 errs : Errs w E
 tab : Lib.TabIs Tryz.prog w "internal/strconv.uint64pow10" .u64 Lib.pow10Tab
theorem IdsG.below {w w' : World} {E : Nat → Addr} (h : IdsG w E) (hb : Below w.heap.size w w') : IdsG w' E := by
 refine ⟨h.errs.below hb, ?_⟩
 have ht := h.tab
 unfold Lib.TabIs at ht ⊢
 have hg : Tryz.prog.globalNamed "internal/strconv.uint64pow10" = some 21 := by kernel_rfl
 refine var?_below hb hg ?_ ht
 simp only [World.var?, hg, oC] at ht
 split at ht
 ·rename_i hh
  exact (aA.1 hh).1
 ·cases ht
theorem below_grow (w : World) (os : Array Obj) : Below w.heap.size w (Sort.grow w os) :=
 ⟨rfl, rfl, rfl, by simp [Sort.grow], fun k hk => by simp [Sort.grow, Array.getElem?_append_left hk]⟩
end Go.Proofs.YthboiahdheehkaaGreatDoor
