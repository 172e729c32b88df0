/-
  PhiX: the law of XPhi for regions whose calls may panic: a region that draws its order, walked once in the text's order: each operation that touches the world is shown to do its part in ANY world that knows what the operations behind it in the order's edges have done. No program.
  XmlRJ: package xml's reader: an element.
-/
import Derived.Test.YtkghpmpmcafhkaaGreatDoorBA
import Derived.Test.YtkghpmpmcafhkaaGreatDoorQC
namespace Go.Proofs.YtkghpmpmcafhkaaGreatDoor.PX
open Go.RowKit

/-- what one operation gives: a value, in a world -/
def gives (P : Program) (o : Oper) (ρ : Operand → Value) (w : World) (T : Value → World → Prop) (X : List PanicEntry → World → Prop) : Prop :=
  match (execOp ρ o).run P w with
  | .ok (.value v) w' => T v w'
  | .ok .skip w' => T undef w'
  | .ok (.enter f args) w' => Calls P f args w' fun e w'' => (∃ v, e = .returned v ∧ T v w'') ∨ ∃ ch, e = .panicked ch ∧ X ch w''
  | .halt (.panic v) w' => X [{ v, recovered := false }] w'
  | _ => False

theorem gives_wp {P : Program} {o : Oper} {a : Act} {ρ : Operand → Value} {w : World} {T : Value → World → Prop} {X : List PanicEntry → World → Prop} {K : Act → World → Prop} {Q : Exit → Act → World → Prop}
    (he : execOp a.eval o = execOp ρ o) (h : gives P o ρ w T X) (hk : ∀ v w', T v w' → K (a.put o.dst v) w') (hx : ∀ ch w', X ch w' → Q (.panic ch) a w') : o.wp P a w K Q := by
  unfold gives at h
  unfold Oper.wp
  rw [he]
  generalize (execOp ρ o).run P w = r at *
  cases r with
  | ok n w' =>
    cases n <;> simp only at h <;> try exact h.elim
    case value v => exact hk v w' h
    case skip => exact hk undef w' h
    case enter f args =>
      refine Calls.mono h fun e w'' he => ?_
      rcases he with ⟨v, rfl, ht⟩ | ⟨ch, rfl, ht⟩
      · exact hk v w'' ht
      · exact hx ch w'' ht
  | halt x w' => cases x <;> simp only at h <;> first | exact h.elim | exact hx _ _ h

section
variable (P : Program) (ops : Array Oper) (E : Act → World → Prop) (I : World → Prop) (R : World → World → Prop) (pl : Nat → Option Part) (nd : Nat → List Nat) (X : List PanicEntry → World → Prop)

def wpPhi : Nat → List Oper → Act → List (Nat × (World → Prop)) → Prop
  | _, [], a, kn => ∀ w, I w → (∀ p ∈ kn, p.2 w) → E a w
  | j, o :: l, a, kn =>
    if Region.wanted o (yielded ops a.tmps) = true then
      match pl j with
      | none => ∃ v, (∀ w, I w → (execOp a.eval o).run P w = .ok (.value v) w) ∧ wpPhi (j + 1) l (a.put o.dst v) kn
      | some q => (∃ v, q.val v) ∧ (∀ w, I w → (∀ p ∈ kn, p.1 ∈ nd j → p.2 w) → gives P o a.eval w (fun v w' => q.val v ∧ q.fact w' v ∧ R w w') X) ∧
          ∀ v, q.val v → wpPhi (j + 1) l (a.put o.dst v) (kn ++ [(j, fun w => q.fact w v)])
    else wpPhi (j + 1) l (a.put o.dst undef) kn
end

section rules
variable {P : Program} {ops : Array Oper} {E : Act → World → Prop} {I : World → Prop} {R : World → World → Prop} {pl : Nat → Option Part} {nd : Nat → List Nat} {X : List PanicEntry → World → Prop}
variable {j : Nat} {o : Oper} {l : List Oper} {a : Act} {kn : List (Nat × (World → Prop))}
theorem phi_pure {v : Value} (hw : Region.wanted o (yielded ops a.tmps) = true) (hp : pl j = none) (hv : ∀ w, I w → (execOp a.eval o).run P w = .ok (.value v) w)
    (h : wpPhi P ops E I R pl nd X (j + 1) l (a.put o.dst v) kn) : wpPhi P ops E I R pl nd X j (o :: l) a kn := by
  unfold wpPhi; rw [if_pos hw, hp]; exact ⟨v, hv, h⟩
theorem phi_pureK (hw : Region.wanted o (yielded ops a.tmps) = true) (hp : pl j = none)
    (h : ∀ K : Act → Prop, (∀ a', Veil (wpPhi P ops E I R pl nd X (j + 1) l a' kn) → K a') → ∃ v, (∀ w, I w → (execOp a.eval o).run P w = .ok (.value v) w) ∧ K (a.put o.dst v)) :
    Veil (wpPhi P ops E I R pl nd X j (o :: l) a kn) := by
  obtain ⟨v, h1, h2⟩ := h _ (fun _ h => h)
  exact ⟨phi_pure hw hp h1 h2.out⟩
theorem phi_skipK (hw : Region.wanted o (yielded ops a.tmps) = false)
    (h : ∀ K : Act → Prop, (∀ a', Veil (wpPhi P ops E I R pl nd X (j + 1) l a' kn) → K a') → K (a.put o.dst undef)) : Veil (wpPhi P ops E I R pl nd X j (o :: l) a kn) := by
  refine ⟨?_⟩
  unfold wpPhi; rw [if_neg (by rw [hw]; decide)]; exact (h _ (fun _ h => h)).out
theorem phi_partK (q : Part) (hw : Region.wanted o (yielded ops a.tmps) = true) (hp : pl j = some q) (hv : ∃ v, q.val v)
    (hg : ∀ w, I w → (∀ p ∈ kn, p.1 ∈ nd j → p.2 w) → gives P o a.eval w (fun v w' => q.val v ∧ q.fact w' v ∧ R w w') X)
    (h : ∀ K : Act → List (Nat × (World → Prop)) → Prop, (∀ a' kn', Veil (wpPhi P ops E I R pl nd X (j + 1) l a' kn') → K a' kn') → ∀ v, q.val v → K (a.put o.dst v) (kn ++ [(j, fun w => q.fact w v)])) :
    Veil (wpPhi P ops E I R pl nd X j (o :: l) a kn) := by
  refine ⟨?_⟩
  unfold wpPhi; rw [if_pos hw, hp]; exact ⟨hv, hg, fun v hv => (h _ (fun _ _ h => h) v hv).out⟩
theorem phi_skip (hw : Region.wanted o (yielded ops a.tmps) = false)
    (h : wpPhi P ops E I R pl nd X (j + 1) l (a.put o.dst undef) kn) : wpPhi P ops E I R pl nd X j (o :: l) a kn := by
  unfold wpPhi; rw [if_neg (by rw [hw]; decide)]; exact h
theorem phi_part (q : Part) (hw : Region.wanted o (yielded ops a.tmps) = true) (hp : pl j = some q) (hv : ∃ v, q.val v)
    (hg : ∀ w, I w → (∀ p ∈ kn, p.1 ∈ nd j → p.2 w) → gives P o a.eval w (fun v w' => q.val v ∧ q.fact w' v ∧ R w w') X)
    (h : ∀ v, q.val v → wpPhi P ops E I R pl nd X (j + 1) l (a.put o.dst v) (kn ++ [(j, fun w => q.fact w v)])) : wpPhi P ops E I R pl nd X j (o :: l) a kn := by
  unfold wpPhi; rw [if_pos hw, hp]; exact ⟨hv, hg, h⟩
theorem phi_done (h : ∀ w, I w → (∀ p ∈ kn, p.2 w) → E a w) : Veil (wpPhi P ops E I R pl nd X j [] a kn) := ⟨h⟩
end rules

/-! ### which operations hang on which -/
def dstOf (ops : Array Oper) (i : Nat) : Option Tmp := (ops[i]?).bind (·.dst)

def clash (ops : Array Oper) (x y : Oper) : Bool :=
  (match x.dst with | some d => (y.looksAt ops).contains d || y.dst == some d | none => false) ||
  (match y.dst with | some d => (x.looksAt ops).contains d | none => false)

def edgeBits (B : List Nat) (o : Oper) : Nat :=
  o.after.toList.foldl (fun s e => if Region.binds .any e then s ||| 2 ^ e.on ||| B.getD e.on 0 else s) 0

def notSelect (o : Oper) : Bool := match o.op with | .select .. => false | _ => true

def okAt (ops : Array Oper) (nd : Nat → List Nat) (m : Nat) (B : List Nat) (j : Nat) (o : Oper) : Bool :=
  (B.getD j 0 == edgeBits B o) && decide (B.getD j 0 < 2 ^ j) && notSelect o && (nd j).all ((B.getD j 0).testBit ·) &&
  ((List.range j).all fun i => match ops[i]? with | some x => !clash ops x o || (B.getD j 0).testBit i | none => true) &&
  (decide (j < m) || (List.range j).all fun i => (B.getD j 0).testBit i)

def okAll (ops : Array Oper) (nd : Nat → List Nat) (m : Nat) (B : List Nat) : Bool :=
  (List.range ops.size).all fun j => match ops[j]? with | some o => okAt ops nd m B j o | none => true

def forceNat (n : Nat) (k : Nat → Bool) : Bool := match n with | 0 => k 0 | m + 1 => k (m + 1)
theorem forceNat_eq (n : Nat) (k : Nat → Bool) : forceNat n k = k n := by cases n <;> rfl
def buildB : List Oper → List Nat → (List Nat → Bool) → Bool
  | [], B, k => k B
  | o :: l, B, k => forceNat (edgeBits B o) fun b => buildB l (B ++ [b]) k
theorem buildB_some : ∀ (l : List Oper) (B : List Nat) (k : List Nat → Bool), buildB l B k = true → ∃ B', k B' = true
  | [], B, _, h => ⟨B, h⟩
  | _ :: l, _, k, h => by
    simp only [buildB, forceNat_eq] at h
    exact buildB_some l _ k h
/-- THE CLOSED FACT of a region and its plan -/
def phiOk (ops : Array Oper) (nd : Nat → List Nat) (m : Nat) : Bool := buildB ops.toList [] (okAll ops nd m)

theorem edgeBits_testBit (B : List Nat) (o : Oper) (i : Nat) : (edgeBits B o).testBit i = true ↔
    ∃ e ∈ o.after.toList, Region.binds .any e = true ∧ (i = e.on ∨ (B.getD e.on 0).testBit i = true) := by
  unfold edgeBits
  have gen : ∀ (l : List Edge) (s : Nat), (l.foldl (fun s e => if Region.binds .any e then s ||| 2 ^ e.on ||| B.getD e.on 0 else s) s).testBit i = true ↔
      (s.testBit i = true ∨ ∃ e ∈ l, Region.binds .any e = true ∧ (i = e.on ∨ (B.getD e.on 0).testBit i = true)) := by
    intro l
    induction l with
    | nil => simp
    | cons e l ih =>
      intro s
      rw [List.foldl_cons, ih]
      by_cases hb : Region.binds .any e = true
      · rw [if_pos hb]
        simp only [Nat.testBit_or, Bool.or_eq_true, Nat.testBit_two_pow, decide_eq_true_eq, List.mem_cons, exists_eq_or_imp, hb, true_and]
        constructor
        · rintro ((h | h) | h)
          · rcases h with h | h
            · exact .inl h
            · exact .inr (.inl (.inl h.symm))
          · exact .inr (.inl (.inr h))
          · exact .inr (.inr h)
        · rintro (h | (h | h) | h)
          · exact .inl (.inl (.inl h))
          · exact .inl (.inl (.inr h.symm))
          · exact .inl (.inr h)
          · exact .inr h
      · rw [if_neg hb]
        simp only [List.mem_cons, exists_eq_or_imp, hb, false_and, false_or, Bool.false_eq_true]
  rw [gen]
  simp

structure Hangs (ops : Array Oper) (nd : Nat → List Nat) (m : Nat) (pr : Nat → Nat → Bool) : Prop where
  edge' : ∀ j o, ops[j]? = some o → ∀ e ∈ o.after, Region.binds .any e = true → pr j e.on = true
  lt : ∀ j i, j < ops.size → pr j i = true → i < j
  edge : ∀ j o, ops[j]? = some o → ∀ i, pr j i = true → ∃ e ∈ o.after, Region.binds .any e = true ∧ (i = e.on ∨ pr e.on i = true)
  sel : ∀ (j : Nat) o, ops[j]? = some o → ∀ cs b, o.op ≠ .select cs b
  need : ∀ j, j < ops.size → ∀ i ∈ nd j, pr j i = true
  clash : ∀ (i j : Nat) x o, ops[i]? = some x → ops[j]? = some o → i < j → clash ops x o = true → pr j i = true
  tail : ∀ j, m ≤ j → j < ops.size → ∀ i, i < j → pr j i = true

theorem hangs_of_ok {ops : Array Oper} {nd : Nat → List Nat} {m : Nat} (h : phiOk ops nd m = true) : ∃ pr, Hangs ops nd m pr := by
  obtain ⟨B, hB⟩ := buildB_some _ _ _ h
  unfold okAll at hB
  rw [List.all_eq_true] at hB
  have at' : ∀ (j : Nat) o, ops[j]? = some o → okAt ops nd m B j o = true := by
    intro j o ho
    have := hB j (List.mem_range.2 (Array.getElem?_eq_some_iff.1 ho).1)
    simpa [ho] using this
  refine ⟨fun j i => (B.getD j 0).testBit i, ?_, ?_, ?_, ?_, ?_, ?_, ?_⟩
  · intro j o ho e he hb
    have := at' j o ho
    simp only [okAt, Bool.and_eq_true, beq_iff_eq] at this
    show (B.getD j 0).testBit e.on = true
    rw [this.1.1.1.1.1, edgeBits_testBit]
    exact ⟨e, Array.mem_toList_iff.2 he, hb, .inl rfl⟩
  · intro j i hj hp
    obtain ⟨o, ho⟩ : ∃ o, ops[j]? = some o := ⟨ops[j], by simp [hj]⟩
    have := at' j o ho
    simp only [okAt, Bool.and_eq_true, decide_eq_true_eq] at this
    have hlt := this.1.1.1.1.2
    rcases Nat.lt_or_ge i j with h' | h'
    · exact h'
    · have := Nat.testBit_lt_two_pow (Nat.lt_of_lt_of_le hlt (Nat.pow_le_pow_right (by omega) h'))
      rw [this] at hp; cases hp
  · intro j o ho i hp
    have := at' j o ho
    simp only [okAt, Bool.and_eq_true, beq_iff_eq] at this
    rw [this.1.1.1.1.1, edgeBits_testBit] at hp
    obtain ⟨e, he, hb, hi⟩ := hp
    exact ⟨e, Array.mem_toList_iff.1 he, hb, hi⟩
  · intro j o ho cs b hop
    have := at' j o ho
    simp only [okAt, Bool.and_eq_true, notSelect, hop] at this
    simp at this
  · intro j hj i hi
    obtain ⟨o, ho⟩ : ∃ o, ops[j]? = some o := ⟨ops[j], by simp [hj]⟩
    have := at' j o ho
    simp only [okAt, Bool.and_eq_true, List.all_eq_true] at this
    exact this.1.1.2 i hi
  · intro i j x o hx ho hij hc
    have := at' j o ho
    simp only [okAt, Bool.and_eq_true, List.all_eq_true] at this
    have := this.1.2 i (List.mem_range.2 hij)
    simpa [hx, hc] using this
  · intro j hm hj i hi
    obtain ⟨o, ho⟩ : ∃ o, ops[j]? = some o := ⟨ops[j], by simp [hj]⟩
    have := at' j o ho
    simp only [okAt, Bool.and_eq_true, Bool.or_eq_true, decide_eq_true_eq, List.all_eq_true] at this
    rcases this.2 with h | h
    · omega
    · exact h i (List.mem_range.2 hi)

/-! ### frames: the operations of a set, put in the text's order -/
section frames
variable (ops : Array Oper) (a₀ : Act)
def FF (L : Nat → Bool) (vs : Nat → Value) : Nat → Act
  | 0 => a₀
  | k + 1 => if L k then (FF L vs k).put (dstOf ops k) (vs k) else FF L vs k
end frames

section
variable {ops : Array Oper} {a₀ : Act}
theorem put_size (a : Act) (d : Option Tmp) (v : Value) : (a.put d v).tmps.size = a.tmps.size := by cases d <;> simp [Act.put]
theorem put_defers (a : Act) (d : Option Tmp) (v : Value) : (a.put d v).defers = a.defers := by cases d <;> rfl
theorem put_slot_ne (a : Act) (d : Option Tmp) (v : Value) (t : Tmp) (h : d ≠ some t) : (a.put d v).tmps[t]? = a.tmps[t]? := by
  cases d with
  | none => rfl
  | some d => simp only [Act.put]; rw [Array.getElem?_setIfInBounds_ne (by intro e; exact h (by rw [e]))]
theorem put_slot_eq (a : Act) (v : Value) (t : Tmp) : (a.put (some t) v).tmps[t]? = if t < a.tmps.size then some v else none := by
  simp only [Act.put]; rw [Array.getElem?_setIfInBounds_self]
theorem FF_size (L : Nat → Bool) (vs : Nat → Value) (k : Nat) : (FF ops a₀ L vs k).tmps.size = a₀.tmps.size := by
  induction k with
  | zero => rfl
  | succ k ih => simp only [FF]; split <;> simp [put_size, ih]
theorem FF_defers (L : Nat → Bool) (vs : Nat → Value) (k : Nat) : (FF ops a₀ L vs k).defers = a₀.defers := by
  induction k with
  | zero => rfl
  | succ k ih => simp only [FF]; split <;> simp [put_defers, ih]
/-- a slot hangs on its writers alone -/
theorem FF_slot {L L' : Nat → Bool} {vs vs' : Nat → Value} {t : Tmp} (k : Nat) (h : ∀ i, i < k → dstOf ops i = some t → L i = L' i ∧ (L i = true → vs i = vs' i)) :
    (FF ops a₀ L vs k).tmps[t]? = (FF ops a₀ L' vs' k).tmps[t]? := by
  induction k with
  | zero => rfl
  | succ k ih =>
    have ih' := ih (fun i hi => h i (by omega))
    by_cases hd : dstOf ops k = some t
    · obtain ⟨h1, h2⟩ := h k (by omega) hd
      simp only [FF]
      rw [← h1]
      by_cases hL : L k = true
      · rw [if_pos hL, if_pos hL, hd, h2 hL, put_slot_eq, put_slot_eq, FF_size, FF_size]
      · rw [if_neg hL, if_neg hL]; exact ih'
    · simp only [FF]
      have e1 : (if L k then (FF ops a₀ L vs k).put (dstOf ops k) (vs k) else FF ops a₀ L vs k).tmps[t]? = (FF ops a₀ L vs k).tmps[t]? := by
        split
        · exact put_slot_ne _ _ _ _ hd
        · rfl
      have e2 : (if L' k then (FF ops a₀ L' vs' k).put (dstOf ops k) (vs' k) else FF ops a₀ L' vs' k).tmps[t]? = (FF ops a₀ L' vs' k).tmps[t]? := by
        split
        · exact put_slot_ne _ _ _ _ hd
        · rfl
      rw [e1, e2]; exact ih'
/-- of the set 'below j' the frame is that of the first j operations -/
theorem FF_below (vs : Nat → Value) (j k : Nat) (h : j ≤ k) : FF ops a₀ (fun i => decide (i < j)) vs k = FF ops a₀ (fun _ => true) vs j := by
  induction k with
  | zero => obtain rfl : j = 0 := by omega
            rfl
  | succ k ih =>
    by_cases hk : j ≤ k
    · simp only [FF]
      rw [if_neg (by simp; omega)]
      exact ih hk
    · obtain rfl : j = k + 1 := by omega
      have gen : ∀ m, m ≤ k + 1 → FF ops a₀ (fun i => decide (i < k + 1)) vs m = FF ops a₀ (fun _ => true) vs m := by
        intro m
        induction m with
        | zero => intro _; rfl
        | succ m ihm =>
          intro hm
          simp only [FF]
          rw [if_pos (by simp; omega), ihm (by omega)]
          simp
      exact gen _ (Nat.le_refl _)

def GG (ops : Array Oper) (a₀ : Act) (vs : Nat → Value) (j : Nat) : Act := FF ops a₀ (fun _ => true) vs j

/-- two acts that agree at what an operation looks at -/
theorem same_look {o : Oper} {a b : Act} (hs : ∀ cs c, o.op ≠ .select cs c) (h : ∀ t ∈ o.looksAt ops, a.tmps[t]? = b.tmps[t]?) :
    execOp a.eval o = execOp b.eval o ∧ Region.wanted o (yielded ops a.tmps) = Region.wanted o (yielded ops b.tmps) := by
  constructor
  · refine execOp_congr o hs fun x hx => ?_
    cases x with
    | tmp t =>
      have := h t (List.mem_append_left _ (List.mem_filterMap.2 ⟨.tmp t, by simpa using hx, rfl⟩))
      simp only [Act.eval, Array.getD_eq_getD_getElem?, this]
    | _ => rfl
  · unfold Region.wanted
    cases hg : o.guard with
    | none => rfl
    | some gw =>
      obtain ⟨g, want⟩ := gw
      have hy : yielded ops a.tmps g = yielded ops b.tmps g := by
        unfold yielded
        cases ht : (ops[g]?).bind (·.dst) with
        | none => rfl
        | some t => simp only [Option.bind_some]; rw [h t (by simp [Oper.looksAt, hg, ht])]
      simp only [hy]
theorem clash_look {x o : Oper} {d : Tmp} (hd : x.dst = some d) (h : d ∈ o.looksAt ops ∨ o.dst = some d) : clash ops x o = true := by
  unfold clash
  rw [hd]
  rcases h with h | h
  · simp [h]
  · simp [h]
theorem clash_look' {x o : Oper} {d : Tmp} (hd : o.dst = some d) (h : d ∈ x.looksAt ops) : clash ops x o = true := by
  unfold clash
  rw [hd]
  simp [h]
end

section main
variable {P : Program} {ops : Array Oper} {Q : Exit → Act → World → Prop} {E : Act → World → Prop} {lo : List Oper} {I : World → Prop} {R : World → World → Prop} {pl : Nat → Option Part} {nd : Nat → List Nat} {X : List PanicEntry → World → Prop} {a₀ : Act} {pr : Nat → Nat → Bool}

def upd (vs : Nat → Value) (k : Nat) (v : Value) : Nat → Value := fun i => if i = k then v else vs i

theorem FF_congr {L L' : Nat → Bool} {vs vs' : Nat → Value} (k : Nat) (h : ∀ i, i < k → L i = L' i ∧ (L i = true → vs i = vs' i)) : FF ops a₀ L vs k = FF ops a₀ L' vs' k := by
  induction k with
  | zero => rfl
  | succ k ih =>
    obtain ⟨h1, h2⟩ := h k (by omega)
    simp only [FF]
    rw [ih (fun i hi => h i (by omega)), ← h1]
    split
    · rename_i hL; rw [h2 hL]
    · rfl

def wantAt (ops : Array Oper) (a₀ : Act) (vs : Nat → Value) (j : Nat) (o : Oper) : Prop := Region.wanted o (yielded ops (GG ops a₀ vs j).tmps) = true

def StepOk (P : Program) (ops : Array Oper) (I : World → Prop) (pl : Nat → Option Part) (a₀ : Act) (vs : Nat → Value) (j : Nat) : Prop :=
  ∀ o, ops[j]? = some o →
    (wantAt ops a₀ vs j o → (pl j = none → ∀ w, I w → (execOp (GG ops a₀ vs j).eval o).run P w = .ok (.value (vs j)) w) ∧ ∀ q, pl j = some q → q.val (vs j)) ∧
    (¬ wantAt ops a₀ vs j o → vs j = undef)

theorem look_congr (hH : Hangs ops nd lo.length pr) {vs vs' : Nat → Value} {j : Nat} {o : Oper} (ho : ops[j]? = some o) (h : ∀ i, pr j i = true → vs i = vs' i) :
    execOp (GG ops a₀ vs j).eval o = execOp (GG ops a₀ vs' j).eval o ∧ (wantAt ops a₀ vs j o ↔ wantAt ops a₀ vs' j o) := by
  have := same_look (ops := ops) (a := GG ops a₀ vs j) (b := GG ops a₀ vs' j) (hH.sel j o ho) (fun t ht => by
    refine FF_slot j fun i hi hd => ⟨rfl, fun _ => h i ?_⟩
    obtain ⟨x, hx, hxd⟩ : ∃ x, ops[i]? = some x ∧ x.dst = some t := by
      unfold dstOf at hd
      cases hx : ops[i]? with
      | none => simp [hx] at hd
      | some x => exact ⟨x, rfl, by simpa [hx] using hd⟩
    exact hH.clash i j x o hx ho hi (clash_look hxd (.inl ht)))
  exact ⟨this.1, by unfold wantAt; rw [this.2]⟩

theorem stepOk_congr (hH : Hangs ops nd lo.length pr) {vs vs' : Nat → Value} {j : Nat} (h : ∀ i, pr j i = true → vs i = vs' i) (hj : vs j = vs' j)
    (hs : StepOk P ops I pl a₀ vs j) : StepOk P ops I pl a₀ vs' j := by
  intro o ho
  obtain ⟨h1, h2⟩ := hs o ho
  obtain ⟨e1, e2⟩ := look_congr (a₀ := a₀) hH ho h
  rw [← e2, ← e1, ← hj]
  exact ⟨h1, h2⟩

open Classical in
noncomputable def knOf (ops : Array Oper) (pl : Nat → Option Part) (a₀ : Act) (vs : Nat → Value) : Nat → List (Nat × (World → Prop))
  | 0 => []
  | k + 1 => match ops[k]?, pl k with
    | some o, some q => if wantAt ops a₀ vs k o then knOf ops pl a₀ vs k ++ [(k, fun w => q.fact w (vs k))] else knOf ops pl a₀ vs k
    | _, _ => knOf ops pl a₀ vs k

theorem mem_knOf {vs : Nat → Value} {p : Nat × (World → Prop)} : ∀ {k : Nat}, p ∈ knOf ops pl a₀ vs k →
    ∃ i o q, i < k ∧ ops[i]? = some o ∧ pl i = some q ∧ wantAt ops a₀ vs i o ∧ p = (i, fun w => q.fact w (vs i))
  | 0, h => by cases h
  | k + 1, h => by
    have up : p ∈ knOf ops pl a₀ vs k → ∃ i o q, i < k + 1 ∧ ops[i]? = some o ∧ pl i = some q ∧ wantAt ops a₀ vs i o ∧ p = (i, fun w => q.fact w (vs i)) := fun h => by
      obtain ⟨i, o, q, hi, r⟩ := mem_knOf h
      exact ⟨i, o, q, by omega, r⟩
    unfold knOf at h
    split at h
    · rename_i o q ho hq
      split at h
      · rename_i hw
        rcases List.mem_append.1 h with h | h
        · exact up h
        · exact ⟨k, o, q, by omega, ho, hq, hw, List.mem_singleton.1 h⟩
      · exact up h
    · exact up h

theorem drop_cons (l : List Oper) (k : Nat) (o : Oper) (h : l[k]? = some o) : l.drop k = o :: l.drop (k + 1) := by
  obtain ⟨hlt, rfl⟩ := List.getElem?_eq_some_iff.1 h
  exact List.drop_eq_getElem_cons hlt

theorem phi_at (w₀ : World) (hw₀ : I w₀) (hlo : ∀ i, i < lo.length → ops[i]? = lo[i]?) (h : wpPhi P ops E I R pl nd X 0 lo a₀ []) (vs : Nat → Value) : ∀ k, k ≤ lo.length → (∀ i, i < k → StepOk P ops I pl a₀ vs i) →
    wpPhi P ops E I R pl nd X k (lo.drop k) (GG ops a₀ vs k) (knOf ops pl a₀ vs k)
  | 0, _, _ => by simpa [GG, FF, knOf] using h
  | k + 1, hk, hs => by
    have ih := phi_at w₀ hw₀ hlo h vs k (by omega) (fun i hi => hs i (by omega))
    obtain ⟨o, hol⟩ : ∃ o, lo[k]? = some o := ⟨lo[k], by simp⟩
    have ho : ops[k]? = some o := (hlo k (by omega)).trans hol
    rw [drop_cons lo k o hol] at ih
    have hg : GG ops a₀ vs (k + 1) = (GG ops a₀ vs k).put o.dst (vs k) := by
      simp only [GG, FF, if_true]
      congr 1
      simp [dstOf, ho]
    obtain ⟨h1, h2⟩ := hs k (by omega) o ho
    rw [hg]
    unfold wpPhi at ih
    unfold knOf
    by_cases hw : wantAt ops a₀ vs k o
    · have hw' := hw
      unfold wantAt at hw'
      rw [if_pos hw'] at ih
      obtain ⟨h3, h4⟩ := h1 hw
      cases hp : pl k with
      | none =>
        rw [hp] at ih
        obtain ⟨v, hv, ih⟩ := ih
        have e := (hv w₀ hw₀).symm.trans (h3 hp w₀ hw₀)
        simp only [Result.ok.injEq, Next.value.injEq, and_true] at e
        subst e
        simpa [ho] using ih
      | some q =>
        rw [hp] at ih
        have := ih.2.2 (vs k) (h4 q hp)
        simpa [ho, hw] using this
    · have hw' := hw
      unfold wantAt at hw'
      rw [if_neg hw'] at ih
      rw [h2 hw]
      cases hp : pl k with
      | none => simpa [ho] using ih
      | some q => simpa [ho, hw] using ih

theorem GG_upd (vs : Nat → Value) (k : Nat) (v : Value) : GG ops a₀ (upd vs k v) k = GG ops a₀ vs k :=
  FF_congr k fun i hi => ⟨rfl, fun _ => by unfold upd; rw [if_neg (by omega)]⟩

theorem step_ext (w₀ : World) (hw₀ : I w₀) (hlo : ∀ i, i < lo.length → ops[i]? = lo[i]?) (h : wpPhi P ops E I R pl nd X 0 lo a₀ []) (vs : Nat → Value) (k : Nat) (hk : k < lo.length) (hs : ∀ i, i < k → StepOk P ops I pl a₀ vs i) :
    ∃ v, StepOk P ops I pl a₀ (upd vs k v) k := by
  have ih := phi_at w₀ hw₀ hlo h vs k (by omega) hs
  obtain ⟨o, hol⟩ : ∃ o, lo[k]? = some o := ⟨lo[k], by simp [hk]⟩
  have ho : ops[k]? = some o := (hlo k hk).trans hol
  rw [drop_cons lo k o hol] at ih
  unfold wpPhi at ih
  have hu : ∀ v, upd vs k v k = v := fun v => by simp [upd]
  by_cases hw : Region.wanted o (yielded ops (GG ops a₀ vs k).tmps) = true
  · rw [if_pos hw] at ih
    cases hp : pl k with
    | none =>
      rw [hp] at ih
      obtain ⟨v, hv, _⟩ := ih
      refine ⟨v, fun o' ho' => ?_⟩
      obtain rfl : o = o' := Option.some.inj (ho.symm.trans ho')
      unfold wantAt
      rw [GG_upd, hu]
      exact ⟨fun _ => ⟨fun _ => hv, fun q hq => (by rw [hp] at hq; cases hq)⟩, fun hn => absurd hw hn⟩
    | some q =>
      rw [hp] at ih
      obtain ⟨⟨v, hv⟩, _⟩ := ih
      refine ⟨v, fun o' ho' => ?_⟩
      obtain rfl : o = o' := Option.some.inj (ho.symm.trans ho')
      unfold wantAt
      rw [GG_upd, hu]
      exact ⟨fun _ => ⟨fun hn => (by rw [hp] at hn; cases hn), fun q' hq => (by rw [hp] at hq; cases hq; exact hv)⟩, fun hn => absurd hw hn⟩
  · refine ⟨undef, fun o' ho' => ?_⟩
    obtain rfl : o = o' := Option.some.inj (ho.symm.trans ho')
    unfold wantAt
    rw [GG_upd, hu]
    exact ⟨fun hn => absurd hn hw, fun _ => rfl⟩

/-- values that are right on a set that is closed can be made right everywhere -/
theorem complete (w₀ : World) (hw₀ : I w₀) (hlo : ∀ i, i < lo.length → ops[i]? = lo[i]?) (hle : lo.length ≤ ops.size) (hH : Hangs ops nd lo.length pr) (h : wpPhi P ops E I R pl nd X 0 lo a₀ []) (L : Nat → Bool) (vs : Nat → Value)
    (hc : ∀ j, j < lo.length → L j = true → ∀ i, pr j i = true → L i = true) (hL : ∀ j, j < lo.length → L j = true → StepOk P ops I pl a₀ vs j) :
    ∃ vs', (∀ j, L j = true → vs' j = vs j) ∧ ∀ j, j < lo.length → StepOk P ops I pl a₀ vs' j := by
  have key : ∀ k, k ≤ lo.length → ∃ vs', (∀ j, L j = true → vs' j = vs j) ∧ ∀ j, j < lo.length → (j < k ∨ L j = true) → StepOk P ops I pl a₀ vs' j := by
    intro k
    induction k with
    | zero => intro _; exact ⟨vs, fun _ _ => rfl, fun j hj hh => hL j hj (hh.resolve_left (by omega))⟩
    | succ k ih =>
      intro hk
      obtain ⟨vs', h1, h2⟩ := ih (by omega)
      by_cases hLk : L k = true
      · refine ⟨vs', h1, fun j hj hh => ?_⟩
        rcases hh with hh | hh
        · by_cases e : j = k
          · subst e; exact h2 j hj (.inr hLk)
          · exact h2 j hj (.inl (by omega))
        · exact h2 j hj (.inr hh)
      · obtain ⟨v, hv⟩ := step_ext w₀ hw₀ hlo h vs' k (by omega) (fun i hi => h2 i (by omega) (.inl hi))
        have ne : ∀ i, i ≠ k → vs' i = upd vs' k v i := fun i hi => by simp [upd, hi]
        refine ⟨upd vs' k v, fun j hj => ?_, fun j hj hh => ?_⟩
        · have : j ≠ k := fun e => hLk (e ▸ hj)
          rw [← ne j this]; exact h1 j hj
        · by_cases e : j = k
          · subst e; exact hv
          · have hs : StepOk P ops I pl a₀ vs' j := by
              rcases hh with hh | hh
              · exact h2 j hj (.inl (by omega))
              · exact h2 j hj (.inr hh)
            refine stepOk_congr hH (fun i hi => ne i ?_) (ne j e) hs
            intro ei
            subst ei
            rcases hh with hh | hh
            · have := hH.lt j i (by omega) hi; omega
            · exact hLk (hc j hj hh i hi)
  obtain ⟨vs', h1, h2⟩ := key lo.length (Nat.le_refl _)
  exact ⟨vs', h1, fun j hj => h2 j hj (.inl hj)⟩

/-- an operation that is ready is put in its place -/
theorem FF_add (hH : Hangs ops nd lo.length pr) (L : Nat → Bool) (vs : Nat → Value) (j : Nat) (o : Oper) (ho : ops[j]? = some o) (hj : L j = false)
    (hc : ∀ k, k < ops.size → L k = true → ∀ i, pr k i = true → L i = true) (hr : ∀ i, pr j i = true → L i = true) :
    (FF ops a₀ L vs ops.size).put o.dst (vs j) = FF ops a₀ (fun i => L i || i == j) vs ops.size := by
  have hjn : j < ops.size := (Array.getElem?_eq_some_iff.1 ho).1
  have hdj : dstOf ops j = o.dst := by simp [dstOf, ho]
  have dst' : ∀ i t, dstOf ops i = some t → ∃ x, ops[i]? = some x ∧ x.dst = some t := by
    intro i t hd
    unfold dstOf at hd
    cases hx : ops[i]? with
    | none => simp [hx] at hd
    | some x => exact ⟨x, rfl, by simpa [hx] using hd⟩
  have slots : ∀ t : Nat, ((FF ops a₀ L vs ops.size).put o.dst (vs j)).tmps[t]? = (FF ops a₀ (fun i => L i || i == j) vs ops.size).tmps[t]? := by
    intro t
    by_cases hd : o.dst = some t
    · have e1 : (FF ops a₀ (fun i => L i || i == j) vs ops.size).tmps[t]? = (FF ops a₀ (fun i => decide (i < j + 1)) vs ops.size).tmps[t]? := by
        refine FF_slot _ fun i hi hdi => ⟨?_, fun _ => rfl⟩
        obtain ⟨x, hx, hxd⟩ := dst' i t hdi
        rcases Nat.lt_trichotomy i j with h | h | h
        · have := hr i (hH.clash i j x o hx ho h (clash_look hxd (.inr hd)))
          simp [this]; omega
        · subst h; simp
        · have h1 := hH.clash j i o x ho hx h (clash_look hd (.inr hxd))
          have h2 : L i = false := by
            cases hLi : L i with
            | false => rfl
            | true => rw [hc i hi hLi j h1] at hj; cases hj
          have h3 : (i == j) = false := by simp; omega
          have h4 : decide (i < j + 1) = false := by simp; omega
          rw [h2, h3, h4]; rfl
      rw [e1, FF_below vs (j + 1) ops.size (by omega)]
      simp only [FF, if_true]
      rw [hdj, hd, put_slot_eq, put_slot_eq, FF_size, FF_size]
    · rw [put_slot_ne _ _ _ _ hd]
      refine FF_slot _ fun i hi hdi => ⟨?_, fun _ => rfl⟩
      have : i ≠ j := fun e => by subst e; rw [hdj] at hdi; exact hd hdi
      simp [this]
  have ht : ((FF ops a₀ L vs ops.size).put o.dst (vs j)).tmps = (FF ops a₀ (fun i => L i || i == j) vs ops.size).tmps := Array.ext_getElem? slots
  have hdf : ((FF ops a₀ L vs ops.size).put o.dst (vs j)).defers = (FF ops a₀ (fun i => L i || i == j) vs ops.size).defers := by rw [put_defers, FF_defers, FF_defers]
  generalize (FF ops a₀ L vs ops.size).put o.dst (vs j) = x at *
  generalize FF ops a₀ (fun i => L i || i == j) vs ops.size = y at *
  cases x; cases y; simp_all

theorem listed_set (listed : Array Bool) (j : Nat) (hs : j < listed.size) : (fun i => (listed.setIfInBounds j true).getD i false) = fun i => listed.getD i false || i == j := by
  funext i
  by_cases h : i = j
  · subst h; simp [hs]
  · rw [getD_set_ne false (Ne.symm h)]; simp [h]

theorem phi_run (w₀ : World) (hw₀ : I w₀) (hlo : ∀ i, i < lo.length → ops[i]? = lo[i]?) (hle : lo.length ≤ ops.size) (hH : Hangs ops nd lo.length pr) (h : wpPhi P ops E I R pl nd X 0 lo a₀ [])
    (htl : ∀ j, lo.length ≤ j → j < ops.size → ∀ i, i < lo.length → pr j i = true)
    (hE : ∀ a w, E a w → ∀ (fuel : Nat) (listed : Array Bool), listed.size = ops.size → (∀ i, listed.getD i false = decide (i < lo.length)) → ops.size - lo.length ≤ fuel → wpAny P .any ops Q fuel listed a w)
    (hI : ∀ w w', I w → R w w' → I w') (hS : ∀ j q, pl j = some q → ∀ w w' v, I w → R w w' → q.fact w v → q.fact w' v) (hX : ∀ ch a w, a.defers = a₀.defers → X ch w → Q (.panic ch) a w) :
    ∀ (fuel : Nat) (listed : Array Bool) (a : Act) (w : World) (vs : Nat → Value), listed.size = ops.size → (∀ i, listed.getD i false = true → i < lo.length) →
      (∀ k, k < ops.size → listed.getD k false = true → ∀ i, pr k i = true → listed.getD i false = true) →
      (∀ j, j < lo.length → StepOk P ops I pl a₀ vs j) → a = FF ops a₀ (fun i => listed.getD i false) vs ops.size → I w →
      (∀ i, i < ops.size → listed.getD i false = true → ∀ o q, ops[i]? = some o → wantAt ops a₀ vs i o → pl i = some q → q.fact w (vs i)) →
      ((List.range ops.size).filter fun i => !listed.getD i false).length ≤ fuel → wpAny P .any ops Q fuel listed a w := by
  have hedge : ∀ j o, ops[j]? = some o → ∀ (listed : Array Bool), (∀ k, k < ops.size → listed.getD k false = true → ∀ i, pr k i = true → listed.getD i false = true) →
      (∀ e ∈ o.after, Region.binds .any e = true → listed.getD e.on false = true) → ∀ i, pr j i = true → listed.getD i false = true := by
    intro j o ho listed hc he i hi
    have hjn := (Array.getElem?_eq_some_iff.1 ho).1
    obtain ⟨e, hm, hb, hor⟩ := hH.edge j o ho i hi
    rcases hor with rfl | hor
    · exact he e hm hb
    · have hlt := hH.lt j e.on hjn (hH.edge' j o ho e hm hb)
      exact hc e.on (by omega) (he e hm hb) i hor
  have atEnd : ∀ (fuel : Nat) (listed : Array Bool) (w : World) (vs : Nat → Value), listed.size = ops.size → (∀ i, listed.getD i false = true → i < lo.length) → (∀ j, j < lo.length → StepOk P ops I pl a₀ vs j) → I w →
      (∀ i, i < ops.size → listed.getD i false = true → ∀ o q, ops[i]? = some o → wantAt ops a₀ vs i o → pl i = some q → q.fact w (vs i)) →
      ((List.range ops.size).filter fun i => !listed.getD i false).length ≤ fuel →
      (∀ i, i < lo.length → listed.getD i false = true) → wpAny P .any ops Q fuel listed (FF ops a₀ (fun i => listed.getD i false) vs ops.size) w := by
    intro fuel listed w vs hsz hin hs hw hf hn hall
    have hget : ∀ i, listed.getD i false = decide (i < lo.length) := by
      intro i
      by_cases hi : i < lo.length
      · rw [hall i hi]; simp [hi]
      · cases hl : listed.getD i false with
        | false => simp [hi]
        | true => exact absurd (hin i hl) hi
    have e : FF ops a₀ (fun i => listed.getD i false) vs ops.size = GG ops a₀ vs lo.length := by
      rw [show (fun i => listed.getD i false) = fun i => decide (i < lo.length) from funext hget, FF_below vs lo.length ops.size hle]; rfl
    rw [e]
    have := phi_at w₀ hw₀ hlo h vs lo.length (Nat.le_refl _) hs
    rw [List.drop_of_length_le (Nat.le_refl _)] at this
    unfold wpPhi at this
    refine hE _ _ (this w hw fun p hp => ?_) fuel listed hsz hget ?_
    · obtain ⟨i, o, q, hi, ho, hq, hwant, rfl⟩ := mem_knOf hp
      exact hf i (by omega) (hall i hi) o q ho hwant hq
    · have e2 : ((List.range ops.size).filter fun i => !listed.getD i false).length = ops.size - lo.length := by
        rw [show (fun i => !listed.getD i false) = fun i => !decide (i < lo.length) from funext fun i => by rw [hget]]
        have gen : ∀ n, ((List.range n).filter fun i => !decide (i < lo.length)).length = n - lo.length := by
          intro n
          induction n with
          | zero => simp
          | succ n ih =>
            rw [List.range_succ, List.filter_append, List.length_append, ih]
            by_cases hn : n < lo.length
            · simp [hn]; omega
            · simp [hn]; omega
        exact gen _
      omega
  intro fuel
  induction fuel with
  | zero =>
    intro listed a w vs hsz hin hc hs ha hw hf hn
    have hall : ∀ i, i < ops.size → listed.getD i false = true := by
      intro i hi
      have hnil := List.eq_nil_of_length_eq_zero (Nat.le_zero.1 hn)
      rw [List.filter_eq_nil_iff] at hnil
      have := hnil i (List.mem_range.2 hi)
      simpa using this
    rw [ha]
    exact atEnd 0 listed w vs hsz hin hs hw hf hn (fun i hi => hall i (by omega))
  | succ fuel ih =>
    intro listed a w vs hsz hin hc hs ha hw hf hn
    have getD_of : ∀ j, j < ops.size → listed.getD j true = listed.getD j false := by
      intro j hj
      have hjs : j < listed.size := by rw [hsz]; exact hj
      simp [hjs]
    by_cases hend : ∀ i, i < lo.length → listed.getD i false = true
    · rw [ha]
      exact atEnd (fuel + 1) listed w vs hsz hin hs hw hf hn hend
    refine ⟨fun hnil => ?_, fun j hj => ?_⟩
    · exfalso
      apply hend
      -- the least one that is not listed would be ready
      have key : ∀ i, i < ops.size → listed.getD i false = true := by
        intro i
        induction i using Nat.strongRecOn with
        | _ i ihi =>
          intro hi
          cases hl : listed.getD i false with
          | true => rfl
          | false =>
            obtain ⟨o, ho⟩ : ∃ o, ops[i]? = some o := ⟨ops[i], by simp [hi]⟩
            have : i ∈ Region.ready .any ops listed := by
              rw [mem_ready]
              refine ⟨by rw [getD_of i hi]; exact hl, o, ho, fun e he hb => ?_⟩
              have hlt := hH.lt i e.on hi (hH.edge' i o ho e he hb)
              exact ihi e.on hlt (by omega)
            rw [hnil] at this; cases this
      exact fun i hi => key i (by omega)
    · rw [mem_ready] at hj
      obtain ⟨h0, o, ho, he⟩ := hj
      have hjn : j < ops.size := (Array.getElem?_eq_some_iff.1 ho).1
      rw [getD_of j hjn] at h0
      have hpr := hedge j o ho listed hc he
      have hjm : j < lo.length := by
        rcases Nat.lt_or_ge j lo.length with h' | h'
        · exact h'
        · exact absurd (fun i hi => hpr i (htl j h' hjn i hi)) hend
      have hL' := listed_set listed j (by rw [hsz]; exact hjn)
      have hsz' : (listed.setIfInBounds j true).size = ops.size := by simp [hsz]
      have hget : ∀ i, (listed.setIfInBounds j true).getD i false = (listed.getD i false || i == j) := fun i => congrFun hL' i
      have hin' : ∀ i, (listed.setIfInBounds j true).getD i false = true → i < lo.length := by
        intro i hi
        rw [hget] at hi
        simp only [Bool.or_eq_true, beq_iff_eq] at hi
        rcases hi with hi | rfl
        · exact hin i hi
        · exact hjm
      have hc' : ∀ k, k < ops.size → (listed.setIfInBounds j true).getD k false = true → ∀ i, pr k i = true → (listed.setIfInBounds j true).getD i false = true := by
        intro k hk hk' i hi
        rw [hget] at hk' ⊢
        simp only [Bool.or_eq_true, beq_iff_eq] at hk' ⊢
        rcases hk' with hk' | rfl
        · exact .inl (hc k hk hk' i hi)
        · exact .inl (hpr i hi)
      have hn' : ((List.range ops.size).filter fun i => !(listed.setIfInBounds j true).getD i false).length ≤ fuel := by
        have hlt : ((List.range ops.size).filter fun i => !(listed.setIfInBounds j true).getD i false).length < ((List.range ops.size).filter fun i => !listed.getD i false).length := by
          have e : ((List.range ops.size).filter fun i => !(listed.setIfInBounds j true).getD i false) = (((List.range ops.size).filter fun i => !listed.getD i false).filter fun i => !(i == j)) := by
            rw [List.filter_filter]
            congr 1
            funext i
            rw [hget]
            cases listed.getD i false <;> simp
          rw [e]
          refine List.length_filter_lt_length_iff_exists.2 ⟨j, ?_, by simp⟩
          rw [List.mem_filter]
          exact ⟨List.mem_range.2 hjn, by rw [h0]; rfl⟩
        omega
      -- what the operation looks at is as in the text's order
      have look : execOp a.eval o = execOp (GG ops a₀ vs j).eval o ∧ Region.wanted o (yielded ops a.tmps) = Region.wanted o (yielded ops (GG ops a₀ vs j).tmps) := by
        subst ha
        refine same_look (hH.sel j o ho) fun t ht => ?_
        have e1 : (GG ops a₀ vs j).tmps[t]? = (FF ops a₀ (fun i => decide (i < j)) vs ops.size).tmps[t]? := by rw [FF_below vs j ops.size (by omega)]; rfl
        rw [e1]
        refine FF_slot _ fun i hi hd => ⟨?_, fun _ => rfl⟩
        obtain ⟨x, hx, hxd⟩ : ∃ x, ops[i]? = some x ∧ x.dst = some t := by
          unfold dstOf at hd
          cases hx : ops[i]? with
          | none => simp [hx] at hd
          | some x => exact ⟨x, rfl, by simpa [hx] using hd⟩
        rcases Nat.lt_trichotomy i j with hij | hij | hij
        · rw [hpr i (hH.clash i j x o hx ho hij (clash_look hxd (.inl ht)))]; simp [hij]
        · subst hij; rw [h0]; simp
        · have h1 := hH.clash j i o x ho hx hij (clash_look' hxd ht)
          have h2 : listed.getD i false = false := by
            cases hLi : listed.getD i false with
            | false => rfl
            | true => rw [hc i hi hLi j h1] at h0; cases h0
          rw [h2]; simp; omega
      have add : ∀ vs', (∀ i, i < ops.size → listed.getD i false = true → vs' i = vs i) →
          a.put o.dst (vs' j) = FF ops a₀ (fun i => (listed.setIfInBounds j true).getD i false) vs' ops.size := by
        intro vs' hv
        rw [hL', ← FF_add hH (fun i => listed.getD i false) vs' j o ho h0 hc hpr, ha]
        congr 1
        exact FF_congr _ fun i hi => ⟨rfl, fun hl => (hv i hi hl).symm⟩
      unfold wpOp
      rw [ho]
      simp only
      obtain ⟨hs1, hs2⟩ := hs j hjm o ho
      by_cases hwant : wantAt ops a₀ vs j o
      · have hwant' : Region.wanted o (yielded ops a.tmps) = true := by rw [look.2]; exact hwant
        rw [if_pos hwant']
        refine .inl ?_
        obtain ⟨hp1, hp2⟩ := hs1 hwant
        cases hp : pl j with
        | none =>
          refine gives_wp (ρ := (GG ops a₀ vs j).eval) (T := fun v w' => v = vs j ∧ w' = w) (X := X) look.1 ?_ ?_ (fun ch w' h => hX ch _ w' (by rw [ha]; exact FF_defers _ _ _) h)
          · unfold gives; rw [hp1 hp w hw]; exact ⟨rfl, rfl⟩
          · rintro v w' ⟨rfl, rfl⟩
            refine ih _ _ _ vs hsz' hin' hc' hs (add vs fun _ _ _ => rfl) hw (fun i hi hl o' q' ho' hwi hq' => ?_) hn'
            rw [hget] at hl
            simp only [Bool.or_eq_true, beq_iff_eq] at hl
            rcases hl with hl | rfl
            · exact hf i hi hl o' q' ho' hwi hq'
            · rw [hp] at hq'; cases hq'
        | some q =>
          have hat := phi_at w₀ hw₀ hlo h vs j (by omega) (fun i hi => hs i (by omega))
          rw [drop_cons lo j o (by rw [← hlo j hjm]; exact ho)] at hat
          unfold wpPhi at hat
          rw [if_pos (show Region.wanted o (yielded ops (GG ops a₀ vs j).tmps) = true from hwant), hp] at hat
          obtain ⟨_, hg, _⟩ := hat
          have hgive := hg w hw (fun p hpk hpn => by
            obtain ⟨i, o', q', hi, ho', hq', hwi, rfl⟩ := mem_knOf hpk
            have hpri := hH.need j hjn i (hpn)
            exact hf i (by omega) (hpr i hpri) o' q' ho' hwi hq')
          refine gives_wp (ρ := (GG ops a₀ vs j).eval) look.1 hgive ?_ (fun ch w' h => hX ch _ w' (by rw [ha]; exact FF_defers _ _ _) h)
          rintro v w' ⟨hv, hfact, hR⟩
          have hcL : ∀ k, k < lo.length → (listed.getD k false || k == j) = true → ∀ i, pr k i = true → (listed.getD i false || i == j) = true := by
            intro k hk hk' i hi
            have := hc' k (by omega) (by rw [hget]; exact hk') i hi
            rwa [hget] at this
          obtain ⟨vs', hv1, hv2⟩ := complete w₀ hw₀ hlo hle hH h (fun i => listed.getD i false || i == j) (upd vs j v) hcL (fun k hk hkL => by
            by_cases e : k = j
            · subst e
              intro o' ho'
              obtain rfl : o = o' := Option.some.inj (ho.symm.trans ho')
              unfold wantAt
              rw [GG_upd]
              refine ⟨fun _ => ⟨fun hn => (by rw [hp] at hn; cases hn), fun q' hq' => ?_⟩, fun hn => absurd hwant hn⟩
              rw [hp] at hq'; cases hq'
              simpa [upd] using hv
            · have hkl : listed.getD k false = true := by simpa [e] using hkL
              refine stepOk_congr hH (fun i hi => ?_) (by simp [upd, e]) (hs k hk)
              have hil := hc k (by omega) hkl i hi
              have : i ≠ j := fun e' => by subst e'; rw [hil] at h0; cases h0
              simp [upd, this])
          have agree : ∀ i, i < ops.size → listed.getD i false = true → vs' i = vs i := by
            intro i _ hil
            have hne : i ≠ j := fun e' => by subst e'; rw [hil] at h0; cases h0
            rw [hv1 i (show (listed.getD i false || i == j) = true by rw [hil]; rfl)]
            simp [upd, hne]
          have hvj : vs' j = v := by rw [hv1 j (by simp)]; simp [upd]
          have e2 := add vs' agree
          rw [hvj] at e2
          refine ih _ _ _ vs' hsz' hin' hc' hv2 e2 (hI w w' hw hR) (fun i hi hl o' q' ho' hwi hq' => ?_) hn'
          rw [hget] at hl
          simp only [Bool.or_eq_true, beq_iff_eq] at hl
          by_cases e : i = j
          · subst e
            rw [hp] at hq'; cases hq'
            rw [hvj]; exact hfact
          · have hil := hl.resolve_right e
            rw [agree i hi hil]
            refine hS i q' hq' w w' _ hw hR (hf i hi hil o' q' ho' ?_ hq')
            refine (look_congr hH ho' fun k hk => ?_).2.1 hwi
            have hlt := hH.lt i k hi hk
            exact agree k (by omega) (hc i hi hil k hk)
      · have hwant' : ¬ Region.wanted o (yielded ops a.tmps) = true := by rw [look.2]; exact hwant
        rw [if_neg hwant']
        have e2 := add vs (fun _ _ _ => rfl)
        rw [hs2 hwant] at e2
        refine ih _ _ _ vs hsz' hin' hc' hs e2 hw (fun i hi hl o' q' ho' hwi hq' => ?_) hn'
        rw [hget] at hl
        simp only [Bool.or_eq_true, beq_iff_eq] at hl
        rcases hl with hl | rfl
        · exact hf i hi hl o' q' ho' hwi hq'
        · obtain rfl : o = o' := Option.some.inj (ho.symm.trans ho')
          exact absurd hwi hwant

/-- the tail, whose order is forced -/
theorem tail_run {m : Nat} (hH : Hangs ops nd m pr) : ∀ (fuel j : Nat) (listed : Array Bool) (a : Act) (w : World), m ≤ j → j ≤ ops.size → listed.size = ops.size → (∀ i, listed.getD i false = decide (i < j)) →
    ops.size - j ≤ fuel → wpList P ops Q (ops.toList.drop j) a w → wpAny P .any ops Q fuel listed a w := by
  intro fuel
  induction fuel with
  | zero =>
    intro j listed a w hmj hj hsz hget hf h
    obtain rfl : j = ops.size := by omega
    rw [List.drop_of_length_le (by simp)] at h
    refine ⟨?_, h⟩
    rw [List.eq_nil_iff_forall_not_mem]
    intro i hi
    rw [mem_ready] at hi
    obtain ⟨h0, o, ho, _⟩ := hi
    have hi := (Array.getElem?_eq_some_iff.1 ho).1
    have h1 := hget i
    have his : i < listed.size := by omega
    simp [his, hi] at h0 h1
    rw [h1] at h0; cases h0
  | succ fuel ih =>
    intro j listed a w hmj hj hsz hget hf h
    have only : ∀ i, i ∈ Region.ready .any ops listed → i = j := by
      intro i hi
      rw [mem_ready] at hi
      obtain ⟨h0, o, ho, he⟩ := hi
      have hin := (Array.getElem?_eq_some_iff.1 ho).1
      have hil : listed.getD i false = false := by
        have his : i < listed.size := by omega
        simp [his] at h0 ⊢
        exact h0
      have hij : j ≤ i := by rw [hget] at hil; simpa using hil
      rcases Nat.lt_or_ge j i with hlt | hge
      · have hp := hH.tail i (by omega) hin j hlt
        obtain ⟨e, hm, hb, hor⟩ := hH.edge i o ho j hp
        have hel := he e hm hb
        rw [hget] at hel
        have hel' : e.on < j := by simpa using hel
        rcases hor with rfl | hor
        · omega
        · have := hH.lt e.on j (by omega) hor; omega
      · omega
    by_cases hjn : j = ops.size
    · subst hjn
      rw [List.drop_of_length_le (by simp)] at h
      refine ⟨fun _ => h, fun i hi => ?_⟩
      have := only i hi
      rw [mem_ready] at hi
      obtain ⟨_, o, ho, _⟩ := hi
      have := (Array.getElem?_eq_some_iff.1 ho).1
      omega
    · obtain ⟨o, ho⟩ : ∃ o, ops[j]? = some o := ⟨ops[j], by simp⟩
      have hjs : j < listed.size := by omega
      rw [drop_cons ops.toList j o (by simpa using ho)] at h
      have hset : ∀ i, (listed.setIfInBounds j true).getD i false = decide (i < j + 1) := by
        intro i
        rw [congrFun (listed_set listed j hjs) i, hget]
        by_cases h1 : i < j
        · simp [h1]; omega
        · by_cases h2 : i = j
          · subst h2; simp
          · have h3 : (i == j) = false := by simp [h2]
            have h4 : decide (i < j + 1) = false := decide_eq_false (by omega)
            have h5 : decide (i < j) = false := decide_eq_false h1
            rw [h3, h4, h5]; rfl
      refine ⟨fun hnil => ?_, fun i hi => ?_⟩
      · exfalso
        have : j ∈ Region.ready .any ops listed := by
          rw [mem_ready]
          have h1 := hget j
          refine ⟨?_, o, ho, fun e he hb => ?_⟩
          · simp [hjs] at h1 ⊢; exact h1
          · rw [hget]
            have := hH.lt j e.on (by omega) (hH.edge' j o ho e he hb)
            simpa using this
        rw [hnil] at this; cases this
      · obtain rfl := only i hi
        unfold wpList at h
        unfold wpOp
        rw [ho]
        simp only
        have next : ∀ a' w', wpList P ops Q (ops.toList.drop (i + 1)) a' w' → wpAny P .any ops Q fuel (listed.setIfInBounds i true) a' w' :=
          fun a' w' h' => ih (i + 1) _ a' w' (by omega) (by omega) (by simp [hsz]) hset (by omega) h'
        split
        · rename_i hw
          rw [if_pos hw] at h
          exact h.imp (Oper.wp_mono next) id
        · rename_i hw
          rw [if_neg hw] at h
          exact next _ _ h

/-- the plan as a list -/
def planOf (ps : List (Nat × Part)) : Nat → Option Part := fun j => ps.lookup j
theorem plan_stable {ps : List (Nat × Part)} {S : Part → Prop} (h : ∀ p ∈ ps, S p.2) : ∀ j q, planOf ps j = some q → S q := by
  intro j q hq
  induction ps with
  | nil => cases hq
  | cons p ps ih =>
    obtain ⟨k, x⟩ := p
    unfold planOf at hq
    rw [List.lookup_cons] at hq
    split at hq
    · cases hq; exact h (k, q) (by simp)
    · exact ih (fun p hp => h p (by simp [hp])) hq
def needs (ns : List (Nat × List Nat)) : Nat → List Nat := fun j => (ns.lookup j).getD []

/-- THE LAW OF A REGION THAT DRAWS ITS ORDER: 'lo' in whatever order its edges allow, then 'tl', whose order is forced. -/
theorem wp_phi_R {id : Nat} {w : World} (lo tl : List Oper) (X : List PanicEntry → World → Prop) (hX : ∀ ch a w, a.defers = a₀.defers → X ch w → Q (.panic ch) a w) (R : World → World → Prop) (I : World → Prop) (ps : List (Nat × Part)) (ns : List (Nat × List Nat)) (hm : P.follows .mixedOrders = true)
    (hok : phiOk (lo ++ tl).toArray (needs ns) lo.length = true)
    (hI : ∀ w w', I w → R w w' → I w') (hS : ∀ p ∈ ps, ∀ w w' v, I w → R w w' → p.2.fact w v → p.2.fact w' v)
    (hw : I w.drew) (h : wpPhi P (lo ++ tl).toArray (wpList P (lo ++ tl).toArray Q tl) I R (planOf ps) (needs ns) X 0 lo a₀ []) : (Code.region id (lo ++ tl).toArray true).wp P Q a₀ w := by
  generalize hops : (lo ++ tl).toArray = ops at *
  have hlo : ∀ i, i < lo.length → ops[i]? = lo[i]? := by
    intro i hi; rw [← hops]; simp [List.getElem?_append_left hi]
  have hle : lo.length ≤ ops.size := by rw [← hops]; simp
  have hdrop : ops.toList.drop lo.length = tl := by rw [← hops]; simp
  obtain ⟨pr, hH⟩ := hangs_of_ok hok
  obtain ⟨vs, _, hvs⟩ := complete w.drew hw hlo hle hH h (fun _ => false) (fun _ => undef) (fun _ _ h => by cases h) (fun _ _ h => by cases h)
  have hrep : ∀ i : Nat, (Array.replicate ops.size false).getD i false = false := by
    intro i
    rw [Array.getD_eq_getD_getElem?, Array.getElem?_replicate]
    split <;> rfl
  refine wp_region_any hm (phi_run w.drew hw hlo hle hH h (fun j h1 h2 i hi => hH.tail j h1 h2 i (by omega)) ?_ hI (plan_stable (S := fun q => ∀ w w' v, I w → R w w' → q.fact w v → q.fact w' v) hS) hX ops.size _ a₀ w.drew vs (by simp) ?_ ?_ hvs ?_ hw ?_ ?_)
  · intro a w' hE fuel listed hsz hget hf
    exact tail_run hH fuel lo.length listed a w' (Nat.le_refl _) hle hsz hget hf (by rw [hdrop]; exact hE)
  · intro i hi; rw [hrep] at hi; cases hi
  · intro k _ hk; rw [hrep] at hk; cases hk
  · have gen : ∀ k, FF ops a₀ (fun i => (Array.replicate ops.size false).getD i false) vs k = a₀ := by
      intro k
      induction k with
      | zero => rfl
      | succ k ih =>
        simp only [FF]
        rw [if_neg (by rw [hrep]; decide), ih]
    exact (gen _).symm
  · intro i _ hk; rw [hrep] at hk; cases hk
  · exact Nat.le_trans (List.length_filter_le _ _) (by simp)

/-- THE SAME, R: of what there is nothing turns; no tail. -/
theorem wp_phi {id : Nat} {w : World} {lo : List Oper} (X : List PanicEntry → World → Prop) (hX : ∀ ch a w, a.defers = a₀.defers → X ch w → Q (.panic ch) a w) (I : World → Prop) (ps : List (Nat × Part)) (ns : List (Nat × List Nat)) (hm : P.follows .mixedOrders = true) (hok : phiOk lo.toArray (needs ns) lo.length = true)
    (hI : ∀ w w', I w → Below w.heap.size w w' → I w') (hS : ∀ p ∈ ps, ∀ w w' v, I w → Below w.heap.size w w' → p.2.fact w v → p.2.fact w' v)
    (hw : I w.drew) (h : Veil (wpPhi P lo.toArray (wpList P lo.toArray Q []) I (fun w w' => Below w.heap.size w w') (planOf ps) (needs ns) X 0 lo a₀ [])) : (Code.region id lo.toArray true).wp P Q a₀ w := by
  have := wp_phi_R (P := P) (Q := Q) (id := id) (w := w) (a₀ := a₀) lo [] X hX (fun w w' => Below w.heap.size w w') I ps ns hm (by rw [List.append_nil]; exact hok) hI hS hw (by rw [List.append_nil]; exact h.out)
  rwa [List.append_nil] at this

/-- THE SAME with a tail. -/
theorem wp_phi_tail {id : Nat} {w : World} (lo tl : List Oper) {l : List Oper} (hl : l = lo ++ tl) (X : List PanicEntry → World → Prop) (hX : ∀ ch a w, a.defers = a₀.defers → X ch w → Q (.panic ch) a w) (I : World → Prop) (ps : List (Nat × Part)) (ns : List (Nat × List Nat)) (hm : P.follows .mixedOrders = true) (hok : phiOk l.toArray (needs ns) lo.length = true)
    (hI : ∀ w w', I w → Below w.heap.size w w' → I w') (hS : ∀ p ∈ ps, ∀ w w' v, I w → Below w.heap.size w w' → p.2.fact w v → p.2.fact w' v)
    (hw : I w.drew) (h : Veil (wpPhi P l.toArray (wpList P l.toArray Q tl) I (fun w w' => Below w.heap.size w w') (planOf ps) (needs ns) X 0 lo a₀ [])) : (Code.region id l.toArray true).wp P Q a₀ w := by
  subst hl
  exact wp_phi_R lo tl X hX (fun w w' => Below w.heap.size w w') I ps ns hm hok hI hS hw h.out
end main
end Go.Proofs.YtkghpmpmcafhkaaGreatDoor.PX

namespace Go.Proofs.YtkghpmpmcafhkaaGreatDoor
open Go.RowKit Go.Extern.Stop Go.Stop Go.Extern
attribute [local go_sem] bs_toList
attribute [local irreducible] wpPhiU PX.wpPhi

/-- what an element's call ends with -/
def ElG (E : Nat → Addr) (r : Nat) (d : Int) (o : Except Nat (Tr × List UInt8)) (w : World) (e : Ending) (w' : World) : Prop :=
  But [r] w w' ∧ match o with
    | .ok (x, s) => (∃ s0 p1 n1 c1 p2 n2 c2 s3, e = .returned (.agg #[.string s0, .slice p1 n1 c1, .slice p2 n2 c2, .string s3]) ∧ TrC w' (Bt w.heap.size w'.heap.size none) x [.string s0, .slice p1 n1 c1, .slice p2 n2 c2, .string s3]) ∧ Rr w' r s d
    | .error k => e = .panicked (panE E k) ∧ ∃ s' d', Rr w' r s' d'
def CtG (E : Nat → Addr) (r : Nat) (d : Int) (o : Except Nat (List Tr × List UInt8)) (w : World) (e : Ending) (w' : World) : Prop :=
  But [r] w w' ∧ match o with
    | .ok (ks, s) => (∃ v css, e = .returned v ∧ w'.ownsRow w.heap.size 28 4 v ks.length css.flatten ∧ TrL w' (Bt w.heap.size w'.heap.size v.ownBlock) ks css) ∧ Rr w' r s d
    | .error k => e = .panicked (panE E k) ∧ ∃ s' d', Rr w' r s' d'
theorem attrsR_len : ∀ {n : Nat} {out ats : List (List (List UInt8))} {s u : List UInt8}, attrsR n out s = some (ats, u) → u.length ≤ s.length
  | 0, _, _, _, _, h => by cases h
  | n + 1, out, ats, s, u, h => by
    unfold attrsR at h
    have hb := blank_len s
    split at h
    · obtain ⟨a, ha, h⟩ := Option.bind_eq_some_iff.1 h
      have hl := attrR_len (a := a.1) (u := a.2) ha
      split at h
      · have := attrsR_len h; omega
      · cases h
    · cases h; exact hb
mutual
theorem elemP_len : ∀ {n d : Nat} {s : List UInt8} {x : Tr} {u : List UInt8}, elemP n d s = .ok (x, u) → u.length < s.length
  | 0, _, _, _, _, h => by unfold elemP at h; cases h
  | n + 1, d, s, x, u, h => by
    unfold elemP at h
    split at h
    · cases h
    · rename_i nm s2 e2
      obtain ⟨s1, e1, e2⟩ := Option.bind_eq_some_iff.1 e2
      have l1 := cutR_len e1
      have l2 := nameR_len e2
      simp only [List.length_cons, List.length_nil] at l1
      split at h
      · cases h
      · split at h
        · cases h
        · rename_i ats s3 e3
          have l3 := attrsR_len e3
          split at h
          · rename_i t
            split at h
            · cases h
            · rename_i s4 e4
              have l4 := cutR_len e4
              simp only [List.length_cons] at l3
              cases h
              omega
          · split at h
            · cases h
            · rename_i s4 e4
              have l4 := cutR_len e4
              split at h
              · cases h
              · rename_i ks s5 e5
                have l5 := contP_len e5
                split at h
                · cases h
                · rename_i nm' s6 e6
                  obtain ⟨s7, e7, e6⟩ := Option.bind_eq_some_iff.1 e6
                  have l7 := cutR_len e7
                  have l6 := nameR_len e6
                  have l8 := blank_len s6
                  split at h
                  · split at h
                    · cases h
                    · rename_i s9 e9
                      have l9 := cutR_len e9
                      cases h
                      omega
                  · cases h
theorem contP_len : ∀ {n d : Nat} {out ks : List Tr} {s u : List UInt8}, contP n d out s = .ok (ks, u) → u.length ≤ s.length
  | 0, _, _, _, _, _, h => by unfold contP at h; cases h
  | n + 1, d, out, ks, s, u, h => by
    unfold contP at h
    split at h
    · cases h; omega
    · split at h
      · cases h
      · rename_i s1 e1
        have l1 := upR_len e1
        split at h
        · cases h
        · rename_i x s2 e2
          have l2 := elemP_len e2
          have l3 := contP_len h
          omega
      · rename_i t s1 _ e1
        have l1 := upR_len e1
        split at h
        · cases h
        · have l3 := contP_len h
          omega
end
def ElemC (m : Nat) : Prop := ∀ (E : Nat → Addr) (r d : Nat) (s : List UInt8) (w : World), LibX r w E → Rr w r s (d : Int) → s.length ≤ 20000 → d ≤ 12 → 2 * s.length + 2 ≤ m →
  Calls Tryz.prog 66 #[.pointer (some ⟨r, 0, none⟩)] w (ElG E r d (elemP m d s) w)
def ContC (m : Nat) : Prop := ∀ (E : Nat → Addr) (r d : Nat) (s : List UInt8) (w : World), LibX r w E → Rr w r s (d : Int) → s.length ≤ 20000 → d ≤ 12 → 2 * s.length + 3 ≤ m →
  Calls Tryz.prog 108 #[.pointer (some ⟨r, 0, none⟩)] w (CtG E r d (contP m d [] s) w)
theorem only_but {r : Nat} {w w' : World} (ho : Only r w w') : But [r] w w' := ⟨ho.os, ho.tape, ho.output, by rw [ho.size]; exact Nat.le_refl _, fun k hk hn => ho.block k (by rintro rfl; simp at hn)⟩
abbrev ELD : FuncId := 105
/-- the deferred closure: one level less -/
theorem elemD (x r : Nat) (s : List UInt8) (d : Int) (u : FrameMode) (w : World) (hp : w.cell? ⟨x, 0, none⟩ = some (.pointer (some ⟨r, 0, none⟩))) (hr : Rr w r s d) :
    CallsD Tryz.prog 105 #[.pointer (some ⟨x, 0, none⟩)] u w fun e u' w' => u' = u ∧ (e = .returned (.tuple #[]) ∧ But [r] w w' ∧ ∃ d', Rr w' r s d' ∧ (-100 ≤ d → d ≤ 100 → d' = d - 1)) := by
  have c1 := (hr.cell 1).trans rfl
  have f1 := hr.frozen 1
  have HR := Lib.hid (fun z => show Rr (w.setCell ⟨r, 1, none⟩ (.int .i64 z)) r s z from hr.set_ 1 _)
  have HO := Lib.hid (fun z => only_but ((Only.refl r w).set_ 1 (.int .i64 z)))
  clear hr
  go_enter_d Tryz.func105, Tryz.ntmps105
  go_wp2_with fail
  go_end0
  refine ⟨rfl, HO.out _, _, HR.out _, fun h1 h2 => ?_⟩
  unfold wrap64
  omega
theorem Errs.depth {w : World} {E : Nat → Addr} (h : Errs w E) : w.cell? ⟨10, 0, none⟩ = some (.iface 244 (.pointer (some (E 10)))) := by
  have := h.cell 10 (by omega)
  simpa only [errVar, errAt, List.getD_cons_zero, List.getD_cons_succ] using this
theorem But.cellx {r : Nat} {w w' : World} (h : But [r] w w') {a : Addr} {v : Value} (hr : r < a.block) (hc : w.cell? a = some v) : w'.cell? a = some v :=
  (World.cell?_of_block (h.block a.block (cell_lt hc) (rne r a.block (by omega)))).trans hc
theorem trc_but {r : Nat} {w w' : World} {P : Nat → Prop} {x : Tr} {cs : List Value} (h : TrC w P x cs) (hb : But [r] w w') (hP : ∀ b, P b → r < b) : TrC w' P x cs :=
  h.keepP fun _a _v hp hc => hb.cellx (hP _ hp) hc
theorem trl_but {r : Nat} {w w' : World} {P : Nat → Prop} {x : List Tr} {cs : List (List Value)} (h : TrL w P x cs) (hb : But [r] w w') (hP : ∀ b, P b → r < b) : TrL w' P x cs :=
  h.keepP fun _a _v hp hc => hb.cellx (hP _ hp) hc
/-- while an element is read: its own blocks, and what has been read of it -/
structure ElS (E : Nat → Addr) (r : Nat) (w : World) (g : Nat) (nm : List UInt8) (ats : List (List (List UInt8))) (ks : List Tr) (pa : Option Addr) (ca : Nat) (pk : Option Addr) (ck : Nat) (wi : World) : Prop where
  lib : LibX r wi E
  but : But [r] w wi
  ptr : Blk wi w.heap.size 131 #[.pointer (some ⟨r, 0, none⟩)]
  zer : Blk wi (w.heap.size + 1) 28 #[.string ⟨#[]⟩, .slice none 0 0, .slice none 0 0, .string ⟨#[]⟩]
  own : Blk wi g 28 #[.string (bs nm), .slice pa ats.length ca, .slice pk ks.length ck, .string ⟨#[]⟩]
  low : w.heap.size + 2 ≤ g
  tree : TrC wi (Bt (g + 1) wi.heap.size none) (.node [nm] ats ks []) [.string (bs nm), .slice pa ats.length ca, .slice pk ks.length ck, .string ⟨#[]⟩]
theorem ElS.next {E : Nat → Addr} {r g : Nat} {w : World} {nm : List UInt8} {ats : List (List (List UInt8))} {ks : List Tr} {pa pk : Option Addr} {ca ck : Nat} {wi wj : World} (h : ElS E r w g nm ats ks pa ca pk ck wi) (hr : r < w.heap.size) (hb : But [r] wi wj) : ElS E r w g nm ats ks pa ca pk ck wj :=
  ⟨h.lib.but hb, h.but.trans hb, hb.blk h.ptr (rne r _ (by omega)), hb.blk h.zer (rne r _ (by omega)), hb.blk h.own (rne r _ (by have := h.low; omega)), h.low,
    (trc_but h.tree hb (fun b hp => by have := hp.1; have := h.low; omega)).imp fun b hp => ⟨hp.1, Nat.lt_of_lt_of_le hp.2.1 hb.size, hp.2.2⟩⟩
theorem el_die {E : Nat → Addr} {r k : Nat} {d d' : Int} {s' : List UInt8} {w wj : World} (tmps : Array Value) (hp : Blk wj w.heap.size 131 #[.pointer (some ⟨r, 0, none⟩)]) (hr : Rr wj r s' d') (hb : But [r] w wj) :
    bodyPostD Tryz.prog Tryz.f66 (ElG E r d (.error k) w) (Exit.panic (panE E k)) ⟨tmps, [{ target := .fn (.func ELD) #[.pointer (some ⟨w.heap.size, 0, none⟩)], args := #[] }]⟩ wj := by
  refine leaves_cons (f := ELD) (args := #[.pointer (some ⟨w.heap.size, 0, none⟩)]) (by simp) (by simp [go_sem]) ?_
  refine (elemD w.heap.size r _ _ _ wj ((hp.cell 0).trans rfl) hr).mono ?_
  rintro e u' wz ⟨rfl, rfl, hbz, dz, hrz, -⟩
  have HFZ := Lib.hid (show ElG E r d (.error k) w (.panicked (panE E k)) wz from ⟨hb.trans hbz, rfl, _, _, hrz⟩)
  clear hbz hrz
  simp [settle, go_sem]
  exact HFZ.out
/-- a call that must panic -/
def PNoN : Part := ⟨fun v => v = .string ⟨#[]⟩, fun _ _ => False⟩
/-- a name that is read -/
def PNm (r : Nat) (s : List UInt8) (d : Int) (nm : List UInt8) : Part := ⟨fun v => v = .string (bs nm), fun w _ => Rr w r s d⟩
set_option maxRecDepth 20000 in
set_option maxHeartbeats 8000000 in
theorem elem_of (n : Nat) (hct : ContC n) : ElemC (n + 1) := by
  intro E r d s w hx hr hs hd hn
  obtain ⟨O, hO⟩ : ∃ O, elemP (n + 1) d s = O := ⟨_, rfl⟩
  rw [hO]
  unfold elemP at hO
  have HCT := Lib.hid hct
  have hrw := hr.lt
  have HNE1 := Lib.hid (rne r w.heap.size (by omega))
  have HNE2 := Lib.hid (rne r (w.heap.size + 1) (by omega))
  have hb := But.of_below (S := [r]) (below_alloc (below_alloc1 w (.cells #[.pointer (some ⟨r, 0, none⟩)] 131)) (.cells #[.string ⟨#[]⟩, .slice none 0 0, .slice none 0 0, .string ⟨#[]⟩] 28))
  have HLX := Lib.hid hx
  have HX0 := Lib.hid (hx.but hb)
  have HB0 := Lib.hid hb
  have HP0 := Lib.hid ((Blk.new w 131 #[.pointer (some ⟨r, 0, none⟩)]).alloc (.cells #[.string ⟨#[]⟩, .slice none 0 0, .slice none 0 0, .string ⟨#[]⟩] 28))
  have hz0 := Blk.new (w.alloc (.cells #[.pointer (some ⟨r, 0, none⟩)] 131)) 28 #[.string ⟨#[]⟩, .slice none 0 0, .slice none 0 0, .string ⟨#[]⟩]
  rw [World.size_alloc] at hz0
  have HZ0 := Lib.hid hz0
  have HR0 := Lib.hid ((hr.alloc (.cells #[.pointer (some ⟨r, 0, none⟩)] 131)).alloc (.cells #[.string ⟨#[]⟩, .slice none 0 0, .slice none 0 0, .string ⟨#[]⟩] 28))
  have HFY := Lib.hid (fun w => xfail_y w)
  have hmf := @run_makeFunc Tryz.prog
  have hsz0 : ((w.alloc (.cells #[.pointer (some ⟨r, 0, none⟩)] 131)).alloc (.cells #[.string ⟨#[]⟩, .slice none 0 0, .slice none 0 0, .string ⟨#[]⟩] 28)).heap.size = w.heap.size + 2 := by simp
  have HSZ0 := Lib.hid hsz0
  have HO := Lib.hid hO
  have p0 := (HP0.out.cell 0).trans rfl
  clear hb hx hr hz0 hsz0 hct hO
  go_enter_defers Tryz.func66, Tryz.ntmps66
  go_wp2_with fail
  have hO := HO.out
  clear HO p0
  generalize (w.alloc (.cells #[.pointer (some ⟨r, 0, none⟩)] 131)).alloc (.cells #[.string ⟨#[]⟩, .slice none 0 0, .slice none 0 0, .string ⟨#[]⟩] 28) = w0 at *
  cases h1 : cutR [60] s with
  | none =>
    rw [h1, Option.bind_none] at hO
    obtain rfl : O = .error 3 := hO.symm
    refine (rcut_n w0 E HX0.out.errs HR0.out h1).mono ?_
    rintro e w1 ⟨rfl, rfl⟩
    exact ⟨HB0.out, rfl, _, _, HR0.out⟩
  | some s1 =>
    have l1 := cutR_len h1
    simp only [List.length_cons, List.length_nil] at l1
    rw [h1, Option.bind_some] at hO
    refine (rcut_y w0 HR0.out h1).mono ?_
    rintro e w1 ⟨rfl, hr, ho⟩
    have hb := only_but ho
    have HX1 := Lib.hid (HX0.out.but hb)
    have HP1 := Lib.hid (hb.blk HP0.out HNE1.out)
    have HZ1 := Lib.hid (hb.blk HZ0.out HNE2.out)
    have HB1 := Lib.hid (HB0.out.trans hb)
    have HR1 := Lib.hid hr
    have hs1 : w.heap.size + 2 ≤ w1.heap.size := by have := HSZ0.out; have := hb.size; omega
    have p1 := (HP1.out.cell 0).trans rfl
    have HO := Lib.hid hO
    clear h1 hr hb ho hO
    go_wp2_with fail
    have hO := HO.out
    clear HO p1
    cases h2 : nameR s1 with
    | none =>
      rw [h2] at hO
      obtain rfl : O = .error 3 := hO.symm
      refine (rname_n E w1 HX1.out HR1.out (by omega) h2).mono ?_
      rintro e w2 ⟨rfl, hb, s', hr'⟩
      exact ⟨HB1.out.trans hb, rfl, _, _, hr'⟩
    | some q =>
      obtain ⟨nm, s2⟩ := q
      have l2 := nameR_len h2
      rw [h2] at hO
      dsimp only at hO
      refine (rname_y E w1 HX1.out HR1.out (by omega) h2).mono ?_
      rintro e w2 ⟨rfl, hr, hb⟩
      have HX2 := Lib.hid (HX1.out.but hb)
      have HP2 := Lib.hid (hb.blk HP1.out HNE1.out)
      have HZ2 := Lib.hid (hb.blk HZ1.out HNE2.out)
      have HB2 := Lib.hid (HB1.out.trans hb)
      have HR2 := Lib.hid hr
      have hs2 : w.heap.size + 2 ≤ w2.heap.size := Nat.le_trans hs1 hb.size
      have HO := Lib.hid hO
      clear h2 hr hb hO
      have hb3 := But.of_below (S := [r]) (below_alloc1 w2 (.cells #[.string (bs nm), .slice none 0 0, .slice none 0 0, .string ⟨#[]⟩] 28))
      have hs3 : (w2.alloc (.cells #[.string (bs nm), .slice none 0 0, .slice none 0 0, .string ⟨#[]⟩] 28)).heap.size = w2.heap.size + 1 := by simp
      have hr3 : Rr (w2.alloc (.cells #[.string (bs nm), .slice none 0 0, .slice none 0 0, .string ⟨#[]⟩] 28)) r s2 (d : Int) := HR2.out.alloc _
      have hp3 := HP2.out.alloc (.cells #[.string (bs nm), .slice none 0 0, .slice none 0 0, .string ⟨#[]⟩] 28)
      have hz3 := HZ2.out.alloc (.cells #[.string (bs nm), .slice none 0 0, .slice none 0 0, .string ⟨#[]⟩] 28)
      have hn3 := Blk.new w2 28 #[.string (bs nm), .slice none 0 0, .slice none 0 0, .string ⟨#[]⟩]
      have hx3 := HX2.out.but hb3
      have hbb3 := HB2.out.trans hb3
      have p2 := (HP2.out.cell 0).trans rfl
      have p3 := (hp3.cell 0).trans rfl
      have q3 := (hr3.cell 1).trans rfl
      have f3 := hr3.frozen 1
      have HR3 := Lib.hid hr3; have HP3 := Lib.hid hp3; have HZ3 := Lib.hid hz3; have HN3 := Lib.hid hn3; have HX3 := Lib.hid hx3; have HB3 := Lib.hid hbb3
      have HS3 := Lib.hid hs3
      have hr4 : Rr ((w2.alloc (.cells #[.string (bs nm), .slice none 0 0, .slice none 0 0, .string ⟨#[]⟩] 28)).setCell ⟨r, 1, none⟩ (.int .i64 ((d : Int) + 1))) r s2 ((d : Int) + 1) := hr3.set_ 1 _
      have ho4 := (Only.refl r (w2.alloc (.cells #[.string (bs nm), .slice none 0 0, .slice none 0 0, .string ⟨#[]⟩] 28))).set_ 1 (.int .i64 ((d : Int) + 1))
      have p4 := ((ho4.blk hp3 (by omega)).cell 0).trans rfl
      have q4 := (hr4.cell 1).trans rfl
      have HX4 := Lib.hid (hx3.but (only_but ho4))
      have HP4 := Lib.hid (ho4.blk hp3 (by omega))
      have HZ4 := Lib.hid (ho4.blk hz3 (by omega))
      have HN4 := Lib.hid (ho4.blk hn3 (by omega))
      have HB4 := Lib.hid (hbb3.trans (only_but ho4))
      have HR4 := Lib.hid hr4
      have HS4 := Lib.hid ho4.size
      have HSW := Lib.hid hs2
      clear hb3 hs3 hr3 hp3 hz3 hn3 hx3 hbb3 ho4 hr4 hs2 hs1
      by_cases h12 : 12 < d + 1
      · have g12 : decide ((12 : Int) < (d : Int) + 1) = true := decide_eq_true (by omega)
        have e4 := HX4.out.errs.depth
        have hO := HO.out
        rw [if_pos h12] at hO
        obtain rfl : O = .error 10 := hO.symm
        clear HO hO
        go_wp2_with fail
        exact ⟨HB4.out, rfl, _, _, HR4.out⟩
      have g12 : decide ((12 : Int) < (d : Int) + 1) = false := decide_eq_false (by omega)
      rw [if_neg h12] at HO
      go_wp2_with fail
      clear p2 p3 q3 f3 p4 q4 g12
      generalize hg3 : w2.heap.size = g3 at *
      have hs4 : ((w2.alloc (.cells #[.string (bs nm), .slice none 0 0, .slice none 0 0, .string ⟨#[]⟩] 28)).setCell ⟨r, 1, none⟩ (.int .i64 ((d : Int) + 1))).heap.size = g3 + 1 := HS4.out.trans HS3.out
      clear HR3 HP3 HZ3 HN3 HX3 HB3 HS3 HS4
      generalize (w2.alloc (.cells #[.string (bs nm), .slice none 0 0, .slice none 0 0, .string ⟨#[]⟩] 28)).setCell ⟨r, 1, none⟩ (.int .i64 ((d : Int) + 1)) = w4 at *
      have hO := HO.out
      clear HO
      refine (rattrs_any E r ((d : Int) + 1) s2 (s2.length + 1) w4 HX4.out HR4.out (by omega) (by omega)).mono ?_
      rintro e w5 ⟨hb5, he⟩
      cases h3 : attrsR (s2.length + 1) [] s2 with
      | none =>
        rw [h3] at hO he
        obtain rfl : O = .error 3 := hO.symm
        obtain ⟨rfl, s', hr'⟩ := he
        have hp5 := hb5.blk HP4.out HNE1.out
        exact el_die _ (hp5) (hr') (HB4.out.trans hb5)
      | some q =>
        obtain ⟨ats, s3⟩ := q
        rw [h3] at hO he
        dsimp only at hO
        obtain ⟨v, rfl, own5, hk5, hl5, hr5⟩ := he
        obtain ⟨pa, ca, rfl, a1, a2, a3, a4⟩ := owns_rdP own5
        have hlw := HSW.out
        have hn5 := hb5.blk HN4.out (rne r g3 (by omega))
        have ho6 := (Only.refl g3 w5).set_ 1 (.slice pa ats.length ca)
        have hbut6 := (HB4.out.trans hb5).only1 ho6 (by omega)
        have hs5 := hb5.size
        have S6 := Lib.hid (show ElS E r w g3 nm ats [] pa ca none 0 (w5.setCell ⟨g3, 1, none⟩ (.slice pa ats.length ca)) from
          ⟨HLX.out.but hbut6, hbut6, ho6.blk (hb5.blk HP4.out HNE1.out) (by omega), ho6.blk (hb5.blk HZ4.out HNE2.out) (by omega), hn5.set_ 1 _, hlw, by
            have hz6 := ho6.size
            unfold TrC
            refine ⟨pa, ca, none, 0, [], rfl, ⟨a1, a2, a3.keepP (P := fun b => g3 + 1 ≤ b) (fun a ha => by have := (a4 a ha).1; omega) fun a v hp hc => (World.cell?_of_block (ho6.block a.block (by omega))).trans hc, fun a ha => ⟨by have := (a4 a ha).1; omega, by have := (a4 a ha).2; omega, by simp⟩⟩, ⟨Nat.le_refl _, by unfold maxLen; omega, .inl rfl, fun a ha => by cases ha⟩, (by unfold TrL; rfl)⟩⟩)
        have HR6 := Lib.hid (show Rr (w5.setCell ⟨g3, 1, none⟩ (.slice pa ats.length ca)) r s3 ((d : Int) + 1) from ho6.blk hr5 (by omega))
        have f5 := hn5.frozen 1
        have c5 := (hn5.cell 1).trans rfl
        have p6 := (S6.out.ptr.cell 0).trans rfl
        have q6 := (HR6.out.cell 0).trans rfl
        have HPF := Lib.hid (Tryz.strings_HasPrefix (bs s3) ⟨#[47]⟩ (w5.setCell ⟨g3, 1, none⟩ (.slice pa ats.length ca)))
        rw [show (bs s3).data.toList = s3 by simp [bs], show (⟨#[47]⟩ : ByteArray).data.toList = [47] from rfl] at HPF
        have HK5 := Lib.hid hk5
        have HL3 := Lib.hid (attrsR_len h3)
        have HOO := Lib.hid hO
        clear hO own5 hk5 hl5 hr5 a1 a2 a3 a4 hn5 ho6 hbut6 hb5 HX4 HP4 HZ4 HN4 HB4 HR4 h3
        by_cases h47 : ∃ t, s3 = 47 :: t
        · obtain ⟨t, rfl⟩ := h47
          rw [show Lib.hasPrefix (47 :: t) [47] = true by unfold Lib.hasPrefix; simp] at HPF
          go_wp2_with (go_at_call 107; refine HPF.out.mono ?_; rintro e w6 ⟨rfl, rfl⟩)
          clear p6 q6 c5 f5
          generalize w5.setCell ⟨g3, 1, none⟩ (.slice pa ats.length ca) = w6 at *
          have hO := HOO.out
          clear HOO
          have hcc : cutR [47, 62] (47 :: t) = cutR [62] t := by
            conv => lhs; unfold cutR
            rw [if_pos rfl]
          cases h5 : cutR [62] t with
          | none =>
            rw [h5] at hO hcc
            obtain rfl : O = .error 3 := hO.symm
            refine (rcut_n w6 E S6.out.lib.errs HR6.out hcc).mono ?_
            rintro e w7 ⟨rfl, rfl⟩
            exact el_die _ (S6.out.ptr) (HR6.out) (S6.out.but)
          | some s4 =>
            rw [h5] at hO hcc
            dsimp only at hO
            obtain rfl : O = .ok (.node [nm] ats [] [], s4) := hO.symm
            refine (rcut_y w6 HR6.out hcc).mono ?_
            rintro e w7 ⟨rfl, hr, ho⟩
            have S := Lib.hid (S6.out.next hrw (only_but ho))
            have HRS := Lib.hid hr
            clear ho hr S6 HR6
            have o0 := (S.out.own.cell 0).trans rfl
            have o1 := (S.out.own.cell 1).trans rfl
            have o2 := (S.out.own.cell 2).trans rfl
            have o3 := (S.out.own.cell 3).trans rfl
            go_wp2_with (refine wpList_store (.tmp 2) (.tmp 33) 28 rfl rfl (w.heap.size + 1) 0 _ _ #[.string (bs nm), .slice pa ats.length ca, .slice none 0 0, .string ⟨#[]⟩] rfl rfl S.out.zer ?s0 ?s1 ?s2 ?_)
            case s0 => kernel_rfl
            case s1 => simp [Value.oneCell']
            case s2 => simp
            intro wx hbx hox
            rw [putCells_all #[.string ⟨#[]⟩, .slice none 0 0, .slice none 0 0, .string ⟨#[]⟩] #[.string (bs nm), .slice pa ats.length ca, .slice none 0 0, .string ⟨#[]⟩] rfl] at hbx
            have HBX := Lib.hid hbx
            have HOX := Lib.hid hox
            clear o0 o1 o2 o3 hbx hox
            go_wp2_with fail
            refine leaves_cons (f := ELD) (args := #[.pointer (some ⟨w.heap.size, 0, none⟩)]) (by simp) (by simp [go_sem]) ?_
            refine (elemD w.heap.size r _ _ _ wx (((HOX.out.blk S.out.ptr (by omega)).cell 0).trans rfl) (HOX.out.blk HRS.out (by omega))).mono ?_
            rintro e u' wz ⟨rfl, rfl, hbz, dz, hrz, hdz⟩
            have hz := hbz.blk HBX.out HNE2.out
            have z0 := (hz.cell 0).trans rfl
            have z1 := (hz.cell 1).trans rfl
            have z2 := (hz.cell 2).trans rfl
            have z3 := (hz.cell 3).trans rfl
            have hdd := hdz (by omega) (by omega)
            have hrd : Rr wz r s4 (d : Int) := by
              rw [show (d : Int) = dz by omega]
              exact hrz
            have htr := trc_but (S.out.tree.only HOX.out fun b hb => by have := hb.1; have := S.out.low; omega) hbz fun b hb => by have := hb.1; have := S.out.low; omega
            have hsx : wx.heap.size ≤ wz.heap.size := hbz.size
            have hox := HOX.out.size
            have HFZ := Lib.hid (show ElG E r (d : Int) (.ok (.node [nm] ats [] [], s4)) w (.returned (.agg #[.string (bs nm), .slice pa ats.length ca, .slice none 0 0, .string ⟨#[]⟩])) wz from
              ⟨(S.out.but.only1 HOX.out (by omega)).trans hbz, ⟨_, _, _, _, _, _, _, _, rfl, htr.imp fun b hb => ⟨by have := hb.1; have := S.out.low; omega, by have := hb.2.1; omega, hb.2.2⟩⟩, hrd⟩)
            clear hbz hrz hz htr hrd hdz
            simp [Leaves, settle, results, Tryz.results66, go_sem, z0, z1, z2, z3]
            exact HFZ.out
        · have hpf : Lib.hasPrefix s3 [47] = false := by
            unfold Lib.hasPrefix
            cases s3 with
            | nil => rfl
            | cons c u =>
              rw [List.isPrefixOf_cons_cons]
              have : ((47 : UInt8) == c) = false := by rw [beq_eq_false_iff_ne]; rintro rfl; exact h47 ⟨u, rfl⟩
              rw [this]
              rfl
          rw [hpf] at HPF
          go_wp2_with (go_at_call 107; refine HPF.out.mono ?_; rintro e w6 ⟨rfl, rfl⟩)
          clear p6 q6 c5 f5 hpf HPF
          generalize w5.setCell ⟨g3, 1, none⟩ (.slice pa ats.length ca) = w6 at *
          have hO : (match cutR [62] s3 with
              | none => .error 3
              | some s => match contP n (d + 1) [] s with
                | .error e => .error e
                | .ok (ks, s) => match (cutR [60, 47] s).bind nameR with
                  | none => .error 3
                  | some (nm', s) => if nm' = nm then match cutR [62] (blankR s) with
                      | none => .error 3
                      | some s => .ok (.node [nm] ats ks [], s)
                    else .error 3) = O := by
            rw [← HOO.out]
            symm
            cases s3 with
            | nil => rfl
            | cons c u =>
              by_cases hc : c = 47
              · exact absurd ⟨u, by rw [hc]⟩ h47
              · split
                · rename_i e; injection e with e _; exact absurd e hc
                · rfl
          clear HOO h47
          cases h5 : cutR [62] s3 with
          | none =>
            rw [h5] at hO
            obtain rfl : O = .error 3 := hO.symm
            refine (rcut_n w6 E S6.out.lib.errs HR6.out h5).mono ?_
            rintro e w7 ⟨rfl, rfl⟩
            exact el_die _ (S6.out.ptr) (HR6.out) (S6.out.but)
          | some s4 =>
            have l5 := cutR_len h5
            simp only [List.length_cons, List.length_nil] at l5
            have l3 := HL3.out
            rw [h5] at hO
            dsimp only at hO
            refine (rcut_y w6 HR6.out h5).mono ?_
            rintro e w7 ⟨rfl, hr, ho⟩
            have S7 := Lib.hid (S6.out.next hrw (only_but ho))
            have HR7 := Lib.hid hr
            have p7 := (S7.out.ptr.cell 0).trans rfl
            have HOO := Lib.hid hO
            clear ho hr S6 HR6 h5 hO
            go_wp2_with fail
            have hO := HOO.out
            clear HOO p7
            refine (HCT.out E r (d + 1) s4 w7 S7.out.lib HR7.out (by omega) (by omega) (by omega)).mono ?_
            rintro e w8 ⟨hb8, he⟩
            cases h6 : contP n (d + 1) [] s4 with
            | error k =>
              rw [h6] at hO he
              obtain rfl : O = .error k := hO.symm
              obtain ⟨rfl, s', d', hr'⟩ := he
              exact el_die _ ((S7.out.next hrw hb8).ptr) (hr') (S7.out.but.trans hb8)
            | ok q8 =>
              obtain ⟨ks, s5⟩ := q8
              rw [h6] at hO he
              dsimp only at hO
              obtain ⟨⟨v, css, rfl, own8, trl8⟩, hr8⟩ := he
              obtain ⟨pk, ck, rfl, b1, b2, b3, b4⟩ := owns_rdP own8
              have s8 := S7.out.next hrw hb8
              have ho9 := (Only.refl g3 w8).set_ 2 (.slice pk ks.length ck)
              have hbut9 := s8.but.only1 ho9 (by omega)
              have hs7 : g3 < w7.heap.size := S7.out.own.lt
              have S9 := Lib.hid (show ElS E r w g3 nm ats ks pa ca pk ck (w8.setCell ⟨g3, 2, none⟩ (.slice pk ks.length ck)) from
                ⟨HLX.out.but hbut9, hbut9, ho9.blk s8.ptr (by omega), ho9.blk s8.zer (by omega), s8.own.set_ 2 _, hlw, by
                  have hz9 := ho9.size
                  have ht := s8.tree
                  unfold TrC at ht ⊢
                  obtain ⟨pa', ca', pk', ck', css', e1, ⟨x1, x2, x3, x4⟩, _, _⟩ := ht
                  simp only [strs, List.map_cons, List.map_nil, List.cons_append, List.nil_append, List.cons.injEq, Value.slice.injEq] at e1
                  obtain ⟨_, ⟨rfl, _, rfl⟩, _⟩ := e1
                  refine ⟨pa, ca, pk, ck, css, rfl, ⟨x1, x2, x3.keepP x4 fun a v hp hc => (World.cell?_of_block (ho9.block a.block (by have := hp.1; omega))).trans hc, fun a ha => by have := x4 a ha; exact ⟨this.1, by have := this.2.1; omega, this.2.2⟩⟩, ⟨b1, b2, b3.keepP (P := fun b => g3 + 1 ≤ b) (fun a ha => by have := (b4 a ha).1; omega) fun a v hp hc => (World.cell?_of_block (ho9.block a.block (by omega))).trans hc, fun a ha => ⟨by have := (b4 a ha).1; omega, by have := (b4 a ha).2; omega, by simp⟩⟩, ?_⟩
                  exact (trl8.only ho9 fun b hb => by have := hb.1; omega).imp fun b hb => ⟨by have := hb.1; omega, by have := hb.2.1; omega, by simp⟩⟩)
              have HR9 := Lib.hid (show Rr (w8.setCell ⟨g3, 2, none⟩ (.slice pk ks.length ck)) r s5 ((d : Int) + 1) from ho9.blk hr8 (by omega))
              have f8 := s8.own.frozen 2
              have c8 := (s8.own.cell 2).trans rfl
              have p9 := (S9.out.ptr.cell 0).trans rfl
              have HL6 := Lib.hid (contP_len h6)
              have HOO := Lib.hid hO
              clear s8 ho9 hbut9 own8 trl8 hr8 b1 b2 b3 b4 hb8 hO h6
              go_wp2_with fail
              clear f8 c8 p9
              generalize w8.setCell ⟨g3, 2, none⟩ (.slice pk ks.length ck) = w9 at *
              have hO := HOO.out
              clear HOO
              cases h7 : cutR [60, 47] s5 with
              | none =>
                rw [h7] at hO
                obtain rfl : O = .error 3 := hO.symm
                refine (rcut_n w9 E S9.out.lib.errs HR9.out h7).mono ?_
                rintro e w10 ⟨rfl, rfl⟩
                exact el_die _ (S9.out.ptr) (HR9.out) (S9.out.but)
              | some s6 =>
                have l7 := cutR_len h7
                simp only [List.length_cons, List.length_nil] at l7
                have l6 := HL6.out
                rw [h7, Option.bind_some] at hO
                refine (rcut_y w9 HR9.out h7).mono ?_
                rintro e w10 ⟨rfl, hr, ho⟩
                have S10 := Lib.hid (S9.out.next hrw (only_but ho))
                have HR10 := Lib.hid hr
                have p10 := (S10.out.ptr.cell 0).trans rfl
                have n10 := (S10.out.own.cell 0).trans rfl
                have HOO := Lib.hid hO
                clear ho hr S9 HR9 h7 hO
                go_wp2_with fail
                have hO := HOO.out
                clear HOO
                cases h8 : nameR s6 with
                | none =>
                  rw [h8] at hO
                  obtain rfl : O = .error 3 := hO.symm
                  have HNM := Lib.hid (fun wq (hq : Below w10.heap.size w10 wq) => rname_n E wq (S10.out.next hrw (But.of_below hq)).lib (HR10.out.below hq HR10.out.lt) (by omega) h8)
                  clear p10 n10 hO
                  refine PX.wp_phi_tail (List.take 5 _) (List.drop 5 _) (List.take_append_drop 5 _).symm (fun ch w' => ch = panE E 3 ∧ But [r] w w' ∧ Blk w' w.heap.size 131 #[.pointer (some ⟨r, 0, none⟩)] ∧ ∃ s', Rr w' r s' ((d : Int) + 1)) ?_ (fun w' => Below w10.heap.size w10 w') [(1, PNoN)] [] (by kernel_rfl) (by kernel_rfl) ?_ ?_ (Below.refl _ _).drew ?_
                  · rintro ch a w' hd ⟨rfl, hb, hp, s', hr'⟩
                    obtain ⟨tm, df⟩ := a
                    dsimp only at hd
                    subst hd
                    exact el_die tm hp hr' hb
                  · intro w1' w2' h1 hb
                    exact h1.trans (hb.mono h1.size)
                  · simp only [List.mem_cons, List.not_mem_nil, or_false, forall_eq]
                    exact fun _ _ _ _ _ h => h
                  simp only [List.take_succ_cons, List.take_zero, List.drop_succ_cons, List.drop_zero]
                  repeat (first | (refine PX.phi_skipK rfl (fun K hK => ?_); simp only [Act.put, List.setIfInBounds_toArray, List.set_cons_succ, List.set_cons_zero]; (try simp only [List.cons_append]); (try simp only [List.nil_append]); apply hK; clear hK K) | (refine PX.phi_pureK rfl rfl (fun K hK => ?_); apply Exists.intro; constructor; (focus (rintro w' hI; (have gS := S10.out.next hrw (But.of_below hI); have q0 := (gS.ptr.cell 0).trans rfl; have q1 := (gS.own.cell 0).trans rfl; clear gS hI); first | (go_simp; done) | (go_simp; (try go_bits); (try go_simp); rfl) | go_simp)); simp only [Act.put, List.setIfInBounds_toArray, List.set_cons_succ, List.set_cons_zero]; (try simp only [List.cons_append]); (try simp only [List.nil_append]); apply hK; clear hK K))
                  refine PX.phi_partK PNoN rfl rfl ⟨_, rfl⟩ ?_ (fun K hK v hv => ?_)
                  · rintro w' hI _
                    have HC := Lib.hid (HNM.out w' hI)
                    have gS := S10.out.next hrw (But.of_below hI)
                    have HH := Lib.hid gS
                    clear hI gS
                    unfold PX.gives
                    go_simp
                    refine HC.out.mono ?_
                    rintro e w'' ⟨rfl, hb, s', hr'⟩
                    exact .inr ⟨_, rfl, rfl, HH.out.but.trans hb, (HH.out.next hrw hb).ptr, s', hr'⟩
                  obtain rfl : v = _ := hv
                  simp only [Act.put, List.setIfInBounds_toArray, List.set_cons_succ, List.set_cons_zero]; (try simp only [List.cons_append]); (try simp only [List.nil_append])
                  apply hK
                  clear hK K
                  repeat (first | (refine PX.phi_skipK rfl (fun K hK => ?_); simp only [Act.put, List.setIfInBounds_toArray, List.set_cons_succ, List.set_cons_zero]; (try simp only [List.cons_append]); (try simp only [List.nil_append]); apply hK; clear hK K) | (refine PX.phi_pureK rfl rfl (fun K hK => ?_); apply Exists.intro; constructor; (focus (rintro w' hI; (have gS := S10.out.next hrw (But.of_below hI); have q0 := (gS.ptr.cell 0).trans rfl; have q1 := (gS.own.cell 0).trans rfl; clear gS hI); first | (go_simp; done) | (go_simp; (try go_bits); (try go_simp); rfl) | go_simp)); simp only [Act.put, List.setIfInBounds_toArray, List.set_cons_succ, List.set_cons_zero]; (try simp only [List.cons_append]); (try simp only [List.nil_append]); apply hK; clear hK K))
                  refine PX.phi_done ?_
                  intro w9 _ hk
                  exact (hk (1, fun w => PNoN.fact w (.string ⟨#[]⟩)) (by simp)).elim
                | some q11 =>
                  obtain ⟨nm', s7⟩ := q11
                  rw [h8] at hO
                  dsimp only at hO
                  have HNM := Lib.hid (fun wq (hs : ElS E r w g3 nm ats ks pa ca pk ck wq) (hr : Rr wq r s6 ((d : Int) + 1)) => rname_y E wq hs.lib hr (by omega) h8)
                  have l8 := nameR_len h8
                  have HOO := Lib.hid hO
                  clear p10 n10 hO h8
                  refine wp_phiU_tail (List.take 5 _) (List.drop 5 _) (List.take_append_drop 5 _).symm (fun _ wa wb => But [r] wa wb) (fun w' => ElS E r w g3 nm ats ks pa ca pk ck w') [(1, PNm r s7 ((d : Int) + 1) nm')] [] [(1, fun w' => Rr w' r s6 ((d : Int) + 1))] [] (by kernel_rfl) (by kernel_rfl) ?_ ?_ ?_ ?_ (S10.out.next hrw (But.of_below (Below.refl _ _).drew)) ?_
                  · rintro p _ wa wb hI hR
                    exact hI.next hrw hR
                  · intro p hp p' hp' hne
                    simp only [List.mem_singleton] at hp hp'
                    subst hp; subst hp'
                    exact absurd rfl hne
                  · intro p hp u hu hne
                    simp only [List.mem_singleton] at hp hu
                    subst hp; subst hu
                    exact absurd rfl hne
                  · intro u hu
                    simp only [List.mem_singleton] at hu
                    subst hu
                    exact HR10.out.below (Below.refl _ _).drew HR10.out.lt
                  simp only [List.take_succ_cons, List.take_zero, List.drop_succ_cons, List.drop_zero]
                  repeat (first | (refine phiU_skipK rfl (fun K hK => ?_); simp only [Act.put, List.setIfInBounds_toArray, List.set_cons_succ, List.set_cons_zero]; (try simp only [List.cons_append]); (try simp only [List.nil_append]); apply hK; clear hK K) | (refine phiU_pureK rfl rfl (fun K hK => ?_); apply Exists.intro; constructor; (focus (rintro w' hI; (have q0 := (hI.ptr.cell 0).trans rfl; have q1 := (hI.own.cell 0).trans rfl; clear hI); first | (go_simp; done) | (go_simp; (try go_bits); (try go_simp); rfl) | go_simp)); simp only [Act.put, List.setIfInBounds_toArray, List.set_cons_succ, List.set_cons_zero]; (try simp only [List.cons_append]); (try simp only [List.nil_append]); apply hK; clear hK K))
                  refine phiU_partK (PNm r s7 ((d : Int) + 1) nm') rfl rfl ⟨_, rfl⟩ ?_ (fun K hK v hv => ?_)
                  · intro w' hI hf hu
                    have hr' : Rr w' r s6 ((d : Int) + 1) := hu (1, fun w' => Rr w' r s6 ((d : Int) + 1)) (by simp) rfl
                    have HC := Lib.hid (HNM.out w' hI hr')
                    clear hI hf hu hr'
                    unfold gives
                    go_simp
                    refine HC.out.mono ?_
                    rintro e w'' ⟨rfl, hr'', hb⟩
                    exact ⟨_, rfl, rfl, hr'', hb⟩
                  obtain rfl : v = _ := hv
                  simp only [Act.put, List.setIfInBounds_toArray, List.set_cons_succ, List.set_cons_zero]; (try simp only [List.cons_append]); (try simp only [List.nil_append])
                  apply hK
                  clear hK K
                  repeat (first | (refine phiU_skipK rfl (fun K hK => ?_); simp only [Act.put, List.setIfInBounds_toArray, List.set_cons_succ, List.set_cons_zero]; (try simp only [List.cons_append]); (try simp only [List.nil_append]); apply hK; clear hK K) | (refine phiU_pureK rfl rfl (fun K hK => ?_); apply Exists.intro; constructor; (focus (rintro w' hI; (have q0 := (hI.ptr.cell 0).trans rfl; have q1 := (hI.own.cell 0).trans rfl; clear hI); first | (go_simp; done) | (go_simp; (try go_bits); (try go_simp); rfl) | go_simp)); simp only [Act.put, List.setIfInBounds_toArray, List.set_cons_succ, List.set_cons_zero]; (try simp only [List.cons_append]); (try simp only [List.nil_append]); apply hK; clear hK K))
                  refine phiU_done ?_
                  intro w12 hI hf
                  have hr12 : Rr w12 r s7 ((d : Int) + 1) := hf (1, fun w' => (PNm r s7 ((d : Int) + 1) nm').fact w' (.string (bs nm'))) (by simp) rfl
                  have S12 := Lib.hid hI
                  have HR12 := Lib.hid hr12
                  clear hI hf hr12 S10 HR10
                  have hO := HOO.out
                  clear HOO
                  by_cases hnn : nm' = nm
                  rotate_left 1
                  · have hq : (nm' == nm) = false := by rw [beq_eq_false_iff_ne]; exact hnn
                    rw [if_neg hnn] at hO
                    obtain rfl : O = .error 3 := hO.symm
                    have HFN := Lib.hid (xfail_n w12 E S12.out.lib.errs)
                    clear hnn
                    go_wp2_with (go_at_call 67; refine HFN.out.mono ?_; rintro e w13 ⟨rfl, rfl⟩)
                    exact el_die _ S12.out.ptr HR12.out S12.out.but
                  rw [if_pos hnn] at hO
                  have hq : (nm' == nm) = true := by rw [beq_iff_eq]; exact hnn
                  have p12 := (S12.out.ptr.cell 0).trans rfl
                  have HBL := Lib.hid (rblank_any w12 HR12.out (by omega))
                  have HOO := Lib.hid hO
                  clear hnn hO
                  go_wp2_with (go_at_call 67; refine (HFY.out _).mono ?_; rintro e w13 ⟨rfl, rfl⟩)
                  have hO := HOO.out
                  clear HOO p12 hq
                  refine HBL.out.mono ?_
                  rintro e w14 ⟨rfl, hr, hb⟩
                  have S14 := Lib.hid (S12.out.next hrw hb)
                  have HR14 := Lib.hid hr
                  have p14 := (S14.out.ptr.cell 0).trans rfl
                  have HOO := Lib.hid hO
                  clear S12 HR12 HBL hr hb hO
                  go_wp2_with fail
                  have hO := HOO.out
                  clear HOO p14
                  cases h9 : cutR [62] (blankR s7) with
                  | none =>
                    rw [h9] at hO
                    obtain rfl : O = .error 3 := hO.symm
                    refine (rcut_n w14 E S14.out.lib.errs HR14.out h9).mono ?_
                    rintro e w15 ⟨rfl, rfl⟩
                    exact el_die _ S14.out.ptr HR14.out S14.out.but
                  | some s9 =>
                    rw [h9] at hO
                    dsimp only at hO
                    obtain rfl : O = .ok (.node [nm] ats ks [], s9) := hO.symm
                    refine (rcut_y w14 HR14.out h9).mono ?_
                    rintro e w15 ⟨rfl, hr, ho⟩
                    have S := Lib.hid (S14.out.next hrw (only_but ho))
                    have HRS := Lib.hid hr
                    clear ho hr S14 HR14 h9
                    have o0 := (S.out.own.cell 0).trans rfl
                    have o1 := (S.out.own.cell 1).trans rfl
                    have o2 := (S.out.own.cell 2).trans rfl
                    have o3 := (S.out.own.cell 3).trans rfl
                    go_wp2_with (refine wpList_store (.tmp 2) (.tmp 51) 28 rfl rfl (w.heap.size + 1) 0 _ _ #[.string (bs nm), .slice pa ats.length ca, .slice pk ks.length ck, .string ⟨#[]⟩] rfl rfl S.out.zer ?s0 ?s1 ?s2 ?_)
                    case s0 => kernel_rfl
                    case s1 => simp [Value.oneCell']
                    case s2 => simp
                    intro wx hbx hox
                    rw [putCells_all #[.string ⟨#[]⟩, .slice none 0 0, .slice none 0 0, .string ⟨#[]⟩] #[.string (bs nm), .slice pa ats.length ca, .slice pk ks.length ck, .string ⟨#[]⟩] rfl] at hbx
                    have HBX := Lib.hid hbx
                    have HOX := Lib.hid hox
                    clear o0 o1 o2 o3 hbx hox
                    go_wp2_with fail
                    refine leaves_cons (f := ELD) (args := #[.pointer (some ⟨w.heap.size, 0, none⟩)]) (by simp) (by simp [go_sem]) ?_
                    refine (elemD w.heap.size r _ _ _ wx (((HOX.out.blk S.out.ptr (by omega)).cell 0).trans rfl) (HOX.out.blk HRS.out (by omega))).mono ?_
                    rintro e u' wz ⟨rfl, rfl, hbz, dz, hrz, hdz⟩
                    have hz := hbz.blk HBX.out HNE2.out
                    have z0 := (hz.cell 0).trans rfl
                    have z1 := (hz.cell 1).trans rfl
                    have z2 := (hz.cell 2).trans rfl
                    have z3 := (hz.cell 3).trans rfl
                    have hdd := hdz (by omega) (by omega)
                    have hrd : Rr wz r s9 (d : Int) := by
                      rw [show (d : Int) = dz by omega]
                      exact hrz
                    have htr := trc_but (S.out.tree.only HOX.out fun b hb => by have := hb.1; have := S.out.low; omega) hbz fun b hb => by have := hb.1; have := S.out.low; omega
                    have hsx : wx.heap.size ≤ wz.heap.size := hbz.size
                    have hox := HOX.out.size
                    have HFZ := Lib.hid (show ElG E r (d : Int) (.ok (.node [nm] ats ks [], s9)) w (.returned (.agg #[.string (bs nm), .slice pa ats.length ca, .slice pk ks.length ck, .string ⟨#[]⟩])) wz from
                      ⟨(S.out.but.only1 HOX.out (by omega)).trans hbz, ⟨_, _, _, _, _, _, _, _, rfl, htr.imp fun b hb => ⟨by have := hb.1; have := S.out.low; omega, by have := hb.2.1; omega, hb.2.2⟩⟩, hrd⟩)
                    clear hbz hrz hz htr hrd hdz
                    simp [Leaves, settle, results, Tryz.results66, go_sem, z0, z1, z2, z3]
                    exact HFZ.out
end Go.Proofs.YtkghpmpmcafhkaaGreatDoor
