/- PhiX -/
import Derived.Test.YthboiahdheehkaaGreatDoorBA
import Derived.Lib.ItoaNum
import Derived.Lib.ItoaMem
import Derived.Lib.IndexMore
import Derived.Test.YthboiahdheehkaaGreatDoorShelf
import Derived.WalkSmall
open Array renaming getElem?_eq_some_iff → aA
open Nat renaming le_refl → nR
open Go.Proofs.Tryz renaming prog → pG
open Go.Value renaming string → V
open Go.Value renaming pointer → A
open Go.Obj renaming cells → B
namespace Go.Proofs.YthboiahdheehkaaGreatDoor.PX
open Go.RowKit
def gives (P : Program) (o : Oper) (ρ : Operand → Value) (w : World) (T : Value → World → Prop) (X : List PanicEntry → World → Prop) : Prop :=
 match (execOp ρ o).run P w with
 | .ok (.value v) w' => T v w'
 | .ok .skip w' => T undef w'
 | .ok (.enter f args) w' => Calls P f args w' fun e w'' => (∃ v, e = .returned v ∧ T v w'') ∨ ∃ ch, e = .panicked ch ∧ X ch w''
 | .halt (.panic v) w' => X [{ v, recovered := false }] w'
 | _ => False
theorem gives_wp {P : Program} {o : Oper} {a : Act} {ρ : Operand → Value} {w : World} {T : Value → World → Prop} {X : List PanicEntry → World → Prop} {K : Act → World → Prop} {Q : Exit → Act → World → Prop}
  (he : execOp a.eval o = execOp ρ o) (h : gives P o ρ w T X) (hk : ∀ v w', T v w' → K (a.put o.dst v) w') (hx : ∀ ch w', X ch w' → Q (.panic ch) a w') : o.wp P a w K Q := by
 unfold gives at h
 unfold Oper.wp
 rw [he]
 generalize (execOp ρ o).run P w = r at *
 cases r with
 | ok n w' =>
  cases n <;> simp only at h <;> try exact h.elim
  case value v => exact hk v w' h
  case skip => exact hk undef w' h
  case enter f args =>
   refine Calls.mono h fun e w'' he => ?_
   rcases he with ⟨v, rfl, ht⟩ | ⟨ch, rfl, ht⟩
   ·exact hk v w'' ht
   ·exact hx ch w'' ht
 | halt x w' => cases x <;> simp only at h <;> first | exact h.elim | exact hx _ _ h
section
variable (P : Program) (ops : Array Oper) (E : Act → World → Prop) (I : World → Prop) (R : World → World → Prop) (pl : Nat → Option Part) (nd : Nat → List Nat) (X : List PanicEntry → World → Prop)
def wpPhi : Nat → List Oper → Act → List (Nat × (World → Prop)) → Prop
 | _, [], a, kn => ∀ w, I w → (∀ p ∈ kn, p.2 w) → E a w
 | j, o :: l, a, kn =>
  if Region.wanted o (yielded ops a.tmps) = true then
   match pl j with
   | none => ∃ v, (∀ w, I w → (execOp a.eval o).run P w = .ok (.value v) w) ∧ wpPhi (j + 1) l (a.put o.dst v) kn
   | some q => (∃ v, q.val v) ∧ (∀ w, I w → (∀ p ∈ kn, p.1 ∈ nd j → p.2 w) → gives P o a.eval w (fun v w' => q.val v ∧ q.fact w' v ∧ R w w') X) ∧
     ∀ v, q.val v → wpPhi (j + 1) l (a.put o.dst v) (kn ++ [(j, fun w => q.fact w v)])
  else wpPhi (j + 1) l (a.put o.dst undef) kn
end
section rules
variable {P : Program} {ops : Array Oper} {E : Act → World → Prop} {I : World → Prop} {R : World → World → Prop} {pl : Nat → Option Part} {nd : Nat → List Nat} {X : List PanicEntry → World → Prop}
variable {j : Nat} {o : Oper} {l : List Oper} {a : Act} {kn : List (Nat × (World → Prop))}
theorem phi_pure {v : Value} (hw : Region.wanted o (yielded ops a.tmps) = true) (hp : pl j = none) (hv : ∀ w, I w → (execOp a.eval o).run P w = .ok (.value v) w)
  (h : wpPhi P ops E I R pl nd X (j + 1) l (a.put o.dst v) kn) : wpPhi P ops E I R pl nd X j (o :: l) a kn := by
 unfold wpPhi; rw [if_pos hw, hp]; exact ⟨v, hv, h⟩
theorem phi_pureK (hw : Region.wanted o (yielded ops a.tmps) = true) (hp : pl j = none)
  (h : ∀ K : Act → Prop, (∀ a', Veil (wpPhi P ops E I R pl nd X (j + 1) l a' kn) → K a') → ∃ v, (∀ w, I w → (execOp a.eval o).run P w = .ok (.value v) w) ∧ K (a.put o.dst v)) :
  Veil (wpPhi P ops E I R pl nd X j (o :: l) a kn) := by
 obtain ⟨v, h1, h2⟩ := h _ (fun _ h => h)
 exact ⟨phi_pure hw hp h1 h2.out⟩
theorem phi_skipK (hw : Region.wanted o (yielded ops a.tmps) = false)
  (h : ∀ K : Act → Prop, (∀ a', Veil (wpPhi P ops E I R pl nd X (j + 1) l a' kn) → K a') → K (a.put o.dst undef)) : Veil (wpPhi P ops E I R pl nd X j (o :: l) a kn) := by
 refine ⟨?_⟩
 unfold wpPhi; rw [if_neg (by rw [hw]; decide)]; exact (h _ (fun _ h => h)).out
theorem phi_partK (q : Part) (hw : Region.wanted o (yielded ops a.tmps) = true) (hp : pl j = some q) (hv : ∃ v, q.val v)
  (hg : ∀ w, I w → (∀ p ∈ kn, p.1 ∈ nd j → p.2 w) → gives P o a.eval w (fun v w' => q.val v ∧ q.fact w' v ∧ R w w') X)
  (h : ∀ K : Act → List (Nat × (World → Prop)) → Prop, (∀ a' kn', Veil (wpPhi P ops E I R pl nd X (j + 1) l a' kn') → K a' kn') → ∀ v, q.val v → K (a.put o.dst v) (kn ++ [(j, fun w => q.fact w v)])) :
  Veil (wpPhi P ops E I R pl nd X j (o :: l) a kn) := by
 refine ⟨?_⟩
 unfold wpPhi; rw [if_pos hw, hp]; exact ⟨hv, hg, fun v hv => (h _ (fun _ _ h => h) v hv).out⟩
theorem phi_done (h : ∀ w, I w → (∀ p ∈ kn, p.2 w) → E a w) : Veil (wpPhi P ops E I R pl nd X j [] a kn) := ⟨h⟩
end rules
section frames
variable (ops : Array Oper) (a₀ : Act)
end frames
section
variable {ops : Array Oper} {a₀ : Act}
end
section main
variable {P : Program} {ops : Array Oper} {Q : Exit → Act → World → Prop} {E : Act → World → Prop} {lo : List Oper} {I : World → Prop} {R : World → World → Prop} {pl : Nat → Option Part} {nd : Nat → List Nat} {X : List PanicEntry → World → Prop} {a₀ : Act} {pr : Nat → Nat → Bool}
theorem phi_at (w₀ : World) (hw₀ : I w₀) (hlo : ∀ i, i < lo.length → ops[i]? = lo[i]?) (h : wpPhi P ops E I R pl nd X 0 lo a₀ []) (vs : Nat → Value) : ∀ k, k ≤ lo.length → (∀ i, i < k → StepOk P ops I pl a₀ vs i) →
  wpPhi P ops E I R pl nd X k (lo.drop k) (GG ops a₀ vs k) (knOf ops pl a₀ vs k)
 | 0, _, _ => by simpa [GG, FF, knOf] using h
 | k + 1, hk, hs => by
  have ih := phi_at w₀ hw₀ hlo h vs k (by omega) (fun i hi => hs i (by omega))
  obtain ⟨o, hol⟩ : ∃ o, lo[k]? = some o := ⟨lo[k], by simp⟩
  have ho : ops[k]? = some o := (hlo k (by omega)).trans hol
  rw [drop_cons lo k o hol] at ih
  have hg : GG ops a₀ vs (k + 1) = (GG ops a₀ vs k).put o.dst (vs k) := by
   simp only [GG, FF, if_true]
   congr 1
   simp [dstOf, ho]
  obtain ⟨h1, h2⟩ := hs k (by omega) o ho
  rw [hg]
  unfold wpPhi at ih
  unfold knOf
  by_cases hw : wantAt ops a₀ vs k o
  ·have hw' := hw
   unfold wantAt at hw'
   rw [if_pos hw'] at ih
   obtain ⟨h3, h4⟩ := h1 hw
   cases hp : pl k with
   | none =>
    rw [hp] at ih
    obtain ⟨v, hv, ih⟩ := ih
    have e := (hv w₀ hw₀).symm.trans (h3 hp w₀ hw₀)
    simp only [Result.ok.injEq, Next.value.injEq, and_true] at e
    subst e
    simpa [ho] using ih
   | some q =>
    rw [hp] at ih
    have := ih.2.2 (vs k) (h4 q hp)
    simpa [ho, hw] using this
  ·have hw' := hw
   unfold wantAt at hw'
   rw [if_neg hw'] at ih
   rw [h2 hw]
   cases hp : pl k with
   | none => simpa [ho] using ih
   | some q => simpa [ho, hw] using ih
theorem step_ext (w₀ : World) (hw₀ : I w₀) (hlo : ∀ i, i < lo.length → ops[i]? = lo[i]?) (h : wpPhi P ops E I R pl nd X 0 lo a₀ []) (vs : Nat → Value) (k : Nat) (hk : k < lo.length) (hs : ∀ i, i < k → StepOk P ops I pl a₀ vs i) :
  ∃ v, StepOk P ops I pl a₀ (upd vs k v) k := by
 have ih := phi_at w₀ hw₀ hlo h vs k (by omega) hs
 obtain ⟨o, hol⟩ : ∃ o, lo[k]? = some o := ⟨lo[k], by simp [hk]⟩
 have ho : ops[k]? = some o := (hlo k hk).trans hol
 rw [drop_cons lo k o hol] at ih
 unfold wpPhi at ih
 have hu : ∀ v, upd vs k v k = v := fun v => by simp [upd]
 by_cases hw : Region.wanted o (yielded ops (GG ops a₀ vs k).tmps) = true
 ·rw [if_pos hw] at ih
  cases hp : pl k with
  | none =>
   rw [hp] at ih
   obtain ⟨v, hv, _⟩ := ih
   refine ⟨v, fun o' ho' => ?_⟩
   obtain rfl : o = o' := Option.some.inj (ho.symm.trans ho')
   unfold wantAt
   rw [GG_upd, hu]
   exact ⟨fun _ => ⟨fun _ => hv, fun q hq => (by rw [hp] at hq; cases hq)⟩, fun hn => absurd hw hn⟩
  | some q =>
   rw [hp] at ih
   obtain ⟨⟨v, hv⟩, _⟩ := ih
   refine ⟨v, fun o' ho' => ?_⟩
   obtain rfl : o = o' := Option.some.inj (ho.symm.trans ho')
   unfold wantAt
   rw [GG_upd, hu]
   exact ⟨fun _ => ⟨fun hn => (by rw [hp] at hn; cases hn), fun q' hq => (by rw [hp] at hq; cases hq; exact hv)⟩, fun hn => absurd hw hn⟩
 ·refine ⟨undef, fun o' ho' => ?_⟩
  obtain rfl : o = o' := Option.some.inj (ho.symm.trans ho')
  unfold wantAt
  rw [GG_upd, hu]
  exact ⟨fun hn => absurd hn hw, fun _ => rfl⟩
theorem complete (w₀ : World) (hw₀ : I w₀) (hlo : ∀ i, i < lo.length → ops[i]? = lo[i]?) (hle : lo.length ≤ ops.size) (hH : Hangs ops nd lo.length pr) (h : wpPhi P ops E I R pl nd X 0 lo a₀ []) (L : Nat → Bool) (vs : Nat → Value)
  (hc : ∀ j, j < lo.length → L j = true → ∀ i, pr j i = true → L i = true) (hL : ∀ j, j < lo.length → L j = true → StepOk P ops I pl a₀ vs j) :
  ∃ vs', (∀ j, L j = true → vs' j = vs j) ∧ ∀ j, j < lo.length → StepOk P ops I pl a₀ vs' j := by
 have key : ∀ k, k ≤ lo.length → ∃ vs', (∀ j, L j = true → vs' j = vs j) ∧ ∀ j, j < lo.length → (j < k ∨ L j = true) → StepOk P ops I pl a₀ vs' j := by
  intro k
  induction k with
  | zero => intro _; exact ⟨vs, fun _ _ => rfl, fun j hj hh => hL j hj (hh.resolve_left (by omega))⟩
  | succ k ih =>
   intro hk
   obtain ⟨vs', h1, h2⟩ := ih (by omega)
   by_cases hLk : L k = true
   ·refine ⟨vs', h1, fun j hj hh => ?_⟩
    rcases hh with hh | hh
    ·by_cases e : j = k
     ·subst e; exact h2 j hj (.inr hLk)
     ·exact h2 j hj (.inl (by omega))
    ·exact h2 j hj (.inr hh)
   ·obtain ⟨v, hv⟩ := step_ext w₀ hw₀ hlo h vs' k (by omega) (fun i hi => h2 i (by omega) (.inl hi))
    have ne : ∀ i, i ≠ k → vs' i = upd vs' k v i := fun i hi => by simp [upd, hi]
    refine ⟨upd vs' k v, fun j hj => ?_, fun j hj hh => ?_⟩
    ·have : j ≠ k := fun e => hLk (e ▸ hj)
     rw [← ne j this]; exact h1 j hj
    ·by_cases e : j = k
     ·subst e; exact hv
     ·have hs : StepOk P ops I pl a₀ vs' j := by
       rcases hh with hh | hh
       ·exact h2 j hj (.inl (by omega))
       ·exact h2 j hj (.inr hh)
      refine stepOk_congr hH (fun i hi => ne i ?_) (ne j e) hs
      intro ei
      subst ei
      rcases hh with hh | hh
      ·have := hH.lt j i (by omega) hi; omega
      ·exact hLk (hc j hj hh i hi)
 obtain ⟨vs', h1, h2⟩ := key lo.length (nR _)
 exact ⟨vs', h1, fun j hj => h2 j hj (.inl hj)⟩
theorem phi_run (w₀ : World) (hw₀ : I w₀) (hlo : ∀ i, i < lo.length → ops[i]? = lo[i]?) (hle : lo.length ≤ ops.size) (hH : Hangs ops nd lo.length pr) (h : wpPhi P ops E I R pl nd X 0 lo a₀ [])
  (htl : ∀ j, lo.length ≤ j → j < ops.size → ∀ i, i < lo.length → pr j i = true)
  (hE : ∀ a w, E a w → ∀ (fuel : Nat) (listed : Array Bool), listed.size = ops.size → (∀ i, listed.getD i false = decide (i < lo.length)) → ops.size - lo.length ≤ fuel → wpAny P .any ops Q fuel listed a w)
  (hI : ∀ w w', I w → R w w' → I w') (hS : ∀ j q, pl j = some q → ∀ w w' v, I w → R w w' → q.fact w v → q.fact w' v) (hX : ∀ ch a w, a.defers = a₀.defers → X ch w → Q (.panic ch) a w) :
  ∀ (fuel : Nat) (listed : Array Bool) (a : Act) (w : World) (vs : Nat → Value), listed.size = ops.size → (∀ i, listed.getD i false = true → i < lo.length) →
   (∀ k, k < ops.size → listed.getD k false = true → ∀ i, pr k i = true → listed.getD i false = true) →
   (∀ j, j < lo.length → StepOk P ops I pl a₀ vs j) → a = FF ops a₀ (fun i => listed.getD i false) vs ops.size → I w →
   (∀ i, i < ops.size → listed.getD i false = true → ∀ o q, ops[i]? = some o → wantAt ops a₀ vs i o → pl i = some q → q.fact w (vs i)) →
   ((List.range ops.size).filter fun i => !listed.getD i false).length ≤ fuel → wpAny P .any ops Q fuel listed a w := by
 have hedge : ∀ j o, ops[j]? = some o → ∀ (listed : Array Bool), (∀ k, k < ops.size → listed.getD k false = true → ∀ i, pr k i = true → listed.getD i false = true) →
   (∀ e ∈ o.after, Region.binds .any e = true → listed.getD e.on false = true) → ∀ i, pr j i = true → listed.getD i false = true := by
  intro j o ho listed hc he i hi
  have hjn := (aA.1 ho).1
  obtain ⟨e, hm, hb, hor⟩ := hH.edge j o ho i hi
  rcases hor with rfl | hor
  ·exact he e hm hb
  ·have hlt := hH.lt j e.on hjn (hH.edge' j o ho e hm hb)
   exact hc e.on (by omega) (he e hm hb) i hor
 have atEnd : ∀ (fuel : Nat) (listed : Array Bool) (w : World) (vs : Nat → Value), listed.size = ops.size → (∀ i, listed.getD i false = true → i < lo.length) → (∀ j, j < lo.length → StepOk P ops I pl a₀ vs j) → I w →
   (∀ i, i < ops.size → listed.getD i false = true → ∀ o q, ops[i]? = some o → wantAt ops a₀ vs i o → pl i = some q → q.fact w (vs i)) →
   ((List.range ops.size).filter fun i => !listed.getD i false).length ≤ fuel →
   (∀ i, i < lo.length → listed.getD i false = true) → wpAny P .any ops Q fuel listed (FF ops a₀ (fun i => listed.getD i false) vs ops.size) w := by
  intro fuel listed w vs hsz hin hs hw hf hn hall
  have hget : ∀ i, listed.getD i false = decide (i < lo.length) := by
   intro i
   by_cases hi : i < lo.length
   ·rw [hall i hi]; simp [hi]
   ·cases hl : listed.getD i false with
    | false => simp [hi]
    | true => exact absurd (hin i hl) hi
  have e : FF ops a₀ (fun i => listed.getD i false) vs ops.size = GG ops a₀ vs lo.length := by
   rw [show (fun i => listed.getD i false) = fun i => decide (i < lo.length) from funext hget, FF_below vs lo.length ops.size hle]; rfl
  rw [e]
  have := phi_at w₀ hw₀ hlo h vs lo.length (nR _) hs
  rw [List.drop_of_length_le (nR _)] at this
  unfold wpPhi at this
  refine hE _ _ (this w hw fun p hp => ?_) fuel listed hsz hget ?_
  ·obtain ⟨i, o, q, hi, ho, hq, hwant, rfl⟩ := mem_knOf hp
   exact hf i (by omega) (hall i hi) o q ho hwant hq
  ·have e2 : ((List.range ops.size).filter fun i => !listed.getD i false).length = ops.size - lo.length := by
    rw [show (fun i => !listed.getD i false) = fun i => !decide (i < lo.length) from funext fun i => by rw [hget]]
    have gen : ∀ n, ((List.range n).filter fun i => !decide (i < lo.length)).length = n - lo.length := by
     intro n
     induction n with
     | zero => simp
     | succ n ih =>
      rw [List.range_succ, List.filter_append, List.length_append, ih]
      by_cases hn : n < lo.length
      ·simp [hn]; omega
      ·simp [hn]; omega
    exact gen _
   omega
 intro fuel
 induction fuel with
 | zero =>
  intro listed a w vs hsz hin hc hs ha hw hf hn
  have hall : ∀ i, i < ops.size → listed.getD i false = true := by
   intro i hi
   have hnil := List.eq_nil_of_length_eq_zero (Nat.le_zero.1 hn)
   rw [List.filter_eq_nil_iff] at hnil
   have := hnil i (List.mem_range.2 hi)
   simpa using this
  rw [ha]
  exact atEnd 0 listed w vs hsz hin hs hw hf hn (fun i hi => hall i (by omega))
 | succ fuel ih =>
  intro listed a w vs hsz hin hc hs ha hw hf hn
  have getD_of : ∀ j, j < ops.size → listed.getD j true = listed.getD j false := by
   intro j hj
   have hjs : j < listed.size := by rw [hsz]; exact hj
   simp [hjs]
  by_cases hend : ∀ i, i < lo.length → listed.getD i false = true
  ·rw [ha]
   exact atEnd (fuel + 1) listed w vs hsz hin hs hw hf hn hend
  refine ⟨fun hnil => ?_, fun j hj => ?_⟩
  ·exfalso
   apply hend
   -- the least one that is not listed would be ready
   have key : ∀ i, i < ops.size → listed.getD i false = true := by
    intro i
    induction i using Nat.strongRecOn with
    | _ i ihi =>
     intro hi
     cases hl : listed.getD i false with
     | true => rfl
     | false =>
      obtain ⟨o, ho⟩ : ∃ o, ops[i]? = some o := ⟨ops[i], by simp [hi]⟩
      have : i ∈ Region.ready .any ops listed := by
       rw [mem_ready]
       refine ⟨by rw [getD_of i hi]; exact hl, o, ho, fun e he hb => ?_⟩
       have hlt := hH.lt i e.on hi (hH.edge' i o ho e he hb)
       exact ihi e.on hlt (by omega)
      rw [hnil] at this; cases this
   exact fun i hi => key i (by omega)
  ·rw [mem_ready] at hj
   obtain ⟨h0, o, ho, he⟩ := hj
   have hjn : j < ops.size := (aA.1 ho).1
   rw [getD_of j hjn] at h0
   have hpr := hedge j o ho listed hc he
   have hjm : j < lo.length := by
    rcases Nat.lt_or_ge j lo.length with h' | h'
    ·exact h'
    ·exact absurd (fun i hi => hpr i (htl j h' hjn i hi)) hend
   have hL' := listed_set listed j (by rw [hsz]; exact hjn)
   have hsz' : (listed.setIfInBounds j true).size = ops.size := by simp [hsz]
   have hget : ∀ i, (listed.setIfInBounds j true).getD i false = (listed.getD i false || i == j) := fun i => congrFun hL' i
   have hin' : ∀ i, (listed.setIfInBounds j true).getD i false = true → i < lo.length := by
    intro i hi
    rw [hget] at hi
    simp only [Bool.or_eq_true, beq_iff_eq] at hi
    rcases hi with hi | rfl
    ·exact hin i hi
    ·exact hjm
   have hc' : ∀ k, k < ops.size → (listed.setIfInBounds j true).getD k false = true → ∀ i, pr k i = true → (listed.setIfInBounds j true).getD i false = true := by
    intro k hk hk' i hi
    rw [hget] at hk' ⊢
    simp only [Bool.or_eq_true, beq_iff_eq] at hk' ⊢
    rcases hk' with hk' | rfl
    ·exact .inl (hc k hk hk' i hi)
    ·exact .inl (hpr i hi)
   have hn' : ((List.range ops.size).filter fun i => !(listed.setIfInBounds j true).getD i false).length ≤ fuel := by
    have hlt : ((List.range ops.size).filter fun i => !(listed.setIfInBounds j true).getD i false).length < ((List.range ops.size).filter fun i => !listed.getD i false).length := by
     have e : ((List.range ops.size).filter fun i => !(listed.setIfInBounds j true).getD i false) = (((List.range ops.size).filter fun i => !listed.getD i false).filter fun i => !(i == j)) := by
      rw [List.filter_filter]
      congr 1
      funext i
      rw [hget]
      cases listed.getD i false <;> simp
     rw [e]
     refine List.length_filter_lt_length_iff_exists.2 ⟨j, ?_, by simp⟩
     rw [List.mem_filter]
     exact ⟨List.mem_range.2 hjn, by rw [h0]; rfl⟩
    omega
   -- what the operation looks at is as in the text's order
   have look : execOp a.eval o = execOp (GG ops a₀ vs j).eval o ∧ Region.wanted o (yielded ops a.tmps) = Region.wanted o (yielded ops (GG ops a₀ vs j).tmps) := by
    subst ha
    refine same_look (hH.sel j o ho) fun t ht => ?_
    have e1 : (GG ops a₀ vs j).tmps[t]? = (FF ops a₀ (fun i => decide (i < j)) vs ops.size).tmps[t]? := by rw [FF_below vs j ops.size (by omega)]; rfl
    rw [e1]
    refine FF_slot _ fun i hi hd => ⟨?_, fun _ => rfl⟩
    obtain ⟨x, hx, hxd⟩ : ∃ x, ops[i]? = some x ∧ x.dst = some t := by
     unfold dstOf at hd
     cases hx : ops[i]? with
     | none => simp [hx] at hd
     | some x => exact ⟨x, rfl, by simpa [hx] using hd⟩
    rcases Nat.lt_trichotomy i j with hij | hij | hij
    ·rw [hpr i (hH.clash i j x o hx ho hij (clash_look hxd (.inl ht)))]; simp [hij]
    ·subst hij; rw [h0]; simp
    ·have h1 := hH.clash j i o x ho hx hij (clash_look' hxd ht)
     have h2 : listed.getD i false = false := by
      cases hLi : listed.getD i false with
      | false => rfl
      | true => rw [hc i hi hLi j h1] at h0; cases h0
     rw [h2]; simp; omega
   have add : ∀ vs', (∀ i, i < ops.size → listed.getD i false = true → vs' i = vs i) →
     a.put o.dst (vs' j) = FF ops a₀ (fun i => (listed.setIfInBounds j true).getD i false) vs' ops.size := by
    intro vs' hv
    rw [hL', ← FF_add hH (fun i => listed.getD i false) vs' j o ho h0 hc hpr, ha]
    congr 1
    exact FF_congr _ fun i hi => ⟨rfl, fun hl => (hv i hi hl).symm⟩
   unfold wpOp
   rw [ho]
   simp only
   obtain ⟨hs1, hs2⟩ := hs j hjm o ho
   by_cases hwant : wantAt ops a₀ vs j o
   ·have hwant' : Region.wanted o (yielded ops a.tmps) = true := by rw [look.2]; exact hwant
    rw [if_pos hwant']
    refine .inl ?_
    obtain ⟨hp1, hp2⟩ := hs1 hwant
    cases hp : pl j with
    | none =>
     refine gives_wp (ρ := (GG ops a₀ vs j).eval) (T := fun v w' => v = vs j ∧ w' = w) (X := X) look.1 ?_ ?_ (fun ch w' h => hX ch _ w' (by rw [ha]; exact FF_defers _ _ _) h)
     ·unfold gives; rw [hp1 hp w hw]; exact ⟨rfl, rfl⟩
     ·rintro v w' ⟨rfl, rfl⟩
      refine ih _ _ _ vs hsz' hin' hc' hs (add vs fun _ _ _ => rfl) hw (fun i hi hl o' q' ho' hwi hq' => ?_) hn'
      rw [hget] at hl
      simp only [Bool.or_eq_true, beq_iff_eq] at hl
      rcases hl with hl | rfl
      ·exact hf i hi hl o' q' ho' hwi hq'
      ·rw [hp] at hq'; cases hq'
    | some q =>
     have hat := phi_at w₀ hw₀ hlo h vs j (by omega) (fun i hi => hs i (by omega))
     rw [drop_cons lo j o (by rw [← hlo j hjm]; exact ho)] at hat
     unfold wpPhi at hat
     rw [if_pos (show Region.wanted o (yielded ops (GG ops a₀ vs j).tmps) = true from hwant), hp] at hat
     obtain ⟨_, hg, _⟩ := hat
     have hgive := hg w hw (fun p hpk hpn => by
      obtain ⟨i, o', q', hi, ho', hq', hwi, rfl⟩ := mem_knOf hpk
      have hpri := hH.need j hjn i (hpn)
      exact hf i (by omega) (hpr i hpri) o' q' ho' hwi hq')
     refine gives_wp (ρ := (GG ops a₀ vs j).eval) look.1 hgive ?_ (fun ch w' h => hX ch _ w' (by rw [ha]; exact FF_defers _ _ _) h)
     rintro v w' ⟨hv, hfact, hR⟩
     have hcL : ∀ k, k < lo.length → (listed.getD k false || k == j) = true → ∀ i, pr k i = true → (listed.getD i false || i == j) = true := by
      intro k hk hk' i hi
      have := hc' k (by omega) (by rw [hget]; exact hk') i hi
      rwa [hget] at this
     obtain ⟨vs', hv1, hv2⟩ := complete w₀ hw₀ hlo hle hH h (fun i => listed.getD i false || i == j) (upd vs j v) hcL (fun k hk hkL => by
      by_cases e : k = j
      ·subst e
       intro o' ho'
       obtain rfl : o = o' := Option.some.inj (ho.symm.trans ho')
       unfold wantAt
       rw [GG_upd]
       refine ⟨fun _ => ⟨fun hn => (by rw [hp] at hn; cases hn), fun q' hq' => ?_⟩, fun hn => absurd hwant hn⟩
       rw [hp] at hq'; cases hq'
       simpa [upd] using hv
      ·have hkl : listed.getD k false = true := by simpa [e] using hkL
       refine stepOk_congr hH (fun i hi => ?_) (by simp [upd, e]) (hs k hk)
       have hil := hc k (by omega) hkl i hi
       have : i ≠ j := fun e' => by subst e'; rw [hil] at h0; cases h0
       simp [upd, this])
     have agree : ∀ i, i < ops.size → listed.getD i false = true → vs' i = vs i := by
      intro i _ hil
      have hne : i ≠ j := fun e' => by subst e'; rw [hil] at h0; cases h0
      rw [hv1 i (show (listed.getD i false || i == j) = true by rw [hil]; rfl)]
      simp [upd, hne]
     have hvj : vs' j = v := by rw [hv1 j (by simp)]; simp [upd]
     have e2 := add vs' agree
     rw [hvj] at e2
     refine ih _ _ _ vs' hsz' hin' hc' hv2 e2 (hI w w' hw hR) (fun i hi hl o' q' ho' hwi hq' => ?_) hn'
     rw [hget] at hl
     simp only [Bool.or_eq_true, beq_iff_eq] at hl
     by_cases e : i = j
     ·subst e
      rw [hp] at hq'; cases hq'
      rw [hvj]; exact hfact
     ·have hil := hl.resolve_right e
      rw [agree i hi hil]
      refine hS i q' hq' w w' _ hw hR (hf i hi hil o' q' ho' ?_ hq')
      refine (look_congr hH ho' fun k hk => ?_).2.1 hwi
      have hlt := hH.lt i k hi hk
      exact agree k (by omega) (hc i hi hil k hk)
   ·have hwant' : ¬ Region.wanted o (yielded ops a.tmps) = true := by rw [look.2]; exact hwant
    rw [if_neg hwant']
    have e2 := add vs (fun _ _ _ => rfl)
    rw [hs2 hwant] at e2
    refine ih _ _ _ vs hsz' hin' hc' hs e2 hw (fun i hi hl o' q' ho' hwi hq' => ?_) hn'
    rw [hget] at hl
    simp only [Bool.or_eq_true, beq_iff_eq] at hl
    rcases hl with hl | rfl
    ·exact hf i hi hl o' q' ho' hwi hq'
    ·obtain rfl : o = o' := Option.some.inj (ho.symm.trans ho')
     exact absurd hwi hwant
theorem wp_phi_R {id : Nat} {w : World} (lo tl : List Oper) (X : List PanicEntry → World → Prop) (hX : ∀ ch a w, a.defers = a₀.defers → X ch w → Q (.panic ch) a w) (R : World → World → Prop) (I : World → Prop) (ps : List (Nat × Part)) (ns : List (Nat × List Nat)) (hm : P.follows .mixedOrders = true)
  (hok : phiOk (lo ++ tl).toArray (needs ns) lo.length = true)
  (hI : ∀ w w', I w → R w w' → I w') (hS : ∀ p ∈ ps, ∀ w w' v, I w → R w w' → p.2.fact w v → p.2.fact w' v)
  (hw : I w.drew) (h : wpPhi P (lo ++ tl).toArray (wpList P (lo ++ tl).toArray Q tl) I R (planOf ps) (needs ns) X 0 lo a₀ []) : (Code.region id (lo ++ tl).toArray true).wp P Q a₀ w := by
 generalize hops : (lo ++ tl).toArray = ops at *
 have hlo : ∀ i, i < lo.length → ops[i]? = lo[i]? := by
  intro i hi; rw [← hops]; simp [List.getElem?_append_left hi]
 have hle : lo.length ≤ ops.size := by rw [← hops]; simp
 have hdrop : ops.toList.drop lo.length = tl := by rw [← hops]; simp
 obtain ⟨pr, hH⟩ := hangs_of_ok hok
 obtain ⟨vs, _, hvs⟩ := complete w.drew hw hlo hle hH h (fun _ => false) (fun _ => undef) (fun _ _ h => by cases h) (fun _ _ h => by cases h)
 have hrep : ∀ i : Nat, (Array.replicate ops.size false).getD i false = false := by
  intro i
  rw [Array.getD_eq_getD_getElem?, Array.getElem?_replicate]
  split <;> rfl
 refine wp_region_any hm (phi_run w.drew hw hlo hle hH h (fun j h1 h2 i hi => hH.tail j h1 h2 i (by omega)) ?_ hI (plan_stable (S := fun q => ∀ w w' v, I w → R w w' → q.fact w v → q.fact w' v) hS) hX ops.size _ a₀ w.drew vs (by simp) ?_ ?_ hvs ?_ hw ?_ ?_)
 ·intro a w' hE fuel listed hsz hget hf
  exact tail_run hH fuel lo.length listed a w' (nR _) hle hsz hget hf (by rw [hdrop]; exact hE)
 ·intro i hi; rw [hrep] at hi; cases hi
 ·intro k _ hk; rw [hrep] at hk; cases hk
 ·have gen : ∀ k, FF ops a₀ (fun i => (Array.replicate ops.size false).getD i false) vs k = a₀ := by
   intro k
   induction k with
   | zero => rfl
   | succ k ih =>
    simp only [FF]
    rw [if_neg (by rw [hrep]; decide), ih]
  exact (gen _).symm
 ·intro i _ hk; rw [hrep] at hk; cases hk
 ·exact Nat.le_trans (List.length_filter_le _ _) (by simp)
theorem wp_phi {id : Nat} {w : World} {lo : List Oper} (X : List PanicEntry → World → Prop) (hX : ∀ ch a w, a.defers = a₀.defers → X ch w → Q (.panic ch) a w) (I : World → Prop) (ps : List (Nat × Part)) (ns : List (Nat × List Nat)) (hm : P.follows .mixedOrders = true) (hok : phiOk lo.toArray (needs ns) lo.length = true)
  (hI : ∀ w w', I w → Below w.heap.size w w' → I w') (hS : ∀ p ∈ ps, ∀ w w' v, I w → Below w.heap.size w w' → p.2.fact w v → p.2.fact w' v)
  (hw : I w.drew) (h : Veil (wpPhi P lo.toArray (wpList P lo.toArray Q []) I (fun w w' => Below w.heap.size w w') (planOf ps) (needs ns) X 0 lo a₀ [])) : (Code.region id lo.toArray true).wp P Q a₀ w := by
 have := wp_phi_R (P := P) (Q := Q) (id := id) (w := w) (a₀ := a₀) lo [] X hX (fun w w' => Below w.heap.size w w') I ps ns hm (by rw [List.append_nil]; exact hok) hI hS hw (by rw [List.append_nil]; exact h.out)
 rwa [List.append_nil] at this
theorem wp_phi_tail {id : Nat} {w : World} (lo tl : List Oper) {l : List Oper} (hl : l = lo ++ tl) (X : List PanicEntry → World → Prop) (hX : ∀ ch a w, a.defers = a₀.defers → X ch w → Q (.panic ch) a w) (I : World → Prop) (ps : List (Nat × Part)) (ns : List (Nat × List Nat)) (hm : P.follows .mixedOrders = true) (hok : phiOk l.toArray (needs ns) lo.length = true)
  (hI : ∀ w w', I w → Below w.heap.size w w' → I w') (hS : ∀ p ∈ ps, ∀ w w' v, I w → Below w.heap.size w w' → p.2.fact w v → p.2.fact w' v)
  (hw : I w.drew) (h : Veil (wpPhi P l.toArray (wpList P l.toArray Q tl) I (fun w w' => Below w.heap.size w w') (planOf ps) (needs ns) X 0 lo a₀ [])) : (Code.region id l.toArray true).wp P Q a₀ w := by
 subst hl
 exact wp_phi_R lo tl X hX (fun w w' => Below w.heap.size w w') I ps ns hm hok hI hS hw h.out
end main
end Go.Proofs.YthboiahdheehkaaGreatDoor.PX
namespace Go.Proofs.YthboiahdheehkaaGreatDoor
open Go.RowKit Go.Extern.Stop Go.Stop Go.Extern
theorem tryStr_idle (d x r : Nat) (w : World) (hd : w.cell? ⟨d, 0, none⟩ = some (.bool true)) :
  CallsD pG 59 #[A (some ⟨d, 0, none⟩), A (some ⟨x, 0, none⟩), A (some ⟨r, 0, none⟩)] .returning w fun e u' w' => e = .returned (.tuple #[]) ∧ u' = .returning ∧ w' = w := by
 refine callsD_of_wpS Tryz.func59 rfl fun c₀ cs hu => ?_
 apply wpS_seq
 apply wpS_region
 simp [wpOpsS, go_sem, recoverD, hu, Tryz.ntmps59, Exit.thenS]
 refine wpS_of_wp ?_
 have e : (#[A (some ⟨d, 0, none⟩), A (some ⟨x, 0, none⟩), A (some ⟨r, 0, none⟩)] ++ ((Array.replicate 8 undef).setIfInBounds 2 Value.nilIface).setIfInBounds 0 Value.nilIface) =
   #[A (some ⟨d, 0, none⟩), A (some ⟨x, 0, none⟩), A (some ⟨r, 0, none⟩), .nilIface, undef, .nilIface, undef, undef, undef, undef, undef] := rfl
 rw [e]
 clear e
 go_wp2_with fail
 cases c₀
 simp_all [bodyPostS, results, Tryz.results59]
theorem tryStr_err (d x r : Nat) (w : World) (E : Nat → Addr) (u : Value) (n : Nat) (older : List PanicEntry) (hu0 : ∃ T x, u = .iface T x) (ht : Tells w u E n) (he : Errs w E) (hd : w.cell? ⟨d, 0, none⟩ = some (.bool false))
  (hx : Blk w x 9 #[V ⟨#[]⟩]) (hr : Blk w r 30 #[.nilIface]) (hxr : x ≠ r) :
  CallsD pG 59 #[A (some ⟨d, 0, none⟩), A (some ⟨x, 0, none⟩), A (some ⟨r, 0, none⟩)] (.panicking ({ v := u, recovered := false } :: older)) w fun e u' w' =>
   e = .returned (.tuple #[]) ∧ u' = .panicking ({ v := u, recovered := true } :: older) ∧ w'.cell? ⟨x, 0, none⟩ = some (V ⟨#[]⟩) ∧ w'.cell? ⟨r, 0, none⟩ = some (errAt (E n)) ∧ But [x, r] w w' := by
 have HT := ht w (Below.refl _ _) he
 unfold errAt at HT ⊢
 obtain ⟨T, x0, rfl⟩ := hu0
 clear ht
 refine callsD_of_wpS Tryz.func59 rfl fun c₀ cs hu => ?_
 apply wpS_seq
 apply wpS_region
 simp [wpOpsS, go_sem, recoverD, hu, Tryz.ntmps59, Exit.thenS]
 refine wpS_of_wp ?_
 have e : (#[A (some ⟨d, 0, none⟩), A (some ⟨x, 0, none⟩), A (some ⟨r, 0, none⟩)] ++ ((Array.replicate 8 undef).setIfInBounds 2 (Value.iface T x0)).setIfInBounds 0 (Value.iface T x0)) =
   #[A (some ⟨d, 0, none⟩), A (some ⟨x, 0, none⟩), A (some ⟨r, 0, none⟩), .iface T x0, undef, .iface T x0, undef, undef, undef, undef, undef] := rfl
 rw [e]
 have HX := Lib.hid hx
 have HR := Lib.hid hr
 clear e he hx hr
 go_wp2_with fail
 refine HT.mono ?_
 rintro e w1 ⟨rfl, hb1⟩
 have hx1 := HX.out.below hb1 HX.out.lt
 have hr1 := HR.out.below hb1 HR.out.lt
 have HX1 := Lib.hid hx1
 have HR1 := Lib.hid hr1
 have cx := (hx1.cell 0).trans rfl
 have fx := hx1.frozen 0
 have cr := (hr1.cell 0).trans rfl
 have fr := hr1.frozen 0
 have HB1 := Lib.hid hb1
 clear hx1 hr1 hb1 HT
 go_wp2_with fail
 have hA := (((HX1.out.set_ 0 (V ⟨#[]⟩)).cell 0).trans rfl : (w1.setCell ⟨x, 0, none⟩ (V ⟨#[]⟩)).cell? ⟨x, 0, none⟩ = some (V ⟨#[]⟩))
 have hA' : ((w1.setCell ⟨x, 0, none⟩ (V ⟨#[]⟩)).setCell ⟨r, 0, none⟩ (.iface 313 (A (some (E n))))).cell? ⟨x, 0, none⟩ = some (V ⟨#[]⟩) := by
  refine (World.cell?_of_block (Below.heap_setCell _ _ _ _ ?_)).trans hA
  exact hxr
 have hr2 : Blk (w1.setCell ⟨x, 0, none⟩ (V ⟨#[]⟩)) r 30 #[.nilIface] := (Below.heap_setCell _ _ _ _ (fun e => hxr e.symm)).trans HR1.out
 have hB := ((hr2.set_ 0 (.iface 313 (A (some (E n))))).cell 0).trans rfl
 have hC : But [x, r] w ((w1.setCell ⟨x, 0, none⟩ (V ⟨#[]⟩)).setCell ⟨r, 0, none⟩ (.iface 313 (A (some (E n))))) :=
  ((But.of_below HB1.out).set_ x 0 _ (by simp)).set_ r 0 _ (by simp)
 cases c₀
 simp only [bodyPostS, results, Tryz.results59]
 exact ⟨trivial, _, rfl, .tuple #[], by simp, rfl, rfl, hA', hB, hC⟩
theorem tryStr_any (w : World) (E : Nat → Addr) (f : FuncId) (caps : Array Value) (S : List Nat) (R : World → Value → World → Prop) (Q : Nat → World → World → Prop) (hSl : ∀ s ∈ S, s < w.heap.size) (he : ∀ w', But S w w' → Errs w' E) (hRs : ∀ w1 v w2, R w1 v w2 → ∃ z : ByteArray, v = .string z) (hcf : ∀ w, (callFunc f caps).run pG w = .ok (.enter f caps) w)
  (hdo : ∀ w1, Below w.heap.size w w1 → w1.heap.size = w.heap.size + 3 → Calls pG f caps w1 fun e w2 => MayG (R w1) (fun n w2 => Q n w1 w2) E e w2 ∧ But S w1 w2) :
  Calls pG 27 #[.func (.func f) #[] caps] w (TryG S R Q E (V ⟨#[]⟩) w) := by
 have hmf := @run_makeFunc pG
 have HE := Lib.hid he
 have HD := Lib.hid hdo
 have HRS := Lib.hid hRs
 have hno : ∀ k, w.heap.size ≤ k → S.contains k = false := fun k hk => by
  rw [Bool.eq_false_iff]
  intro hc
  have := hSl k (List.contains_iff_mem.1 hc)
  omega
 have HNO := Lib.hid hno
 clear he hdo hRs hSl hno
 go_enter_defers Tryz.func27, Tryz.ntmps27
 go_wp2_with fail
 have hb1 : Below w.heap.size w (((w.alloc (B #[V ⟨#[]⟩] 9)).alloc (B #[.nilIface] 30)).alloc (B #[.bool false] 4)) := below_alloc (below_alloc (below_alloc1 w _) _) _
 refine (HD.out _ hb1 (by simp)).mono ?_
 rintro e w2 ⟨hm, hb2⟩
 have x1 := hb2.blk (((Blk.new w 9 #[V ⟨#[]⟩]).alloc (B #[.nilIface] 30)).alloc (B #[.bool false] 4)) (HNO.out _ (nR _))
 have r1 := hb2.blk ((Blk.new (w.alloc (B #[V ⟨#[]⟩] 9)) 30 #[.nilIface]).alloc (B #[.bool false] 4)) (HNO.out _ (by simp))
 have d1 := hb2.blk (Blk.new ((w.alloc (B #[V ⟨#[]⟩] 9)).alloc (B #[.nilIface] 30)) 4 #[.bool false]) (HNO.out _ (by simp; omega))
 have hs1 : (((w.alloc (B #[V ⟨#[]⟩] 9)).alloc (B #[.nilIface] 30)).alloc (B #[.bool false] 4)).heap.size = w.heap.size + 3 := by simp
 simp only [World.size_alloc] at r1 d1
 have X1 := Lib.hid x1
 have R1 := Lib.hid r1
 have D1 := Lib.hid d1
 have B1 := Lib.hid hb1
 have B2 := Lib.hid hb2
 have S1 := Lib.hid hs1
 rcases hm with ⟨v, rfl, hR⟩ | ⟨u, n, hn, hS, ⟨T, x0, rfl⟩, htells, rfl⟩
 ·obtain ⟨z, rfl⟩ := HRS.out _ _ _ hR
  have HR := Lib.hid hR
  have cx := (x1.cell 0).trans rfl
  have fx := x1.frozen 0
  have cr := (r1.cell 0).trans rfl
  have fr := r1.frozen 0
  have cd := (d1.cell 0).trans rfl
  have fd := d1.frozen 0
  clear x1 r1 d1 hb1 hb2 hs1 hR
  generalize (((w.alloc (B #[V ⟨#[]⟩] 9)).alloc (B #[.nilIface] 30)).alloc (B #[.bool false] 4)) = w1 at *
  go_wp2_with fail
  clear cx fx cr fr cd fd
  have a1 : Blk (w2.setCell ⟨w.heap.size, 0, none⟩ (.string z)) w.heap.size 9 #[.string z] := X1.out.set_ 0 _
  have b1 := (R1.out.far (b := w.heap.size) (by omega) 0 (.string z))
  have e1 : Blk ((w2.setCell ⟨w.heap.size, 0, none⟩ (.string z)).setCell ⟨w.heap.size + 1 + 1, 0, none⟩ (.bool true)) (w.heap.size + 1 + 1) 4 #[.bool true] := (D1.out.far (b := w.heap.size) (by omega) 0 (.string z)).set_ 0 (.bool true)
  have a2 := a1.far (b := w.heap.size + 1 + 1) (by omega) 0 (.bool true)
  have b2 := b1.far (b := w.heap.size + 1 + 1) (by omega) 0 (.bool true)
  have a3 : Blk (((w2.setCell ⟨w.heap.size, 0, none⟩ (.string z)).setCell ⟨w.heap.size + 1 + 1, 0, none⟩ (.bool true)).setCell ⟨w.heap.size, 0, none⟩ (.string z)) w.heap.size 9 #[.string z] := a2.set_ 0 _
  have b3 := b2.far (b := w.heap.size) (by omega) 0 (.string z)
  have e3 := e1.far (b := w.heap.size) (by omega) 0 (.string z)
  have a4 := a3.far (b := w.heap.size + 1) (by omega) 0 .nilIface
  have b4 : Blk ((((w2.setCell ⟨w.heap.size, 0, none⟩ (.string z)).setCell ⟨w.heap.size + 1 + 1, 0, none⟩ (.bool true)).setCell ⟨w.heap.size, 0, none⟩ (.string z)).setCell ⟨w.heap.size + 1, 0, none⟩ .nilIface) (w.heap.size + 1) 30 #[.nilIface] := b3.set_ 0 _
  have e4 := e3.far (b := w.heap.size + 1) (by omega) 0 .nilIface
  have hBut : But [w.heap.size, w.heap.size + 1, w.heap.size + 2] w2 ((((w2.setCell ⟨w.heap.size, 0, none⟩ (.string z)).setCell ⟨w.heap.size + 1 + 1, 0, none⟩ (.bool true)).setCell ⟨w.heap.size, 0, none⟩ (.string z)).setCell ⟨w.heap.size + 1, 0, none⟩ .nilIface) :=
   ((((But.of_below (Below.refl _ _)).set_ _ 0 _ (by simp)).set_ _ 0 _ (by simp)).set_ _ 0 _ (by simp)).set_ _ 0 _ (by simp)
  clear a1 a2 a3 b1 b2 b3 e1 e3
  generalize ((((w2.setCell ⟨w.heap.size, 0, none⟩ (.string z)).setCell ⟨w.heap.size + 1 + 1, 0, none⟩ (.bool true)).setCell ⟨w.heap.size, 0, none⟩ (.string z)).setCell ⟨w.heap.size + 1, 0, none⟩ .nilIface) = w3 at *
  refine leaves_cons (f := 59) (args := #[A (some ⟨w.heap.size + 1 + 1, 0, none⟩), A (some ⟨w.heap.size, 0, none⟩), A (some ⟨w.heap.size + 1, 0, none⟩)]) (by simp) (by simp [go_sem]) ?_
  refine (tryStr_idle _ _ _ w3 ((e4.cell 0).trans rfl)).mono ?_
  rintro e u' w4 ⟨rfl, rfl, rfl⟩
  have ca := (a4.cell 0).trans rfl; have cb := (b4.cell 0).trans rfl
  have hfin : TryG S R Q E (V ⟨#[]⟩) w (.returned (.tuple #[.string z, .nilIface])) w4 := by
   exact ⟨But.out ((But.of_below B1.out).trans B2.out) hBut (nR _), w1, w2, S1.out, B1.out, B2.out, hBut, .inl ⟨_, rfl, HR.out⟩⟩
  have HF := Lib.hid hfin
  clear hfin
  simp [Leaves, settle, results, Tryz.results27, go_sem, ca, cb]
  exact HF.out
 ·have cd := (d1.cell 0).trans rfl
  clear x1 r1 d1 hb1 hb2 hs1
  generalize (((w.alloc (B #[V ⟨#[]⟩] 9)).alloc (B #[.nilIface] 30)).alloc (B #[.bool false] 4)) = w1 at *
  go_wp2_with fail
  have hb := (But.of_below B1.out).trans B2.out
  refine leaves_cons (f := 59) (args := #[A (some ⟨w.heap.size + 1 + 1, 0, none⟩), A (some ⟨w.heap.size, 0, none⟩), A (some ⟨w.heap.size + 1, 0, none⟩)]) (by simp) (by simp [go_sem]) ?_
  refine (tryStr_err _ _ _ w2 E (.iface T x0) n [] ⟨T, x0, rfl⟩ htells (HE.out w2 hb) cd X1.out R1.out (by omega)).mono ?_
  rintro e u' w4 ⟨rfl, rfl, ca, cb, hBut⟩
  have hfin : TryG S R Q E (V ⟨#[]⟩) w (.returned (.tuple #[V ⟨#[]⟩, errAt (E n)])) w4 := by
   exact ⟨But.out hb (But.wide hBut) (nR _), w1, w2, S1.out, B1.out, B2.out, But.wide hBut, .inr ⟨n, hn, hS, rfl⟩⟩
  have HF := Lib.hid hfin
  clear hfin
  unfold errAt at cb HF
  simp [Leaves, settle, results, Tryz.results27, go_sem, ca, cb]
  exact HF.out
end Go.Proofs.YthboiahdheehkaaGreatDoor
namespace Go.Proofs.YthboiahdheehkaaGreatDoor
open Go.RowKit
end Go.Proofs.YthboiahdheehkaaGreatDoor
namespace Go.Proofs.YthboiahdheehkaaGreatDoor
open Go.RowKit Go.Extern.Stop Go.Stop Go.Extern
structure IdsG (w : World) (E : Nat → Addr) : Prop where
 errs : Errs w E
 tab : Lib.TabIs pG w "internal/strconv.uint64pow10" .u64 Lib.pow10Tab
theorem below_grow (w : World) (os : Array Obj) : Below w.heap.size w (Sort.grow w os) :=
 ⟨rfl, rfl, rfl, by simp [Sort.grow], fun k hk => by simp [Sort.grow, Array.getElem?_append_left hk]⟩
end Go.Proofs.YthboiahdheehkaaGreatDoor
