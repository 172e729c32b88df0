/- TrK1 -/
import Derived.Test.YthboiahdheehkaaGreatDoorPA
import Derived.Test.YthboiahdheehkaaGreatDoorBA
import Derived.Maps.AppendAt
open Array renaming getElem?_eq_some_iff → aA
open Nat renaming le_refl → nR, le_trans → nT
open Go.Value renaming string → S
open Go.Value renaming slice → C
namespace Go.Proofs.YthboiahdheehkaaGreatDoor
section
open Go.RowKit Go.Extern.Stop Go.Stop Go.Extern
theorem at_1 {w : World} {p : Option Addr} {ats : List (List (List UInt8))} (h : Rd w p (acells ats)) (hk : ∀ a ∈ ats, a.length = 1 + 1) {i : Nat} (hi : i < ats.length) :
  ∃ b off x0 x1, p = some ⟨b, off, none⟩ ∧ ats[i] = [x0, x1] ∧ w.cell? ⟨b, off + i * 2, none⟩ = some (S (bs x0)) ∧ w.cell? ⟨b, off + i * 2 + 1, none⟩ = some (S (bs x1)) := by
 obtain ⟨b, off, hp, hc⟩ := at_cell h hk hi
 obtain ⟨x0, x1, he⟩ := two_of (hk _ (List.getElem_mem hi))
 simp only [he] at hc
 refine ⟨b, off, x0, x1, hp, he, hc 0 (by omega), hc 1 (by omega)⟩
theorem kid_1 {w : World} {p : Option Addr} {ks : List Tr} {css : List (List Value)} {P : Nat → Prop} (h : Rd w p css.flatten) (hL : TrL w P ks css) (hk : Tr.okL 1 ks) {i : Nat} (hi : i < ks.length) :
  ∃ b off m0 at' kk t' pa ca pk ck, p = some ⟨b, off, none⟩ ∧ ks[i] = .node [m0] at' kk t' ∧ TrC w P ks[i] [S (bs m0), C pa at'.length ca, C pk kk.length ck, S (bs t')] ∧ w.cell? ⟨b, off + i * 4, none⟩ = some (S (bs m0)) ∧ w.cell? ⟨b, off + i * 4 + 1, none⟩ = some (C pa at'.length ca) ∧ w.cell? ⟨b, off + i * 4 + 2, none⟩ = some (C pk kk.length ck) ∧ w.cell? ⟨b, off + i * 4 + 3, none⟩ = some (S (bs t')) := by
 obtain ⟨b, off, c, hp, hT, hcl, hcc⟩ := kid_cell h hL hk hi
 have ho := okL_get 1 ks hk i hi
 have hT' := hT
 generalize hx : ks[i] = x at hT hT' ho ⊢
 obtain ⟨nm, at', kk, t'⟩ := x
 unfold TrC at hT'
 unfold Tr.ok at ho
 obtain ⟨m0, rfl⟩ := one_of ho.1
 obtain ⟨pa, ca, pk, ck, css', rfl, _⟩ := hT'
 exact ⟨b, off, m0, at', kk, t', pa, ca, pk, ck, hp, rfl, hT, hcc 0 (by rw [hcl]; omega), hcc 1 (by rw [hcl]; omega), hcc 2 (by rw [hcl]; omega), hcc 3 (by rw [hcl]; omega)⟩
end
section
open Go.RowKit Go.Extern.Stop Go.Stop Go.Extern
theorem at_2 {w : World} {p : Option Addr} {ats : List (List (List UInt8))} (h : Rd w p (acells ats)) (hk : ∀ a ∈ ats, a.length = 2 + 1) {i : Nat} (hi : i < ats.length) :
  ∃ b off x0 x1 x2, p = some ⟨b, off, none⟩ ∧ ats[i] = [x0, x1, x2] ∧ w.cell? ⟨b, off + i * 3, none⟩ = some (S (bs x0)) ∧ w.cell? ⟨b, off + i * 3 + 1, none⟩ = some (S (bs x1)) ∧ w.cell? ⟨b, off + i * 3 + 2, none⟩ = some (S (bs x2)) := by
 obtain ⟨b, off, hp, hc⟩ := at_cell h hk hi
 obtain ⟨x0, x1, x2, he⟩ := three_of (hk _ (List.getElem_mem hi))
 simp only [he] at hc
 refine ⟨b, off, x0, x1, x2, hp, he, hc 0 (by omega), hc 1 (by omega), hc 2 (by omega)⟩
theorem kid_2 {w : World} {p : Option Addr} {ks : List Tr} {css : List (List Value)} {P : Nat → Prop} (h : Rd w p css.flatten) (hL : TrL w P ks css) (hk : Tr.okL 2 ks) {i : Nat} (hi : i < ks.length) :
  ∃ b off m0 m1 at' kk t' pa ca pk ck, p = some ⟨b, off, none⟩ ∧ ks[i] = .node [m0, m1] at' kk t' ∧ TrC w P ks[i] [S (bs m0), S (bs m1), C pa at'.length ca, C pk kk.length ck, S (bs t')] ∧ w.cell? ⟨b, off + i * 5, none⟩ = some (S (bs m0)) ∧ w.cell? ⟨b, off + i * 5 + 1, none⟩ = some (S (bs m1)) ∧ w.cell? ⟨b, off + i * 5 + 2, none⟩ = some (C pa at'.length ca) ∧ w.cell? ⟨b, off + i * 5 + 3, none⟩ = some (C pk kk.length ck) ∧ w.cell? ⟨b, off + i * 5 + 4, none⟩ = some (S (bs t')) := by
 obtain ⟨b, off, c, hp, hT, hcl, hcc⟩ := kid_cell h hL hk hi
 have ho := okL_get 2 ks hk i hi
 have hT' := hT
 generalize hx : ks[i] = x at hT hT' ho ⊢
 obtain ⟨nm, at', kk, t'⟩ := x
 unfold TrC at hT'
 unfold Tr.ok at ho
 obtain ⟨m0, m1, rfl⟩ := two_of ho.1
 obtain ⟨pa, ca, pk, ck, css', rfl, _⟩ := hT'
 exact ⟨b, off, m0, m1, at', kk, t', pa, ca, pk, ck, hp, rfl, hT, hcc 0 (by rw [hcl]; omega), hcc 1 (by rw [hcl]; omega), hcc 2 (by rw [hcl]; omega), hcc 3 (by rw [hcl]; omega), hcc 4 (by rw [hcl]; omega)⟩
end
section
open Go.RowKit
section
variable (P : Program) (ops : Array Oper) (E : Act → World → Prop) (I : World → Prop) (R : Nat → World → World → Prop) (pl : Nat → Option Part) (nd : Nat → List Nat) (us : List (Nat × (World → Prop))) (kl : Nat → Option Nat)
def wpPhiU : Nat → List Oper → Act → List (Nat × (World → Prop)) → Prop
 | _, [], a, kn => ∀ w, I w → (∀ p ∈ kn, kl p.1 = none → p.2 w) → E a w
 | j, o :: l, a, kn =>
  if Region.wanted o (yielded ops a.tmps) = true then
   match pl j with
   | none => ∃ v, (∀ w, I w → (execOp a.eval o).run P w = .ok (.value v) w) ∧ wpPhiU (j + 1) l (a.put o.dst v) kn
   | some q => (∃ v, q.val v) ∧ (∀ w, I w → (∀ p ∈ kn, p.1 ∈ nd j → (kl p.1).getD j = j → p.2 w) → (∀ u ∈ us, u.1 = j → u.2 w) → gives P o a.eval w (fun v w' => q.val v ∧ q.fact w' v ∧ R j w w')) ∧
     ∀ v, q.val v → wpPhiU (j + 1) l (a.put o.dst v) (kn ++ [(j, fun w => q.fact w v)])
  else wpPhiU (j + 1) l (a.put o.dst undef) kn
end
section rules
variable {P : Program} {ops : Array Oper} {E : Act → World → Prop} {I : World → Prop} {R : Nat → World → World → Prop} {pl : Nat → Option Part} {nd : Nat → List Nat} {us : List (Nat × (World → Prop))} {kl : Nat → Option Nat}
variable {j : Nat} {o : Oper} {l : List Oper} {a : Act} {kn : List (Nat × (World → Prop))}
theorem phiU_pure {v : Value} (hw : Region.wanted o (yielded ops a.tmps) = true) (hp : pl j = none) (hv : ∀ w, I w → (execOp a.eval o).run P w = .ok (.value v) w)
  (h : wpPhiU P ops E I R pl nd us kl (j + 1) l (a.put o.dst v) kn) : wpPhiU P ops E I R pl nd us kl j (o :: l) a kn := by
 unfold wpPhiU; rw [if_pos hw, hp]; exact ⟨v, hv, h⟩
theorem phiU_pureK (hw : Region.wanted o (yielded ops a.tmps) = true) (hp : pl j = none)
  (h : ∀ K : Act → Prop, (∀ a', wpPhiU P ops E I R pl nd us kl (j + 1) l a' kn → K a') → ∃ v, (∀ w, I w → (execOp a.eval o).run P w = .ok (.value v) w) ∧ K (a.put o.dst v)) :
  wpPhiU P ops E I R pl nd us kl j (o :: l) a kn := by
 obtain ⟨v, h1, h2⟩ := h _ (fun _ h => h)
 exact phiU_pure hw hp h1 h2
theorem phiU_skipK (hw : Region.wanted o (yielded ops a.tmps) = false)
  (h : ∀ K : Act → Prop, (∀ a', wpPhiU P ops E I R pl nd us kl (j + 1) l a' kn → K a') → K (a.put o.dst undef)) : wpPhiU P ops E I R pl nd us kl j (o :: l) a kn := by
 unfold wpPhiU; rw [if_neg (by rw [hw]; decide)]; exact h _ (fun _ h => h)
theorem phiU_partK (q : Part) (hw : Region.wanted o (yielded ops a.tmps) = true) (hp : pl j = some q) (hv : ∃ v, q.val v)
  (hg : ∀ w, I w → (∀ p ∈ kn, p.1 ∈ nd j → (kl p.1).getD j = j → p.2 w) → (∀ u ∈ us, u.1 = j → u.2 w) → gives P o a.eval w (fun v w' => q.val v ∧ q.fact w' v ∧ R j w w'))
  (h : ∀ K : Act → List (Nat × (World → Prop)) → Prop, (∀ a' kn', wpPhiU P ops E I R pl nd us kl (j + 1) l a' kn' → K a' kn') → ∀ v, q.val v → K (a.put o.dst v) (kn ++ [(j, fun w => q.fact w v)])) :
  wpPhiU P ops E I R pl nd us kl j (o :: l) a kn := by
 unfold wpPhiU; rw [if_pos hw, hp]; exact ⟨hv, hg, h _ (fun _ _ h => h)⟩
theorem phiU_done (h : ∀ w, I w → (∀ p ∈ kn, kl p.1 = none → p.2 w) → E a w) : wpPhiU P ops E I R pl nd us kl j [] a kn := h
end rules
section main
variable {P : Program} {ops : Array Oper} {Q : Exit → Act → World → Prop} {E : Act → World → Prop} {lo : List Oper} {I : World → Prop} {R : Nat → World → World → Prop} {pl : Nat → Option Part} {nd : Nat → List Nat} {a₀ : Act} {pr : Nat → Nat → Bool} {us : List (Nat × (World → Prop))} {kl : Nat → Option Nat}
theorem plan_mem {ps : List (Nat × Part)} {j : Nat} {q : Part} (h : planOf ps j = some q) : (j, q) ∈ ps := by
 induction ps with
 | nil => cases h
 | cons p ps ih =>
  obtain ⟨k, x⟩ := p
  unfold planOf at h ih
  rw [List.lookup_cons] at h
  split at h
  ·rename_i he
   cases h
   have : j = k := by simpa using he
   subst this
   exact List.mem_cons_self
  ·exact List.mem_cons_of_mem _ (ih h)
theorem phi_atU (w₀ : World) (hw₀ : I w₀) (hlo : ∀ i, i < lo.length → ops[i]? = lo[i]?) (h : wpPhiU P ops E I R pl nd us kl 0 lo a₀ []) (vs : Nat → Value) : ∀ k, k ≤ lo.length → (∀ i, i < k → StepOk P ops I pl a₀ vs i) →
  wpPhiU P ops E I R pl nd us kl k (lo.drop k) (GG ops a₀ vs k) (knOf ops pl a₀ vs k)
 | 0, _, _ => by simpa [GG, FF, knOf] using h
 | k + 1, hk, hs => by
  have ih := phi_atU w₀ hw₀ hlo h vs k (by omega) (fun i hi => hs i (by omega))
  obtain ⟨o, hol⟩ : ∃ o, lo[k]? = some o := ⟨lo[k], by simp⟩
  have ho : ops[k]? = some o := (hlo k (by omega)).trans hol
  rw [drop_cons lo k o hol] at ih
  have hg : GG ops a₀ vs (k + 1) = (GG ops a₀ vs k).put o.dst (vs k) := by
   simp only [GG, FF, if_true]
   congr 1
   simp [dstOf, ho]
  obtain ⟨h1, h2⟩ := hs k (by omega) o ho
  rw [hg]
  unfold wpPhiU at ih
  unfold knOf
  by_cases hw : wantAt ops a₀ vs k o
  ·have hw' := hw
   unfold wantAt at hw'
   rw [if_pos hw'] at ih
   obtain ⟨h3, h4⟩ := h1 hw
   cases hp : pl k with
   | none =>
    rw [hp] at ih
    obtain ⟨v, hv, ih⟩ := ih
    have e := (hv w₀ hw₀).symm.trans (h3 hp w₀ hw₀)
    simp only [Result.ok.injEq, Next.value.injEq, and_true] at e
    subst e
    simpa [ho] using ih
   | some q =>
    rw [hp] at ih
    have := ih.2.2 (vs k) (h4 q hp)
    simpa [ho, hw] using this
  ·have hw' := hw
   unfold wantAt at hw'
   rw [if_neg hw'] at ih
   rw [h2 hw]
   cases hp : pl k with
   | none => simpa [ho] using ih
   | some q => simpa [ho, hw] using ih
theorem step_extU (w₀ : World) (hw₀ : I w₀) (hlo : ∀ i, i < lo.length → ops[i]? = lo[i]?) (h : wpPhiU P ops E I R pl nd us kl 0 lo a₀ []) (vs : Nat → Value) (k : Nat) (hk : k < lo.length) (hs : ∀ i, i < k → StepOk P ops I pl a₀ vs i) :
  ∃ v, StepOk P ops I pl a₀ (upd vs k v) k := by
 have ih := phi_atU w₀ hw₀ hlo h vs k (by omega) hs
 obtain ⟨o, hol⟩ : ∃ o, lo[k]? = some o := ⟨lo[k], by simp [hk]⟩
 have ho : ops[k]? = some o := (hlo k hk).trans hol
 rw [drop_cons lo k o hol] at ih
 unfold wpPhiU at ih
 have hu : ∀ v, upd vs k v k = v := fun v => by simp [upd]
 by_cases hw : Region.wanted o (yielded ops (GG ops a₀ vs k).tmps) = true
 ·rw [if_pos hw] at ih
  cases hp : pl k with
  | none =>
   rw [hp] at ih
   obtain ⟨v, hv, _⟩ := ih
   refine ⟨v, fun o' ho' => ?_⟩
   obtain rfl : o = o' := Option.some.inj (ho.symm.trans ho')
   unfold wantAt
   rw [GG_upd, hu]
   exact ⟨fun _ => ⟨fun _ => hv, fun q hq => (by rw [hp] at hq; cases hq)⟩, fun hn => absurd hw hn⟩
  | some q =>
   rw [hp] at ih
   obtain ⟨⟨v, hv⟩, _⟩ := ih
   refine ⟨v, fun o' ho' => ?_⟩
   obtain rfl : o = o' := Option.some.inj (ho.symm.trans ho')
   unfold wantAt
   rw [GG_upd, hu]
   exact ⟨fun _ => ⟨fun hn => (by rw [hp] at hn; cases hn), fun q' hq => (by rw [hp] at hq; cases hq; exact hv)⟩, fun hn => absurd hw hn⟩
 ·refine ⟨undef, fun o' ho' => ?_⟩
  obtain rfl : o = o' := Option.some.inj (ho.symm.trans ho')
  unfold wantAt
  rw [GG_upd, hu]
  exact ⟨fun hn => absurd hn hw, fun _ => rfl⟩
theorem completeU (w₀ : World) (hw₀ : I w₀) (hlo : ∀ i, i < lo.length → ops[i]? = lo[i]?) (hle : lo.length ≤ ops.size) {lo2 : List Oper} (hH : Hangs ops nd lo2.length pr) (h : wpPhiU P ops E I R pl nd us kl 0 lo a₀ []) (L : Nat → Bool) (vs : Nat → Value)
  (hc : ∀ j, j < lo.length → L j = true → ∀ i, pr j i = true → L i = true) (hL : ∀ j, j < lo.length → L j = true → StepOk P ops I pl a₀ vs j) :
  ∃ vs', (∀ j, L j = true → vs' j = vs j) ∧ ∀ j, j < lo.length → StepOk P ops I pl a₀ vs' j := by
 have key : ∀ k, k ≤ lo.length → ∃ vs', (∀ j, L j = true → vs' j = vs j) ∧ ∀ j, j < lo.length → (j < k ∨ L j = true) → StepOk P ops I pl a₀ vs' j := by
  intro k
  induction k with
  | zero => intro _; exact ⟨vs, fun _ _ => rfl, fun j hj hh => hL j hj (hh.resolve_left (by omega))⟩
  | succ k ih =>
   intro hk
   obtain ⟨vs', h1, h2⟩ := ih (by omega)
   by_cases hLk : L k = true
   ·refine ⟨vs', h1, fun j hj hh => ?_⟩
    rcases hh with hh | hh
    ·by_cases e : j = k
     ·subst e; exact h2 j hj (.inr hLk)
     ·exact h2 j hj (.inl (by omega))
    ·exact h2 j hj (.inr hh)
   ·obtain ⟨v, hv⟩ := step_extU w₀ hw₀ hlo h vs' k (by omega) (fun i hi => h2 i (by omega) (.inl hi))
    have ne : ∀ i, i ≠ k → vs' i = upd vs' k v i := fun i hi => by simp [upd, hi]
    refine ⟨upd vs' k v, fun j hj => ?_, fun j hj hh => ?_⟩
    ·have : j ≠ k := fun e => hLk (e ▸ hj)
     rw [← ne j this]; exact h1 j hj
    ·by_cases e : j = k
     ·subst e; exact hv
     ·have hs : StepOk P ops I pl a₀ vs' j := by
       rcases hh with hh | hh
       ·exact h2 j hj (.inl (by omega))
       ·exact h2 j hj (.inr hh)
      refine stepOk_congr hH (fun i hi => ne i ?_) (ne j e) hs
      intro ei
      subst ei
      rcases hh with hh | hh
      ·have := hH.lt j i (by omega) hi; omega
      ·exact hLk (hc j hj hh i hi)
 obtain ⟨vs', h1, h2⟩ := key lo.length (nR _)
 exact ⟨vs', h1, fun j hj => h2 j hj (.inl hj)⟩
theorem phi_runU (w₀ : World) (hw₀ : I w₀) (hlo : ∀ i, i < lo.length → ops[i]? = lo[i]?) (hle : lo.length ≤ ops.size) {lo2 : List Oper} (hH : Hangs ops nd lo2.length pr) (h : wpPhiU P ops E I R pl nd us kl 0 lo a₀ [])
  (htl : ∀ j, lo.length ≤ j → j < ops.size → ∀ i, i < lo.length → pr j i = true)
  (hE : ∀ a w, E a w → ∀ (fuel : Nat) (listed : Array Bool), listed.size = ops.size → (∀ i, listed.getD i false = decide (i < lo.length)) → ops.size - lo.length ≤ fuel → wpAny P .any ops Q fuel listed a w)
  (hI : ∀ j q, pl j = some q → ∀ w w', I w → R j w w' → I w') (hS : ∀ j q, pl j = some q → ∀ k q', pl k = some q' → k ≠ j → kl j ≠ some k → k ∉ nd j → (∀ kk, kl j = some kk → kk ∉ nd k) → ∀ w w' v, I w → R k w w' → q.fact w v → q.fact w' v)
  (hU : ∀ j q, pl j = some q → ∀ u ∈ us, u.1 ≠ j → ∀ w w', I w → R j w w' → u.2 w → u.2 w') :
  ∀ (fuel : Nat) (listed : Array Bool) (a : Act) (w : World) (vs : Nat → Value), listed.size = ops.size → (∀ i, listed.getD i false = true → i < lo.length) →
   (∀ k, k < ops.size → listed.getD k false = true → ∀ i, pr k i = true → listed.getD i false = true) →
   (∀ j, j < lo.length → StepOk P ops I pl a₀ vs j) → a = FF ops a₀ (fun i => listed.getD i false) vs ops.size → I w →
   (∀ i, i < ops.size → listed.getD i false = true → ∀ o q, ops[i]? = some o → wantAt ops a₀ vs i o → pl i = some q → (∀ k, kl i = some k → listed.getD k false = false) → q.fact w (vs i)) → (∀ u ∈ us, listed.getD u.1 false = false → u.2 w) →
   ((List.range ops.size).filter fun i => !listed.getD i false).length ≤ fuel → wpAny P .any ops Q fuel listed a w := by
 have hedge : ∀ j o, ops[j]? = some o → ∀ (listed : Array Bool), (∀ k, k < ops.size → listed.getD k false = true → ∀ i, pr k i = true → listed.getD i false = true) →
   (∀ e ∈ o.after, Region.binds .any e = true → listed.getD e.on false = true) → ∀ i, pr j i = true → listed.getD i false = true := by
  intro j o ho listed hc he i hi
  have hjn := (aA.1 ho).1
  obtain ⟨e, hm, hb, hor⟩ := hH.edge j o ho i hi
  rcases hor with rfl | hor
  ·exact he e hm hb
  ·have hlt := hH.lt j e.on hjn (hH.edge' j o ho e hm hb)
   exact hc e.on (by omega) (he e hm hb) i hor
 have atEnd : ∀ (fuel : Nat) (listed : Array Bool) (w : World) (vs : Nat → Value), listed.size = ops.size → (∀ i, listed.getD i false = true → i < lo.length) → (∀ j, j < lo.length → StepOk P ops I pl a₀ vs j) → I w →
   (∀ i, i < ops.size → listed.getD i false = true → ∀ o q, ops[i]? = some o → wantAt ops a₀ vs i o → pl i = some q → (∀ k, kl i = some k → listed.getD k false = false) → q.fact w (vs i)) →
   ((List.range ops.size).filter fun i => !listed.getD i false).length ≤ fuel →
   (∀ i, i < lo.length → listed.getD i false = true) → wpAny P .any ops Q fuel listed (FF ops a₀ (fun i => listed.getD i false) vs ops.size) w := by
  intro fuel listed w vs hsz hin hs hw hf hn hall
  have hget : ∀ i, listed.getD i false = decide (i < lo.length) := by
   intro i
   by_cases hi : i < lo.length
   ·rw [hall i hi]; simp [hi]
   ·cases hl : listed.getD i false with
    | false => simp [hi]
    | true => exact absurd (hin i hl) hi
  have e : FF ops a₀ (fun i => listed.getD i false) vs ops.size = GG ops a₀ vs lo.length := by
   rw [show (fun i => listed.getD i false) = fun i => decide (i < lo.length) from funext hget, FF_below vs lo.length ops.size hle]; rfl
  rw [e]
  have := phi_atU w₀ hw₀ hlo h vs lo.length (nR _) hs
  rw [List.drop_of_length_le (nR _)] at this
  unfold wpPhiU at this
  refine hE _ _ (this w hw fun p hp hkl => ?_) fuel listed hsz hget ?_
  ·obtain ⟨i, o, q, hi, ho, hq, hwant, rfl⟩ := mem_knOf hp
   exact hf i (by omega) (hall i hi) o q ho hwant hq (fun k hk => by rw [show kl i = none from hkl] at hk; cases hk)
  ·have e2 : ((List.range ops.size).filter fun i => !listed.getD i false).length = ops.size - lo.length := by
    rw [show (fun i => !listed.getD i false) = fun i => !decide (i < lo.length) from funext fun i => by rw [hget]]
    have gen : ∀ n, ((List.range n).filter fun i => !decide (i < lo.length)).length = n - lo.length := by
     intro n
     induction n with
     | zero => simp
     | succ n ih =>
      rw [List.range_succ, List.filter_append, List.length_append, ih]
      by_cases hn : n < lo.length
      ·simp [hn]; omega
      ·simp [hn]; omega
    exact gen _
   omega
 intro fuel
 induction fuel with
 | zero =>
  intro listed a w vs hsz hin hc hs ha hw hf huu hn
  have hall : ∀ i, i < ops.size → listed.getD i false = true := by
   intro i hi
   have hnil := List.eq_nil_of_length_eq_zero (Nat.le_zero.1 hn)
   rw [List.filter_eq_nil_iff] at hnil
   have := hnil i (List.mem_range.2 hi)
   simpa using this
  rw [ha]
  exact atEnd 0 listed w vs hsz hin hs hw hf hn (fun i hi => hall i (by omega))
 | succ fuel ih =>
  intro listed a w vs hsz hin hc hs ha hw hf huu hn
  have getD_of : ∀ j, j < ops.size → listed.getD j true = listed.getD j false := by
   intro j hj
   have hjs : j < listed.size := by rw [hsz]; exact hj
   simp [hjs]
  by_cases hend : ∀ i, i < lo.length → listed.getD i false = true
  ·rw [ha]
   exact atEnd (fuel + 1) listed w vs hsz hin hs hw hf hn hend
  refine ⟨fun hnil => ?_, fun j hj => ?_⟩
  ·exfalso
   apply hend
   -- the least one that is not listed would be ready
   have key : ∀ i, i < ops.size → listed.getD i false = true := by
    intro i
    induction i using Nat.strongRecOn with
    | _ i ihi =>
     intro hi
     cases hl : listed.getD i false with
     | true => rfl
     | false =>
      obtain ⟨o, ho⟩ : ∃ o, ops[i]? = some o := ⟨ops[i], by simp [hi]⟩
      have : i ∈ Region.ready .any ops listed := by
       rw [mem_ready]
       refine ⟨by rw [getD_of i hi]; exact hl, o, ho, fun e he hb => ?_⟩
       have hlt := hH.lt i e.on hi (hH.edge' i o ho e he hb)
       exact ihi e.on hlt (by omega)
      rw [hnil] at this; cases this
   exact fun i hi => key i (by omega)
  ·rw [mem_ready] at hj
   obtain ⟨h0, o, ho, he⟩ := hj
   have hjn : j < ops.size := (aA.1 ho).1
   rw [getD_of j hjn] at h0
   have hpr := hedge j o ho listed hc he
   have hjm : j < lo.length := by
    rcases Nat.lt_or_ge j lo.length with h' | h'
    ·exact h'
    ·exact absurd (fun i hi => hpr i (htl j h' hjn i hi)) hend
   have hL' := listed_set listed j (by rw [hsz]; exact hjn)
   have hsz' : (listed.setIfInBounds j true).size = ops.size := by simp [hsz]
   have hget : ∀ i, (listed.setIfInBounds j true).getD i false = (listed.getD i false || i == j) := fun i => congrFun hL' i
   have hin' : ∀ i, (listed.setIfInBounds j true).getD i false = true → i < lo.length := by
    intro i hi
    rw [hget] at hi
    simp only [Bool.or_eq_true, beq_iff_eq] at hi
    rcases hi with hi | rfl
    ·exact hin i hi
    ·exact hjm
   have hc' : ∀ k, k < ops.size → (listed.setIfInBounds j true).getD k false = true → ∀ i, pr k i = true → (listed.setIfInBounds j true).getD i false = true := by
    intro k hk hk' i hi
    rw [hget] at hk' ⊢
    simp only [Bool.or_eq_true, beq_iff_eq] at hk' ⊢
    rcases hk' with hk' | rfl
    ·exact .inl (hc k hk hk' i hi)
    ·exact .inl (hpr i hi)
   have hn' : ((List.range ops.size).filter fun i => !(listed.setIfInBounds j true).getD i false).length ≤ fuel := by
    have hlt : ((List.range ops.size).filter fun i => !(listed.setIfInBounds j true).getD i false).length < ((List.range ops.size).filter fun i => !listed.getD i false).length := by
     have e : ((List.range ops.size).filter fun i => !(listed.setIfInBounds j true).getD i false) = (((List.range ops.size).filter fun i => !listed.getD i false).filter fun i => !(i == j)) := by
      rw [List.filter_filter]
      congr 1
      funext i
      rw [hget]
      cases listed.getD i false <;> simp
     rw [e]
     refine List.length_filter_lt_length_iff_exists.2 ⟨j, ?_, by simp⟩
     rw [List.mem_filter]
     exact ⟨List.mem_range.2 hjn, by rw [h0]; rfl⟩
    omega
   have hless : ∀ i, (∀ k, kl i = some k → (listed.setIfInBounds j true).getD k false = false) → ∀ k, kl i = some k → listed.getD k false = false := by
    intro i hkk k hk
    have := hkk k hk
    rw [hget] at this
    cases h : listed.getD k false with
    | false => rfl
    | true => rw [h] at this; simp at this
   have huu' : ∀ u ∈ us, (listed.setIfInBounds j true).getD u.1 false = false → u.2 w := by
    intro u hu hl
    rw [hget] at hl
    refine huu u hu ?_
    cases h : listed.getD u.1 false with
    | false => rfl
    | true => rw [h] at hl; simp at hl
   -- what the operation looks at is as in the text's order
   have look : execOp a.eval o = execOp (GG ops a₀ vs j).eval o ∧ Region.wanted o (yielded ops a.tmps) = Region.wanted o (yielded ops (GG ops a₀ vs j).tmps) := by
    subst ha
    refine same_look (hH.sel j o ho) fun t ht => ?_
    have e1 : (GG ops a₀ vs j).tmps[t]? = (FF ops a₀ (fun i => decide (i < j)) vs ops.size).tmps[t]? := by rw [FF_below vs j ops.size (by omega)]; rfl
    rw [e1]
    refine FF_slot _ fun i hi hd => ⟨?_, fun _ => rfl⟩
    obtain ⟨x, hx, hxd⟩ : ∃ x, ops[i]? = some x ∧ x.dst = some t := by
     unfold dstOf at hd
     cases hx : ops[i]? with
     | none => simp [hx] at hd
     | some x => exact ⟨x, rfl, by simpa [hx] using hd⟩
    rcases Nat.lt_trichotomy i j with hij | hij | hij
    ·rw [hpr i (hH.clash i j x o hx ho hij (clash_look hxd (.inl ht)))]; simp [hij]
    ·subst hij; rw [h0]; simp
    ·have h1 := hH.clash j i o x ho hx hij (clash_look' hxd ht)
     have h2 : listed.getD i false = false := by
      cases hLi : listed.getD i false with
      | false => rfl
      | true => rw [hc i hi hLi j h1] at h0; cases h0
     rw [h2]; simp; omega
   have add : ∀ vs', (∀ i, i < ops.size → listed.getD i false = true → vs' i = vs i) →
     a.put o.dst (vs' j) = FF ops a₀ (fun i => (listed.setIfInBounds j true).getD i false) vs' ops.size := by
    intro vs' hv
    rw [hL', ← FF_add hH (fun i => listed.getD i false) vs' j o ho h0 hc hpr, ha]
    congr 1
    exact FF_congr _ fun i hi => ⟨rfl, fun hl => (hv i hi hl).symm⟩
   unfold wpOp
   rw [ho]
   simp only
   obtain ⟨hs1, hs2⟩ := hs j hjm o ho
   by_cases hwant : wantAt ops a₀ vs j o
   ·have hwant' : Region.wanted o (yielded ops a.tmps) = true := by rw [look.2]; exact hwant
    rw [if_pos hwant']
    refine .inl ?_
    obtain ⟨hp1, hp2⟩ := hs1 hwant
    cases hp : pl j with
    | none =>
     refine gives_wp (ρ := (GG ops a₀ vs j).eval) (T := fun v w' => v = vs j ∧ w' = w) look.1 ?_ ?_
     ·unfold gives; rw [hp1 hp w hw]; exact ⟨rfl, rfl⟩
     ·rintro v w' ⟨rfl, rfl⟩
      refine ih _ _ _ vs hsz' hin' hc' hs (add vs fun _ _ _ => rfl) hw (fun i hi hl o' q' ho' hwi hq' hkk => ?_) huu' hn'
      rw [hget] at hl
      simp only [Bool.or_eq_true, beq_iff_eq] at hl
      rcases hl with hl | rfl
      ·exact hf i hi hl o' q' ho' hwi hq' (hless i hkk)
      ·rw [hp] at hq'; cases hq'
    | some q =>
     have hat := phi_atU w₀ hw₀ hlo h vs j (by omega) (fun i hi => hs i (by omega))
     rw [drop_cons lo j o (by rw [← hlo j hjm]; exact ho)] at hat
     unfold wpPhiU at hat
     rw [if_pos (show Region.wanted o (yielded ops (GG ops a₀ vs j).tmps) = true from hwant), hp] at hat
     obtain ⟨_, hg, _⟩ := hat
     have hgive := hg w hw (fun p hpk hpn hpl => by
      obtain ⟨i, o', q', hi, ho', hq', hwi, rfl⟩ := mem_knOf hpk
      have hpri := hH.need j hjn i (hpn)
      exact hf i (by omega) (hpr i hpri) o' q' ho' hwi hq' (fun k hk => by
       simp only [hk, Option.getD_some] at hpl
       rw [hpl]; exact h0)) (fun u hu e => huu u hu (by rw [e]; exact h0))
     refine gives_wp (ρ := (GG ops a₀ vs j).eval) look.1 hgive ?_
     rintro v w' ⟨hv, hfact, hR⟩
     have hcL : ∀ k, k < lo.length → (listed.getD k false || k == j) = true → ∀ i, pr k i = true → (listed.getD i false || i == j) = true := by
      intro k hk hk' i hi
      have := hc' k (by omega) (by rw [hget]; exact hk') i hi
      rwa [hget] at this
     obtain ⟨vs', hv1, hv2⟩ := completeU w₀ hw₀ hlo hle hH h (fun i => listed.getD i false || i == j) (upd vs j v) hcL (fun k hk hkL => by
      by_cases e : k = j
      ·subst e
       intro o' ho'
       obtain rfl : o = o' := Option.some.inj (ho.symm.trans ho')
       unfold wantAt
       rw [GG_upd]
       refine ⟨fun _ => ⟨fun hn => (by rw [hp] at hn; cases hn), fun q' hq' => ?_⟩, fun hn => absurd hwant hn⟩
       rw [hp] at hq'; cases hq'
       simpa [upd] using hv
      ·have hkl : listed.getD k false = true := by simpa [e] using hkL
       refine stepOk_congr hH (fun i hi => ?_) (by simp [upd, e]) (hs k hk)
       have hil := hc k (by omega) hkl i hi
       have : i ≠ j := fun e' => by subst e'; rw [hil] at h0; cases h0
       simp [upd, this])
     have agree : ∀ i, i < ops.size → listed.getD i false = true → vs' i = vs i := by
      intro i _ hil
      have hne : i ≠ j := fun e' => by subst e'; rw [hil] at h0; cases h0
      rw [hv1 i (show (listed.getD i false || i == j) = true by rw [hil]; rfl)]
      simp [upd, hne]
     have hvj : vs' j = v := by rw [hv1 j (by simp)]; simp [upd]
     have e2 := add vs' agree
     rw [hvj] at e2
     refine ih _ _ _ vs' hsz' hin' hc' hv2 e2 (hI j q hp w w' hw hR) (fun i hi hl o' q' ho' hwi hq' hkk => ?_) (fun u hu hl => by
      have hne : u.1 ≠ j := fun e => by
       rw [hget, e] at hl
       simp at hl
      exact hU j q hp u hu hne w w' hw hR (huu' u hu hl)) hn'
     rw [hget] at hl
     simp only [Bool.or_eq_true, beq_iff_eq] at hl
     by_cases e : i = j
     ·subst e
      rw [hp] at hq'; cases hq'
      rw [hvj]; exact hfact
     ·have hil := hl.resolve_right e
      rw [agree i hi hil]
      refine hS i q' hq' j q hp (fun e' => e e'.symm) (fun e' => by
       have := hkk j e'
       rw [hget] at this
       simp at this) (fun hnd => by
       have := hc i hi hil j (hH.need i hi j hnd)
       rw [this] at h0; cases h0) (fun kk hkk' hnd => by
       have h1 := hpr kk (hH.need j hjn kk hnd)
       have h2 := hkk kk hkk'
       rw [hget, h1] at h2
       cases h2) w w' _ hw hR (hf i hi hil o' q' ho' ?_ hq' (hless i hkk))
      refine (look_congr hH ho' fun k hk => ?_).2.1 hwi
      have hlt := hH.lt i k hi hk
      exact agree k (by omega) (hc i hi hil k hk)
   ·have hwant' : ¬ Region.wanted o (yielded ops a.tmps) = true := by rw [look.2]; exact hwant
    rw [if_neg hwant']
    have e2 := add vs (fun _ _ _ => rfl)
    rw [hs2 hwant] at e2
    refine ih _ _ _ vs hsz' hin' hc' hs e2 hw (fun i hi hl o' q' ho' hwi hq' hkk => ?_) huu' hn'
    rw [hget] at hl
    simp only [Bool.or_eq_true, beq_iff_eq] at hl
    rcases hl with hl | rfl
    ·exact hf i hi hl o' q' ho' hwi hq' (hless i hkk)
    ·obtain rfl : o = o' := Option.some.inj (ho.symm.trans ho')
     exact absurd hwi hwant
theorem any_phi_RK {w : World} (lo tl : List Oper) (R : Nat → World → World → Prop) (I : World → Prop) (ps : List (Nat × Part)) (ns : List (Nat × List Nat)) (us : List (Nat × (World → Prop))) (ks : List (Nat × Nat))
  (hok : phiOk (lo ++ tl).toArray (needs ns) lo.length = true)
  (hI : ∀ p ∈ ps, ∀ w w', I w → R p.1 w w' → I w') (hS : ∀ p ∈ ps, ∀ p' ∈ ps, p'.1 ≠ p.1 → ks.lookup p.1 ≠ some p'.1 → p'.1 ∉ needs ns p.1 → (∀ kk, ks.lookup p.1 = some kk → kk ∉ needs ns p'.1) → ∀ w w' v, I w → R p'.1 w w' → p.2.fact w v → p.2.fact w' v)
  (hU : ∀ p ∈ ps, ∀ u ∈ us, u.1 ≠ p.1 → ∀ w w', I w → R p.1 w w' → u.2 w → u.2 w') (hu0 : ∀ u ∈ us, u.2 w.drew)
  (hw : I w.drew) (h : wpPhiU P (lo ++ tl).toArray (wpList P (lo ++ tl).toArray Q tl) I R (planOf ps) (needs ns) us (fun i => ks.lookup i) 0 lo a₀ []) : wpAny P .any (lo ++ tl).toArray Q (lo ++ tl).toArray.size (Array.replicate (lo ++ tl).toArray.size false) a₀ { w with drawn := w.drawn + 1 } := by
 generalize hops : (lo ++ tl).toArray = ops at *
 have hlo : ∀ i, i < lo.length → ops[i]? = lo[i]? := by
  intro i hi; rw [← hops]; simp [List.getElem?_append_left hi]
 have hle : lo.length ≤ ops.size := by rw [← hops]; simp
 have hdrop : ops.toList.drop lo.length = tl := by rw [← hops]; simp
 obtain ⟨pr, hH⟩ := hangs_of_ok hok
 obtain ⟨vs, _, hvs⟩ := completeU w.drew hw hlo hle hH h (fun _ => false) (fun _ => undef) (fun _ _ h => by cases h) (fun _ _ h => by cases h)
 have hrep : ∀ i : Nat, (Array.replicate ops.size false).getD i false = false := by
  intro i
  rw [Array.getD_eq_getD_getElem?, Array.getElem?_replicate]
  split <;> rfl
 refine (phi_runU w.drew hw hlo hle hH h (fun j h1 h2 i hi => hH.tail j h1 h2 i (by omega)) ?_ ?_ ?_ ?_ ops.size _ a₀ w.drew vs (by simp) ?_ ?_ hvs ?_ hw ?_ (fun u hu _ => hu0 u hu) ?_)
 ·intro a w' hE fuel listed hsz hget hf
  exact tail_run hH fuel lo.length listed a w' (nR _) hle hsz hget hf (by rw [hdrop]; exact hE)
 ·intro j q hp w w' h1 h2; exact hI (j, q) (plan_mem hp) w w' h1 h2
 ·intro j q hp k q' hp' hne hkl hnn hkk w w' v h1 h2 h3; exact hS (j, q) (plan_mem hp) (k, q') (plan_mem hp') hne hkl hnn hkk w w' v h1 h2 h3
 ·intro j q hp u hu hne w w' h1 h2 h3; exact hU (j, q) (plan_mem hp) u hu hne w w' h1 h2 h3
 ·intro i hi; rw [hrep] at hi; cases hi
 ·intro k _ hk; rw [hrep] at hk; cases hk
 ·have gen : ∀ k, FF ops a₀ (fun i => (Array.replicate ops.size false).getD i false) vs k = a₀ := by
   intro k
   induction k with
   | zero => rfl
   | succ k ih =>
    simp only [FF]
    rw [if_neg (by rw [hrep]; decide), ih]
  exact (gen _).symm
 ·intro i _ hk; rw [hrep] at hk; cases hk
 ·exact nT (List.length_filter_le _ _) (by simp)
theorem any_phi_RU {w : World} (lo tl : List Oper) (R : Nat → World → World → Prop) (I : World → Prop) (ps : List (Nat × Part)) (ns : List (Nat × List Nat)) (us : List (Nat × (World → Prop))) (ks : List (Nat × Nat))
  (hok : phiOk (lo ++ tl).toArray (needs ns) lo.length = true)
  (hI : ∀ p ∈ ps, ∀ w w', I w → R p.1 w w' → I w') (hS : ∀ p ∈ ps, ∀ p' ∈ ps, p'.1 ≠ p.1 → ks.lookup p.1 ≠ some p'.1 → p'.1 ∉ needs ns p.1 → ∀ w w' v, I w → R p'.1 w w' → p.2.fact w v → p.2.fact w' v)
  (hU : ∀ p ∈ ps, ∀ u ∈ us, u.1 ≠ p.1 → ∀ w w', I w → R p.1 w w' → u.2 w → u.2 w') (hu0 : ∀ u ∈ us, u.2 w.drew)
  (hw : I w.drew) (h : wpPhiU P (lo ++ tl).toArray (wpList P (lo ++ tl).toArray Q tl) I R (planOf ps) (needs ns) us (fun i => ks.lookup i) 0 lo a₀ []) : wpAny P .any (lo ++ tl).toArray Q (lo ++ tl).toArray.size (Array.replicate (lo ++ tl).toArray.size false) a₀ { w with drawn := w.drawn + 1 } :=
 any_phi_RK lo tl R I ps ns us ks hok hI (fun p hp p' hp' h1 h2 h3 _ => hS p hp p' hp' h1 h2 h3) hU hu0 hw h
theorem wp_phi_RU {id : Nat} {w : World} (lo tl : List Oper) (R : Nat → World → World → Prop) (I : World → Prop) (ps : List (Nat × Part)) (ns : List (Nat × List Nat)) (us : List (Nat × (World → Prop))) (ks : List (Nat × Nat)) (hm : P.follows .mixedOrders = true)
  (hok : phiOk (lo ++ tl).toArray (needs ns) lo.length = true)
  (hI : ∀ p ∈ ps, ∀ w w', I w → R p.1 w w' → I w') (hS : ∀ p ∈ ps, ∀ p' ∈ ps, p'.1 ≠ p.1 → ks.lookup p.1 ≠ some p'.1 → p'.1 ∉ needs ns p.1 → ∀ w w' v, I w → R p'.1 w w' → p.2.fact w v → p.2.fact w' v)
  (hU : ∀ p ∈ ps, ∀ u ∈ us, u.1 ≠ p.1 → ∀ w w', I w → R p.1 w w' → u.2 w → u.2 w') (hu0 : ∀ u ∈ us, u.2 w.drew)
  (hw : I w.drew) (h : wpPhiU P (lo ++ tl).toArray (wpList P (lo ++ tl).toArray Q tl) I R (planOf ps) (needs ns) us (fun i => ks.lookup i) 0 lo a₀ []) : (Code.region id (lo ++ tl).toArray true).wp P Q a₀ w :=
 wp_region_any hm (any_phi_RU lo tl R I ps ns us ks hok hI hS hU hu0 hw h)
end main
end
section
open Go.RowKit
theorem run_appAt {P : Program} {w : World} (base : Nat) (t ty e : TypeId) (i : TypeInfo) (z : Value) (size bytes : Nat) (ht : P.underlying t = some (.slice e)) (hi : P.info? e = some i) (hz : i.zero = some z)
  (hsize : i.size = size) (hby : i.bytes = bytes) (hzs : z.cells.size = size) (hsz : 0 < size)
  (v : Value) (n : Nat) (xs : List Value) (hown : w.ownsRow base e size v n xs)
  (p : Option Addr) (m c : Nat) (news : List Value) (hl : news.length = m * size) (hr : Rd w p news) (h1 : ∀ u ∈ news, u.oneCell' = true)
  (h63 : n + m ≤ maxLen) (hbytes : (n + m) * bytes ≤ 140737488355328) (hbase : base ≤ w.heap.size) :
  ∃ v' w', (Builtin.append_ #[t, t] ty #[v, C p m c]).run P w = .ok v' w' ∧ w'.ownsRow base e size v' (n + m) (xs ++ news) ∧ w.grownBy w' v.ownBlock ∧ (v'.ownBlock = v.ownBlock ∨ v'.ownBlock = some w.heap.size) := by
 cases p with
 | none =>
  have hn : news = [] := by
   rcases hr with h | ⟨b, off, hp, _⟩
   ·exact h
   ·cases hp
  subst hn
  have hm : m = 0 := by
   simp only [List.length_nil] at hl
   rcases Nat.mul_eq_zero.1 hl.symm with h | h
   ·exact h
   ·omega
  subst hm
  refine ⟨v, w, ?_, by simpa using hown, ⟨rfl, rfl, rfl, nR _, fun _ _ _ => rfl⟩, .inl rfl⟩
  rcases hown.2 with ⟨rfl, rfl⟩ | ⟨g, cap, cur, rfl, _, _, hnc, _⟩
  ·simp [Builtin.append_, run_underlying ht, sizeOf, typeInfo, hi, Builtin.lenOf, Builtin.firstCells]
  ·simp [Builtin.append_, run_underlying ht, sizeOf, typeInfo, hi, Builtin.lenOf, Builtin.firstCells, hnc, storeCells]
 | some a =>
  have hnews : ∀ j u, news[j]? = some u → w.cell? (a.add j) = some u := by
   intro j u hu
   rcases hr with h | ⟨b, off, hp, hc⟩
   ·subst h; simp at hu
   ·cases hp
    rw [cell_add]
    exact hc j u hu
  obtain ⟨v', w', h2, h3, h4, _, h5⟩ := run_append_own_at (P := P) w base t ty e i z size bytes ht hi hz hsize hby hzs hsz v n xs hown a m c news hl hnews h1 h63 hbytes hbase
  exact ⟨v', w', h2, h3, h4, h5⟩
theorem wpList_appAt {P : Program} {w : World} {ops : Array Oper} {rest : List Oper} {o : Oper} {a : Act} {Q : Exit → Act → World → Prop} (s x : Operand) (t : TypeId)
  (ho : o.op = .call { callee := .builtin .append, args := #[s, x], argTypes := #[t, t] }) (hw : Region.wanted o (yielded ops a.tmps) = true)
  (base : Nat) (e : TypeId) (i : TypeInfo) (z : Value) (size bytes : Nat) (ht : P.underlying t = some (.slice e)) (hi : P.info? e = some i) (hz : i.zero = some z)
  (hsize : i.size = size) (hby : i.bytes = bytes) (hzs : z.cells.size = size) (hsz : 0 < size)
  (v : Value) (n : Nat) (xs : List Value) (hs : a.eval s = v) (hown : w.ownsRow base e size v n xs)
  (p : Option Addr) (m c : Nat) (news : List Value) (hx : a.eval x = C p m c) (hl : news.length = m * size) (hr : Rd w p news) (h1 : ∀ u ∈ news, u.oneCell' = true)
  (h63 : n + m ≤ maxLen) (hbytes : (n + m) * bytes ≤ 140737488355328) (hbase : base ≤ w.heap.size)
  (h : ∀ v' w', w'.ownsRow base e size v' (n + m) (xs ++ news) → w.grownBy w' v.ownBlock → (v'.ownBlock = v.ownBlock ∨ v'.ownBlock = some w.heap.size) → wpList P ops Q rest (a.put o.dst v') w') : wpList P ops Q (o :: rest) a w := by
 obtain ⟨v', w', hrun, h2, h3, h4⟩ := run_appAt (P := P) base t o.type e i z size bytes ht hi hz hsize hby hzs hsz v n xs hown p m c news hl hr h1 h63 hbytes hbase
 refine wpList_run hw (v := v') (w' := w') ?_ (h v' w' h2 h3 h4)
 unfold execOp
 simp only [ho, resolve, invoke, builtin, Sem.run_bind, Sem.run_pure, Result.andThen_ok, List.map_toArray, List.map_cons, List.map_nil, hs, hx, hrun]
theorem gives_appAt {P : Program} {w : World} {o : Oper} {a : Act} {T : Value → World → Prop} (s x : Operand) (t : TypeId)
  (ho : o.op = .call { callee := .builtin .append, args := #[s, x], argTypes := #[t, t] })
  (base : Nat) (e : TypeId) (i : TypeInfo) (z : Value) (size bytes : Nat) (ht : P.underlying t = some (.slice e)) (hi : P.info? e = some i) (hz : i.zero = some z)
  (hsize : i.size = size) (hby : i.bytes = bytes) (hzs : z.cells.size = size) (hsz : 0 < size)
  (v : Value) (n : Nat) (xs : List Value) (hs : a.eval s = v) (hown : w.ownsRow base e size v n xs)
  (p : Option Addr) (m c : Nat) (news : List Value) (hx : a.eval x = C p m c) (hl : news.length = m * size) (hr : Rd w p news) (h1 : ∀ u ∈ news, u.oneCell' = true)
  (h63 : n + m ≤ maxLen) (hbytes : (n + m) * bytes ≤ 140737488355328) (hbase : base ≤ w.heap.size)
  (h : ∀ v' w', w'.ownsRow base e size v' (n + m) (xs ++ news) → w.grownBy w' v.ownBlock → (v'.ownBlock = v.ownBlock ∨ v'.ownBlock = some w.heap.size) → T v' w') : gives P o a.eval w T := by
 obtain ⟨v', w', hrun, h2, h3, h4⟩ := run_appAt (P := P) base t o.type e i z size bytes ht hi hz hsize hby hzs hsz v n xs hown p m c news hl hr h1 h63 hbytes hbase
 have hr : (execOp a.eval o).run P w = .ok (.value v') w' := by
  unfold execOp
  simp only [ho, resolve, invoke, builtin, Sem.run_bind, Sem.run_pure, Result.andThen_ok, List.map_toArray, List.map_cons, List.map_nil, hs, hx, hrun]
 unfold gives
 rw [hr]
 exact h v' w' h2 h3 h4
theorem wp_phiU_tail {P : Program} {Q : Exit → Act → World → Prop} {a₀ : Act} {id : Nat} {w : World} (lo tl : List Oper) {l : List Oper} (hl : l = lo ++ tl) (R : Nat → World → World → Prop) (I : World → Prop) (ps : List (Nat × Part)) (ns : List (Nat × List Nat)) (us : List (Nat × (World → Prop))) (ks : List (Nat × Nat)) (hm : P.follows .mixedOrders = true)
  (hok : phiOk l.toArray (needs ns) lo.length = true)
  (hI : ∀ p ∈ ps, ∀ w w', I w → R p.1 w w' → I w') (hS : ∀ p ∈ ps, ∀ p' ∈ ps, p'.1 ≠ p.1 → ks.lookup p.1 ≠ some p'.1 → p'.1 ∉ needs ns p.1 → ∀ w w' v, I w → R p'.1 w w' → p.2.fact w v → p.2.fact w' v)
  (hU : ∀ p ∈ ps, ∀ u ∈ us, u.1 ≠ p.1 → ∀ w w', I w → R p.1 w w' → u.2 w → u.2 w') (hu0 : ∀ u ∈ us, u.2 w.drew)
  (hw : I w.drew) (h : wpPhiU P l.toArray (wpList P l.toArray Q tl) I R (planOf ps) (needs ns) us (fun i => ks.lookup i) 0 lo a₀ []) : (Code.region id l.toArray true).wp P Q a₀ w := by
 subst hl
 exact wp_phi_RU lo tl R I ps ns us ks hm hok hI hS hU hu0 hw h
end
section
open Go.RowKit
def Bt (lo hi : Nat) (o : Option Nat) (b : Nat) : Prop := lo ≤ b ∧ b < hi ∧ o ≠ some b
def TrR (x : Tr) (w : World) (e : Ending) (w' : World) : Prop :=
 ∃ cs, e = .returned (.agg cs.toArray) ∧ TrC w' (Bt w.heap.size w'.heap.size none) x cs ∧ Below w.heap.size w w'
mutual
def Tr.sm : Tr → Prop
 | .node _ ats ks _ => ats.length ≤ 1000000 ∧ ks.length ≤ 1000000 ∧ Tr.smL ks
def Tr.smL : List Tr → Prop
 | [] => True
 | x :: xs => x.sm ∧ Tr.smL xs
end
theorem smL_get : ∀ (xs : List Tr), Tr.smL xs → ∀ (i : Nat) (hi : i < xs.length), (xs[i]).sm
 | [], _, i, hi => by simp at hi
 | x :: xs, h, i, hi => by
  unfold Tr.smL at h
  cases i with
  | zero => exact h.1
  | succ i => exact smL_get xs h.2 i (by simpa using hi)
theorem Only.owns2 {g base size n : Nat} {e : TypeId} {v : Value} {xs : List Value} {w w' : World} (k : Only g w w') (ho : w.ownsRow base e size v n xs) (hg : g < base) : w'.ownsRow base e size v n xs :=
 ho.kept (row := some g) ⟨k.os, k.tape, k.output, by rw [k.size]; exact nR _, fun i hi hn => k.block i (fun e => hn (by rw [e]))⟩ (by
  cases hv : v.ownBlock with
  | none => exact .inl rfl
  | some b =>
   right
   intro e
   have := ho.lt b hv
   cases e
   omega)
theorem TrC.only {g : Nat} {w w' : World} {P : Nat → Prop} {x : Tr} {cs : List Value} (h : TrC w P x cs) (k : Only g w w') (hP : ∀ b, P b → b ≠ g) : TrC w' P x cs :=
 h.keepP fun a v hp hc => (World.cell?_of_block (k.block a.block (hP _ hp))).trans hc
theorem TrL.only {g : Nat} {w w' : World} {P : Nat → Prop} {x : List Tr} {cs : List (List Value)} (h : TrL w P x cs) (k : Only g w w') (hP : ∀ b, P b → b ≠ g) : TrL w' P x cs :=
 h.keepP fun a v hp hc => (World.cell?_of_block (k.block a.block (hP _ hp))).trans hc
theorem cell_grown {w w' : World} {q : Option Nat} (k : w.grownBy w' q) {a : Addr} {v : Value} (h : q ≠ some a.block) (hc : w.cell? a = some v) : w'.cell? a = some v :=
 (World.cell?_of_block (k.block a.block (cell_lt hc) (fun e => h e.symm))).trans hc
theorem TrC.grown {q : Option Nat} {w w' : World} {P : Nat → Prop} {x : Tr} {cs : List Value} (h : TrC w P x cs) (k : w.grownBy w' q) (hP : ∀ b, P b → q ≠ some b) : TrC w' P x cs :=
 h.keepP fun a v hp hc => cell_grown k (hP _ hp) hc
theorem TrL.grown {q : Option Nat} {w w' : World} {P : Nat → Prop} {x : List Tr} {cs : List (List Value)} (h : TrL w P x cs) (k : w.grownBy w' q) (hP : ∀ b, P b → q ≠ some b) : TrL w' P x cs :=
 h.keepP fun a v hp hc => cell_grown k (hP _ hp) hc
theorem grown_owns {w w' : World} {base base' size size' n n' : Nat} {e e' : TypeId} {v v' : Value} {xs xs' : List Value} (hg : w.grownBy w' v.ownBlock) (ho : w.ownsRow base e size v n xs) (h : w.ownsRow base' e' size' v' n' xs') (hne : e ≠ e') : w'.ownsRow base' e' size' v' n' xs' := by
 refine h.kept hg ?_
 rcases h.2 with ⟨rfl, _⟩ | ⟨g, _, cur, rfl, _, hb, _⟩
 ·exact .inl rfl
 ·right
  rcases ho.2 with ⟨rfl, _⟩ | ⟨g', _, cur', rfl, _, hb', _⟩
  ·intro h; cases h
  ·intro h
   cases h
   rw [hb] at hb'
   injection hb' with h1
   injection h1 with _ h2 _
   exact hne h2.symm
def rT (ja base size : Nat) (e : TypeId) (v : Value) (n : Nat) (j : Nat) (w w' : World) : Prop :=
 if j = ja then (∃ xs, w.ownsRow base e size v n xs) ∧ w.grownBy w' v.ownBlock else Below w.heap.size w w'
section
variable {ja j base size : Nat} {e t : TypeId} {v : Value} {n g : Nat} {w w' : World}
theorem rT_at : rT ja base size e v n ja w w' = ((∃ xs, w.ownsRow base e size v n xs) ∧ w.grownBy w' v.ownBlock) := by unfold rT; rw [if_pos rfl]
theorem rT_o (h : j ≠ ja) : rT ja base size e v n j w w' = Below w.heap.size w w' := by unfold rT; rw [if_neg h]
theorem rT_size (h : rT ja base size e v n j w w') : w.heap.size ≤ w'.heap.size := by
 unfold rT at h
 split at h
 ·exact h.2.size
 ·exact h.size
theorem rT_blk {cs : Array Value} (h : rT ja base size e v n j w w') (hb : Blk w g t cs) (hne : v.ownBlock ≠ some g) : Blk w' g t cs := by
 unfold rT at h
 split at h
 ·exact (h.2.block g hb.lt fun e => hne e.symm).trans hb
 ·exact hb.below h hb.lt
theorem rT_blklo {cs : Array Value} (h : rT ja base size e v n j w w') (hb : Blk w g t cs) (hlo : g < base) : Blk w' g t cs := by
 unfold rT at h
 split at h
 ·obtain ⟨⟨xs, ho⟩, hg⟩ := h
  exact (hg.block g hb.lt fun e => by have := (ho.lt g e.symm).1; omega).trans hb
 ·exact hb.below h hb.lt
theorem rT_below {B : Nat} {a : World} (h : rT ja base size e v n j w w') (hb : Below B a w) (hB : B ≤ base) (hs : B ≤ w.heap.size) : Below B a w' := by
 unfold rT at h
 split at h
 ·obtain ⟨⟨xs, ho⟩, hg⟩ := h
  exact hb.grown hg hs fun k hk => nT hB (ho.lt k hk).1
 ·exact hb.trans (h.mono hs)
theorem rT_owns {base' size' n' : Nat} {e' : TypeId} {v' : Value} {xs' : List Value} (h : rT ja base size e v n j w w') (ho : w.ownsRow base' e' size' v' n' xs') (hne : e ≠ e') : w'.ownsRow base' e' size' v' n' xs' := by
 unfold rT at h
 split at h
 ·obtain ⟨⟨ys, hy⟩, hg⟩ := h
  exact grown_owns hg hy ho hne
 ·exact owns_below ho h
theorem rT_trl {P : Nat → Prop} {x : List Tr} {cs : List (List Value)} (h : rT ja base size e v n j w w') (ht : TrL w P x cs) (hP : ∀ b, P b → v.ownBlock ≠ some b) : TrL w' P x cs := by
 unfold rT at h
 split at h
 ·exact ht.grown h.2 hP
 ·exact ht.below h
theorem rT_trc {P : Nat → Prop} {x : Tr} {cs : List Value} (h : rT ja base size e v n j w w') (ht : TrC w P x cs) (hP : ∀ b, P b → v.ownBlock ≠ some b) : TrC w' P x cs := by
 unfold rT at h
 split at h
 ·exact ht.grown h.2 hP
 ·exact ht.below h
end
def PKid (cv : Value → Prop) (B0 : Nat) (x : Tr) : Part :=
 ⟨cv, fun w v => ∃ cs B, v = .agg cs.toArray ∧ TrC w (Bt (B0 + 1) B none) x cs ∧ B ≤ w.heap.size⟩
def POne (B0 : Nat) (t : TypeId) (x : Tr) : Part :=
 ⟨fun v => ∃ g, v = C (some ⟨g, 0, none⟩) 1 1, fun w v => ∀ g, v = C (some ⟨g, 0, none⟩) 1 1 → B0 < g ∧ ∃ cs B, Blk w g t cs.toArray ∧ TrC w (Bt (B0 + 1) B none) x cs ∧ B ≤ w.heap.size⟩
def PRow (base size : Nat) (t : TypeId) (n : Nat) (xs : List Tr) (css : List (List Value)) (x : Tr) : Part :=
 ⟨fun v => ∃ p cap, v = C p n cap, fun w v => ∃ cs, w.ownsRow base t size v n (css ++ [cs]).flatten ∧ TrL w (Bt base w.heap.size v.ownBlock) (xs ++ [x]) (css ++ [cs])⟩
theorem PKid_stays {cv : Value → Prop} {B0 ja j base size : Nat} {e : TypeId} {v0 : Value} {n : Nat} {x : Tr} {w w' : World} {v : Value} (hR : rT ja base size e v0 n j w w') (hv : ∀ g, v0.ownBlock = some g → g < B0) (h : (PKid cv B0 x).fact w v) : (PKid cv B0 x).fact w' v := by
 obtain ⟨cs, B, h1, h2, h3⟩ := h
 exact ⟨cs, B, h1, rT_trc hR h2 fun b hb e => by have := hv b e; have := hb.1; omega, nT h3 (rT_size hR)⟩
theorem POne_stays {B0 ja j base size : Nat} {e t : TypeId} {v0 : Value} {n : Nat} {x : Tr} {w w' : World} {v : Value} (hR : rT ja base size e v0 n j w w') (hv : ∀ g, v0.ownBlock = some g → g < B0) (h : (POne B0 t x).fact w v) : (POne B0 t x).fact w' v := fun g hg => by
 obtain ⟨h1, cs, B, h2, h3, h4⟩ := h g hg
 exact ⟨h1, cs, B, rT_blk hR h2 fun e => by (have := hv g e; omega), rT_trc hR h3 fun b hb e => by (have := hv b e; have := hb.1; omega), nT h4 (rT_size hR)⟩
theorem prow_step {B0 base size : Nat} {t : TypeId} {v0 v : Value} {n : Nat} {xs : List Tr} {css : List (List Value)} {x : Tr} {w w' : World} {cs : List Value} {B : Nat}
  (hg : w.grownBy w' v0.ownBlock) (hat : v.ownBlock = v0.ownBlock ∨ v.ownBlock = some w.heap.size) (hv : ∀ g, v0.ownBlock = some g → g < B0) (hB0 : base ≤ B0) (hs0 : B0 ≤ w.heap.size)
  (hl : TrL w (Bt base B0 v0.ownBlock) xs css) (hk : TrC w (Bt (B0 + 1) B none) x cs) (hB : B ≤ w.heap.size)
  (ho : w'.ownsRow base t size v n (css ++ [cs]).flatten) : (PRow base size t n xs css x).fact w' v := by
 have hsz := hg.size
 have h1 := (hl.grown hg fun b hb => hb.2.2).imp (Q := Bt base w'.heap.size v.ownBlock) (fun b hb => ⟨hb.1, by have := hb.2.1; omega, by
  rcases hat with h | h
  ·rw [h]; exact hb.2.2
  ·rw [h]; intro e; cases e; have := hb.2.1; omega⟩)
 have h2 := (hk.grown hg (fun b hb e => by have := hv b e; have := hb.1; omega)).imp (Q := Bt base w'.heap.size v.ownBlock) (fun b hb => ⟨by have := hb.1; omega, by have := hb.2.1; omega, by
  rcases hat with h | h
  ·rw [h]; intro e; have := hv b e; have := hb.1; omega
  ·rw [h]; intro e; cases e; have := hb.2.1; omega⟩)
 exact ⟨cs, ho, TrL.app h1 (TrL.one h2)⟩
theorem strs_one (l : List (List UInt8)) : ∀ u ∈ strs l, u.oneCell' = true := by
 intro u hu
 obtain ⟨s, _, rfl⟩ := List.mem_map.1 hu
 rfl
theorem TrC.one {w : World} {P : Nat → Prop} {x : Tr} {cs : List Value} (h : TrC w P x cs) : ∀ u ∈ cs, u.oneCell' = true := by
 obtain ⟨nm, ats, ks, t⟩ := x
 unfold TrC at h
 obtain ⟨pa, ca, pk, ck, css, rfl, _⟩ := h
 intro u hu
 rcases List.mem_append.1 hu with hu | hu
 ·exact strs_one nm u hu
 ·simp only [List.mem_cons, List.not_mem_nil, or_false] at hu
  rcases hu with rfl | rfl | rfl <;> rfl
theorem flat_snoc (css : List (List Value)) (cs : List Value) : (css ++ [cs]).flatten = css.flatten ++ cs := by simp
theorem acells_snoc (l : List (List (List UInt8))) (a : List (List UInt8)) : acells (l ++ [a]) = acells l ++ strs a := by simp [acells]
theorem owns_rdP {w : World} {base size n : Nat} {e : TypeId} {v : Value} {xs : List Value} (h : w.ownsRow base e size v n xs) :
  ∃ p cap, v = C p n cap ∧ n ≤ cap ∧ cap ≤ maxLen ∧ Rd w p xs ∧ ∀ a, p = some a → base ≤ a.block ∧ a.block < w.heap.size := by
 obtain ⟨p, cap, rfl, h1, h2, h3⟩ := owns_rd h
 exact ⟨p, cap, rfl, h1, h2, h3, fun a ha => by subst ha; exact h.lt a.block rfl⟩
end
section
open Go.RowKit
def PBlk (B0 : Nat) (t : TypeId) (cs : Array Value) (n : Nat) : Part :=
 ⟨fun v => ∃ g, v = C (some ⟨g, 0, none⟩) n n, fun w v => ∀ g, v = C (some ⟨g, 0, none⟩) n n → B0 ≤ g ∧ Blk w g t cs⟩
theorem PBlk_stays {B0 n : Nat} {t : TypeId} {cs : Array Value} {w w' : World} {v : Value} (hb : Below w.heap.size w w') (h : (PBlk B0 t cs n).fact w v) : (PBlk B0 t cs n).fact w' v :=
 fun g hg => ⟨(h g hg).1, (h g hg).2.below hb (h g hg).2.lt⟩
def PNew (B0 : Nat) (t : TypeId) (cs : Array Value) : Part :=
 ⟨fun v => ∃ g, v = .pointer (some ⟨g, 0, none⟩), fun w v => ∀ g, v = .pointer (some ⟨g, 0, none⟩) → B0 ≤ g ∧ Blk w g t cs⟩
theorem PNew_stays {B0 : Nat} {t : TypeId} {cs : Array Value} {w w' : World} {v : Value} (hb : Below w.heap.size w w') (h : (PNew B0 t cs).fact w v) : (PNew B0 t cs).fact w' v :=
 fun g hg => ⟨(h g hg).1, (h g hg).2.below hb (h g hg).2.lt⟩
theorem cells5 {w : World} {P : Nat → Prop} {x : Tr} {cs : List Value} (h : TrC w P x cs) (hx : x.ok 2) : ∃ c0 c1 c2 c3 c4, cs = [c0, c1, c2, c3, c4] := by
 have := h.len
 obtain ⟨nm, ats, ks, t⟩ := x
 unfold Tr.ok at hx
 rw [show (Tr.node nm ats ks t).nm.length = 2 from hx.1] at this
 match cs, this with
 | [a, b, c, d, e], _ => exact ⟨a, b, c, d, e, rfl⟩
end
section
open Go.RowKit
mutual
def TrX (w : World) (P : Nat → Prop) : Tr → List Value → Prop
 | .node nm ats ks t, cs => ∃ pa ca pk ck css, cs = strs nm ++ [C pa ats.length ca, C pk ks.length ck, S (bs t)] ∧
   (ats.length ≤ ca ∧ ca ≤ maxLen ∧ Rd w pa (acells ats) ∧ (acells ats ≠ [] → ∀ a, pa = some a → P a.block)) ∧
   (ks.length ≤ ck ∧ ck ≤ maxLen ∧ Rd w pk css.flatten ∧ ∀ a, pk = some a → P a.block) ∧ TrXL w P ks css
def TrXL (w : World) (P : Nat → Prop) : List Tr → List (List Value) → Prop
 | [], css => css = []
 | k :: ks, css => ∃ c cs, css = c :: cs ∧ TrX w P k c ∧ TrXL w P ks cs
end
theorem Rd.keepX {w w' : World} {p : Option Addr} {xs : List Value} (h : Rd w p xs) {P : Nat → Prop} (hP : xs ≠ [] → ∀ a, p = some a → P a.block) (hk : ∀ a v, P a.block → w.cell? a = some v → w'.cell? a = some v) : Rd w' p xs := by
 rcases h with h | ⟨b, off, hp, hc⟩
 ·exact .inl h
 ·refine .inr ⟨b, off, hp, fun i u hu => hk ⟨b, off + i, none⟩ _ (show P b from hP ?_ ⟨b, off, none⟩ hp) (hc i u hu)⟩
  rintro rfl
  simp at hu
mutual
theorem TrX.keepP {w w' : World} {P : Nat → Prop} (hk : ∀ a v, P a.block → w.cell? a = some v → w'.cell? a = some v) : ∀ (x : Tr) (cs : List Value), TrX w P x cs → TrX w' P x cs
 | .node nm ats ks t, cs, h => by
  unfold TrX at h ⊢
  obtain ⟨pa, ca, pk, ck, css, h1, h2, h3, h4⟩ := h
  exact ⟨pa, ca, pk, ck, css, h1, ⟨h2.1, h2.2.1, h2.2.2.1.keepX h2.2.2.2 hk, h2.2.2.2⟩, ⟨h3.1, h3.2.1, h3.2.2.1.keepP h3.2.2.2 hk, h3.2.2.2⟩, TrXL.keepP hk ks css h4⟩
theorem TrXL.keepP {w w' : World} {P : Nat → Prop} (hk : ∀ a v, P a.block → w.cell? a = some v → w'.cell? a = some v) : ∀ (xs : List Tr) (css : List (List Value)), TrXL w P xs css → TrXL w' P xs css
 | [], css, h => by unfold TrXL at h ⊢; exact h
 | x :: xs, css, h => by
  unfold TrXL at h ⊢
  obtain ⟨c, cs, h1, h2, h3⟩ := h
  exact ⟨c, cs, h1, TrX.keepP hk x c h2, TrXL.keepP hk xs cs h3⟩
end
mutual
theorem TrX.imp {w : World} {P Q : Nat → Prop} (hk : ∀ b, P b → Q b) : ∀ (x : Tr) (cs : List Value), TrX w P x cs → TrX w Q x cs
 | .node nm ats ks t, cs, h => by
  unfold TrX at h ⊢
  obtain ⟨pa, ca, pk, ck, css, h1, h2, h3, h4⟩ := h
  exact ⟨pa, ca, pk, ck, css, h1, ⟨h2.1, h2.2.1, h2.2.2.1, fun e a ha => hk _ (h2.2.2.2 e a ha)⟩, ⟨h3.1, h3.2.1, h3.2.2.1, fun a ha => hk _ (h3.2.2.2 a ha)⟩, TrXL.imp hk ks css h4⟩
theorem TrXL.imp {w : World} {P Q : Nat → Prop} (hk : ∀ b, P b → Q b) : ∀ (xs : List Tr) (css : List (List Value)), TrXL w P xs css → TrXL w Q xs css
 | [], css, h => by unfold TrXL at h ⊢; exact h
 | x :: xs, css, h => by
  unfold TrXL at h ⊢
  obtain ⟨c, cs, h1, h2, h3⟩ := h
  exact ⟨c, cs, h1, TrX.imp hk x c h2, TrXL.imp hk xs cs h3⟩
end
mutual
theorem TrX.plain {w : World} {P : Nat → Prop} : ∀ (x : Tr) (cs : List Value), TrX w P x cs → TrC w (fun _ => True) x cs
 | .node nm ats ks t, cs, h => by
  unfold TrX at h
  unfold TrC
  obtain ⟨pa, ca, pk, ck, css, h1, h2, h3, h4⟩ := h
  exact ⟨pa, ca, pk, ck, css, h1, ⟨h2.1, h2.2.1, h2.2.2.1, fun _ _ => trivial⟩, ⟨h3.1, h3.2.1, h3.2.2.1, fun _ _ => trivial⟩, TrXL.plain ks css h4⟩
theorem TrXL.plain {w : World} {P : Nat → Prop} : ∀ (xs : List Tr) (css : List (List Value)), TrXL w P xs css → TrL w (fun _ => True) xs css
 | [], css, h => by unfold TrXL at h; unfold TrL; exact h
 | x :: xs, css, h => by
  unfold TrXL at h
  unfold TrL
  obtain ⟨c, cs, h1, h2, h3⟩ := h
  exact ⟨c, cs, h1, TrX.plain x c h2, TrXL.plain xs cs h3⟩
end
theorem TrX.below {w w' : World} {P : Nat → Prop} {x : Tr} {cs : List Value} (h : TrX w P x cs) (hb : Below w.heap.size w w') : TrX w' P x cs := TrX.keepP (fun a v _ hv => Below.keeps hb a v hv) x cs h
theorem TrXL.below {w w' : World} {P : Nat → Prop} {xs : List Tr} {css : List (List Value)} (h : TrXL w P xs css) (hb : Below w.heap.size w w') : TrXL w' P xs css := TrXL.keepP (fun a v _ hv => Below.keeps hb a v hv) xs css h
theorem TrX.len {w : World} {P : Nat → Prop} {x : Tr} {cs : List Value} (h : TrX w P x cs) : cs.length = x.nm.length + 3 := (TrX.plain x cs h).len
theorem TrX.one {w : World} {P : Nat → Prop} {x : Tr} {cs : List Value} (h : TrX w P x cs) : ∀ u ∈ cs, u.oneCell' = true := (TrX.plain x cs h).one
theorem TrXL.app {w : World} {P : Nat → Prop} : ∀ {xs ys : List Tr} {css dss : List (List Value)}, TrXL w P xs css → TrXL w P ys dss → TrXL w P (xs ++ ys) (css ++ dss)
 | [], ys, css, dss, h, h' => by unfold TrXL at h; rw [h]; exact h'
 | x :: xs, ys, css, dss, h, h' => by
  unfold TrXL at h
  obtain ⟨c, cs, rfl, h2, h3⟩ := h
  rw [List.cons_append, List.cons_append]
  unfold TrXL
  exact ⟨c, cs ++ dss, rfl, h2, TrXL.app h3 h'⟩
theorem TrXL.one {w : World} {P : Nat → Prop} {x : Tr} {c : List Value} (h : TrX w P x c) : TrXL w P [x] [c] := by
 unfold TrXL
 exact ⟨c, [], rfl, h, by unfold TrXL; rfl⟩
theorem TrX.grown {q : Option Nat} {w w' : World} {P : Nat → Prop} {x : Tr} {cs : List Value} (h : TrX w P x cs) (k : w.grownBy w' q) (hP : ∀ b, P b → q ≠ some b) : TrX w' P x cs :=
 TrX.keepP (fun a v hp hc => cell_grown k (hP _ hp) hc) x cs h
theorem TrXL.grown {q : Option Nat} {w w' : World} {P : Nat → Prop} {x : List Tr} {cs : List (List Value)} (h : TrXL w P x cs) (k : w.grownBy w' q) (hP : ∀ b, P b → q ≠ some b) : TrXL w' P x cs :=
 TrXL.keepP (fun a v hp hc => cell_grown k (hP _ hp) hc) x cs h
theorem TrXL.only {g : Nat} {w w' : World} {P : Nat → Prop} {x : List Tr} {cs : List (List Value)} (h : TrXL w P x cs) (k : Only g w w') (hP : ∀ b, P b → b ≠ g) : TrXL w' P x cs :=
 TrXL.keepP (fun a v hp hc => (World.cell?_of_block (k.block a.block (hP _ hp))).trans hc) x cs h
theorem rT_trxl {ja j base size : Nat} {e : TypeId} {v : Value} {n : Nat} {w w' : World} {P : Nat → Prop} {x : List Tr} {cs : List (List Value)} (h : rT ja base size e v n j w w') (ht : TrXL w P x cs) (hP : ∀ b, P b → v.ownBlock ≠ some b) : TrXL w' P x cs := by
 unfold rT at h
 split at h
 ·exact ht.grown h.2 hP
 ·exact ht.below h
theorem rT_trx {ja j base size : Nat} {e : TypeId} {v : Value} {n : Nat} {w w' : World} {P : Nat → Prop} {x : Tr} {cs : List Value} (h : rT ja base size e v n j w w') (ht : TrX w P x cs) (hP : ∀ b, P b → v.ownBlock ≠ some b) : TrX w' P x cs := by
 unfold rT at h
 split at h
 ·exact ht.grown h.2 hP
 ·exact ht.below h
def BtL (L lo hi : Nat) (o : Option Nat) (b : Nat) : Prop := b < L ∨ Bt lo hi o b
def PKidL (cv : Value → Prop) (L B0 : Nat) (x : Tr) : Part :=
 ⟨cv, fun w v => ∃ cs B, v = .agg cs.toArray ∧ TrX w (BtL L B0 B none) x cs ∧ B ≤ w.heap.size⟩
theorem PKidL_stays {cv : Value → Prop} {L B0 ja j base size : Nat} {e : TypeId} {v0 : Value} {n : Nat} {x : Tr} {w w' : World} {v : Value} (hR : rT ja base size e v0 n j w w') (hv : ∀ g, v0.ownBlock = some g → L ≤ g ∧ g < B0) (h : (PKidL cv L B0 x).fact w v) : (PKidL cv L B0 x).fact w' v := by
 obtain ⟨cs, B, h1, h2, h3⟩ := h
 exact ⟨cs, B, h1, rT_trx hR h2 fun b hb e => by
  have := hv b e
  rcases hb with hb | hb
  ·omega
  ·have := hb.1; omega, nT h3 (rT_size hR)⟩
end
end Go.Proofs.YthboiahdheehkaaGreatDoor
