/- PhiUE -/
import Derived.Test.YthboiahdheehkaaGreatDoorPD
import Derived.OrdersIn
import Derived.RangeFuncCalls
import Derived.RangeFuncWrites
import Derived.Test.YthboiahdheehkaaGreatDoorPM
open List renaming length_append → lF
open Array renaming getElem?_eq_some_iff → aA
namespace Go.Proofs.YthboiahdheehkaaGreatDoor
open Go.RowKit
section
section main
variable {P : Program} {ops : Array Oper} {Q : Exit → Act → World → Prop} {E : Act → World → Prop} {lo : List Oper} {I : World → Prop} {R : Nat → World → World → Prop} {pl : Nat → Option Part} {nd : Nat → List Nat} {a₀ : Act} {pr : Nat → Nat → Bool} {us : List (Nat × (World → Prop))} {kl : Nat → Option Nat}
theorem completeE (w₀ : World) (hw₀ : I w₀) (hlo : ∀ i, i < lo.length → ops[i]? = lo[i]?) (hle : lo.length ≤ ops.size) {lo2 : List Oper} (hH : Hangs ops nd lo2.length pr) (h : wpPhiU P ops E I R pl nd us kl 0 lo a₀ []) (L : Nat → Bool) (vs : Nat → Value)
  (hc : ∀ j, j < lo.length → L j = true → ∀ i, pr j i = true → L i = true) (hL : ∀ j, j < lo.length → L j = true → StepOk P ops I pl a₀ vs j) :
  ∃ vs', (∀ j, L j = true → vs' j = vs j) ∧ ∀ j, j < lo.length → StepOk P ops I pl a₀ vs' j := by
 have key : ∀ k, k ≤ lo.length → ∃ vs', (∀ j, L j = true → vs' j = vs j) ∧ ∀ j, j < lo.length → (j < k ∨ L j = true) → StepOk P ops I pl a₀ vs' j := by
  intro k
  induction k with
  | zero => intro _; exact ⟨vs, fun _ _ => rfl, fun j hj hh => hL j hj (hh.resolve_left (by omega))⟩
  | succ k ih =>
   intro hk
   obtain ⟨vs', h1, h2⟩ := ih (by omega)
   by_cases hLk : L k = true
   ·refine ⟨vs', h1, fun j hj hh => ?_⟩
    rcases hh with hh | hh
    ·by_cases e : j = k
     ·subst e; exact h2 j hj (.inr hLk)
     ·exact h2 j hj (.inl (by omega))
    ·exact h2 j hj (.inr hh)
   ·obtain ⟨v, hv⟩ := step_extU w₀ hw₀ hlo h vs' k (by omega) (fun i hi => h2 i (by omega) (.inl hi))
    have ne : ∀ i, i ≠ k → vs' i = upd vs' k v i := fun i hi => by simp [upd, hi]
    refine ⟨upd vs' k v, fun j hj => ?_, fun j hj hh => ?_⟩
    ·have : j ≠ k := fun e => hLk (e ▸ hj)
     rw [← ne j this]; exact h1 j hj
    ·by_cases e : j = k
     ·subst e; exact hv
     ·have hs : StepOk P ops I pl a₀ vs' j := by
       rcases hh with hh | hh
       ·exact h2 j hj (.inl (by omega))
       ·exact h2 j hj (.inr hh)
      refine stepOk_congr hH (fun i hi => ne i ?_) (ne j e) hs
      intro ei
      subst ei
      rcases hh with hh | hh
      ·have := hH.lt j i (by omega) hi; omega
      ·exact hLk (hc j hj hh i hi)
 obtain ⟨vs', h1, h2⟩ := key lo.length (Nat.le_refl _)
 exact ⟨vs', h1, fun j hj => h2 j hj (.inl hj)⟩
theorem phi_runE (w₀ : World) (hw₀ : I w₀) (hlo : ∀ i, i < lo.length → ops[i]? = lo[i]?) (hle : lo.length ≤ ops.size) {lo2 : List Oper} (hH : Hangs ops nd lo2.length pr) (h : wpPhiU P ops E I R pl nd us kl 0 lo a₀ [])
  (htl : ∀ j, lo.length ≤ j → j < ops.size → ∀ i, i < lo.length → pr j i = true)
  (hE : ∀ a w, E a w → ∀ (fuel : Nat) (listed : Array Bool), listed.size = ops.size → (∀ i, listed.getD i false = decide (i < lo.length)) → ops.size - lo.length ≤ fuel → wpAny P .any ops Q fuel listed a w)
  (hI : ∀ j q, pl j = some q → ∀ w w', I w → R j w w' → I w') (hS : ∀ j q, pl j = some q → ∀ k q', pl k = some q' → k ≠ j → kl j ≠ some k → k ∉ nd j → (∀ kk, kl j = some kk → kk ∉ nd k) → ∀ w w' v, I w → R k w w' → q.fact w v → q.fact w' v)
  (hU : ∀ j q, pl j = some q → ∀ u ∈ us, u.1 ≠ j → ∀ w w', I w → R j w w' → u.2 w → u.2 w') :
  ∀ (fuel : Nat) (listed : Array Bool) (a : Act) (w : World) (vs : Nat → Value), listed.size = ops.size → (∀ i, listed.getD i false = true → i < lo.length) →
   (∀ k, k < ops.size → listed.getD k false = true → ∀ i, pr k i = true → listed.getD i false = true) →
   (∀ j, j < lo.length → StepOk P ops I pl a₀ vs j) → a = FF ops a₀ (fun i => listed.getD i false) vs ops.size → I w →
   (∀ i, i < ops.size → listed.getD i false = true → ∀ o q, ops[i]? = some o → wantAt ops a₀ vs i o → pl i = some q → (∀ k, kl i = some k → listed.getD k false = false) → q.fact w (vs i)) → (∀ u ∈ us, listed.getD u.1 false = false → u.2 w) →
   ((List.range ops.size).filter fun i => !listed.getD i false).length ≤ fuel → wpAny P .any ops Q fuel listed a w := by
 have hedge : ∀ j o, ops[j]? = some o → ∀ (listed : Array Bool), (∀ k, k < ops.size → listed.getD k false = true → ∀ i, pr k i = true → listed.getD i false = true) →
   (∀ e ∈ o.after, Region.binds .any e = true → listed.getD e.on false = true) → ∀ i, pr j i = true → listed.getD i false = true := by
  intro j o ho listed hc he i hi
  have hjn := (aA.1 ho).1
  obtain ⟨e, hm, hb, hor⟩ := hH.edge j o ho i hi
  rcases hor with rfl | hor
  ·exact he e hm hb
  ·have hlt := hH.lt j e.on hjn (hH.edge' j o ho e hm hb)
   exact hc e.on (by omega) (he e hm hb) i hor
 have atEnd : ∀ (fuel : Nat) (listed : Array Bool) (w : World) (vs : Nat → Value), listed.size = ops.size → (∀ i, listed.getD i false = true → i < lo.length) → (∀ j, j < lo.length → StepOk P ops I pl a₀ vs j) → I w →
   (∀ i, i < ops.size → listed.getD i false = true → ∀ o q, ops[i]? = some o → wantAt ops a₀ vs i o → pl i = some q → (∀ k, kl i = some k → listed.getD k false = false) → q.fact w (vs i)) →
   ((List.range ops.size).filter fun i => !listed.getD i false).length ≤ fuel →
   (∀ i, i < lo.length → listed.getD i false = true) → wpAny P .any ops Q fuel listed (FF ops a₀ (fun i => listed.getD i false) vs ops.size) w := by
  intro fuel listed w vs hsz hin hs hw hf hn hall
  have hget : ∀ i, listed.getD i false = decide (i < lo.length) := by
   intro i
   by_cases hi : i < lo.length
   ·rw [hall i hi]; simp [hi]
   ·cases hl : listed.getD i false with
    | false => simp [hi]
    | true => exact absurd (hin i hl) hi
  have e : FF ops a₀ (fun i => listed.getD i false) vs ops.size = GG ops a₀ vs lo.length := by
   rw [show (fun i => listed.getD i false) = fun i => decide (i < lo.length) from funext hget, FF_below vs lo.length ops.size hle]; rfl
  rw [e]
  have := phi_atU w₀ hw₀ hlo h vs lo.length (Nat.le_refl _) hs
  rw [List.drop_of_length_le (Nat.le_refl _)] at this
  unfold wpPhiU at this
  refine hE _ _ (this w hw fun p hp hkl => ?_) fuel listed hsz hget ?_
  ·obtain ⟨i, o, q, hi, ho, hq, hwant, rfl⟩ := mem_knOf hp
   exact hf i (by omega) (hall i hi) o q ho hwant hq (fun k hk => by rw [show kl i = none from hkl] at hk; cases hk)
  ·have e2 : ((List.range ops.size).filter fun i => !listed.getD i false).length = ops.size - lo.length := by
    rw [show (fun i => !listed.getD i false) = fun i => !decide (i < lo.length) from funext fun i => by rw [hget]]
    have gen : ∀ n, ((List.range n).filter fun i => !decide (i < lo.length)).length = n - lo.length := by
     intro n
     induction n with
     | zero => simp
     | succ n ih =>
      rw [List.range_succ, List.filter_append, lF, ih]
      by_cases hn : n < lo.length
      ·simp [hn]; omega
      ·simp [hn]; omega
    exact gen _
   omega
 intro fuel
 induction fuel with
 | zero =>
  intro listed a w vs hsz hin hc hs ha hw hf huu hn
  have hall : ∀ i, i < ops.size → listed.getD i false = true := by
   intro i hi
   have hnil := List.eq_nil_of_length_eq_zero (Nat.le_zero.1 hn)
   rw [List.filter_eq_nil_iff] at hnil
   have := hnil i (List.mem_range.2 hi)
   simpa using this
  rw [ha]
  exact atEnd 0 listed w vs hsz hin hs hw hf hn (fun i hi => hall i (by omega))
 | succ fuel ih =>
  intro listed a w vs hsz hin hc hs ha hw hf huu hn
  have getD_of : ∀ j, j < ops.size → listed.getD j true = listed.getD j false := by
   intro j hj
   have hjs : j < listed.size := by rw [hsz]; exact hj
   simp [hjs]
  by_cases hend : ∀ i, i < lo.length → listed.getD i false = true
  ·rw [ha]
   exact atEnd (fuel + 1) listed w vs hsz hin hs hw hf hn hend
  refine ⟨fun hnil => ?_, fun j hj => ?_⟩
  ·exfalso
   apply hend
   have key : ∀ i, i < ops.size → listed.getD i false = true := by
    intro i
    induction i using Nat.strongRecOn with
    | _ i ihi =>
     intro hi
     cases hl : listed.getD i false with
     | true => rfl
     | false =>
      obtain ⟨o, ho⟩ : ∃ o, ops[i]? = some o := ⟨ops[i], by simp [hi]⟩
      have : i ∈ Region.ready .any ops listed := by
       rw [mem_ready]
       refine ⟨by rw [getD_of i hi]; exact hl, o, ho, fun e he hb => ?_⟩
       have hlt := hH.lt i e.on hi (hH.edge' i o ho e he hb)
       exact ihi e.on hlt (by omega)
      rw [hnil] at this; cases this
   exact fun i hi => key i (by omega)
  ·rw [mem_ready] at hj
   obtain ⟨h0, o, ho, he⟩ := hj
   have hjn : j < ops.size := (aA.1 ho).1
   rw [getD_of j hjn] at h0
   have hpr := hedge j o ho listed hc he
   have hjm : j < lo.length := by
    rcases Nat.lt_or_ge j lo.length with h' | h'
    ·exact h'
    ·exact absurd (fun i hi => hpr i (htl j h' hjn i hi)) hend
   have hL' := listed_set listed j (by rw [hsz]; exact hjn)
   have hsz' : (listed.setIfInBounds j true).size = ops.size := by simp [hsz]
   have hget : ∀ i, (listed.setIfInBounds j true).getD i false = (listed.getD i false || i == j) := fun i => congrFun hL' i
   have hin' : ∀ i, (listed.setIfInBounds j true).getD i false = true → i < lo.length := by
    intro i hi
    rw [hget] at hi
    simp only [Bool.or_eq_true, beq_iff_eq] at hi
    rcases hi with hi | rfl
    ·exact hin i hi
    ·exact hjm
   have hc' : ∀ k, k < ops.size → (listed.setIfInBounds j true).getD k false = true → ∀ i, pr k i = true → (listed.setIfInBounds j true).getD i false = true := by
    intro k hk hk' i hi
    rw [hget] at hk' ⊢
    simp only [Bool.or_eq_true, beq_iff_eq] at hk' ⊢
    rcases hk' with hk' | rfl
    ·exact .inl (hc k hk hk' i hi)
    ·exact .inl (hpr i hi)
   have hn' : ((List.range ops.size).filter fun i => !(listed.setIfInBounds j true).getD i false).length ≤ fuel := by
    have hlt : ((List.range ops.size).filter fun i => !(listed.setIfInBounds j true).getD i false).length < ((List.range ops.size).filter fun i => !listed.getD i false).length := by
     have e : ((List.range ops.size).filter fun i => !(listed.setIfInBounds j true).getD i false) = (((List.range ops.size).filter fun i => !listed.getD i false).filter fun i => !(i == j)) := by
      rw [List.filter_filter]
      congr 1
      funext i
      rw [hget]
      cases listed.getD i false <;> simp
     rw [e]
     refine List.length_filter_lt_length_iff_exists.2 ⟨j, ?_, by simp⟩
     rw [List.mem_filter]
     exact ⟨List.mem_range.2 hjn, by rw [h0]; rfl⟩
    omega
   have hless : ∀ i, (∀ k, kl i = some k → (listed.setIfInBounds j true).getD k false = false) → ∀ k, kl i = some k → listed.getD k false = false := by
    intro i hkk k hk
    have := hkk k hk
    rw [hget] at this
    cases h : listed.getD k false with
    | false => rfl
    | true => rw [h] at this; simp at this
   have huu' : ∀ u ∈ us, (listed.setIfInBounds j true).getD u.1 false = false → u.2 w := by
    intro u hu hl
    rw [hget] at hl
    refine huu u hu ?_
    cases h : listed.getD u.1 false with
    | false => rfl
    | true => rw [h] at hl; simp at hl
   have look : execOp a.eval o = execOp (GG ops a₀ vs j).eval o ∧ Region.wanted o (yielded ops a.tmps) = Region.wanted o (yielded ops (GG ops a₀ vs j).tmps) := by
    subst ha
    refine same_look (hH.sel j o ho) fun t ht => ?_
    have e1 : (GG ops a₀ vs j).tmps[t]? = (FF ops a₀ (fun i => decide (i < j)) vs ops.size).tmps[t]? := by rw [FF_below vs j ops.size (by omega)]; rfl
    rw [e1]
    refine FF_slot _ fun i hi hd => ⟨?_, fun _ => rfl⟩
    obtain ⟨x, hx, hxd⟩ : ∃ x, ops[i]? = some x ∧ x.dst = some t := by
     unfold dstOf at hd
     cases hx : ops[i]? with
     | none => simp [hx] at hd
     | some x => exact ⟨x, rfl, by simpa [hx] using hd⟩
    rcases Nat.lt_trichotomy i j with hij | hij | hij
    ·rw [hpr i (hH.clash i j x o hx ho hij (clash_look hxd (.inl ht)))]; simp [hij]
    ·subst hij; rw [h0]; simp
    ·have h1 := hH.clash j i o x ho hx hij (clash_look' hxd ht)
     have h2 : listed.getD i false = false := by
      cases hLi : listed.getD i false with
      | false => rfl
      | true => rw [hc i hi hLi j h1] at h0; cases h0
     rw [h2]; simp; omega
   have add : ∀ vs', (∀ i, i < ops.size → listed.getD i false = true → vs' i = vs i) →
     a.put o.dst (vs' j) = FF ops a₀ (fun i => (listed.setIfInBounds j true).getD i false) vs' ops.size := by
    intro vs' hv
    rw [hL', ← FF_add hH (fun i => listed.getD i false) vs' j o ho h0 hc hpr, ha]
    congr 1
    exact FF_congr _ fun i hi => ⟨rfl, fun hl => (hv i hi hl).symm⟩
   unfold wpOp
   rw [ho]
   simp only
   obtain ⟨hs1, hs2⟩ := hs j hjm o ho
   by_cases hwant : wantAt ops a₀ vs j o
   ·have hwant' : Region.wanted o (yielded ops a.tmps) = true := by rw [look.2]; exact hwant
    rw [if_pos hwant']
    refine .inl ?_
    obtain ⟨hp1, hp2⟩ := hs1 hwant
    cases hp : pl j with
    | none =>
     refine gives_wp (ρ := (GG ops a₀ vs j).eval) (T := fun v w' => v = vs j ∧ w' = w) look.1 ?_ ?_
     ·unfold gives; rw [hp1 hp w hw]; exact ⟨rfl, rfl⟩
     ·rintro v w' ⟨rfl, rfl⟩
      refine ih _ _ _ vs hsz' hin' hc' hs (add vs fun _ _ _ => rfl) hw (fun i hi hl o' q' ho' hwi hq' hkk => ?_) huu' hn'
      rw [hget] at hl
      simp only [Bool.or_eq_true, beq_iff_eq] at hl
      rcases hl with hl | rfl
      ·exact hf i hi hl o' q' ho' hwi hq' (hless i hkk)
      ·rw [hp] at hq'; cases hq'
    | some q =>
     have hat := phi_atU w₀ hw₀ hlo h vs j (by omega) (fun i hi => hs i (by omega))
     rw [drop_cons lo j o (by rw [← hlo j hjm]; exact ho)] at hat
     unfold wpPhiU at hat
     rw [if_pos (show Region.wanted o (yielded ops (GG ops a₀ vs j).tmps) = true from hwant), hp] at hat
     obtain ⟨_, hg, _⟩ := hat
     have hgive := hg w hw (fun p hpk hpn hpl => by
      obtain ⟨i, o', q', hi, ho', hq', hwi, rfl⟩ := mem_knOf hpk
      have hpri := hH.need j hjn i (hpn)
      exact hf i (by omega) (hpr i hpri) o' q' ho' hwi hq' (fun k hk => by
       simp only [hk, Option.getD_some] at hpl
       rw [hpl]; exact h0)) (fun u hu e => huu u hu (by rw [e]; exact h0))
     refine gives_wp (ρ := (GG ops a₀ vs j).eval) look.1 hgive ?_
     rintro v w' ⟨hv, hfact, hR⟩
     have hcL : ∀ k, k < lo.length → (listed.getD k false || k == j) = true → ∀ i, pr k i = true → (listed.getD i false || i == j) = true := by
      intro k hk hk' i hi
      have := hc' k (by omega) (by rw [hget]; exact hk') i hi
      rwa [hget] at this
     obtain ⟨vs', hv1, hv2⟩ := completeE w₀ hw₀ hlo hle hH h (fun i => listed.getD i false || i == j) (upd vs j v) hcL (fun k hk hkL => by
      by_cases e : k = j
      ·subst e
       intro o' ho'
       obtain rfl : o = o' := Option.some.inj (ho.symm.trans ho')
       unfold wantAt
       rw [GG_upd]
       refine ⟨fun _ => ⟨fun hn => (by rw [hp] at hn; cases hn), fun q' hq' => ?_⟩, fun hn => absurd hwant hn⟩
       rw [hp] at hq'; cases hq'
       simpa [upd] using hv
      ·have hkl : listed.getD k false = true := by simpa [e] using hkL
       refine stepOk_congr hH (fun i hi => ?_) (by simp [upd, e]) (hs k hk)
       have hil := hc k (by omega) hkl i hi
       have : i ≠ j := fun e' => by subst e'; rw [hil] at h0; cases h0
       simp [upd, this])
     have agree : ∀ i, i < ops.size → listed.getD i false = true → vs' i = vs i := by
      intro i _ hil
      have hne : i ≠ j := fun e' => by subst e'; rw [hil] at h0; cases h0
      rw [hv1 i (show (listed.getD i false || i == j) = true by rw [hil]; rfl)]
      simp [upd, hne]
     have hvj : vs' j = v := by rw [hv1 j (by simp)]; simp [upd]
     have e2 := add vs' agree
     rw [hvj] at e2
     refine ih _ _ _ vs' hsz' hin' hc' hv2 e2 (hI j q hp w w' hw hR) (fun i hi hl o' q' ho' hwi hq' hkk => ?_) (fun u hu hl => by
      have hne : u.1 ≠ j := fun e => by
       rw [hget, e] at hl
       simp at hl
      exact hU j q hp u hu hne w w' hw hR (huu' u hu hl)) hn'
     rw [hget] at hl
     simp only [Bool.or_eq_true, beq_iff_eq] at hl
     by_cases e : i = j
     ·subst e
      rw [hp] at hq'; cases hq'
      rw [hvj]; exact hfact
     ·have hil := hl.resolve_right e
      rw [agree i hi hil]
      refine hS i q' hq' j q hp (fun e' => e e'.symm) (fun e' => by
       have := hkk j e'
       rw [hget] at this
       simp at this) (fun hnd => by
       have := hc i hi hil j (hH.need i hi j hnd)
       rw [this] at h0; cases h0) (fun kk hkk' hnd => by
       have h1 := hpr kk (hH.need j hjn kk hnd)
       have h2 := hkk kk hkk'
       rw [hget, h1] at h2
       cases h2) w w' _ hw hR (hf i hi hil o' q' ho' ?_ hq' (hless i hkk))
      refine (look_congr hH ho' fun k hk => ?_).2.1 hwi
      have hlt := hH.lt i k hi hk
      exact agree k (by omega) (hc i hi hil k hk)
   ·have hwant' : ¬ Region.wanted o (yielded ops a.tmps) = true := by rw [look.2]; exact hwant
    rw [if_neg hwant']
    have e2 := add vs (fun _ _ _ => rfl)
    rw [hs2 hwant] at e2
    refine ih _ _ _ vs hsz' hin' hc' hs e2 hw (fun i hi hl o' q' ho' hwi hq' hkk => ?_) huu' hn'
    rw [hget] at hl
    simp only [Bool.or_eq_true, beq_iff_eq] at hl
    rcases hl with hl | rfl
    ·exact hf i hi hl o' q' ho' hwi hq' (hless i hkk)
    ·obtain rfl : o = o' := Option.some.inj (ho.symm.trans ho')
     exact absurd hwi hwant
def Rest (P : Program) (ops : Array Oper) (Q : Exit → Act → World → Prop) (m : Nat) (a : Act) (w : World) : Prop :=
 ∀ (fuel : Nat) (listed : Array Bool), listed.size = ops.size → (∀ i, listed.getD i false = decide (i < m)) → ops.size - m ≤ fuel → wpAny P .any ops Q fuel listed a w
def behind (ops : Array Oper) (m : Nat) : Bool :=
 (List.range ops.size).all fun j => decide (j < m) || match ops[j]? with | some o => (List.range m).all fun i => o.after.any fun e => Region.binds .any e && e.on == i | none => true
theorem behind_pr {nd : Nat → List Nat} {mm m : Nat} {pr : Nat → Nat → Bool} (hH : Hangs ops nd mm pr) (h : behind ops m = true) : ∀ j, m ≤ j → j < ops.size → ∀ i, i < m → pr j i = true := by
 intro j hj hjs i hi
 unfold behind at h
 rw [List.all_eq_true] at h
 have h1 := h j (List.mem_range.2 hjs)
 have ho : ops[j]? = some ops[j] := by simp [hjs]
 rw [ho] at h1
 simp only [Bool.or_eq_true, decide_eq_true_eq] at h1
 rcases h1 with h1 | h1
 ·omega
 ·rw [List.all_eq_true] at h1
  have h2 := h1 i (List.mem_range.2 hi)
  rw [Array.any_eq_true] at h2
  obtain ⟨k, hk, h3⟩ := h2
  rw [Bool.and_eq_true, beq_iff_eq] at h3
  have := hH.edge' j _ ho _ (Array.getElem_mem hk) h3.1
  rw [h3.2] at this
  exact this
theorem any_phi_RE {w : World} (lo tl : List Oper) (R : Nat → World → World → Prop) (I : World → Prop) (ps : List (Nat × Part)) (ns : List (Nat × List Nat)) (us : List (Nat × (World → Prop))) (ks : List (Nat × Nat))
  (hok : phiOk (lo ++ tl).toArray (needs ns) (lo ++ tl).toArray.size = true) (hbe : behind (lo ++ tl).toArray lo.length = true)
  (hI : ∀ p ∈ ps, ∀ w w', I w → R p.1 w w' → I w') (hS : ∀ p ∈ ps, ∀ p' ∈ ps, p'.1 ≠ p.1 → ks.lookup p.1 ≠ some p'.1 → p'.1 ∉ needs ns p.1 → (∀ kk, ks.lookup p.1 = some kk → kk ∉ needs ns p'.1) → ∀ w w' v, I w → R p'.1 w w' → p.2.fact w v → p.2.fact w' v)
  (hU : ∀ p ∈ ps, ∀ u ∈ us, u.1 ≠ p.1 → ∀ w w', I w → R p.1 w w' → u.2 w → u.2 w') (hu0 : ∀ u ∈ us, u.2 w.drew)
  (hw : I w.drew) (h : wpPhiU P (lo ++ tl).toArray (Rest P (lo ++ tl).toArray Q lo.length) I R (planOf ps) (needs ns) us (fun i => ks.lookup i) 0 lo a₀ []) : wpAny P .any (lo ++ tl).toArray Q (lo ++ tl).toArray.size (Array.replicate (lo ++ tl).toArray.size false) a₀ { w with drawn := w.drawn + 1 } := by
 generalize hops : (lo ++ tl).toArray = ops at *
 have hlo : ∀ i, i < lo.length → ops[i]? = lo[i]? := by
  intro i hi; rw [← hops]; simp [List.getElem?_append_left hi]
 have hle : lo.length ≤ ops.size := by rw [← hops]; simp
 obtain ⟨pr, hH⟩ := hangs_of_ok hok
 have hH : Hangs ops (needs ns) ops.toList.length pr := by rw [Array.length_toList]; exact hH
 obtain ⟨vs, _, hvs⟩ := completeE w.drew hw hlo hle hH h (fun _ => false) (fun _ => undef) (fun _ _ h => by cases h) (fun _ _ h => by cases h)
 have hrep : ∀ i : Nat, (Array.replicate ops.size false).getD i false = false := by
  intro i
  rw [Array.getD_eq_getD_getElem?, Array.getElem?_replicate]
  split <;> rfl
 refine (phi_runE w.drew hw hlo hle hH h (behind_pr hH hbe) ?_ ?_ ?_ ?_ ops.size _ a₀ w.drew vs (by simp) ?_ ?_ hvs ?_ hw ?_ (fun u hu _ => hu0 u hu) ?_)
 ·intro a w' hE fuel listed hsz hget hf
  exact hE fuel listed hsz hget hf
 ·intro j q hp w w' h1 h2; exact hI (j, q) (plan_mem hp) w w' h1 h2
 ·intro j q hp k q' hp' hne hkl hnn hkk w w' v h1 h2 h3; exact hS (j, q) (plan_mem hp) (k, q') (plan_mem hp') hne hkl hnn hkk w w' v h1 h2 h3
 ·intro j q hp u hu hne w w' h1 h2 h3; exact hU (j, q) (plan_mem hp) u hu hne w w' h1 h2 h3
 ·intro i hi; rw [hrep] at hi; cases hi
 ·intro k _ hk; rw [hrep] at hk; cases hk
 ·have gen : ∀ k, FF ops a₀ (fun i => (Array.replicate ops.size false).getD i false) vs k = a₀ := by
   intro k
   induction k with
   | zero => rfl
   | succ k ih =>
    simp only [FF]
    rw [if_neg (by rw [hrep]; decide), ih]
  exact (gen _).symm
 ·intro i _ hk; rw [hrep] at hk; cases hk
 ·exact Nat.le_trans (List.length_filter_le _ _) (by simp)
def Li (listed : Array Bool) (f : Nat → Bool) : Prop := ∀ i, listed.getD i false = f i
theorem Li.set {listed : Array Bool} {f : Nat → Bool} (h : Li listed f) {j : Nat} (hj : j < listed.size) : Li (listed.setIfInBounds j true) (fun i => f i || i == j) := fun i => by
 rw [congrFun (listed_set listed j hj) i, h]
theorem any_step {P : Program} {ops : Array Oper} {Q : Exit → Act → World → Prop} {fuel : Nat} {listed : Array Bool} {f : Nat → Bool} {a : Act} {w : World} {j : Nat} {o : Oper} (hl : Li listed f) (hsz : listed.size = ops.size)
  (hj : ops[j]? = some o) (hf : f j = false) (hr : o.after.all (fun e => !Region.binds .any e || f e.on) = true)
  (h : ∀ i o', ops[i]? = some o' → f i = false → o'.after.all (fun e => !Region.binds .any e || f e.on) = true → wpOp P ops Q i (wpAny P .any ops Q fuel (listed.setIfInBounds i true)) a w) : wpAny P .any ops Q (fuel + 1) listed a w := by
 refine ⟨fun hnil => ?_, fun i hi => ?_⟩
 ·exfalso
  have : j ∈ Region.ready .any ops listed := by
   rw [mem_ready]
   have hjs : j < listed.size := by rw [hsz]; exact (aA.1 hj).1
   refine ⟨by have := hl j; rw [hf] at this; simp [hjs] at this ⊢; exact this, o, hj, fun e he hb => ?_⟩
   rw [Array.all_eq_true] at hr
   obtain ⟨k, hk, rfl⟩ := Array.mem_iff_getElem.1 he
   have h1 := hr k hk
   rw [hb] at h1
   rw [hl]
   simpa using h1
  rw [hnil] at this
  cases this
 ·rw [mem_ready] at hi
  obtain ⟨h0, o', ho, he⟩ := hi
  have his : i < listed.size := by rw [hsz]; exact (aA.1 ho).1
  refine h i o' ho (by rw [← hl i]; simp [his] at h0 ⊢; exact h0) ?_
  rw [Array.all_eq_true]
  intro k hk
  have := he _ (Array.getElem_mem hk)
  cases hb : Region.binds .any o'.after[k] with
  | false => rfl
  | true => rw [← hl, this hb]; rfl
theorem any_end {P : Program} {ops : Array Oper} {Q : Exit → Act → World → Prop} {fuel : Nat} {listed : Array Bool} {f : Nat → Bool} {a : Act} {w : World} (hl : Li listed f) (hsz : listed.size = ops.size) (hall : ∀ i, i < ops.size → f i = true) (h : Q .normal a w) : wpAny P .any ops Q fuel listed a w := by
 have hno : Region.ready .any ops listed = [] := by
  rw [List.eq_nil_iff_forall_not_mem]
  intro i hi
  rw [mem_ready] at hi
  obtain ⟨h0, o, ho, _⟩ := hi
  have hin := (aA.1 ho).1
  have his : i < listed.size := by omega
  have h1 := hl i
  rw [hall i hin] at h1
  simp [his] at h0 h1
  rw [h1] at h0
  cases h0
 cases fuel with
 | zero => exact ⟨hno, h⟩
 | succ fuel => exact ⟨fun _ => h, fun i hi => by rw [hno] at hi; cases hi⟩
theorem rest_op {P : Program} {ops : Array Oper} {Q : Exit → Act → World → Prop} {o : Oper} {rest : List Oper} {i : Nat} {K : Act → World → Prop} {a : Act} {w : World} (h : wpList P ops Q (o :: rest) a w) (hi : ops[i]? = some o) (hk : ∀ a' w', wpList P ops Q rest a' w' → K a' w') : wpOp P ops Q i K a w := by
 unfold wpList at h
 unfold wpOp
 rw [hi]
 simp only
 split
 ·rename_i hw
  rw [if_pos hw] at h
  exact h.imp (Oper.wp_mono hk) id
 ·rename_i hw
  rw [if_neg hw] at h
  exact hk _ _ h
theorem rest_run {P : Program} {ops : Array Oper} {Q : Exit → Act → World → Prop} {o : Oper} {i : Nat} {K : Act → World → Prop} {a : Act} {w w' : World} {v : Value} (hi : ops[i]? = some o) (hw : Region.wanted o (yielded ops a.tmps) = true) (hr : (execOp a.eval o).run P w = .ok (.value v) w') (h : K (a.put o.dst v) w') : wpOp P ops Q i K a w := by
 unfold wpOp
 rw [hi]
 simp only
 rw [if_pos hw]
 refine .inl ?_
 unfold Oper.wp
 rw [hr]
 exact h
theorem rest_three {P : Program} {ops : Array Oper} {Q : Exit → Act → World → Prop} {m : Nat} {a : Act} {w : World} {o5 o6 o7 : Oper} (hn : ops.size = m + 3) (h5 : ops[m]? = some o5) (h6 : ops[m + 1]? = some o6) (h7 : ops[m + 2]? = some o7)
  (b5 : o5.after.all (fun e => !Region.binds .any e || decide (e.on < m)) = true) (b6 : o6.after.all (fun e => !Region.binds .any e || decide (e.on < m + 1)) = true) (c6 : o6.after.any (fun e => Region.binds .any e && e.on == m) = true)
  (b7 : o7.after.all (fun e => !Region.binds .any e || decide (e.on < m)) = true)
  (v5 : Value) (hw5 : Region.wanted o5 (yielded ops a.tmps) = true) (e5 : (execOp a.eval o5).run P w = .ok (.value v5) w) (A1 : wpList P ops Q [o6, o7] (a.put o5.dst v5) w) (A2 : wpList P ops Q [o7, o6] (a.put o5.dst v5) w) (A3 : wpList P ops Q [o7, o5, o6] a w) : Rest P ops Q m a w := by
 intro fuel listed hsz hget hf
 obtain ⟨f, rfl⟩ : ∃ f, fuel = f + 1 + 1 + 1 := ⟨fuel - 3, by omega⟩
 have L0 : Li listed (fun i => decide (i < m)) := hget
 have up : ∀ (o : Oper) (n : Nat) (g : Nat → Bool), (∀ i, i < n → g i = true) → o.after.all (fun e => !Region.binds .any e || decide (e.on < n)) = true → o.after.all (fun e => !Region.binds .any e || g e.on) = true := by
  intro o n g hg h
  rw [Array.all_eq_true] at h ⊢
  intro k hk
  have h1 := h k hk
  simp only [Bool.or_eq_true, Bool.not_eq_true', decide_eq_true_eq] at h1 ⊢
  exact h1.imp id fun h => hg _ h
 have no6 : ∀ g : Nat → Bool, g m = false → ¬ o6.after.all (fun e => !Region.binds .any e || g e.on) = true := by
  intro g hg h
  rw [Array.any_eq_true] at c6
  obtain ⟨k, hk, h1⟩ := c6
  rw [Bool.and_eq_true, beq_iff_eq] at h1
  rw [Array.all_eq_true] at h
  have h2 := h k hk
  rw [h1.1, h1.2, hg] at h2
  cases h2
 have which : ∀ (i : Nat) (o' : Oper), ops[i]? = some o' → decide (i < m) = false → i = m ∧ o' = o5 ∨ i = m + 1 ∧ o' = o6 ∨ i = m + 2 ∧ o' = o7 := by
  intro i o' hi h
  have hlt := (aA.1 hi).1
  have hge : ¬ i < m := of_decide_eq_false h
  have : i = m ∨ i = m + 1 ∨ i = m + 2 := by omega
  rcases this with rfl | rfl | rfl
  ·exact .inl ⟨rfl, Option.some.inj (hi.symm.trans h5)⟩
  ·exact .inr (.inl ⟨rfl, Option.some.inj (hi.symm.trans h6)⟩)
  ·exact .inr (.inr ⟨rfl, Option.some.inj (hi.symm.trans h7)⟩)
 have s0 : m < listed.size := by omega
 refine any_step L0 hsz h5 (by simp) b5 fun i o' hi hfi hai => ?_
 rcases which i o' hi hfi with ⟨rfl, rfl⟩ | ⟨rfl, rfl⟩ | ⟨rfl, rfl⟩
 ·-- the first is taken
  have L1 := L0.set s0
  have hs1 : (listed.setIfInBounds i true).size = ops.size := by simp [hsz]
  have two : ∀ a1 w1, wpList P ops Q [o6, o7] a1 w1 → wpList P ops Q [o7, o6] a1 w1 → wpAny P .any ops Q (f + 1 + 1) (listed.setIfInBounds i true) a1 w1 := by
   intro a1 w1 B1 B2
   refine any_step L1 hs1 h6 (by simp) (up _ (i + 1) (fun k => decide (k < i) || k == i) (fun k hk => by simp; omega) b6) fun k o2 hk hfk hak => ?_
   have hk' : decide (k < i) = false ∧ (k == i) = false := by simpa using hfk
   rcases which k o2 hk hk'.1 with ⟨rfl, rfl⟩ | ⟨rfl, rfl⟩ | ⟨rfl, rfl⟩
   ·simp at hk'
   ·have L2 := L1.set (j := i + 1) (by rw [hs1]; omega)
    have hs2 : ((listed.setIfInBounds i true).setIfInBounds (i + 1) true).size = ops.size := by simp [hsz]
    refine rest_op B1 hk fun a2 w2 B => ?_
    refine any_step L2 hs2 h7 (by simp) (up _ i (fun k => decide (k < i) || k == i || k == i + 1) (fun k hk => by simp; omega) b7) fun l o3 hl hfl hal => ?_
    have hl' : (decide (l < i) = false ∧ (l == i) = false) ∧ (l == i + 1) = false := by simpa using hfl
    rcases which l o3 hl hl'.1.1 with ⟨rfl, rfl⟩ | ⟨rfl, rfl⟩ | ⟨rfl, rfl⟩
    ·simp at hl'
    ·simp at hl'
    ·refine rest_op B hl fun a3 w3 B => ?_
     exact any_end (L2.set (j := i + 2) (by rw [hs2]; omega)) (by simp [hsz]) (fun l hl => by simp; omega) B
   ·have L2 := L1.set (j := i + 2) (by rw [hs1]; omega)
    have hs2 : ((listed.setIfInBounds i true).setIfInBounds (i + 2) true).size = ops.size := by simp [hsz]
    refine rest_op B2 hk fun a2 w2 B => ?_
    refine any_step L2 hs2 h6 (by simp) (up _ (i + 1) (fun k => decide (k < i) || k == i || k == i + 2) (fun k hk => by simp; omega) b6) fun l o3 hl hfl hal => ?_
    have hl' : (decide (l < i) = false ∧ (l == i) = false) ∧ (l == i + 2) = false := by simpa using hfl
    rcases which l o3 hl hl'.1.1 with ⟨rfl, rfl⟩ | ⟨rfl, rfl⟩ | ⟨rfl, rfl⟩
    ·simp at hl'
    ·refine rest_op B hl fun a3 w3 B => ?_
     exact any_end (L2.set (j := i + 1) (by rw [hs2]; omega)) (by simp [hsz]) (fun l hl => by simp; omega) B
    ·simp at hl'
  exact rest_run hi hw5 e5 (two _ _ A1 A2)
 ·exact absurd hai (no6 (fun k => decide (k < m)) (by simp))
 ·-- the third is taken
  have L1 := L0.set (j := m + 2) (by omega)
  have hs1 : (listed.setIfInBounds (m + 2) true).size = ops.size := by simp [hsz]
  refine rest_op A3 hi fun a1 w1 B1 => ?_
  refine any_step L1 hs1 h5 (by simp) (up _ m (fun k => decide (k < m) || k == m + 2) (fun k hk => by simp; omega) b5) fun k o2 hk hfk hak => ?_
  have hk' : decide (k < m) = false ∧ (k == m + 2) = false := by simpa using hfk
  rcases which k o2 hk hk'.1 with ⟨rfl, rfl⟩ | ⟨rfl, rfl⟩ | ⟨rfl, rfl⟩
  ·have L2 := L1.set (j := k) (by rw [hs1]; omega)
   have hs2 : ((listed.setIfInBounds (k + 2) true).setIfInBounds k true).size = ops.size := by simp [hsz]
   refine rest_op B1 hk fun a2 w2 B => ?_
   refine any_step L2 hs2 h6 (by simp) (up _ (k + 1) (fun l => decide (l < k) || l == k + 2 || l == k) (fun l hl => by simp; omega) b6) fun l o3 hl hfl hal => ?_
   have hl' : (decide (l < k) = false ∧ (l == k + 2) = false) ∧ (l == k) = false := by simpa using hfl
   rcases which l o3 hl hl'.1.1 with ⟨rfl, rfl⟩ | ⟨rfl, rfl⟩ | ⟨rfl, rfl⟩
   ·simp at hl'
   ·refine rest_op B hl fun a3 w3 B => ?_
    exact any_end (L2.set (j := k + 1) (by rw [hs2]; omega)) (by simp [hsz]) (fun l hl => by simp; omega) B
   ·simp at hl'
  ·exact absurd hak (no6 (fun k => decide (k < m) || k == m + 2) (by simp))
  ·simp at hk'
end main
end
section
def noDefer (o : Oper) : Bool := match o.op with | .defer _ => false | _ => true
theorem noDefer_ne {o : Oper} (h : noDefer o = true) : ∀ c, o.op ≠ .defer c := by
 intro c hc
 unfold noDefer at h
 rw [hc] at h
 cases h
theorem oper_in {F : Fence} {n : Nat} {P : Program} {o : Oper} {a : Act} {w : World} {K : Act → World → Prop} {Q : Exit → Act → World → Prop} (hF : FreeF F) (hd : noDefer o = true) (h : o.wp P a w K Q) : o.wpIn F n P a w K Q := by
 refine ⟨fun f _ => hF.fn f, ?_⟩
 rw [Oper.semAt_eq _ _ _ (noDefer_ne hd)]
 unfold Oper.wp at h
 generalize (execOp a.eval o).run P w = r at *
 have hdep : F.depth.isSome = true → 1 ≤ n := by rw [hF.depth]; intro h; cases h
 cases r with
 | ok x w' =>
  cases x <;> simp only [Oper.upon] at h <;> simp only [Oper.uponIn] <;>
   first
    | exact h
    | exact ⟨hdep, hF.calls _ _ _ _ _ _ h⟩
    | exact ⟨hdep, hF.rows _ _ _ _ _ _ h⟩
    | exact h.elim
 | halt x w' => cases x <;> simp only [Oper.upon] at h <;> simp only [Oper.uponIn] <;> exact h
theorem any_in {F : Fence} {n : Nat} {P : Program} {md : Region.Mode} {ops : Array Oper} {Q : Exit → Act → World → Prop} (hF : FreeF F) (hd : ops.all noDefer = true) (hq : ¬ LetsOut Q) : ∀ (fuel : Nat) (listed : Array Bool) (a : Act) (w : World),
  wpAny P md ops Q fuel listed a w → wpAnyIn F n P md ops Q fuel listed a w := by
 intro fuel
 induction fuel with
 | zero => intro listed a w h; exact h
 | succ fuel ih =>
  intro listed a w h
  refine ⟨h.1, fun i hi => ?_⟩
  have hx := h.2 i hi
  unfold wpOp at hx
  unfold wpOpIn
  cases ho : ops[i]? with
  | none => rw [ho] at hx; exact ih _ _ _ hx
  | some o =>
   rw [ho] at hx
   simp only at hx ⊢
   by_cases hw : Region.wanted o (yielded ops a.tmps) = true
   ·rw [if_pos hw] at hx ⊢
    rcases hx with hx | hx
    ·have hdo : noDefer o = true := by
      rw [Array.all_eq_true'] at hd
      exact hd o (Array.mem_of_getElem? ho)
     exact oper_in hF hdo (Oper.wp_mono (fun a w h => ih _ a w h) hx)
    ·exact absurd hx.2 hq
   ·rw [if_neg hw] at hx ⊢
    exact ⟨fun f _ => hF.fn f, ih _ _ _ hx⟩
def InQ (Q : Exit → Act → World → Prop) (e : Exit) (a : Act) (w : World) : Prop := e ≠ .outgrown ∧ Q e a w
theorem InQ.no (Q : Exit → Act → World → Prop) : ¬ LetsOut (InQ Q) := fun ⟨_, _, h⟩ => h.1 rfl
theorem inQ_nil {P : Program} {ops : Array Oper} {Q : Exit → Act → World → Prop} {a : Act} {w : World} (h : Q .normal a w) : wpList P ops (InQ Q) [] a w := wpList_nil ⟨by simp, h⟩
theorem wp_phiE_in {F : Fence} {n : Nat} {P : Program} {Q : Exit → Act → World → Prop} {a₀ : Act} {id : Nat} {w : World} (hF : FreeF F) (lo tl : List Oper) {l : List Oper} (hl : l = lo ++ tl) (R : Nat → World → World → Prop) (I : World → Prop) (ps : List (Nat × Part)) (ns : List (Nat × List Nat)) (us : List (Nat × (World → Prop))) (ks : List (Nat × Nat)) (hm : P.follows .mixedOrders = true)
  (hok : phiOk l.toArray (needs ns) l.toArray.size = true) (hbe : behind l.toArray lo.length = true) (hd : l.toArray.all noDefer = true)
  (hI : ∀ p ∈ ps, ∀ w w', I w → R p.1 w w' → I w') (hS : ∀ p ∈ ps, ∀ p' ∈ ps, p'.1 ≠ p.1 → ks.lookup p.1 ≠ some p'.1 → p'.1 ∉ needs ns p.1 → (∀ kk, ks.lookup p.1 = some kk → kk ∉ needs ns p'.1) → ∀ w w' v, I w → R p'.1 w w' → p.2.fact w v → p.2.fact w' v)
  (hU : ∀ p ∈ ps, ∀ u ∈ us, u.1 ≠ p.1 → ∀ w w', I w → R p.1 w w' → u.2 w → u.2 w') (hu0 : ∀ u ∈ us, u.2 w.drew)
  (hw : I w.drew) (h : wpPhiU P l.toArray (Rest P l.toArray (InQ Q) lo.length) I R (planOf ps) (needs ns) us (fun i => ks.lookup i) 0 lo a₀ []) : (Code.region id l.toArray true).wpIn F n P Q a₀ w := by
 subst hl
 exact wpIn_mono (wpIn_region_any hm (any_in hF hd (InQ.no Q) _ _ _ _ (any_phi_RE lo tl R I ps ns us ks hok hbe hI hS hU hu0 hw h))) fun _ _ _ h => h.2
theorem own_put {w w' : World} {base size n g c : Nat} {e : TypeId} {xs zs ys : List Value} {cur : Array Value} (h : w.ownsRow base e size (.slice (some ⟨g, 0, none⟩) (n + 1) c) (n + 1) (xs ++ zs)) (hx : xs.length = n * size) (hz : zs.length = size) (hy : ys.length = size)
  (hcur : Blk w g e cur) (hb : Blk w' g e (putCells cur (n * size) ys.toArray)) : w'.ownsRow base e size (.slice (some ⟨g, 0, none⟩) (n + 1) c) (n + 1) (xs ++ ys) := by
 refine ⟨by rw [lF, hx, hy, Nat.add_mul, Nat.one_mul], .inr ?_⟩
 rcases h.2 with ⟨h0, _⟩ | ⟨g', cap, cur', h0, h1, h2, h3, h4, h5, h6⟩
 ·cases h0
 ·cases h0
  have hc : cur' = cur := by
   unfold Blk at hcur
   rw [hcur] at h2
   injection h2 with h2
   injection h2 with h2 _ _
   exact h2.symm
  subst hc
  have hfit : (n + 1) * size ≤ cur'.size := by rw [h5]; exact Nat.mul_le_mul_right _ h3
  have hns : (n + 1) * size = n * size + size := by rw [Nat.add_mul, Nat.one_mul]
  refine ⟨g, c, _, rfl, h1, hb, h3, h4, ?_, ?_⟩
  ·unfold putCells
   simp only [List.size_toArray, lF, List.length_take, List.length_drop, Array.length_toList]
   rw [← h5, hy]
   omega
  ·unfold putCells
   simp only
   have e1 : cur'.toList.take (n * size) = xs := by
    have h7 := congrArg (List.take (n * size)) h6
    rw [List.take_take, List.take_append_of_le_length (by omega), Nat.min_eq_left (by omega), List.take_of_length_le (l := xs) (by omega)] at h7
    exact h7
   rw [e1, ← hx, hns]
   rw [show n * size + size = (xs ++ ys).length by rw [lF, hx, hy]]
   exact List.take_left
end
end Go.Proofs.YthboiahdheehkaaGreatDoor
