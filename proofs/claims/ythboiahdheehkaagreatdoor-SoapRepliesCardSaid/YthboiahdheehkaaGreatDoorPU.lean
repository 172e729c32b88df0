/- PhiUE -/
import Derived.Test.YthboiahdheehkaaGreatDoorPD
import Derived.OrdersIn
import Derived.RangeFuncCalls
import Derived.RangeFuncWrites
import Derived.Test.YthboiahdheehkaaGreatDoorPM
open List renaming length_append → lF
open Array renaming getElem?_eq_some_iff → aA
namespace Go.Proofs.YthboiahdheehkaaGreatDoor
section
open Go.RowKit
section main
variable {P : Program} {ops : Array Oper} {Q : Exit → Act → World → Prop} {E : Act → World → Prop} {lo : List Oper} {I : World → Prop} {R : Nat → World → World → Prop} {pl : Nat → Option Part} {nd : Nat → List Nat} {a₀ : Act} {pr : Nat → Nat → Bool} {us : List (Nat × (World → Prop))} {kl : Nat → Option Nat}
def Rest (P : Program) (ops : Array Oper) (Q : Exit → Act → World → Prop) (m : Nat) (a : Act) (w : World) : Prop :=
 ∀ (fuel : Nat) (listed : Array Bool), listed.size = ops.size → (∀ i, listed.getD i false = decide (i < m)) → ops.size - m ≤ fuel → wpAny P .any ops Q fuel listed a w
def behind (ops : Array Oper) (m : Nat) : Bool :=
 (List.range ops.size).all fun j => decide (j < m) || match ops[j]? with | some o => (List.range m).all fun i => o.after.any fun e => Region.binds .any e && e.on == i | none => true
theorem behind_pr {nd : Nat → List Nat} {mm m : Nat} {pr : Nat → Nat → Bool} (hH : Hangs ops nd mm pr) (h : behind ops m = true) : ∀ j, m ≤ j → j < ops.size → ∀ i, i < m → pr j i = true := by
 intro j hj hjs i hi
 unfold behind at h
 rw [List.all_eq_true] at h
 have h1 := h j (List.mem_range.2 hjs)
 have ho : ops[j]? = some ops[j] := by simp [hjs]
 rw [ho] at h1
 simp only [Bool.or_eq_true, decide_eq_true_eq] at h1
 rcases h1 with h1 | h1
 ·omega
 ·rw [List.all_eq_true] at h1
  have h2 := h1 i (List.mem_range.2 hi)
  rw [Array.any_eq_true] at h2
  obtain ⟨k, hk, h3⟩ := h2
  rw [Bool.and_eq_true, beq_iff_eq] at h3
  have := hH.edge' j _ ho _ (Array.getElem_mem hk) h3.1
  rw [h3.2] at this
  exact this
theorem any_phi_RE {w : World} (lo tl : List Oper) (R : Nat → World → World → Prop) (I : World → Prop) (ps : List (Nat × Part)) (ns : List (Nat × List Nat)) (us : List (Nat × (World → Prop))) (ks : List (Nat × Nat))
  (hok : phiOk (lo ++ tl).toArray (needs ns) (lo ++ tl).toArray.size = true) (hbe : behind (lo ++ tl).toArray lo.length = true)
  (hI : ∀ p ∈ ps, ∀ w w', I w → R p.1 w w' → I w') (hS : ∀ p ∈ ps, ∀ p' ∈ ps, p'.1 ≠ p.1 → ks.lookup p.1 ≠ some p'.1 → p'.1 ∉ needs ns p.1 → (∀ kk, ks.lookup p.1 = some kk → kk ∉ needs ns p'.1) → ∀ w w' v, I w → R p'.1 w w' → p.2.fact w v → p.2.fact w' v)
  (hU : ∀ p ∈ ps, ∀ u ∈ us, u.1 ≠ p.1 → ∀ w w', I w → R p.1 w w' → u.2 w → u.2 w') (hu0 : ∀ u ∈ us, u.2 w.drew)
  (hw : I w.drew) (h : wpPhiU P (lo ++ tl).toArray (Rest P (lo ++ tl).toArray Q lo.length) I R (planOf ps) (needs ns) us (fun i => ks.lookup i) 0 lo a₀ []) : wpAny P .any (lo ++ tl).toArray Q (lo ++ tl).toArray.size (Array.replicate (lo ++ tl).toArray.size false) a₀ { w with drawn := w.drawn + 1 } := by
 generalize hops : (lo ++ tl).toArray = ops at *
 have hlo : ∀ i, i < lo.length → ops[i]? = lo[i]? := by
  intro i hi; rw [← hops]; simp [List.getElem?_append_left hi]
 have hle : lo.length ≤ ops.size := by rw [← hops]; simp
 obtain ⟨pr, hH⟩ := hangs_of_ok hok
 have hH : Hangs ops (needs ns) ops.toList.length pr := by rw [Array.length_toList]; exact hH
 obtain ⟨vs, _, hvs⟩ := completeU w.drew hw hlo hle hH h (fun _ => false) (fun _ => undef) (fun _ _ h => by cases h) (fun _ _ h => by cases h)
 have hrep : ∀ i : Nat, (Array.replicate ops.size false).getD i false = false := by
  intro i
  rw [Array.getD_eq_getD_getElem?, Array.getElem?_replicate]
  split <;> rfl
 refine (phi_runU w.drew hw hlo hle hH h (behind_pr hH hbe) ?_ ?_ ?_ ?_ ops.size _ a₀ w.drew vs (by simp) ?_ ?_ hvs ?_ hw ?_ (fun u hu _ => hu0 u hu) ?_)
 ·intro a w' hE fuel listed hsz hget hf
  exact hE fuel listed hsz hget hf
 ·intro j q hp w w' h1 h2; exact hI (j, q) (plan_mem hp) w w' h1 h2
 ·intro j q hp k q' hp' hne hkl hnn hkk w w' v h1 h2 h3; exact hS (j, q) (plan_mem hp) (k, q') (plan_mem hp') hne hkl hnn hkk w w' v h1 h2 h3
 ·intro j q hp u hu hne w w' h1 h2 h3; exact hU (j, q) (plan_mem hp) u hu hne w w' h1 h2 h3
 ·intro i hi; rw [hrep] at hi; cases hi
 ·intro k _ hk; rw [hrep] at hk; cases hk
 ·have gen : ∀ k, FF ops a₀ (fun i => (Array.replicate ops.size false).getD i false) vs k = a₀ := by
   intro k
   induction k with
   | zero => rfl
   | succ k ih =>
    simp only [FF]
    rw [if_neg (by rw [hrep]; decide), ih]
  exact (gen _).symm
 ·intro i _ hk; rw [hrep] at hk; cases hk
 ·exact Nat.le_trans (List.length_filter_le _ _) (by simp)
def Li (listed : Array Bool) (f : Nat → Bool) : Prop := ∀ i, listed.getD i false = f i
theorem Li.set {listed : Array Bool} {f : Nat → Bool} (h : Li listed f) {j : Nat} (hj : j < listed.size) : Li (listed.setIfInBounds j true) (fun i => f i || i == j) := fun i => by
 rw [congrFun (listed_set listed j hj) i, h]
theorem any_step {P : Program} {ops : Array Oper} {Q : Exit → Act → World → Prop} {fuel : Nat} {listed : Array Bool} {f : Nat → Bool} {a : Act} {w : World} {j : Nat} {o : Oper} (hl : Li listed f) (hsz : listed.size = ops.size)
  (hj : ops[j]? = some o) (hf : f j = false) (hr : o.after.all (fun e => !Region.binds .any e || f e.on) = true)
  (h : ∀ i o', ops[i]? = some o' → f i = false → o'.after.all (fun e => !Region.binds .any e || f e.on) = true → wpOp P ops Q i (wpAny P .any ops Q fuel (listed.setIfInBounds i true)) a w) : wpAny P .any ops Q (fuel + 1) listed a w := by
 refine ⟨fun hnil => ?_, fun i hi => ?_⟩
 ·exfalso
  have : j ∈ Region.ready .any ops listed := by
   rw [mem_ready]
   have hjs : j < listed.size := by rw [hsz]; exact (aA.1 hj).1
   refine ⟨by have := hl j; rw [hf] at this; simp [hjs] at this ⊢; exact this, o, hj, fun e he hb => ?_⟩
   rw [Array.all_eq_true] at hr
   obtain ⟨k, hk, rfl⟩ := Array.mem_iff_getElem.1 he
   have h1 := hr k hk
   rw [hb] at h1
   rw [hl]
   simpa using h1
  rw [hnil] at this
  cases this
 ·rw [mem_ready] at hi
  obtain ⟨h0, o', ho, he⟩ := hi
  have his : i < listed.size := by rw [hsz]; exact (aA.1 ho).1
  refine h i o' ho (by rw [← hl i]; simp [his] at h0 ⊢; exact h0) ?_
  rw [Array.all_eq_true]
  intro k hk
  have := he _ (Array.getElem_mem hk)
  cases hb : Region.binds .any o'.after[k] with
  | false => rfl
  | true => rw [← hl, this hb]; rfl
theorem any_end {P : Program} {ops : Array Oper} {Q : Exit → Act → World → Prop} {fuel : Nat} {listed : Array Bool} {f : Nat → Bool} {a : Act} {w : World} (hl : Li listed f) (hsz : listed.size = ops.size) (hall : ∀ i, i < ops.size → f i = true) (h : Q .normal a w) : wpAny P .any ops Q fuel listed a w := by
 have hno : Region.ready .any ops listed = [] := by
  rw [List.eq_nil_iff_forall_not_mem]
  intro i hi
  rw [mem_ready] at hi
  obtain ⟨h0, o, ho, _⟩ := hi
  have hin := (aA.1 ho).1
  have his : i < listed.size := by omega
  have h1 := hl i
  rw [hall i hin] at h1
  simp [his] at h0 h1
  rw [h1] at h0
  cases h0
 cases fuel with
 | zero => exact ⟨hno, h⟩
 | succ fuel => exact ⟨fun _ => h, fun i hi => by rw [hno] at hi; cases hi⟩
theorem rest_op {P : Program} {ops : Array Oper} {Q : Exit → Act → World → Prop} {o : Oper} {rest : List Oper} {i : Nat} {K : Act → World → Prop} {a : Act} {w : World} (h : wpList P ops Q (o :: rest) a w) (hi : ops[i]? = some o) (hk : ∀ a' w', wpList P ops Q rest a' w' → K a' w') : wpOp P ops Q i K a w := by
 unfold wpList at h
 unfold wpOp
 rw [hi]
 simp only
 split
 ·rename_i hw
  rw [if_pos hw] at h
  exact h.imp (Oper.wp_mono hk) id
 ·rename_i hw
  rw [if_neg hw] at h
  exact hk _ _ h
theorem rest_run {P : Program} {ops : Array Oper} {Q : Exit → Act → World → Prop} {o : Oper} {i : Nat} {K : Act → World → Prop} {a : Act} {w w' : World} {v : Value} (hi : ops[i]? = some o) (hw : Region.wanted o (yielded ops a.tmps) = true) (hr : (execOp a.eval o).run P w = .ok (.value v) w') (h : K (a.put o.dst v) w') : wpOp P ops Q i K a w := by
 unfold wpOp
 rw [hi]
 simp only
 rw [if_pos hw]
 refine .inl ?_
 unfold Oper.wp
 rw [hr]
 exact h
theorem rest_three {P : Program} {ops : Array Oper} {Q : Exit → Act → World → Prop} {m : Nat} {a : Act} {w : World} {o5 o6 o7 : Oper} (hn : ops.size = m + 3) (h5 : ops[m]? = some o5) (h6 : ops[m + 1]? = some o6) (h7 : ops[m + 2]? = some o7)
  (b5 : o5.after.all (fun e => !Region.binds .any e || decide (e.on < m)) = true) (b6 : o6.after.all (fun e => !Region.binds .any e || decide (e.on < m + 1)) = true) (c6 : o6.after.any (fun e => Region.binds .any e && e.on == m) = true)
  (b7 : o7.after.all (fun e => !Region.binds .any e || decide (e.on < m)) = true)
  (v5 : Value) (hw5 : Region.wanted o5 (yielded ops a.tmps) = true) (e5 : (execOp a.eval o5).run P w = .ok (.value v5) w) (A1 : wpList P ops Q [o6, o7] (a.put o5.dst v5) w) (A2 : wpList P ops Q [o7, o6] (a.put o5.dst v5) w) (A3 : wpList P ops Q [o7, o5, o6] a w) : Rest P ops Q m a w := by
 intro fuel listed hsz hget hf
 obtain ⟨f, rfl⟩ : ∃ f, fuel = f + 1 + 1 + 1 := ⟨fuel - 3, by omega⟩
 have L0 : Li listed (fun i => decide (i < m)) := hget
 have up : ∀ (o : Oper) (n : Nat) (g : Nat → Bool), (∀ i, i < n → g i = true) → o.after.all (fun e => !Region.binds .any e || decide (e.on < n)) = true → o.after.all (fun e => !Region.binds .any e || g e.on) = true := by
  intro o n g hg h
  rw [Array.all_eq_true] at h ⊢
  intro k hk
  have h1 := h k hk
  simp only [Bool.or_eq_true, Bool.not_eq_true', decide_eq_true_eq] at h1 ⊢
  exact h1.imp id fun h => hg _ h
 have no6 : ∀ g : Nat → Bool, g m = false → ¬ o6.after.all (fun e => !Region.binds .any e || g e.on) = true := by
  intro g hg h
  rw [Array.any_eq_true] at c6
  obtain ⟨k, hk, h1⟩ := c6
  rw [Bool.and_eq_true, beq_iff_eq] at h1
  rw [Array.all_eq_true] at h
  have h2 := h k hk
  rw [h1.1, h1.2, hg] at h2
  cases h2
 have which : ∀ (i : Nat) (o' : Oper), ops[i]? = some o' → decide (i < m) = false → i = m ∧ o' = o5 ∨ i = m + 1 ∧ o' = o6 ∨ i = m + 2 ∧ o' = o7 := by
  intro i o' hi h
  have hlt := (aA.1 hi).1
  have hge : ¬ i < m := of_decide_eq_false h
  have : i = m ∨ i = m + 1 ∨ i = m + 2 := by omega
  rcases this with rfl | rfl | rfl
  ·exact .inl ⟨rfl, Option.some.inj (hi.symm.trans h5)⟩
  ·exact .inr (.inl ⟨rfl, Option.some.inj (hi.symm.trans h6)⟩)
  ·exact .inr (.inr ⟨rfl, Option.some.inj (hi.symm.trans h7)⟩)
 have s0 : m < listed.size := by omega
 refine any_step L0 hsz h5 (by simp) b5 fun i o' hi hfi hai => ?_
 rcases which i o' hi hfi with ⟨rfl, rfl⟩ | ⟨rfl, rfl⟩ | ⟨rfl, rfl⟩
 ·-- the first is taken
  have L1 := L0.set s0
  have hs1 : (listed.setIfInBounds i true).size = ops.size := by simp [hsz]
  have two : ∀ a1 w1, wpList P ops Q [o6, o7] a1 w1 → wpList P ops Q [o7, o6] a1 w1 → wpAny P .any ops Q (f + 1 + 1) (listed.setIfInBounds i true) a1 w1 := by
   intro a1 w1 B1 B2
   refine any_step L1 hs1 h6 (by simp) (up _ (i + 1) (fun k => decide (k < i) || k == i) (fun k hk => by simp; omega) b6) fun k o2 hk hfk hak => ?_
   have hk' : decide (k < i) = false ∧ (k == i) = false := by simpa using hfk
   rcases which k o2 hk hk'.1 with ⟨rfl, rfl⟩ | ⟨rfl, rfl⟩ | ⟨rfl, rfl⟩
   ·simp at hk'
   ·have L2 := L1.set (j := i + 1) (by rw [hs1]; omega)
    have hs2 : ((listed.setIfInBounds i true).setIfInBounds (i + 1) true).size = ops.size := by simp [hsz]
    refine rest_op B1 hk fun a2 w2 B => ?_
    refine any_step L2 hs2 h7 (by simp) (up _ i (fun k => decide (k < i) || k == i || k == i + 1) (fun k hk => by simp; omega) b7) fun l o3 hl hfl hal => ?_
    have hl' : (decide (l < i) = false ∧ (l == i) = false) ∧ (l == i + 1) = false := by simpa using hfl
    rcases which l o3 hl hl'.1.1 with ⟨rfl, rfl⟩ | ⟨rfl, rfl⟩ | ⟨rfl, rfl⟩
    ·simp at hl'
    ·simp at hl'
    ·refine rest_op B hl fun a3 w3 B => ?_
     exact any_end (L2.set (j := i + 2) (by rw [hs2]; omega)) (by simp [hsz]) (fun l hl => by simp; omega) B
   ·have L2 := L1.set (j := i + 2) (by rw [hs1]; omega)
    have hs2 : ((listed.setIfInBounds i true).setIfInBounds (i + 2) true).size = ops.size := by simp [hsz]
    refine rest_op B2 hk fun a2 w2 B => ?_
    refine any_step L2 hs2 h6 (by simp) (up _ (i + 1) (fun k => decide (k < i) || k == i || k == i + 2) (fun k hk => by simp; omega) b6) fun l o3 hl hfl hal => ?_
    have hl' : (decide (l < i) = false ∧ (l == i) = false) ∧ (l == i + 2) = false := by simpa using hfl
    rcases which l o3 hl hl'.1.1 with ⟨rfl, rfl⟩ | ⟨rfl, rfl⟩ | ⟨rfl, rfl⟩
    ·simp at hl'
    ·refine rest_op B hl fun a3 w3 B => ?_
     exact any_end (L2.set (j := i + 1) (by rw [hs2]; omega)) (by simp [hsz]) (fun l hl => by simp; omega) B
    ·simp at hl'
  exact rest_run hi hw5 e5 (two _ _ A1 A2)
 ·exact absurd hai (no6 (fun k => decide (k < m)) (by simp))
 ·-- the third is taken
  have L1 := L0.set (j := m + 2) (by omega)
  have hs1 : (listed.setIfInBounds (m + 2) true).size = ops.size := by simp [hsz]
  refine rest_op A3 hi fun a1 w1 B1 => ?_
  refine any_step L1 hs1 h5 (by simp) (up _ m (fun k => decide (k < m) || k == m + 2) (fun k hk => by simp; omega) b5) fun k o2 hk hfk hak => ?_
  have hk' : decide (k < m) = false ∧ (k == m + 2) = false := by simpa using hfk
  rcases which k o2 hk hk'.1 with ⟨rfl, rfl⟩ | ⟨rfl, rfl⟩ | ⟨rfl, rfl⟩
  ·have L2 := L1.set (j := k) (by rw [hs1]; omega)
   have hs2 : ((listed.setIfInBounds (k + 2) true).setIfInBounds k true).size = ops.size := by simp [hsz]
   refine rest_op B1 hk fun a2 w2 B => ?_
   refine any_step L2 hs2 h6 (by simp) (up _ (k + 1) (fun l => decide (l < k) || l == k + 2 || l == k) (fun l hl => by simp; omega) b6) fun l o3 hl hfl hal => ?_
   have hl' : (decide (l < k) = false ∧ (l == k + 2) = false) ∧ (l == k) = false := by simpa using hfl
   rcases which l o3 hl hl'.1.1 with ⟨rfl, rfl⟩ | ⟨rfl, rfl⟩ | ⟨rfl, rfl⟩
   ·simp at hl'
   ·refine rest_op B hl fun a3 w3 B => ?_
    exact any_end (L2.set (j := k + 1) (by rw [hs2]; omega)) (by simp [hsz]) (fun l hl => by simp; omega) B
   ·simp at hl'
  ·exact absurd hak (no6 (fun k => decide (k < m) || k == m + 2) (by simp))
  ·simp at hk'
end main
end
section
open Go.RowKit
def noDefer (o : Oper) : Bool := match o.op with | .defer _ => false | _ => true
theorem noDefer_ne {o : Oper} (h : noDefer o = true) : ∀ c, o.op ≠ .defer c := by
 intro c hc
 unfold noDefer at h
 rw [hc] at h
 cases h
theorem oper_in {F : Fence} {n : Nat} {P : Program} {o : Oper} {a : Act} {w : World} {K : Act → World → Prop} {Q : Exit → Act → World → Prop} (hF : FreeF F) (hd : noDefer o = true) (h : o.wp P a w K Q) : o.wpIn F n P a w K Q := by
 refine ⟨fun f _ => hF.fn f, ?_⟩
 rw [Oper.semAt_eq _ _ _ (noDefer_ne hd)]
 unfold Oper.wp at h
 generalize (execOp a.eval o).run P w = r at *
 have hdep : F.depth.isSome = true → 1 ≤ n := by rw [hF.depth]; intro h; cases h
 cases r with
 | ok x w' =>
  cases x <;> simp only [Oper.upon] at h <;> simp only [Oper.uponIn] <;>
   first
    | exact h
    | exact ⟨hdep, hF.calls _ _ _ _ _ _ h⟩
    | exact ⟨hdep, hF.rows _ _ _ _ _ _ h⟩
    | exact h.elim
 | halt x w' => cases x <;> simp only [Oper.upon] at h <;> simp only [Oper.uponIn] <;> exact h
theorem any_in {F : Fence} {n : Nat} {P : Program} {md : Region.Mode} {ops : Array Oper} {Q : Exit → Act → World → Prop} (hF : FreeF F) (hd : ops.all noDefer = true) (hq : ¬ LetsOut Q) : ∀ (fuel : Nat) (listed : Array Bool) (a : Act) (w : World),
  wpAny P md ops Q fuel listed a w → wpAnyIn F n P md ops Q fuel listed a w := by
 intro fuel
 induction fuel with
 | zero => intro listed a w h; exact h
 | succ fuel ih =>
  intro listed a w h
  refine ⟨h.1, fun i hi => ?_⟩
  have hx := h.2 i hi
  unfold wpOp at hx
  unfold wpOpIn
  cases ho : ops[i]? with
  | none => rw [ho] at hx; exact ih _ _ _ hx
  | some o =>
   rw [ho] at hx
   simp only at hx ⊢
   by_cases hw : Region.wanted o (yielded ops a.tmps) = true
   ·rw [if_pos hw] at hx ⊢
    rcases hx with hx | hx
    ·have hdo : noDefer o = true := by
      rw [Array.all_eq_true'] at hd
      exact hd o (Array.mem_of_getElem? ho)
     exact oper_in hF hdo (Oper.wp_mono (fun a w h => ih _ a w h) hx)
    ·exact absurd hx.2 hq
   ·rw [if_neg hw] at hx ⊢
    exact ⟨fun f _ => hF.fn f, ih _ _ _ hx⟩
def InQ (Q : Exit → Act → World → Prop) (e : Exit) (a : Act) (w : World) : Prop := e ≠ .outgrown ∧ Q e a w
theorem InQ.no (Q : Exit → Act → World → Prop) : ¬ LetsOut (InQ Q) := fun ⟨_, _, h⟩ => h.1 rfl
theorem inQ_nil {P : Program} {ops : Array Oper} {Q : Exit → Act → World → Prop} {a : Act} {w : World} (h : Q .normal a w) : wpList P ops (InQ Q) [] a w := wpList_nil ⟨by simp, h⟩
theorem wp_phiE_in {F : Fence} {n : Nat} {P : Program} {Q : Exit → Act → World → Prop} {a₀ : Act} {id : Nat} {w : World} (hF : FreeF F) (lo tl : List Oper) {l : List Oper} (hl : l = lo ++ tl) (R : Nat → World → World → Prop) (I : World → Prop) (ps : List (Nat × Part)) (ns : List (Nat × List Nat)) (us : List (Nat × (World → Prop))) (ks : List (Nat × Nat)) (hm : P.follows .mixedOrders = true)
  (hok : phiOk l.toArray (needs ns) l.toArray.size = true) (hbe : behind l.toArray lo.length = true) (hd : l.toArray.all noDefer = true)
  (hI : ∀ p ∈ ps, ∀ w w', I w → R p.1 w w' → I w') (hS : ∀ p ∈ ps, ∀ p' ∈ ps, p'.1 ≠ p.1 → ks.lookup p.1 ≠ some p'.1 → p'.1 ∉ needs ns p.1 → (∀ kk, ks.lookup p.1 = some kk → kk ∉ needs ns p'.1) → ∀ w w' v, I w → R p'.1 w w' → p.2.fact w v → p.2.fact w' v)
  (hU : ∀ p ∈ ps, ∀ u ∈ us, u.1 ≠ p.1 → ∀ w w', I w → R p.1 w w' → u.2 w → u.2 w') (hu0 : ∀ u ∈ us, u.2 w.drew)
  (hw : I w.drew) (h : wpPhiU P l.toArray (Rest P l.toArray (InQ Q) lo.length) I R (planOf ps) (needs ns) us (fun i => ks.lookup i) 0 lo a₀ []) : (Code.region id l.toArray true).wpIn F n P Q a₀ w := by
 subst hl
 exact wpIn_mono (wpIn_region_any hm (any_in hF hd (InQ.no Q) _ _ _ _ (any_phi_RE lo tl R I ps ns us ks hok hbe hI hS hU hu0 hw h))) fun _ _ _ h => h.2
theorem own_put {w w' : World} {base size n g c : Nat} {e : TypeId} {xs zs ys : List Value} {cur : Array Value} (h : w.ownsRow base e size (.slice (some ⟨g, 0, none⟩) (n + 1) c) (n + 1) (xs ++ zs)) (hx : xs.length = n * size) (hz : zs.length = size) (hy : ys.length = size)
  (hcur : Blk w g e cur) (hb : Blk w' g e (putCells cur (n * size) ys.toArray)) : w'.ownsRow base e size (.slice (some ⟨g, 0, none⟩) (n + 1) c) (n + 1) (xs ++ ys) := by
 refine ⟨by rw [lF, hx, hy, Nat.add_mul, Nat.one_mul], .inr ?_⟩
 rcases h.2 with ⟨h0, _⟩ | ⟨g', cap, cur', h0, h1, h2, h3, h4, h5, h6⟩
 ·cases h0
 ·cases h0
  have hc : cur' = cur := by
   unfold Blk at hcur
   rw [hcur] at h2
   injection h2 with h2
   injection h2 with h2 _ _
   exact h2.symm
  subst hc
  have hfit : (n + 1) * size ≤ cur'.size := by rw [h5]; exact Nat.mul_le_mul_right _ h3
  have hns : (n + 1) * size = n * size + size := by rw [Nat.add_mul, Nat.one_mul]
  refine ⟨g, c, _, rfl, h1, hb, h3, h4, ?_, ?_⟩
  ·unfold putCells
   simp only [List.size_toArray, lF, List.length_take, List.length_drop, Array.length_toList]
   rw [← h5, hy]
   omega
  ·unfold putCells
   simp only
   have e1 : cur'.toList.take (n * size) = xs := by
    have h7 := congrArg (List.take (n * size)) h6
    rw [List.take_take, List.take_append_of_le_length (by omega), Nat.min_eq_left (by omega), List.take_of_length_le (l := xs) (by omega)] at h7
    exact h7
   rw [e1, ← hx, hns]
   rw [show n * size + size = (xs ++ ys).length by rw [lF, hx, hy]]
   exact List.take_left
end
end Go.Proofs.YthboiahdheehkaaGreatDoor
