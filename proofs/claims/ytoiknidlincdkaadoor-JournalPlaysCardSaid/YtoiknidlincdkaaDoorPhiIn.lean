/-
  PhiIn: a region that draws its order, within a fence (a range over a function: its iterator, its body). No program.
-/
import Derived.Test.YtoiknidlincdkaaDoorAppU
import Derived.OrdersIn
import Derived.RangeFuncCalls
import Derived.RangeFuncWrites
namespace Go.Proofs.YtoiknidlincdkaaDoor
open Go.RowKit

/-- a fence within which whatever is proved of a call holds -/
structure FreeF (F : Fence) : Prop where
  fn : ∀ f, F.fn f
  depth : F.depth = none
  calls : ∀ (n : Nat) (P : Program) (f : FuncId) (args : Array Value) (w : World) (R : Ending → World → Prop), Calls P f args w R → CallsIn F n P f args w R
  rows : ∀ (n : Nat) (P : Program) (f : String) (args : Array Value) (w : World) (R : Value → World → Prop), Rows P f args w R → RowsIn F n P f args w R
theorem FreeF.wide : FreeF Fence.wide := ⟨fun _ => trivial, rfl, fun _ _ _ _ _ _ h => callsIn_wide.2 h, fun _ _ _ _ _ _ h c cs _ => let ⟨v, w', r, s⟩ := h c cs; ⟨v, w', r, stepsIn_wide.2 s⟩⟩
theorem FreeF.inRound {F : Fence} (h : FreeF F) (l : Nat) : FreeF (F.inRound l) := ⟨h.fn, h.depth, fun n P f args w R k => (h.calls n P f args w R k).inRound l, fun n P f args w R k => h.rows n P f args w R k⟩
def noDefer (o : Oper) : Bool := match o.op with | .defer _ => false | _ => true
theorem noDefer_ne {o : Oper} (h : noDefer o = true) : ∀ c, o.op ≠ .defer c := by
  intro c hc
  unfold noDefer at h
  rw [hc] at h
  cases h
theorem oper_in {F : Fence} {n : Nat} {P : Program} {o : Oper} {a : Act} {w : World} {K : Act → World → Prop} {Q : Exit → Act → World → Prop} (hF : FreeF F) (hd : noDefer o = true) (h : o.wp P a w K Q) : o.wpIn F n P a w K Q := by
  refine ⟨fun f _ => hF.fn f, ?_⟩
  rw [Oper.semAt_eq _ _ _ (noDefer_ne hd)]
  unfold Oper.wp at h
  generalize (execOp a.eval o).run P w = r at *
  have hdep : F.depth.isSome = true → 1 ≤ n := by rw [hF.depth]; intro h; cases h
  cases r with
  | ok x w' =>
    cases x <;> simp only [Oper.upon] at h <;> simp only [Oper.uponIn] <;>
      first
        | exact h
        | exact ⟨hdep, hF.calls _ _ _ _ _ _ h⟩
        | exact ⟨hdep, hF.rows _ _ _ _ _ _ h⟩
        | exact h.elim
  | halt x w' => cases x <;> simp only [Oper.upon] at h <;> simp only [Oper.uponIn] <;> exact h
theorem any_in {F : Fence} {n : Nat} {P : Program} {md : Region.Mode} {ops : Array Oper} {Q : Exit → Act → World → Prop} (hF : FreeF F) (hd : ops.all noDefer = true) (hq : ¬ LetsOut Q) : ∀ (fuel : Nat) (listed : Array Bool) (a : Act) (w : World),
    wpAny P md ops Q fuel listed a w → wpAnyIn F n P md ops Q fuel listed a w := by
  intro fuel
  induction fuel with
  | zero => intro listed a w h; exact h
  | succ fuel ih =>
    intro listed a w h
    refine ⟨h.1, fun i hi => ?_⟩
    have hx := h.2 i hi
    unfold wpOp at hx
    unfold wpOpIn
    cases ho : ops[i]? with
    | none => rw [ho] at hx; exact ih _ _ _ hx
    | some o =>
      rw [ho] at hx
      simp only at hx ⊢
      by_cases hw : Region.wanted o (yielded ops a.tmps) = true
      · rw [if_pos hw] at hx ⊢
        rcases hx with hx | hx
        · have hdo : noDefer o = true := by
            rw [Array.all_eq_true'] at hd
            exact hd o (Array.mem_of_getElem? ho)
          exact oper_in hF hdo (Oper.wp_mono (fun a w h => ih _ a w h) hx)
        · exact absurd hx.2 hq
      · rw [if_neg hw] at hx ⊢
        exact ⟨fun f _ => hF.fn f, ih _ _ _ hx⟩
theorem rAdd_others {ja j : Nat} {e : TypeId} {v : Value} {n : Nat} {w w' : World} (h : rAdd ja e v n j w w') : KeepsOthers w w' := by
  unfold rAdd at h
  split at h
  · obtain ⟨⟨xs, ho⟩, hg⟩ := h
    refine KeepsOthers.of_grownBy hg fun g o hv hg => ?_
    rcases ho.2 with ⟨h0, _⟩ | ⟨g9, cap, cur, h0, _, hh, _⟩
    · rw [h0] at hv; cases hv
    · rw [h0] at hv
      cases hv
      rw [hh] at hg
      cases hg
      rfl
  · exact ⟨h.size, fun k o hk _ => (h.block k (Array.getElem?_eq_some_iff.1 hk).1).trans hk⟩
/-- the ends of a region without those of a machine too small -/
def InQ (Q : Exit → Act → World → Prop) (e : Exit) (a : Act) (w : World) : Prop := e ≠ .outgrown ∧ Q e a w
theorem InQ.no (Q : Exit → Act → World → Prop) : ¬ LetsOut (InQ Q) := fun ⟨_, _, h⟩ => h.1 rfl
theorem inQ_nil {P : Program} {ops : Array Oper} {Q : Exit → Act → World → Prop} {a : Act} {w : World} (h : Q .normal a w) : wpList P ops (InQ Q) [] a w := wpList_nil ⟨by simp, h⟩
theorem wp_phiU_tail_in {F : Fence} {n : Nat} {P : Program} {Q : Exit → Act → World → Prop} {a₀ : Act} {id : Nat} {w : World} (hF : FreeF F) (lo tl : List Oper) {l : List Oper} (hl : l = lo ++ tl) (R : Nat → World → World → Prop) (I : World → Prop) (ps : List (Nat × Part)) (ns : List (Nat × List Nat)) (us : List (Nat × (World → Prop))) (ks : List (Nat × Nat)) (hm : P.follows .mixedOrders = true)
    (hok : phiOk l.toArray (needs ns) lo.length = true) (hd : l.toArray.all noDefer = true)
    (hI : ∀ p ∈ ps, ∀ w w', I w → R p.1 w w' → I w') (hS : ∀ p ∈ ps, ∀ p' ∈ ps, p'.1 ≠ p.1 → ks.lookup p.1 ≠ some p'.1 → p'.1 ∉ needs ns p.1 → ∀ w w' v, I w → R p'.1 w w' → p.2.fact w v → p.2.fact w' v)
    (hU : ∀ p ∈ ps, ∀ u ∈ us, u.1 ≠ p.1 → ∀ w w', I w → R p.1 w w' → u.2 w → u.2 w') (hu0 : ∀ u ∈ us, u.2 w.drew)
    (hw : I w.drew) (h : wpPhiU P l.toArray (wpList P l.toArray (InQ Q) tl) I R (planOf ps) (needs ns) us (fun i => ks.lookup i) 0 lo a₀ []) : (Code.region id l.toArray true).wpIn F n P Q a₀ w := by
  subst hl
  exact wpIn_mono (wpIn_region_any hm (any_in hF hd (InQ.no Q) _ _ _ _ (any_phi_RU lo tl R I ps ns us ks hok hI hS hU hu0 hw h))) fun _ _ _ h => h.2
/-- a region that only reads: its operations are pure -/
theorem wp_pure_in {F : Fence} {n : Nat} {P : Program} {Q : Exit → Act → World → Prop} {a₀ : Act} {id : Nat} {w : World} {l : List Oper} (hF : FreeF F) (I : World → Prop) (hm : P.follows .mixedOrders = true)
    (hok : phiOk l.toArray (needs []) l.length = true) (hd : l.toArray.all noDefer = true) (hw : I w.drew)
    (h : wpPhiU P l.toArray (wpList P l.toArray (InQ Q) []) I (fun _ w w' => Below w.heap.size w w') (planOf []) (needs []) [] (fun i => ([] : List (Nat × Nat)).lookup i) 0 l a₀ []) : (Code.region id l.toArray true).wpIn F n P Q a₀ w :=
  wp_phiU_tail_in (l := l) hF l [] (List.append_nil l).symm (fun _ w w' => Below w.heap.size w w') I [] [] [] [] hm hok hd (fun p hp => by cases hp) (fun p hp => by cases hp) (fun p hp => by cases hp) (fun p hp => by cases hp) hw h
end Go.Proofs.YtoiknidlincdkaaDoor
