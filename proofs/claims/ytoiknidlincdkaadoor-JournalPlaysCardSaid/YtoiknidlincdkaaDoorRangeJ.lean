/-
  RangeJ: a range over a function whose body always goes on; what the iterator hands over may be known in memory. No program.
-/
import Derived.Test.YtoiknidlincdkaaDoorJA
import Derived.RangeFuncNested
import Derived.RangeFuncBound
import Derived.RangeFuncCalls
import Derived.RangeFuncLeaves
namespace Go.Proofs.YtoiknidlincdkaaDoor
open Go.RowKit

/-- W' has all cells that W had, and all that lay below B -/
structure Sees (B : Nat) (W W' : World) : Prop where
  os : W'.os = W.os
  tape : W'.tape = W.tape
  output : W'.output = W.output
  size : W.heap.size ≤ W'.heap.size
  low : ∀ i, i < B → i < W.heap.size → W'.heap[i]? = W.heap[i]?
  cells : ∀ (i : Nat) (o : Obj), W.heap[i]? = some o → o.isCells = true → W'.heap[i]? = some o
theorem Sees.refl (B : Nat) (W : World) : Sees B W W := ⟨rfl, rfl, rfl, Nat.le_refl _, fun _ _ _ => rfl, fun _ _ h _ => h⟩
theorem Sees.trans {B : Nat} {X Y Z : World} (h : Sees B X Y) (k : Sees B Y Z) : Sees B X Z :=
  ⟨k.os.trans h.os, k.tape.trans h.tape, k.output.trans h.output, Nat.le_trans h.size k.size, fun i hi hx => (k.low i hi (Nat.lt_of_lt_of_le hx h.size)).trans (h.low i hi hx), fun i o hi ho => k.cells i o (h.cells i o hi ho) ho⟩
theorem Sees.of_below {B : Nat} {W W' : World} (h : Below W.heap.size W W') : Sees B W W' :=
  ⟨h.os, h.tape, h.output, h.size, fun i _ hi => h.block i hi, fun i o hi _ => (h.block i (Array.getElem?_eq_some_iff.1 hi).1).trans hi⟩
theorem Sees.putObj {B l : Nat} {W : World} {o : Obj} (o' : Obj) (hB : B ≤ l) (h : W.heap[l]? = some o) (ho : o.isCells = false) : Sees B W (W.putObj l o') := by
  have hg := grownBy_putObj' W l o'
  refine ⟨hg.os, hg.tape, hg.output, hg.size, fun i hi hx => hg.block i hx (fun e => ?_), fun i u hi hu => (hg.block i (Array.getElem?_eq_some_iff.1 hi).1 (fun e => ?_)).trans hi⟩
  · cases e; omega
  · cases e
    rw [h] at hi
    cases hi
    rw [ho] at hu
    cases hu
theorem Sees.blk {B g : Nat} {W W' : World} {t : TypeId} {cs : Array Value} (h : Sees B W W') (hb : Blk W g t cs) : Blk W' g t cs := h.cells g _ hb rfl
theorem Sees.owns {B base size n : Nat} {W W' : World} {e : TypeId} {v : Value} {xs : List Value} (h : Sees B W W') (ho : W.ownsRow base e size v n xs) : W'.ownsRow base e size v n xs := by
  refine ⟨ho.1, ?_⟩
  rcases ho.2 with h2 | ⟨g, cap, cur, rfl, hB, hh, r⟩
  · exact .inl h2
  · exact .inr ⟨g, cap, cur, rfl, hB, h.cells g _ hh rfl, r⟩
theorem Sees.below {B n₀ : Nat} {w W W' : World} (h : Sees B W W') (hn : n₀ ≤ B) (hb : Below n₀ w W) (hs : n₀ ≤ W.heap.size) : Below n₀ w W' :=
  ⟨h.os.trans hb.os, h.tape.trans hb.tape, h.output.trans hb.output, Nat.le_trans hb.size h.size, fun i hi => (h.low i (by omega) (by omega)).trans (hb.block i hi)⟩
variable {F : Fence} {n : Nat} {P : Program}
/-- THE LAW: J k holds behind k rounds; at the k-th round the iterator hands over what is known by Kn, having made new memory alone since J k held -/
theorem wpIn_rangeJ {g : Operand} {ps : Array Tmp} {assign body : Code} {Q : Exit → Act → World → Prop} {a : Act} {w : World}
    (hro : F.round = none) (h1 : 1 ≤ n) {gf : Nat} {lb : Array Value} (hg : a.eval g = .func (.func gf) #[] lb) (hFg : F.fn gf) (eg : ∀ args w, (callFunc gf args).run P w = .ok (.enter gf args) w)
    (J : Nat → World → Prop) (Kn : Nat → Array Value → World → World → Prop) (m : Nat)
    (hJ : ∀ k W W', J k W → Sees w.heap.size W W' → J k W') (hKn : ∀ k args A W W', Kn k args A W → Sees w.heap.size W W' → Kn k args A W') (h0 : J 0 w)
    (hps : ∀ k args A W, Kn k args A W → args.size = ps.size) (a₁ : Array Value → Act)
    (hiter : ∀ (l : Nat) (W : World) (J' : Nat → World → Prop), Below w.heap.size w W → (∀ k A B, J' k A → Below A.heap.size A B → J' k B) → (∀ k A, J' k A → J k A) →
      (∀ k args A W, k < m → J' k A → Below A.heap.size A W → Kn k args A W → YieldAt F (n - 1 - 1) P l args W fun e W' => e = .returned (.bool true) ∧ J' (k + 1) W') → J' 0 W →
      CallsIn F (n - 1) P gf (#[.func (.yield l) #[] #[]] ++ lb) W fun e W' => (∃ v, e = .returned v) ∧ J' m W')
    (hassign : ∀ (l k : Nat) (args : Array Value) (A W : World) (K : Act → World → Prop), Kn k args A W → K (a₁ args) W →
      assign.wpIn (F.inRound l) (n - 1 - 1) P (Exit.then K (fun _ _ _ => False)) { tmps := (ps.zip args).foldl (fun t (p, v) => t.setIfInBounds p v) a.tmps, defers := [] } W)
    (hbody : ∀ (l k : Nat) (args : Array Value) (A W : World), k < m → J k A → Sees w.heap.size A W → Kn k args A W →
      body.wpIn (F.inRound l) (n - 1 - 1) P (fun e _ W' => e = .normal ∧ KeepsFrom w.heap.size W W' ∧ J (k + 1) W') (a₁ args) W)
    (hdone : ∀ (D : Nat) (W : World), w.heap.size ≤ D → J m W → W.heap[D]? = some (.deferred (some [])) → Q .normal { a with defers := { target := .collected D, args := #[] } :: a.defers } W) :
    (Code.rangeFunc g ps assign body).wpIn F n P Q a w := by
  refine wpIn_rangeFunc fun fn hfn => ?_
  rw [hro]
  obtain ⟨L, hL⟩ : ∃ L : LoopState → Loop, L = fun st => { state := st, pending := none, fn, tmps := a.tmps, params := ps, assign, body, defers := w.heap.size } := ⟨_, rfl⟩
  obtain ⟨W1, hW1⟩ : ∃ W1, (w.alloc (.deferred (some []))).alloc (.loop (L .ready)) = W1 := ⟨_, rfl⟩
  have hsz1 : W1.heap.size = w.heap.size + 2 := by rw [← hW1, World.size_alloc, World.size_alloc]
  have hb1 : Below w.heap.size w W1 := by rw [← hW1]; exact below_alloc (below_alloc1 w _) _
  have hloop : W1.heap[w.heap.size + 1]? = some (.loop (L .ready)) := by
    rw [← hW1]
    have := heap_alloc_new (w.alloc (.deferred (some []))) (.loop (L .ready))
    rwa [World.size_alloc] at this
  have hdef : W1.heap[w.heap.size]? = some (.deferred (some [])) := by
    rw [← hW1]
    exact (Below.heap_alloc _ _ _ (by rw [World.size_alloc]; omega)).trans (heap_alloc_new w _)
  -- J and the two blocks of the loop's own
  obtain ⟨J', hJ'⟩ : ∃ J' : Nat → World → Prop, J' = fun k W => J k W ∧ W.heap[w.heap.size + 1]? = some (.loop (L .ready)) ∧ W.heap[w.heap.size]? = some (.deferred (some [])) := ⟨_, rfl⟩
  have keep : ∀ k A B, J' k A → Below A.heap.size A B → J' k B := by
    intro k A B h hb
    rw [hJ'] at h ⊢
    exact ⟨hJ k A B h.1 (Sees.of_below hb), (hb.block _ (Array.getElem?_eq_some_iff.1 h.2.1).1).trans h.2.1, (hb.block _ (Array.getElem?_eq_some_iff.1 h.2.2).1).trans h.2.2⟩
  refine ⟨w.heap.size + 1, [{ target := .collected w.heap.size, args := #[] }], W1, { target := .fn (.func gf) lb, args := #[.func (.yield (w.heap.size + 1)) #[] #[]] }, W1, gf,
    #[.func (.yield (w.heap.size + 1)) #[] #[]] ++ lb, W1, ?_, ?_, ?_, ?_, fun _ => h1, ?_⟩
  · rw [← hW1, hL]
    exact run_enterLoop_outer _ _ _ _ _
  · simp only [resolve, hg]
    simp [go_sem]
  · intro f' hf'
    simp [Target.leads] at hf'
    subst hf'
    exact hFg
  · simp [invoke, go_sem, eg]
  · refine (hiter (w.heap.size + 1) W1 J' hb1 keep (fun k A h => by rw [hJ'] at h; exact h.1) ?_ ?_).mono ?_
    · -- one round
      intro k args A W hk hA hAW hkn
      have hW := keep k A W hA hAW
      rw [hJ'] at hW hA
      obtain ⟨hi, hl, hd⟩ := hW
      have hlt : w.heap.size + 1 < W.heap.size := (Array.getElem?_eq_some_iff.1 hl).1
      have hy := run_yield (P := P) (args := args) hl (by rw [hL]; exact hps k args A W hkn)
      rw [hL] at hy
      refine ⟨fn, _, assign, body, hy, roundIn_of_wpIn hfn (hassign _ k args A W _ hkn ⟨_, run_beginRound hl (by rw [hL]), ?_⟩)⟩
      obtain ⟨W2, hW2⟩ : ∃ W2, W.putObj (w.heap.size + 1) (.loop { L .ready with state := .busy }) = W2 := ⟨_, rfl⟩
      have hs2 : Sees w.heap.size W W2 := by rw [← hW2]; exact Sees.putObj _ (by omega) hl rfl
      have hl2 : W2.heap[w.heap.size + 1]? = some (.loop { L .ready with state := .busy }) := by rw [← hW2]; exact World.putObj_heap_same hlt
      have hd2 : W2.heap[w.heap.size]? = some (.deferred (some [])) := by rw [← hW2]; exact (World.putObj_heap_other (by omega)).trans hd
      rw [hW2]
      refine wpIn_mono (hbody _ k args A W2 hk hA.1 ((Sees.of_below hAW).trans hs2) (hKn k args A W W2 hkn hs2)) ?_
      rintro e a3 W3 ⟨rfl, hk3, hj3⟩
      have hl3 := hk3.same _ _ (by omega) hl2 rfl
      have hd3 := hk3.same _ _ (Nat.le_refl _) hd2 rfl
      have hr := run_endRound (P := P) none hl3
      refine ⟨_, _, hr, rfl, ?_⟩
      rw [hJ']
      refine ⟨hJ _ _ _ hj3 (Sees.putObj _ (by omega) hl3 rfl), ?_, (World.putObj_heap_other (by omega)).trans hd3⟩
      rw [World.putObj_heap_same (Array.getElem?_eq_some_iff.1 hl3).1, hL]
      rfl
    · rw [hJ']
      exact ⟨hJ 0 w W1 h0 ⟨hb1.os, hb1.tape, hb1.output, hb1.size, fun i hi _ => hb1.block i hi, fun i o hi _ => (hb1.block i (Array.getElem?_eq_some_iff.1 hi).1).trans hi⟩, hloop, hdef⟩
    · rintro e W2 ⟨⟨v, rfl⟩, hj⟩
      rw [hJ'] at hj
      obtain ⟨hj, hl, hd⟩ := hj
      refine ⟨none, _, by have := run_endLoop (P := P) hl (by rw [hL]; simp); rw [hL] at this; exact this, hdone _ _ (Nat.le_refl _) (hJ _ _ _ hj (Sees.putObj _ (by omega) hl rfl)) ((World.putObj_heap_other (by omega)).trans hd)⟩
end Go.Proofs.YtoiknidlincdkaaDoor
