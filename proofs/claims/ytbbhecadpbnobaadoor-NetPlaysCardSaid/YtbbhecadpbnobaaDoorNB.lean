/-
  RangeJ: a range over a function whose body always goes on; what the iterator hands over may be known in memory. No program.
  RangeK: as RangeJ, where the round's variables are blocks of their own. No program.
  RangeL: as RangeK, where the body leaves what was made since the range began. No program.
  PhiIn: a region that draws its order, within a fence (a range over a function: its iterator, its body). No program.
-/
import Derived.Test.YtbbhecadpbnobaaDoorNA
import Derived.RangeFuncNested
import Derived.RangeFuncBound
import Derived.RangeFuncCalls
import Derived.RangeFuncLeaves
import Derived.OrdersIn
import Derived.RangeFuncWrites
namespace Go.Proofs.YtbbhecadpbnobaaDoor
open Go.RowKit

/-- W' has all cells that W had, and all that lay below B -/
structure Sees (B : Nat) (W W' : World) : Prop where
  os : W'.os = W.os
  tape : W'.tape = W.tape
  output : W'.output = W.output
  size : W.heap.size ≤ W'.heap.size
  low : ∀ i, i < B → i < W.heap.size → W'.heap[i]? = W.heap[i]?
  cells : ∀ (i : Nat) (o : Obj), W.heap[i]? = some o → o.isCells = true → W'.heap[i]? = some o
theorem Sees.refl (B : Nat) (W : World) : Sees B W W := ⟨rfl, rfl, rfl, Nat.le_refl _, fun _ _ _ => rfl, fun _ _ h _ => h⟩
theorem Sees.trans {B : Nat} {X Y Z : World} (h : Sees B X Y) (k : Sees B Y Z) : Sees B X Z :=
  ⟨k.os.trans h.os, k.tape.trans h.tape, k.output.trans h.output, Nat.le_trans h.size k.size, fun i hi hx => (k.low i hi (Nat.lt_of_lt_of_le hx h.size)).trans (h.low i hi hx), fun i o hi ho => k.cells i o (h.cells i o hi ho) ho⟩
theorem Sees.of_below {B : Nat} {W W' : World} (h : Below W.heap.size W W') : Sees B W W' :=
  ⟨h.os, h.tape, h.output, h.size, fun i _ hi => h.block i hi, fun i o hi _ => (h.block i (Array.getElem?_eq_some_iff.1 hi).1).trans hi⟩
theorem Sees.putObj {B l : Nat} {W : World} {o : Obj} (o' : Obj) (hB : B ≤ l) (h : W.heap[l]? = some o) (ho : o.isCells = false) : Sees B W (W.putObj l o') := by
  have hg := grownBy_putObj' W l o'
  refine ⟨hg.os, hg.tape, hg.output, hg.size, fun i hi hx => hg.block i hx (fun e => ?_), fun i u hi hu => (hg.block i (Array.getElem?_eq_some_iff.1 hi).1 (fun e => ?_)).trans hi⟩
  · cases e; omega
  · cases e
    rw [h] at hi
    cases hi
    rw [ho] at hu
    cases hu
theorem Sees.blk {B g : Nat} {W W' : World} {t : TypeId} {cs : Array Value} (h : Sees B W W') (hb : Blk W g t cs) : Blk W' g t cs := h.cells g _ hb rfl
theorem Sees.owns {B base size n : Nat} {W W' : World} {e : TypeId} {v : Value} {xs : List Value} (h : Sees B W W') (ho : W.ownsRow base e size v n xs) : W'.ownsRow base e size v n xs := by
  refine ⟨ho.1, ?_⟩
  rcases ho.2 with h2 | ⟨g, cap, cur, rfl, hB, hh, r⟩
  · exact .inl h2
  · exact .inr ⟨g, cap, cur, rfl, hB, h.cells g _ hh rfl, r⟩
theorem Sees.below {B n₀ : Nat} {w W W' : World} (h : Sees B W W') (hn : n₀ ≤ B) (hb : Below n₀ w W) (hs : n₀ ≤ W.heap.size) : Below n₀ w W' :=
  ⟨h.os.trans hb.os, h.tape.trans hb.tape, h.output.trans hb.output, Nat.le_trans hb.size h.size, fun i hi => (h.low i (by omega) (by omega)).trans (hb.block i hi)⟩
variable {F : Fence} {n : Nat} {P : Program}
/-- THE LAW: J k holds behind k rounds; at the k-th round the iterator hands over what is known by Kn, having made new memory alone since J k held -/
theorem wpIn_rangeJ {g : Operand} {ps : Array Tmp} {assign body : Code} {Q : Exit → Act → World → Prop} {a : Act} {w : World}
    (hro : F.round = none) (h1 : 1 ≤ n) {gf : Nat} {lb : Array Value} (hg : a.eval g = .func (.func gf) #[] lb) (hFg : F.fn gf) (eg : ∀ args w, (callFunc gf args).run P w = .ok (.enter gf args) w)
    (J : Nat → World → Prop) (Kn : Nat → Array Value → World → World → Prop) (m : Nat)
    (hJ : ∀ k W W', J k W → Sees w.heap.size W W' → J k W') (hKn : ∀ k args A W W', Kn k args A W → Sees w.heap.size W W' → Kn k args A W') (h0 : J 0 w)
    (hps : ∀ k args A W, Kn k args A W → args.size = ps.size) (a₁ : Array Value → Act)
    (hiter : ∀ (l : Nat) (W : World) (J' : Nat → World → Prop), Below w.heap.size w W → (∀ k A B, J' k A → Below A.heap.size A B → J' k B) → (∀ k A, J' k A → J k A) →
      (∀ k args A W, k < m → J' k A → Below A.heap.size A W → Kn k args A W → YieldAt F (n - 1 - 1) P l args W fun e W' => e = .returned (.bool true) ∧ J' (k + 1) W') → J' 0 W →
      CallsIn F (n - 1) P gf (#[.func (.yield l) #[] #[]] ++ lb) W fun e W' => (∃ v, e = .returned v) ∧ J' m W')
    (hassign : ∀ (l k : Nat) (args : Array Value) (A W : World) (K : Act → World → Prop), Kn k args A W → K (a₁ args) W →
      assign.wpIn (F.inRound l) (n - 1 - 1) P (Exit.then K (fun _ _ _ => False)) { tmps := (ps.zip args).foldl (fun t (p, v) => t.setIfInBounds p v) a.tmps, defers := [] } W)
    (hbody : ∀ (l k : Nat) (args : Array Value) (A W : World), k < m → J k A → Sees w.heap.size A W → Kn k args A W →
      body.wpIn (F.inRound l) (n - 1 - 1) P (fun e _ W' => e = .normal ∧ KeepsFrom w.heap.size W W' ∧ J (k + 1) W') (a₁ args) W)
    (hdone : ∀ (D : Nat) (W : World), w.heap.size ≤ D → J m W → W.heap[D]? = some (.deferred (some [])) → Q .normal { a with defers := { target := .collected D, args := #[] } :: a.defers } W) :
    (Code.rangeFunc g ps assign body).wpIn F n P Q a w := by
  refine wpIn_rangeFunc fun fn hfn => ?_
  rw [hro]
  obtain ⟨L, hL⟩ : ∃ L : LoopState → Loop, L = fun st => { state := st, pending := none, fn, tmps := a.tmps, params := ps, assign, body, defers := w.heap.size } := ⟨_, rfl⟩
  obtain ⟨W1, hW1⟩ : ∃ W1, (w.alloc (.deferred (some []))).alloc (.loop (L .ready)) = W1 := ⟨_, rfl⟩
  have hsz1 : W1.heap.size = w.heap.size + 2 := by rw [← hW1, World.size_alloc, World.size_alloc]
  have hb1 : Below w.heap.size w W1 := by rw [← hW1]; exact below_alloc (below_alloc1 w _) _
  have hloop : W1.heap[w.heap.size + 1]? = some (.loop (L .ready)) := by
    rw [← hW1]
    have := heap_alloc_new (w.alloc (.deferred (some []))) (.loop (L .ready))
    rwa [World.size_alloc] at this
  have hdef : W1.heap[w.heap.size]? = some (.deferred (some [])) := by
    rw [← hW1]
    exact (Below.heap_alloc _ _ _ (by rw [World.size_alloc]; omega)).trans (heap_alloc_new w _)
  -- J and the two blocks of the loop's own
  obtain ⟨J', hJ'⟩ : ∃ J' : Nat → World → Prop, J' = fun k W => J k W ∧ W.heap[w.heap.size + 1]? = some (.loop (L .ready)) ∧ W.heap[w.heap.size]? = some (.deferred (some [])) := ⟨_, rfl⟩
  have keep : ∀ k A B, J' k A → Below A.heap.size A B → J' k B := by
    intro k A B h hb
    rw [hJ'] at h ⊢
    exact ⟨hJ k A B h.1 (Sees.of_below hb), (hb.block _ (Array.getElem?_eq_some_iff.1 h.2.1).1).trans h.2.1, (hb.block _ (Array.getElem?_eq_some_iff.1 h.2.2).1).trans h.2.2⟩
  refine ⟨w.heap.size + 1, [{ target := .collected w.heap.size, args := #[] }], W1, { target := .fn (.func gf) lb, args := #[.func (.yield (w.heap.size + 1)) #[] #[]] }, W1, gf,
    #[.func (.yield (w.heap.size + 1)) #[] #[]] ++ lb, W1, ?_, ?_, ?_, ?_, fun _ => h1, ?_⟩
  · rw [← hW1, hL]
    exact run_enterLoop_outer _ _ _ _ _
  · simp only [resolve, hg]
    simp [go_sem]
  · intro f' hf'
    simp [Target.leads] at hf'
    subst hf'
    exact hFg
  · simp [invoke, go_sem, eg]
  · refine (hiter (w.heap.size + 1) W1 J' hb1 keep (fun k A h => by rw [hJ'] at h; exact h.1) ?_ ?_).mono ?_
    · -- one round
      intro k args A W hk hA hAW hkn
      have hW := keep k A W hA hAW
      rw [hJ'] at hW hA
      obtain ⟨hi, hl, hd⟩ := hW
      have hlt : w.heap.size + 1 < W.heap.size := (Array.getElem?_eq_some_iff.1 hl).1
      have hy := run_yield (P := P) (args := args) hl (by rw [hL]; exact hps k args A W hkn)
      rw [hL] at hy
      refine ⟨fn, _, assign, body, hy, roundIn_of_wpIn hfn (hassign _ k args A W _ hkn ⟨_, run_beginRound hl (by rw [hL]), ?_⟩)⟩
      obtain ⟨W2, hW2⟩ : ∃ W2, W.putObj (w.heap.size + 1) (.loop { L .ready with state := .busy }) = W2 := ⟨_, rfl⟩
      have hs2 : Sees w.heap.size W W2 := by rw [← hW2]; exact Sees.putObj _ (by omega) hl rfl
      have hl2 : W2.heap[w.heap.size + 1]? = some (.loop { L .ready with state := .busy }) := by rw [← hW2]; exact World.putObj_heap_same hlt
      have hd2 : W2.heap[w.heap.size]? = some (.deferred (some [])) := by rw [← hW2]; exact (World.putObj_heap_other (by omega)).trans hd
      rw [hW2]
      refine wpIn_mono (hbody _ k args A W2 hk hA.1 ((Sees.of_below hAW).trans hs2) (hKn k args A W W2 hkn hs2)) ?_
      rintro e a3 W3 ⟨rfl, hk3, hj3⟩
      have hl3 := hk3.same _ _ (by omega) hl2 rfl
      have hd3 := hk3.same _ _ (Nat.le_refl _) hd2 rfl
      have hr := run_endRound (P := P) none hl3
      refine ⟨_, _, hr, rfl, ?_⟩
      rw [hJ']
      refine ⟨hJ _ _ _ hj3 (Sees.putObj _ (by omega) hl3 rfl), ?_, (World.putObj_heap_other (by omega)).trans hd3⟩
      rw [World.putObj_heap_same (Array.getElem?_eq_some_iff.1 hl3).1, hL]
      rfl
    · rw [hJ']
      exact ⟨hJ 0 w W1 h0 ⟨hb1.os, hb1.tape, hb1.output, hb1.size, fun i hi _ => hb1.block i hi, fun i o hi _ => (hb1.block i (Array.getElem?_eq_some_iff.1 hi).1).trans hi⟩, hloop, hdef⟩
    · rintro e W2 ⟨⟨v, rfl⟩, hj⟩
      rw [hJ'] at hj
      obtain ⟨hj, hl, hd⟩ := hj
      refine ⟨none, _, by have := run_endLoop (P := P) hl (by rw [hL]; simp); rw [hL] at this; exact this, hdone _ _ (Nat.le_refl _) (hJ _ _ _ hj (Sees.putObj _ (by omega) hl rfl)) ((World.putObj_heap_other (by omega)).trans hd)⟩
end Go.Proofs.YtbbhecadpbnobaaDoor

namespace Go.Proofs.YtbbhecadpbnobaaDoor
open Go.RowKit

variable {F : Fence} {n : Nat} {P : Program}
/-- THE LAW, where the variables of the round are blocks of their own (Bd: what the round's beginning has made): J k holds behind k rounds; at the k-th round the iterator hands over what is known by Kn, having made new memory alone since J k held -/
theorem wpIn_rangeK {g : Operand} {ps : Array Tmp} {assign body : Code} {Q : Exit → Act → World → Prop} {a : Act} {w : World}
    (hro : F.round = none) (h1 : 1 ≤ n) {gf : Nat} {lb : Array Value} (hg : a.eval g = .func (.func gf) #[] lb) (hFg : F.fn gf) (eg : ∀ args w, (callFunc gf args).run P w = .ok (.enter gf args) w)
    (J : Nat → World → Prop) (Kn : Nat → Array Value → World → World → Prop) (m : Nat)
    (hJ : ∀ k W W', J k W → Sees w.heap.size W W' → J k W') (h0 : J 0 w)
    (Bd : Nat → Array Value → Act → World → World → Prop) (hBd : ∀ k args a' A W W', Bd k args a' A W → Sees w.heap.size W W' → Bd k args a' A W')
    (hps : ∀ k args A W, Kn k args A W → args.size = ps.size)
    (hiter : ∀ (l : Nat) (W : World) (J' : Nat → World → Prop), Below w.heap.size w W → (∀ k A B, J' k A → Below A.heap.size A B → J' k B) → (∀ k A, J' k A → J k A) →
      (∀ k args A W, k < m → J' k A → Below A.heap.size A W → Kn k args A W → YieldAt F (n - 1 - 1) P l args W fun e W' => e = .returned (.bool true) ∧ J' (k + 1) W') → J' 0 W →
      CallsIn F (n - 1) P gf (#[.func (.yield l) #[] #[]] ++ lb) W fun e W' => (∃ v, e = .returned v) ∧ J' m W')
    (hassign : ∀ (l k : Nat) (args : Array Value) (A W : World) (K : Act → World → Prop), Kn k args A W → J k A → Below A.heap.size A W → (∀ a' W', Below W.heap.size W W' → Bd k args a' A W' → K a' W') →
      assign.wpIn (F.inRound l) (n - 1 - 1) P (Exit.then K (fun _ _ _ => False)) { tmps := (ps.zip args).foldl (fun t (p, v) => t.setIfInBounds p v) a.tmps, defers := [] } W)
    (hbody : ∀ (l k : Nat) (args : Array Value) (a' : Act) (A W : World), k < m → J k A → Sees w.heap.size A W → Bd k args a' A W →
      body.wpIn (F.inRound l) (n - 1 - 1) P (fun e _ W' => e = .normal ∧ KeepsFrom w.heap.size W W' ∧ J (k + 1) W') a' W)
    (hdone : ∀ (D : Nat) (W : World), w.heap.size ≤ D → J m W → W.heap[D]? = some (.deferred (some [])) → Q .normal { a with defers := { target := .collected D, args := #[] } :: a.defers } W) :
    (Code.rangeFunc g ps assign body).wpIn F n P Q a w := by
  refine wpIn_rangeFunc fun fn hfn => ?_
  rw [hro]
  obtain ⟨L, hL⟩ : ∃ L : LoopState → Loop, L = fun st => { state := st, pending := none, fn, tmps := a.tmps, params := ps, assign, body, defers := w.heap.size } := ⟨_, rfl⟩
  obtain ⟨W1, hW1⟩ : ∃ W1, (w.alloc (.deferred (some []))).alloc (.loop (L .ready)) = W1 := ⟨_, rfl⟩
  have hsz1 : W1.heap.size = w.heap.size + 2 := by rw [← hW1, World.size_alloc, World.size_alloc]
  have hb1 : Below w.heap.size w W1 := by rw [← hW1]; exact below_alloc (below_alloc1 w _) _
  have hloop : W1.heap[w.heap.size + 1]? = some (.loop (L .ready)) := by
    rw [← hW1]
    have := heap_alloc_new (w.alloc (.deferred (some []))) (.loop (L .ready))
    rwa [World.size_alloc] at this
  have hdef : W1.heap[w.heap.size]? = some (.deferred (some [])) := by
    rw [← hW1]
    exact (Below.heap_alloc _ _ _ (by rw [World.size_alloc]; omega)).trans (heap_alloc_new w _)
  -- J and the two blocks of the loop's own
  obtain ⟨J', hJ'⟩ : ∃ J' : Nat → World → Prop, J' = fun k W => J k W ∧ W.heap[w.heap.size + 1]? = some (.loop (L .ready)) ∧ W.heap[w.heap.size]? = some (.deferred (some [])) := ⟨_, rfl⟩
  have keep : ∀ k A B, J' k A → Below A.heap.size A B → J' k B := by
    intro k A B h hb
    rw [hJ'] at h ⊢
    exact ⟨hJ k A B h.1 (Sees.of_below hb), (hb.block _ (Array.getElem?_eq_some_iff.1 h.2.1).1).trans h.2.1, (hb.block _ (Array.getElem?_eq_some_iff.1 h.2.2).1).trans h.2.2⟩
  refine ⟨w.heap.size + 1, [{ target := .collected w.heap.size, args := #[] }], W1, { target := .fn (.func gf) lb, args := #[.func (.yield (w.heap.size + 1)) #[] #[]] }, W1, gf,
    #[.func (.yield (w.heap.size + 1)) #[] #[]] ++ lb, W1, ?_, ?_, ?_, ?_, fun _ => h1, ?_⟩
  · rw [← hW1, hL]
    exact run_enterLoop_outer _ _ _ _ _
  · simp only [resolve, hg]
    simp [go_sem]
  · intro f' hf'
    simp [Target.leads] at hf'
    subst hf'
    exact hFg
  · simp [invoke, go_sem, eg]
  · refine (hiter (w.heap.size + 1) W1 J' hb1 keep (fun k A h => by rw [hJ'] at h; exact h.1) ?_ ?_).mono ?_
    · -- one round
      intro k args A W hk hA hAW hkn
      have hW := keep k A W hA hAW
      rw [hJ'] at hW hA
      obtain ⟨hi, hl, hd⟩ := hW
      have hlt : w.heap.size + 1 < W.heap.size := (Array.getElem?_eq_some_iff.1 hl).1
      have hy := run_yield (P := P) (args := args) hl (by rw [hL]; exact hps k args A W hkn)
      rw [hL] at hy
      refine ⟨fn, _, assign, body, hy, roundIn_of_wpIn hfn (hassign _ k args A W _ hkn hA.1 hAW fun a' W9 hb9 hbd => ?_)⟩
      have hl := (hb9.block _ hlt).trans hl
      have hd := (hb9.block _ (Array.getElem?_eq_some_iff.1 hd).1).trans hd
      have hAW := hAW.trans (hb9.mono hAW.size)
      have hlt : w.heap.size + 1 < W9.heap.size := (Array.getElem?_eq_some_iff.1 hl).1
      clear hy hb9
      refine ⟨_, run_beginRound hl (by rw [hL]), ?_⟩
      obtain ⟨W2, hW2⟩ : ∃ W2, W9.putObj (w.heap.size + 1) (.loop { L .ready with state := .busy }) = W2 := ⟨_, rfl⟩
      have hs2 : Sees w.heap.size W9 W2 := by rw [← hW2]; exact Sees.putObj _ (by omega) hl rfl
      have hl2 : W2.heap[w.heap.size + 1]? = some (.loop { L .ready with state := .busy }) := by rw [← hW2]; exact World.putObj_heap_same hlt
      have hd2 : W2.heap[w.heap.size]? = some (.deferred (some [])) := by rw [← hW2]; exact (World.putObj_heap_other (by omega)).trans hd
      rw [hW2]
      refine wpIn_mono (hbody _ k args a' A W2 hk hA.1 ((Sees.of_below hAW).trans hs2) (hBd k args a' A W9 W2 hbd hs2)) ?_
      rintro e a3 W3 ⟨rfl, hk3, hj3⟩
      have hl3 := hk3.same _ _ (by omega) hl2 rfl
      have hd3 := hk3.same _ _ (Nat.le_refl _) hd2 rfl
      have hr := run_endRound (P := P) none hl3
      refine ⟨_, _, hr, rfl, ?_⟩
      rw [hJ']
      refine ⟨hJ _ _ _ hj3 (Sees.putObj _ (by omega) hl3 rfl), ?_, (World.putObj_heap_other (by omega)).trans hd3⟩
      rw [World.putObj_heap_same (Array.getElem?_eq_some_iff.1 hl3).1, hL]
      rfl
    · rw [hJ']
      exact ⟨hJ 0 w W1 h0 ⟨hb1.os, hb1.tape, hb1.output, hb1.size, fun i hi _ => hb1.block i hi, fun i o hi _ => (hb1.block i (Array.getElem?_eq_some_iff.1 hi).1).trans hi⟩, hloop, hdef⟩
    · rintro e W2 ⟨⟨v, rfl⟩, hj⟩
      rw [hJ'] at hj
      obtain ⟨hj, hl, hd⟩ := hj
      refine ⟨none, _, by have := run_endLoop (P := P) hl (by rw [hL]; simp); rw [hL] at this; exact this, hdone _ _ (Nat.le_refl _) (hJ _ _ _ hj (Sees.putObj _ (by omega) hl rfl)) ((World.putObj_heap_other (by omega)).trans hd)⟩
end Go.Proofs.YtbbhecadpbnobaaDoor

namespace Go.Proofs.YtbbhecadpbnobaaDoor
open Go.RowKit

/-- what was made from B on stays -/
def KB (B : Nat) (W W' : World) : Prop := ∀ (g : Nat) (t : TypeId) (cs : Array Value), B ≤ g → Blk W g t cs → Blk W' g t cs
theorem KB.refl (B : Nat) (W : World) : KB B W W := fun _ _ _ _ h => h
theorem KB.trans {B : Nat} {X Y Z : World} (h : KB B X Y) (k : KB B Y Z) : KB B X Z := fun g t cs hg hb => k g t cs hg (h g t cs hg hb)
theorem KB.of_below {B : Nat} {W W' : World} (h : Below W.heap.size W W') : KB B W W' := fun _ _ _ _ hb => hb.below h hb.lt
theorem KB.of_sees {B C : Nat} {W W' : World} (h : Sees C W W') : KB B W W' := fun _ _ _ _ hb => h.blk hb
variable {F : Fence} {n : Nat} {P : Program}
/-- THE LAW, where the variables of the round are blocks of their own (Bd: what the round's beginning has made): J k holds behind k rounds; at the k-th round the iterator hands over what is known by Kn, having made new memory alone since J k held -/
theorem wpIn_rangeL {g : Operand} {ps : Array Tmp} {assign body : Code} {Q : Exit → Act → World → Prop} {a : Act} {w : World}
    (hro : F.round = none) (h1 : 1 ≤ n) {gf : Nat} {lb : Array Value} (hg : a.eval g = .func (.func gf) #[] lb) (hFg : F.fn gf) (eg : ∀ args w, (callFunc gf args).run P w = .ok (.enter gf args) w)
    (J : Nat → World → Prop) (Kn : Nat → Array Value → World → World → Prop) (m : Nat)
    (hJ : ∀ k W W', J k W → Sees w.heap.size W W' → J k W') (h0 : J 0 w)
    (Bd : Nat → Array Value → Act → World → World → Prop) (hBd : ∀ k args a' A W W', Bd k args a' A W → Sees w.heap.size W W' → Bd k args a' A W')
    (hps : ∀ k args A W, Kn k args A W → args.size = ps.size)
    (hiter : ∀ (l : Nat) (W : World) (J' : Nat → World → Prop), Below w.heap.size w W → (∀ k A B, J' k A → Below A.heap.size A B → J' k B) → (∀ k A, J' k A → J k A) →
      (∀ k args A W, k < m → J' k A → Below A.heap.size A W → Kn k args A W → YieldAt F (n - 1 - 1) P l args W fun e W' => e = .returned (.bool true) ∧ J' (k + 1) W' ∧ KB w.heap.size W W') → J' 0 W →
      CallsIn F (n - 1) P gf (#[.func (.yield l) #[] #[]] ++ lb) W fun e W' => (∃ v, e = .returned v) ∧ J' m W')
    (hassign : ∀ (l k : Nat) (args : Array Value) (A W : World) (K : Act → World → Prop), Kn k args A W → J k A → Below A.heap.size A W → (∀ a' W', Below W.heap.size W W' → Bd k args a' A W' → K a' W') →
      assign.wpIn (F.inRound l) (n - 1 - 1) P (Exit.then K (fun _ _ _ => False)) { tmps := (ps.zip args).foldl (fun t (p, v) => t.setIfInBounds p v) a.tmps, defers := [] } W)
    (hbody : ∀ (l k : Nat) (args : Array Value) (a' : Act) (A W : World), k < m → J k A → Sees w.heap.size A W → Bd k args a' A W →
      body.wpIn (F.inRound l) (n - 1 - 1) P (fun e _ W' => e = .normal ∧ KeepsFrom w.heap.size W W' ∧ J (k + 1) W' ∧ KB w.heap.size W W') a' W)
    (hdone : ∀ (D : Nat) (W : World), w.heap.size ≤ D → J m W → W.heap[D]? = some (.deferred (some [])) → Q .normal { a with defers := { target := .collected D, args := #[] } :: a.defers } W) :
    (Code.rangeFunc g ps assign body).wpIn F n P Q a w := by
  refine wpIn_rangeFunc fun fn hfn => ?_
  rw [hro]
  obtain ⟨L, hL⟩ : ∃ L : LoopState → Loop, L = fun st => { state := st, pending := none, fn, tmps := a.tmps, params := ps, assign, body, defers := w.heap.size } := ⟨_, rfl⟩
  obtain ⟨W1, hW1⟩ : ∃ W1, (w.alloc (.deferred (some []))).alloc (.loop (L .ready)) = W1 := ⟨_, rfl⟩
  have hsz1 : W1.heap.size = w.heap.size + 2 := by rw [← hW1, World.size_alloc, World.size_alloc]
  have hb1 : Below w.heap.size w W1 := by rw [← hW1]; exact below_alloc (below_alloc1 w _) _
  have hloop : W1.heap[w.heap.size + 1]? = some (.loop (L .ready)) := by
    rw [← hW1]
    have := heap_alloc_new (w.alloc (.deferred (some []))) (.loop (L .ready))
    rwa [World.size_alloc] at this
  have hdef : W1.heap[w.heap.size]? = some (.deferred (some [])) := by
    rw [← hW1]
    exact (Below.heap_alloc _ _ _ (by rw [World.size_alloc]; omega)).trans (heap_alloc_new w _)
  -- J and the two blocks of the loop's own
  obtain ⟨J', hJ'⟩ : ∃ J' : Nat → World → Prop, J' = fun k W => J k W ∧ W.heap[w.heap.size + 1]? = some (.loop (L .ready)) ∧ W.heap[w.heap.size]? = some (.deferred (some [])) := ⟨_, rfl⟩
  have keep : ∀ k A B, J' k A → Below A.heap.size A B → J' k B := by
    intro k A B h hb
    rw [hJ'] at h ⊢
    exact ⟨hJ k A B h.1 (Sees.of_below hb), (hb.block _ (Array.getElem?_eq_some_iff.1 h.2.1).1).trans h.2.1, (hb.block _ (Array.getElem?_eq_some_iff.1 h.2.2).1).trans h.2.2⟩
  refine ⟨w.heap.size + 1, [{ target := .collected w.heap.size, args := #[] }], W1, { target := .fn (.func gf) lb, args := #[.func (.yield (w.heap.size + 1)) #[] #[]] }, W1, gf,
    #[.func (.yield (w.heap.size + 1)) #[] #[]] ++ lb, W1, ?_, ?_, ?_, ?_, fun _ => h1, ?_⟩
  · rw [← hW1, hL]
    exact run_enterLoop_outer _ _ _ _ _
  · simp only [resolve, hg]
    simp [go_sem]
  · intro f' hf'
    simp [Target.leads] at hf'
    subst hf'
    exact hFg
  · simp [invoke, go_sem, eg]
  · refine (hiter (w.heap.size + 1) W1 J' hb1 keep (fun k A h => by rw [hJ'] at h; exact h.1) ?_ ?_).mono ?_
    · -- one round
      intro k args A W hk hA hAW hkn
      have hW := keep k A W hA hAW
      rw [hJ'] at hW hA
      obtain ⟨hi, hl, hd⟩ := hW
      have hlt : w.heap.size + 1 < W.heap.size := (Array.getElem?_eq_some_iff.1 hl).1
      have hy := run_yield (P := P) (args := args) hl (by rw [hL]; exact hps k args A W hkn)
      rw [hL] at hy
      refine ⟨fn, _, assign, body, hy, roundIn_of_wpIn hfn (hassign _ k args A W _ hkn hA.1 hAW fun a' W9 hb9 hbd => ?_)⟩
      have hl := (hb9.block _ hlt).trans hl
      have hd := (hb9.block _ (Array.getElem?_eq_some_iff.1 hd).1).trans hd
      have hAW := hAW.trans (hb9.mono hAW.size)
      have hkb9 : KB w.heap.size W W9 := KB.of_below hb9
      have hlt : w.heap.size + 1 < W9.heap.size := (Array.getElem?_eq_some_iff.1 hl).1
      clear hy hb9
      refine ⟨_, run_beginRound hl (by rw [hL]), ?_⟩
      obtain ⟨W2, hW2⟩ : ∃ W2, W9.putObj (w.heap.size + 1) (.loop { L .ready with state := .busy }) = W2 := ⟨_, rfl⟩
      have hs2 : Sees w.heap.size W9 W2 := by rw [← hW2]; exact Sees.putObj _ (by omega) hl rfl
      have hl2 : W2.heap[w.heap.size + 1]? = some (.loop { L .ready with state := .busy }) := by rw [← hW2]; exact World.putObj_heap_same hlt
      have hd2 : W2.heap[w.heap.size]? = some (.deferred (some [])) := by rw [← hW2]; exact (World.putObj_heap_other (by omega)).trans hd
      rw [hW2]
      refine wpIn_mono (hbody _ k args a' A W2 hk hA.1 ((Sees.of_below hAW).trans hs2) (hBd k args a' A W9 W2 hbd hs2)) ?_
      rintro e a3 W3 ⟨rfl, hk3, hj3, hkb3⟩
      have hl3 := hk3.same _ _ (by omega) hl2 rfl
      have hd3 := hk3.same _ _ (Nat.le_refl _) hd2 rfl
      have hr := run_endRound (P := P) none hl3
      refine ⟨_, _, hr, rfl, ?_, (hkb9.trans (KB.of_sees hs2)).trans (hkb3.trans (KB.of_sees (Sees.putObj (B := w.heap.size) _ (by omega) hl3 rfl)))⟩
      rw [hJ']
      refine ⟨hJ _ _ _ hj3 (Sees.putObj _ (by omega) hl3 rfl), ?_, (World.putObj_heap_other (by omega)).trans hd3⟩
      rw [World.putObj_heap_same (Array.getElem?_eq_some_iff.1 hl3).1, hL]
      rfl
    · rw [hJ']
      exact ⟨hJ 0 w W1 h0 ⟨hb1.os, hb1.tape, hb1.output, hb1.size, fun i hi _ => hb1.block i hi, fun i o hi _ => (hb1.block i (Array.getElem?_eq_some_iff.1 hi).1).trans hi⟩, hloop, hdef⟩
    · rintro e W2 ⟨⟨v, rfl⟩, hj⟩
      rw [hJ'] at hj
      obtain ⟨hj, hl, hd⟩ := hj
      refine ⟨none, _, by have := run_endLoop (P := P) hl (by rw [hL]; simp); rw [hL] at this; exact this, hdone _ _ (Nat.le_refl _) (hJ _ _ _ hj (Sees.putObj _ (by omega) hl rfl)) ((World.putObj_heap_other (by omega)).trans hd)⟩
end Go.Proofs.YtbbhecadpbnobaaDoor

namespace Go.Proofs.YtbbhecadpbnobaaDoor
open Go.RowKit

/-- a fence within which whatever is proved of a call holds -/
structure FreeF (F : Fence) : Prop where
  fn : ∀ f, F.fn f
  depth : F.depth = none
  calls : ∀ (n : Nat) (P : Program) (f : FuncId) (args : Array Value) (w : World) (R : Ending → World → Prop), Calls P f args w R → CallsIn F n P f args w R
  rows : ∀ (n : Nat) (P : Program) (f : String) (args : Array Value) (w : World) (R : Value → World → Prop), Rows P f args w R → RowsIn F n P f args w R
theorem FreeF.wide : FreeF Fence.wide := ⟨fun _ => trivial, rfl, fun _ _ _ _ _ _ h => callsIn_wide.2 h, fun _ _ _ _ _ _ h c cs _ => let ⟨v, w', r, s⟩ := h c cs; ⟨v, w', r, stepsIn_wide.2 s⟩⟩
theorem FreeF.inRound {F : Fence} (h : FreeF F) (l : Nat) : FreeF (F.inRound l) := ⟨h.fn, h.depth, fun n P f args w R k => (h.calls n P f args w R k).inRound l, fun n P f args w R k => h.rows n P f args w R k⟩
def noDefer (o : Oper) : Bool := match o.op with | .defer _ => false | _ => true
theorem noDefer_ne {o : Oper} (h : noDefer o = true) : ∀ c, o.op ≠ .defer c := by
  intro c hc
  unfold noDefer at h
  rw [hc] at h
  cases h
theorem oper_in {F : Fence} {n : Nat} {P : Program} {o : Oper} {a : Act} {w : World} {K : Act → World → Prop} {Q : Exit → Act → World → Prop} (hF : FreeF F) (hd : noDefer o = true) (h : o.wp P a w K Q) : o.wpIn F n P a w K Q := by
  refine ⟨fun f _ => hF.fn f, ?_⟩
  rw [Oper.semAt_eq _ _ _ (noDefer_ne hd)]
  unfold Oper.wp at h
  generalize (execOp a.eval o).run P w = r at *
  have hdep : F.depth.isSome = true → 1 ≤ n := by rw [hF.depth]; intro h; cases h
  cases r with
  | ok x w' =>
    cases x <;> simp only [Oper.upon] at h <;> simp only [Oper.uponIn] <;>
      first
        | exact h
        | exact ⟨hdep, hF.calls _ _ _ _ _ _ h⟩
        | exact ⟨hdep, hF.rows _ _ _ _ _ _ h⟩
        | exact h.elim
  | halt x w' => cases x <;> simp only [Oper.upon] at h <;> simp only [Oper.uponIn] <;> exact h
theorem any_in {F : Fence} {n : Nat} {P : Program} {md : Region.Mode} {ops : Array Oper} {Q : Exit → Act → World → Prop} (hF : FreeF F) (hd : ops.all noDefer = true) (hq : ¬ LetsOut Q) : ∀ (fuel : Nat) (listed : Array Bool) (a : Act) (w : World),
    wpAny P md ops Q fuel listed a w → wpAnyIn F n P md ops Q fuel listed a w := by
  intro fuel
  induction fuel with
  | zero => intro listed a w h; exact h
  | succ fuel ih =>
    intro listed a w h
    refine ⟨h.1, fun i hi => ?_⟩
    have hx := h.2 i hi
    unfold wpOp at hx
    unfold wpOpIn
    cases ho : ops[i]? with
    | none => rw [ho] at hx; exact ih _ _ _ hx
    | some o =>
      rw [ho] at hx
      simp only at hx ⊢
      by_cases hw : Region.wanted o (yielded ops a.tmps) = true
      · rw [if_pos hw] at hx ⊢
        rcases hx with hx | hx
        · have hdo : noDefer o = true := by
            rw [Array.all_eq_true'] at hd
            exact hd o (Array.mem_of_getElem? ho)
          exact oper_in hF hdo (Oper.wp_mono (fun a w h => ih _ a w h) hx)
        · exact absurd hx.2 hq
      · rw [if_neg hw] at hx ⊢
        exact ⟨fun f _ => hF.fn f, ih _ _ _ hx⟩
theorem rAdd_others {ja j : Nat} {e : TypeId} {v : Value} {n : Nat} {w w' : World} (h : rAdd ja e v n j w w') : KeepsOthers w w' := by
  unfold rAdd at h
  split at h
  · obtain ⟨⟨xs, ho⟩, hg⟩ := h
    refine KeepsOthers.of_grownBy hg fun g o hv hg => ?_
    rcases ho.2 with ⟨h0, _⟩ | ⟨g9, cap, cur, h0, _, hh, _⟩
    · rw [h0] at hv; cases hv
    · rw [h0] at hv
      cases hv
      rw [hh] at hg
      cases hg
      rfl
  · exact ⟨h.size, fun k o hk _ => (h.block k (Array.getElem?_eq_some_iff.1 hk).1).trans hk⟩
/-- the ends of a region without those of a machine too small -/
def InQ (Q : Exit → Act → World → Prop) (e : Exit) (a : Act) (w : World) : Prop := e ≠ .outgrown ∧ Q e a w
theorem InQ.no (Q : Exit → Act → World → Prop) : ¬ LetsOut (InQ Q) := fun ⟨_, _, h⟩ => h.1 rfl
theorem inQ_nil {P : Program} {ops : Array Oper} {Q : Exit → Act → World → Prop} {a : Act} {w : World} (h : Q .normal a w) : wpList P ops (InQ Q) [] a w := wpList_nil ⟨by simp, h⟩
theorem wp_phiU_tail_in {F : Fence} {n : Nat} {P : Program} {Q : Exit → Act → World → Prop} {a₀ : Act} {id : Nat} {w : World} (hF : FreeF F) (lo tl : List Oper) {l : List Oper} (hl : l = lo ++ tl) (R : Nat → World → World → Prop) (I : World → Prop) (ps : List (Nat × Part)) (ns : List (Nat × List Nat)) (us : List (Nat × (World → Prop))) (ks : List (Nat × Nat)) (hm : P.follows .mixedOrders = true)
    (hok : phiOk l.toArray (needs ns) lo.length = true) (hd : l.toArray.all noDefer = true)
    (hI : ∀ p ∈ ps, ∀ w w', I w → R p.1 w w' → I w') (hS : ∀ p ∈ ps, ∀ p' ∈ ps, p'.1 ≠ p.1 → ks.lookup p.1 ≠ some p'.1 → p'.1 ∉ needs ns p.1 → ∀ w w' v, I w → R p'.1 w w' → p.2.fact w v → p.2.fact w' v)
    (hU : ∀ p ∈ ps, ∀ u ∈ us, u.1 ≠ p.1 → ∀ w w', I w → R p.1 w w' → u.2 w → u.2 w') (hu0 : ∀ u ∈ us, u.2 w.drew)
    (hw : I w.drew) (h : wpPhiU P l.toArray (wpList P l.toArray (InQ Q) tl) I R (planOf ps) (needs ns) us (fun i => ks.lookup i) 0 lo a₀ []) : (Code.region id l.toArray true).wpIn F n P Q a₀ w := by
  subst hl
  exact wpIn_mono (wpIn_region_any hm (any_in hF hd (InQ.no Q) _ _ _ _ (any_phi_RU lo tl R I ps ns us ks hok hI hS hU hu0 hw h))) fun _ _ _ h => h.2
/-- a region that only reads: its operations are pure -/
theorem wp_pure_in {F : Fence} {n : Nat} {P : Program} {Q : Exit → Act → World → Prop} {a₀ : Act} {id : Nat} {w : World} {l : List Oper} (hF : FreeF F) (I : World → Prop) (hm : P.follows .mixedOrders = true)
    (hok : phiOk l.toArray (needs []) l.length = true) (hd : l.toArray.all noDefer = true) (hw : I w.drew)
    (h : wpPhiU P l.toArray (wpList P l.toArray (InQ Q) []) I (fun _ w w' => Below w.heap.size w w') (planOf []) (needs []) [] (fun i => ([] : List (Nat × Nat)).lookup i) 0 l a₀ []) : (Code.region id l.toArray true).wpIn F n P Q a₀ w :=
  wp_phiU_tail_in (l := l) hF l [] (List.append_nil l).symm (fun _ w w' => Below w.heap.size w w') I [] [] [] [] hm hok hd (fun p hp => by cases hp) (fun p hp => by cases hp) (fun p hp => by cases hp) (fun p hp => by cases hp) hw h
end Go.Proofs.YtbbhecadpbnobaaDoor
