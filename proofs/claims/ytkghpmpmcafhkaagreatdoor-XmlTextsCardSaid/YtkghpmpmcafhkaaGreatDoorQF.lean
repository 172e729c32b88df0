/-
  RangeJ: a range over a function whose body always goes on; what the iterator hands over may be known in memory. No program.
  RangeM: a range over a function whose body leaves what was made since the range began, rows of one type apart. No program.
  XmlE: package xml: a tree's texts, handed over one by one; Word.
  XmlE2: package xml: Word.
  XmlA: the statements of chapter 23: alive.
-/
import Derived.Test.YtkghpmpmcafhkaaGreatDoorBA
import Derived.RangeFuncNested
import Derived.RangeFuncBound
import Derived.RangeFuncCalls
import Derived.RangeFuncLeaves
import Derived.Shelf.Abstract
import Derived.OwnWalkIn
import Derived.TacticsInMore
import Derived.LoopNIn
import Derived.LoopIn
import Derived.Test.YtkghpmpmcafhkaaGreatDoorPD
import Derived.Test.YtkghpmpmcafhkaaGreatDoorPC
import Derived.Test.YtkghpmpmcafhkaaGreatDoorPE
import Derived.Test.YtkghpmpmcafhkaaGreatDoorQE
namespace Go.Proofs.YtkghpmpmcafhkaaGreatDoor
open Go.RowKit

/-- W' has all cells that W had, and all that lay below B -/
structure Sees (B : Nat) (W W' : World) : Prop where
  os : W'.os = W.os
  tape : W'.tape = W.tape
  output : W'.output = W.output
  size : W.heap.size ≤ W'.heap.size
  low : ∀ i, i < B → i < W.heap.size → W'.heap[i]? = W.heap[i]?
  cells : ∀ (i : Nat) (o : Obj), W.heap[i]? = some o → o.isCells = true → W'.heap[i]? = some o
theorem Sees.refl (B : Nat) (W : World) : Sees B W W := ⟨rfl, rfl, rfl, Nat.le_refl _, fun _ _ _ => rfl, fun _ _ h _ => h⟩
theorem Sees.trans {B : Nat} {X Y Z : World} (h : Sees B X Y) (k : Sees B Y Z) : Sees B X Z :=
  ⟨k.os.trans h.os, k.tape.trans h.tape, k.output.trans h.output, Nat.le_trans h.size k.size, fun i hi hx => (k.low i hi (Nat.lt_of_lt_of_le hx h.size)).trans (h.low i hi hx), fun i o hi ho => k.cells i o (h.cells i o hi ho) ho⟩
theorem Sees.of_below {B : Nat} {W W' : World} (h : Below W.heap.size W W') : Sees B W W' :=
  ⟨h.os, h.tape, h.output, h.size, fun i _ hi => h.block i hi, fun i _o hi _ => (h.block i (Array.getElem?_eq_some_iff.1 hi).1).trans hi⟩
theorem Sees.putObj {B l : Nat} {W : World} {o : Obj} (o' : Obj) (hB : B ≤ l) (h : W.heap[l]? = some o) (ho : o.isCells = false) : Sees B W (W.putObj l o') := by
  have hg := grownBy_putObj' W l o'
  refine ⟨hg.os, hg.tape, hg.output, hg.size, fun i hi hx => hg.block i hx (fun e => ?_), fun i u hi hu => (hg.block i (Array.getElem?_eq_some_iff.1 hi).1 (fun e => ?_)).trans hi⟩
  · cases e; omega
  · cases e
    rw [h] at hi
    cases hi
    rw [ho] at hu
    cases hu
theorem Sees.blk {B g : Nat} {W W' : World} {t : TypeId} {cs : Array Value} (h : Sees B W W') (hb : Blk W g t cs) : Blk W' g t cs := h.cells g _ hb rfl
theorem Sees.owns {B base size n : Nat} {W W' : World} {e : TypeId} {v : Value} {xs : List Value} (h : Sees B W W') (ho : W.ownsRow base e size v n xs) : W'.ownsRow base e size v n xs := by
  refine ⟨ho.1, ?_⟩
  rcases ho.2 with h2 | ⟨g, cap, cur, rfl, hB, hh, r⟩
  · exact .inl h2
  · exact .inr ⟨g, cap, cur, rfl, hB, h.cells g _ hh rfl, r⟩
theorem Sees.below {B n₀ : Nat} {w W W' : World} (h : Sees B W W') (hn : n₀ ≤ B) (hb : Below n₀ w W) (hs : n₀ ≤ W.heap.size) : Below n₀ w W' :=
  ⟨h.os.trans hb.os, h.tape.trans hb.tape, h.output.trans hb.output, Nat.le_trans hb.size h.size, fun i hi => (h.low i (by omega) (by omega)).trans (hb.block i hi)⟩
variable {F : Fence} {n : Nat} {P : Program}
/-- THE LAW: J k holds behind k rounds; at the k-th round the iterator hands over what is known by Kn, having made new memory alone since J k held -/
theorem wpIn_rangeJ {g : Operand} {ps : Array Tmp} {assign body : Code} {Q : Exit → Act → World → Prop} {a : Act} {w : World}
    (hro : F.round = none) (h1 : 1 ≤ n) {gf : Nat} {lb : Array Value} (hg : a.eval g = .func (.func gf) #[] lb) (hFg : F.fn gf) (eg : ∀ args w, (callFunc gf args).run P w = .ok (.enter gf args) w)
    (J : Nat → World → Prop) (Kn : Nat → Array Value → World → World → Prop) (m : Nat)
    (hJ : ∀ k W W', J k W → Sees w.heap.size W W' → J k W') (hKn : ∀ k args A W W', Kn k args A W → Sees w.heap.size W W' → Kn k args A W') (h0 : J 0 w)
    (hps : ∀ k args A W, Kn k args A W → args.size = ps.size) (a₁ : Array Value → Act)
    (hiter : ∀ (l : Nat) (W : World) (J' : Nat → World → Prop), Below w.heap.size w W → (∀ k A B, J' k A → Below A.heap.size A B → J' k B) → (∀ k A, J' k A → J k A) →
      (∀ k args A W, k < m → J' k A → Below A.heap.size A W → Kn k args A W → YieldAt F (n - 1 - 1) P l args W fun e W' => e = .returned (.bool true) ∧ J' (k + 1) W') → J' 0 W →
      CallsIn F (n - 1) P gf (#[.func (.yield l) #[] #[]] ++ lb) W fun e W' => (∃ v, e = .returned v) ∧ J' m W')
    (hassign : ∀ (l k : Nat) (args : Array Value) (A W : World) (K : Act → World → Prop), Kn k args A W → K (a₁ args) W →
      assign.wpIn (F.inRound l) (n - 1 - 1) P (Exit.then K (fun _ _ _ => False)) { tmps := (ps.zip args).foldl (fun t (p, v) => t.setIfInBounds p v) a.tmps, defers := [] } W)
    (hbody : ∀ (l k : Nat) (args : Array Value) (A W : World), k < m → J k A → Sees w.heap.size A W → Kn k args A W →
      body.wpIn (F.inRound l) (n - 1 - 1) P (fun e _ W' => e = .normal ∧ KeepsFrom w.heap.size W W' ∧ J (k + 1) W') (a₁ args) W)
    (hdone : ∀ (D : Nat) (W : World), w.heap.size ≤ D → J m W → W.heap[D]? = some (.deferred (some [])) → Q .normal { a with defers := { target := .collected D, args := #[] } :: a.defers } W) :
    (Code.rangeFunc g ps assign body).wpIn F n P Q a w := by
  refine wpIn_rangeFunc fun fn hfn => ?_
  rw [hro]
  obtain ⟨L, hL⟩ : ∃ L : LoopState → Loop, L = fun st => { state := st, pending := none, fn, tmps := a.tmps, params := ps, assign, body, defers := w.heap.size } := ⟨_, rfl⟩
  obtain ⟨W1, hW1⟩ : ∃ W1, (w.alloc (.deferred (some []))).alloc (.loop (L .ready)) = W1 := ⟨_, rfl⟩
  have hsz1 : W1.heap.size = w.heap.size + 2 := by rw [← hW1, World.size_alloc, World.size_alloc]
  have hb1 : Below w.heap.size w W1 := by rw [← hW1]; exact below_alloc (below_alloc1 w _) _
  have hloop : W1.heap[w.heap.size + 1]? = some (.loop (L .ready)) := by
    rw [← hW1]
    have := heap_alloc_new (w.alloc (.deferred (some []))) (.loop (L .ready))
    rwa [World.size_alloc] at this
  have hdef : W1.heap[w.heap.size]? = some (.deferred (some [])) := by
    rw [← hW1]
    exact (Below.heap_alloc _ _ _ (by rw [World.size_alloc]; omega)).trans (heap_alloc_new w _)
  -- J and the two blocks of the loop's own
  obtain ⟨J', hJ'⟩ : ∃ J' : Nat → World → Prop, J' = fun k W => J k W ∧ W.heap[w.heap.size + 1]? = some (.loop (L .ready)) ∧ W.heap[w.heap.size]? = some (.deferred (some [])) := ⟨_, rfl⟩
  have keep : ∀ k A B, J' k A → Below A.heap.size A B → J' k B := by
    intro k A B h hb
    rw [hJ'] at h ⊢
    exact ⟨hJ k A B h.1 (Sees.of_below hb), (hb.block _ (Array.getElem?_eq_some_iff.1 h.2.1).1).trans h.2.1, (hb.block _ (Array.getElem?_eq_some_iff.1 h.2.2).1).trans h.2.2⟩
  refine ⟨w.heap.size + 1, [{ target := .collected w.heap.size, args := #[] }], W1, { target := .fn (.func gf) lb, args := #[.func (.yield (w.heap.size + 1)) #[] #[]] }, W1, gf,
    #[.func (.yield (w.heap.size + 1)) #[] #[]] ++ lb, W1, ?_, ?_, ?_, ?_, fun _ => h1, ?_⟩
  · rw [← hW1, hL]
    exact run_enterLoop_outer _ _ _ _ _
  · simp only [resolve, hg]
    simp [go_sem]
  · intro f' hf'
    simp [Target.leads] at hf'
    subst hf'
    exact hFg
  · simp [invoke, go_sem, eg]
  · refine (hiter (w.heap.size + 1) W1 J' hb1 keep (fun k A h => by rw [hJ'] at h; exact h.1) ?_ ?_).mono ?_
    · -- one round
      intro k args A W hk hA hAW hkn
      have hW := keep k A W hA hAW
      rw [hJ'] at hW hA
      obtain ⟨hi, hl, hd⟩ := hW
      have hlt : w.heap.size + 1 < W.heap.size := (Array.getElem?_eq_some_iff.1 hl).1
      have hy := run_yield (P := P) (args := args) hl (by rw [hL]; exact hps k args A W hkn)
      rw [hL] at hy
      refine ⟨fn, _, assign, body, hy, roundIn_of_wpIn hfn (hassign _ k args A W _ hkn ⟨_, run_beginRound hl (by rw [hL]), ?_⟩)⟩
      obtain ⟨W2, hW2⟩ : ∃ W2, W.putObj (w.heap.size + 1) (.loop { L .ready with state := .busy }) = W2 := ⟨_, rfl⟩
      have hs2 : Sees w.heap.size W W2 := by rw [← hW2]; exact Sees.putObj _ (by omega) hl rfl
      have hl2 : W2.heap[w.heap.size + 1]? = some (.loop { L .ready with state := .busy }) := by rw [← hW2]; exact World.putObj_heap_same hlt
      have hd2 : W2.heap[w.heap.size]? = some (.deferred (some [])) := by rw [← hW2]; exact (World.putObj_heap_other (by omega)).trans hd
      rw [hW2]
      refine wpIn_mono (hbody _ k args A W2 hk hA.1 ((Sees.of_below hAW).trans hs2) (hKn k args A W W2 hkn hs2)) ?_
      rintro e a3 W3 ⟨rfl, hk3, hj3⟩
      have hl3 := hk3.same _ _ (by omega) hl2 rfl
      have hd3 := hk3.same _ _ (Nat.le_refl _) hd2 rfl
      have hr := run_endRound (P := P) none hl3
      refine ⟨_, _, hr, rfl, ?_⟩
      rw [hJ']
      refine ⟨hJ _ _ _ hj3 (Sees.putObj _ (by omega) hl3 rfl), ?_, (World.putObj_heap_other (by omega)).trans hd3⟩
      rw [World.putObj_heap_same (Array.getElem?_eq_some_iff.1 hl3).1, hL]
      rfl
    · rw [hJ']
      exact ⟨hJ 0 w W1 h0 ⟨hb1.os, hb1.tape, hb1.output, hb1.size, fun i hi _ => hb1.block i hi, fun i o hi _ => (hb1.block i (Array.getElem?_eq_some_iff.1 hi).1).trans hi⟩, hloop, hdef⟩
    · rintro e W2 ⟨⟨v, rfl⟩, hj⟩
      rw [hJ'] at hj
      obtain ⟨hj, hl, hd⟩ := hj
      refine ⟨none, _, by have := run_endLoop (P := P) hl (by rw [hL]; simp); rw [hL] at this; exact this, hdone _ _ (Nat.le_refl _) (hJ _ _ _ hj (Sees.putObj _ (by omega) hl rfl)) ((World.putObj_heap_other (by omega)).trans hd)⟩
end Go.Proofs.YtkghpmpmcafhkaaGreatDoor

namespace Go.Proofs.YtkghpmpmcafhkaaGreatDoor
open Go.RowKit

/-- what was made from B on stays, rows of the type T0 apart -/
def KT (T0 : TypeId) (B : Nat) (W W' : World) : Prop := ∀ (g : Nat) (t : TypeId) (cs : Array Value), t ≠ T0 → B ≤ g → Blk W g t cs → Blk W' g t cs
theorem KT.refl (T0 : TypeId) (B : Nat) (W : World) : KT T0 B W W := fun _ _ _ _ _ h => h
theorem KT.trans {T0 : TypeId} {B : Nat} {X Y Z : World} (h : KT T0 B X Y) (k : KT T0 B Y Z) : KT T0 B X Z := fun g t cs ht hg hb => k g t cs ht hg (h g t cs ht hg hb)
theorem KT.of_below {T0 : TypeId} {B : Nat} {W W' : World} (h : Below W.heap.size W W') : KT T0 B W W' := fun _ _ _ _ _ hb => hb.below h hb.lt
theorem KT.of_sees {T0 : TypeId} {B C : Nat} {W W' : World} (h : Sees C W W') : KT T0 B W W' := fun _ _ _ _ _ hb => h.blk hb
/-- a fence within which whatever is proved of a call holds -/
structure FreeF (F : Fence) : Prop where
  fn : ∀ f, F.fn f
  depth : F.depth = none
  calls : ∀ (n : Nat) (P : Program) (f : FuncId) (args : Array Value) (w : World) (R : Ending → World → Prop), Calls P f args w R → CallsIn F n P f args w R
  rows : ∀ (n : Nat) (P : Program) (f : String) (args : Array Value) (w : World) (R : Value → World → Prop), Rows P f args w R → RowsIn F n P f args w R
theorem FreeF.wide : FreeF Fence.wide := ⟨fun _ => trivial, rfl, fun _ _ _ _ _ _ h => callsIn_wide.2 h, fun _ _ _ _ _ _ h c cs _ => let ⟨v, w', r, s⟩ := h c cs; ⟨v, w', r, stepsIn_wide.2 s⟩⟩
theorem FreeF.inRound {F : Fence} (h : FreeF F) (l : Nat) : FreeF (F.inRound l) := ⟨h.fn, h.depth, fun n P f args w R k => (h.calls n P f args w R k).inRound l, fun n P f args w R k => h.rows n P f args w R k⟩
variable {F : Fence} {n : Nat} {P : Program}
/-- THE LAW, where the variables of the round are blocks of their own (Bd: what the round's beginning has made): J k holds behind k rounds; at the k-th round the iterator hands over what is known by Kn, having made new memory alone since J k held -/
theorem wpIn_rangeM (T0 : TypeId) {g : Operand} {ps : Array Tmp} {assign body : Code} {Q : Exit → Act → World → Prop} {a : Act} {w : World}
    (hro : F.round = none) (h1 : 1 ≤ n) {gf : Nat} {lb : Array Value} (hg : a.eval g = .func (.func gf) #[] lb) (hFg : F.fn gf) (eg : ∀ args w, (callFunc gf args).run P w = .ok (.enter gf args) w)
    (J : Nat → World → Prop) (Kn : Nat → Array Value → World → World → Prop) (m : Nat)
    (hJ : ∀ k W W', J k W → Sees w.heap.size W W' → J k W') (h0 : J 0 w)
    (Bd : Nat → Array Value → Act → World → World → Prop) (hBd : ∀ k args a' A W W', Bd k args a' A W → Sees w.heap.size W W' → Bd k args a' A W')
    (hps : ∀ k args A W, Kn k args A W → args.size = ps.size)
    (hiter : ∀ (l : Nat) (W : World) (J' : Nat → World → Prop), Below w.heap.size w W → (∀ k A B, J' k A → Below A.heap.size A B → J' k B) → (∀ k A, J' k A → J k A) →
      (∀ k args A W, k < m → J' k A → Below A.heap.size A W → Kn k args A W → YieldAt F (n - 1 - 1) P l args W fun e W' => e = .returned (.bool true) ∧ J' (k + 1) W' ∧ KT T0 w.heap.size W W') → J' 0 W →
      CallsIn F (n - 1) P gf (#[.func (.yield l) #[] #[]] ++ lb) W fun e W' => (∃ v, e = .returned v) ∧ J' m W')
    (hassign : ∀ (l k : Nat) (args : Array Value) (A W : World) (K : Act → World → Prop), Kn k args A W → J k A → Below A.heap.size A W → (∀ a' W', Below W.heap.size W W' → Bd k args a' A W' → K a' W') →
      assign.wpIn (F.inRound l) (n - 1 - 1) P (Exit.then K (fun _ _ _ => False)) { tmps := (ps.zip args).foldl (fun t (p, v) => t.setIfInBounds p v) a.tmps, defers := [] } W)
    (hbody : ∀ (l k : Nat) (args : Array Value) (a' : Act) (A W : World), k < m → J k A → Sees w.heap.size A W → Bd k args a' A W →
      body.wpIn (F.inRound l) (n - 1 - 1) P (fun e _ W' => e = .normal ∧ KeepsFrom w.heap.size W W' ∧ J (k + 1) W' ∧ KT T0 w.heap.size W W') a' W)
    (hdone : ∀ (D : Nat) (W : World), w.heap.size ≤ D → J m W → W.heap[D]? = some (.deferred (some [])) → Q .normal { a with defers := { target := .collected D, args := #[] } :: a.defers } W) :
    (Code.rangeFunc g ps assign body).wpIn F n P Q a w := by
  refine wpIn_rangeFunc fun fn hfn => ?_
  rw [hro]
  obtain ⟨L, hL⟩ : ∃ L : LoopState → Loop, L = fun st => { state := st, pending := none, fn, tmps := a.tmps, params := ps, assign, body, defers := w.heap.size } := ⟨_, rfl⟩
  obtain ⟨W1, hW1⟩ : ∃ W1, (w.alloc (.deferred (some []))).alloc (.loop (L .ready)) = W1 := ⟨_, rfl⟩
  have hsz1 : W1.heap.size = w.heap.size + 2 := by rw [← hW1, World.size_alloc, World.size_alloc]
  have hb1 : Below w.heap.size w W1 := by rw [← hW1]; exact below_alloc (below_alloc1 w _) _
  have hloop : W1.heap[w.heap.size + 1]? = some (.loop (L .ready)) := by
    rw [← hW1]
    have := heap_alloc_new (w.alloc (.deferred (some []))) (.loop (L .ready))
    rwa [World.size_alloc] at this
  have hdef : W1.heap[w.heap.size]? = some (.deferred (some [])) := by
    rw [← hW1]
    exact (Below.heap_alloc _ _ _ (by rw [World.size_alloc]; omega)).trans (heap_alloc_new w _)
  -- J and the two blocks of the loop's own
  obtain ⟨J', hJ'⟩ : ∃ J' : Nat → World → Prop, J' = fun k W => J k W ∧ W.heap[w.heap.size + 1]? = some (.loop (L .ready)) ∧ W.heap[w.heap.size]? = some (.deferred (some [])) := ⟨_, rfl⟩
  have keep : ∀ k A B, J' k A → Below A.heap.size A B → J' k B := by
    intro k A B h hb
    rw [hJ'] at h ⊢
    exact ⟨hJ k A B h.1 (Sees.of_below hb), (hb.block _ (Array.getElem?_eq_some_iff.1 h.2.1).1).trans h.2.1, (hb.block _ (Array.getElem?_eq_some_iff.1 h.2.2).1).trans h.2.2⟩
  refine ⟨w.heap.size + 1, [{ target := .collected w.heap.size, args := #[] }], W1, { target := .fn (.func gf) lb, args := #[.func (.yield (w.heap.size + 1)) #[] #[]] }, W1, gf,
    #[.func (.yield (w.heap.size + 1)) #[] #[]] ++ lb, W1, ?_, ?_, ?_, ?_, fun _ => h1, ?_⟩
  · rw [← hW1, hL]
    exact run_enterLoop_outer _ _ _ _ _
  · simp only [resolve, hg]
    simp [go_sem]
  · intro f' hf'
    simp [Target.leads] at hf'
    subst hf'
    exact hFg
  · simp [invoke, go_sem, eg]
  · refine (hiter (w.heap.size + 1) W1 J' hb1 keep (fun k A h => by rw [hJ'] at h; exact h.1) ?_ ?_).mono ?_
    · -- one round
      intro k args A W hk hA hAW hkn
      have hW := keep k A W hA hAW
      rw [hJ'] at hW hA
      obtain ⟨hi, hl, hd⟩ := hW
      have hlt : w.heap.size + 1 < W.heap.size := (Array.getElem?_eq_some_iff.1 hl).1
      have hy := run_yield (P := P) (args := args) hl (by rw [hL]; exact hps k args A W hkn)
      rw [hL] at hy
      refine ⟨fn, _, assign, body, hy, roundIn_of_wpIn hfn (hassign _ k args A W _ hkn hA.1 hAW fun a' W9 hb9 hbd => ?_)⟩
      have hl := (hb9.block _ hlt).trans hl
      have hd := (hb9.block _ (Array.getElem?_eq_some_iff.1 hd).1).trans hd
      have hAW := hAW.trans (hb9.mono hAW.size)
      have hkb9 : KT T0 w.heap.size W W9 := KT.of_below hb9
      have hlt : w.heap.size + 1 < W9.heap.size := (Array.getElem?_eq_some_iff.1 hl).1
      clear hy hb9
      refine ⟨_, run_beginRound hl (by rw [hL]), ?_⟩
      obtain ⟨W2, hW2⟩ : ∃ W2, W9.putObj (w.heap.size + 1) (.loop { L .ready with state := .busy }) = W2 := ⟨_, rfl⟩
      have hs2 : Sees w.heap.size W9 W2 := by rw [← hW2]; exact Sees.putObj _ (by omega) hl rfl
      have hl2 : W2.heap[w.heap.size + 1]? = some (.loop { L .ready with state := .busy }) := by rw [← hW2]; exact World.putObj_heap_same hlt
      have hd2 : W2.heap[w.heap.size]? = some (.deferred (some [])) := by rw [← hW2]; exact (World.putObj_heap_other (by omega)).trans hd
      rw [hW2]
      refine wpIn_mono (hbody _ k args a' A W2 hk hA.1 ((Sees.of_below hAW).trans hs2) (hBd k args a' A W9 W2 hbd hs2)) ?_
      rintro e a3 W3 ⟨rfl, hk3, hj3, hkb3⟩
      have hl3 := hk3.same _ _ (by omega) hl2 rfl
      have hd3 := hk3.same _ _ (Nat.le_refl _) hd2 rfl
      have hr := run_endRound (P := P) none hl3
      refine ⟨_, _, hr, rfl, ?_, (hkb9.trans (KT.of_sees hs2)).trans (hkb3.trans (KT.of_sees (Sees.putObj (B := w.heap.size) _ (by omega) hl3 rfl)))⟩
      rw [hJ']
      refine ⟨hJ _ _ _ hj3 (Sees.putObj _ (by omega) hl3 rfl), ?_, (World.putObj_heap_other (by omega)).trans hd3⟩
      rw [World.putObj_heap_same (Array.getElem?_eq_some_iff.1 hl3).1, hL]
      rfl
    · rw [hJ']
      exact ⟨hJ 0 w W1 h0 ⟨hb1.os, hb1.tape, hb1.output, hb1.size, fun i hi _ => hb1.block i hi, fun i o hi _ => (hb1.block i (Array.getElem?_eq_some_iff.1 hi).1).trans hi⟩, hloop, hdef⟩
    · rintro e W2 ⟨⟨v, rfl⟩, hj⟩
      rw [hJ'] at hj
      obtain ⟨hj, hl, hd⟩ := hj
      refine ⟨none, _, by have := run_endLoop (P := P) hl (by rw [hL]; simp); rw [hL] at this; exact this, hdone _ _ (Nat.le_refl _) (hJ _ _ _ hj (Sees.putObj _ (by omega) hl rfl)) ((World.putObj_heap_other (by omega)).trans hd)⟩
end Go.Proofs.YtkghpmpmcafhkaaGreatDoor

namespace Go.Proofs.YtkghpmpmcafhkaaGreatDoor
open Go.RowKit
attribute [local go_sem] Oper.semAt_some

theorem xroom_of_none {F : Fence} (hd : F.depth = none) (k : Nat) : F.room k := fun d h => by rw [hd] at h; cases h
theorem xyield_any {F : Fence} (hd : F.depth = none) {m : Nat} (m' : Nat) {P : Program} {l : Nat} {args : Array Value} {W : World} {R : Ending → World → Prop} (h : YieldAt F m P l args W R) : YieldAt F m' P l args W R := by
  obtain ⟨fn, tmps, assign, body, hy, hR⟩ := h
  exact ⟨fn, tmps, assign, body, hy, hR.1, fun c cs _ => hR.2 c cs (xroom_of_none hd _)⟩
mutual
/-- a tree's texts, in the order in which they are met -/
def Tr.txs : Tr → List (List UInt8)
  | .node _ _ ks t => t :: Tr.txsL ks
def Tr.txsL : List Tr → List (List UInt8)
  | [] => []
  | k :: ks => k.txs ++ Tr.txsL ks
end
theorem txsL_take {ks : List Tr} {j : Nat} (h : j < ks.length) : Tr.txsL (ks.take (j + 1)) = Tr.txsL (ks.take j) ++ ks[j].txs := by
  have happ : ∀ xs ys : List Tr, Tr.txsL (xs ++ ys) = Tr.txsL xs ++ Tr.txsL ys := by
    intro xs ys
    induction xs with
    | nil => rw [List.nil_append, Tr.txsL, List.nil_append]
    | cons x xs ih => rw [List.cons_append, Tr.txsL, Tr.txsL, ih, List.append_assoc]
  rw [List.take_succ_eq_append_getElem h, happ]
  congr 1
  rw [Tr.txsL, Tr.txsL, List.append_nil]
theorem txsL_get : ∀ {ks : List Tr} {j : Nat} (h : j < ks.length) (i : Nat) (hi : i < ks[j].txs.length), (Tr.txsL ks)[(Tr.txsL (ks.take j)).length + i]? = ks[j].txs[i]?
  | k :: ks, 0, h, i, hi => by
    rw [List.take_zero, Tr.txsL, Tr.txsL, List.length_nil, Nat.zero_add]
    rw [List.getElem?_append_left (by simpa using hi)]
    rfl
  | k :: ks, j + 1, h, i, hi => by
    rw [List.take_succ_cons, Tr.txsL, Tr.txsL, List.length_append, Nat.add_assoc, List.getElem?_append_right (by omega), Nat.add_sub_cancel_left]
    exact txsL_get (by simpa using h) i (by simpa using hi)
theorem txs_head (nm : List (List UInt8)) (ats : List (List (List UInt8))) (ks : List Tr) (t : List UInt8) : (Tr.node nm ats ks t).txs = t :: Tr.txsL ks := by rw [Tr.txs]
abbrev U8T : TypeId := 5
set_option maxRecDepth 20000 in
set_option maxHeartbeats 8000000 in
theorem xeach_in (F : Fence) (hF : FreeF F) (hro : F.round = none) (l B : Nat) (w : World) (J : Nat → World → Prop)
    (hG : ∀ k A, J k A → Below w.heap.size w A) (hK : ∀ k A C, J k A → Below A.heap.size A C → J k C) :
    ∀ (n : Nat) (x : Tr) (P : Nat → Prop) (cx : List Value) (mm k0 : Nat), x.sz ≤ n → x.ok 1 → TrC w P x cx →
    (∀ (i mm : Nat) (A W : World) (t : List UInt8), x.txs[i]? = some t → J (k0 + i) A → Below A.heap.size A W → YieldAt F mm Tryz.prog l #[.string (bs t)] W fun e W' => e = .returned (.bool true) ∧ J (k0 + i + 1) W' ∧ KT U8T B W W') →
    ∀ W : World, B ≤ W.heap.size → J k0 W →
    CallsIn F mm Tryz.prog 128 #[.agg cx.toArray, .func (.yield l) #[] #[]] W fun e W' => e = .returned (.bool true) ∧ J (k0 + x.txs.length) W' ∧ KT U8T B W W' := by
  have HG := Lib.hid hG
  have HK := Lib.hid hK
  have hdep := hF.depth
  have HF := Lib.hid hF
  clear hG hK
  intro n
  induction n with
  | zero => intro x P cx mm k0 hs; have := x.sz_pos; omega
  | succ n ih =>
    intro x P cx mm k0 hs hx hcx hY W hBW h0
    obtain ⟨nx, ax, kx, tx⟩ := x
    unfold TrC at hcx
    unfold Tr.ok at hx
    obtain ⟨hx1, hx2, hx3⟩ := hx
    obtain ⟨a0, rfl⟩ := one_of hx1
    obtain ⟨pa, ca, pk, ck, css, rfl, ⟨A1, A2, A3, -⟩, ⟨K1, K2, K3, -⟩, hL⟩ := hcx
    show CallsIn F mm Tryz.prog 128 #[.agg #[.string (bs a0), .slice pa ax.length ca, .slice pk kx.length ck, .string (bs tx)], .func (.yield l) #[] #[]] W _
    have hnm := txs_head [a0] ax kx tx
    rw [hnm] at hY ⊢
    have HY := Lib.hid hY
    have HIH := Lib.hid ih
    have HKK := Lib.hid K3
    have HL := Lib.hid hL
    have HX3 := Lib.hid hx3
    have hks : ∀ i (hi : i < kx.length), kx[i].sz ≤ n := fun i hi => by
      have := Tr.sz_kid (.node [a0] ax kx tx) i hi
      have h2 : (Tr.node [a0] ax kx tx).ks[i] = kx[i] := rfl
      rw [h2] at this
      omega
    have HKS := Lib.hid hks
    unfold maxLen at A2 K2
    have HNB := Lib.hid (Blk.new W 28 #[.string (bs a0), .slice pa ax.length ca, .slice pk kx.length ck, .string (bs tx)])
    have HB1 := Lib.hid (below_alloc1 W (.cells #[.string (bs a0), .slice pa ax.length ca, .slice pk kx.length ck, .string (bs tx)] 28))
    have c3 := (HNB.out.cell 3).trans rfl
    obtain ⟨fn, tmps, assign, body, hy, hR⟩ := hY 0 (mm - 1) W _ tx rfl h0 HB1.out
    have HR := Lib.hid hR
    clear hY ih K3 hL hx2 hx3 hks hR hnm h0
    refine callsIn_of_wp Tryz.func128 rfl (hF.fn _) ?_ hro
    clear hF
    simp only [Tryz.ntmps128, List.size_toArray, List.length_cons, List.length_nil, Nat.reduceAdd, Nat.reduceSub, Array.replicate_succ, Array.replicate_zero, List.push_toArray, List.append_toArray, List.nil_append, List.cons_append]
    gi_wp2
    refine HR.out.mono ?_
    rintro e W2 ⟨rfl, hj2, hk2⟩
    have HJ2 := Lib.hid hj2
    have HK2 := Lib.hid ((KT.of_below (T0 := U8T) (B := B) HB1.out).trans hk2)
    have HN2 := Lib.hid (hk2 _ _ _ (by decide) hBW HNB.out)
    have c2 := (HN2.out.cell 2).trans rfl
    clear hj2 hk2 hy c3
    gi_wp2
    clear c2
    gi_loopw [15] (fun i wr => ∃ j : Nat, j ≤ kx.length ∧ i = .int .i64 (j : Int) ∧ J (k0 + (1 + (Tr.txsL (kx.take j)).length)) wr ∧ KT U8T B W wr ∧ Blk wr W.heap.size 28 #[.string (bs a0), .slice pa ax.length ca, .slice pk kx.length ck, .string (bs tx)]) (fun i _ => kx.length - (intOf i).toNat)
    case atStart => exact ⟨0, by omega, rfl, by rw [List.take_zero, Tr.txsL]; exact HJ2.out, HK2.out, HN2.out⟩
    case round =>
      obtain ⟨j, hj, rfl, hjr, hkr, hnb⟩ := hrel
      have hsr := hnb.lt
      clear HJ2 HN2 HK2
      by_cases hlt : j < kx.length
      · obtain ⟨e1, o1, m0, u1, u2, u3, u4, u5, u6, u7, rfl, hgx, hT1, hq0, hq1, hq2, hq3⟩ := kid_1 HKK.out HL.out HX3.out hlt
        have hlow := HG.out _ _ hjr
        have hq0 := Below.keeps hlow _ _ hq0
        have hq1 := Below.keeps hlow _ _ hq1
        have hq2 := Below.keeps hlow _ _ hq2
        have hq3 := Below.keeps hlow _ _ hq3
        have hlt' : (j : Int) < (kx.length : Int) := by omega
        have HBA := Lib.hid (below_alloc1 wr (.cells #[.string (bs m0), .slice u4 u1.length u5, .slice u6 u2.length u7, .string (bs u3)] 28))
        have hNA := Blk.new wr 28 #[.string (bs m0), .slice u4 u1.length u5, .slice u6 u2.length u7, .string (bs u3)]
        have d0 := (hNA.cell 0).trans rfl
        have d1 := (hNA.cell 1).trans rfl
        have d2 := (hNA.cell 2).trans rfl
        have d3 := (hNA.cell 3).trans rfl
        have hszz : (wr.alloc (.cells #[.string (bs m0), .slice u4 u1.length u5, .slice u6 u2.length u7, .string (bs u3)] 28)).heap.size = wr.heap.size + 1 := by simp
        have hIH := Lib.hid (HIH.out kx[j] P _ (mm - 1) (k0 + (1 + (Tr.txsL (kx.take j)).length)) (HKS.out j hlt) (okL_get 1 kx HX3.out j hlt) hT1
          (fun i mm' A W' t hi hA hAW => by
            have hil : i < kx[j].txs.length := (List.getElem?_eq_some_iff.1 hi).1
            have h2 := HY.out (1 + (Tr.txsL (kx.take j)).length + i) mm' A W' t (by
              rw [show 1 + (Tr.txsL (kx.take j)).length + i = ((Tr.txsL (kx.take j)).length + i) + 1 by omega, List.getElem?_cons_succ]
              rw [txsL_get hlt i hil]
              exact hi) (by rw [← Nat.add_assoc]; exact hA) hAW
            rw [← Nat.add_assoc] at h2
            exact h2) (wr.alloc (.cells #[.string (bs m0), .slice u4 u1.length u5, .slice u6 u2.length u7, .string (bs u3)] 28)) (by omega) (HK.out _ _ _ hjr HBA.out))
        have HST := Lib.hid (txsL_take hlt)
        have HKR := Lib.hid (hkr.trans (KT.of_below (T0 := U8T) (B := B) HBA.out))
        have HNB3 := Lib.hid (hnb.alloc (.cells #[.string (bs m0), .slice u4 u1.length u5, .slice u6 u2.length u7, .string (bs u3)] 28))
        clear hgx hlow hNA hjr hkr hT1 hnb
        gi_wp2
        refine ⟨HF.out.fn _, ?_⟩
        refine hIH.out.mono ?_
        rintro e W3 ⟨rfl, hj3, hk3⟩
        have HJ3 := Lib.hid hj3
        have HK3 := Lib.hid (HKR.out.trans hk3)
        have HN3 := Lib.hid (hk3 _ _ _ (by decide) (by omega) HNB3.out)
        clear hj3 hk3 hIH d0 d1 d2 d3 hq0 hq1 hq2 hq3
        gi_wp2
        go_roundw
        case rel => exact ⟨j + 1, by omega, by go_num, by rw [HST.out, List.length_append, ← Nat.add_assoc 1, ← Nat.add_assoc k0]; exact HJ3.out, HK3.out, HN3.out⟩
        case measure => simp [intOf]; omega
      · obtain rfl : j = kx.length := by omega
        rw [List.take_of_length_le (Nat.le_refl _)] at hjr
        have HJ5 := Lib.hid hjr
        have HK5 := Lib.hid hkr
        clear hjr hkr hnb
        gi_wp2
        refine bodyPost_ret (v := .bool true) (by simp [results, Tryz.results128, go_sem]) rfl ?_
        refine ⟨rfl, ?_, HK5.out⟩
        have e : (Tr.txsL kx).length + 1 = 1 + (Tr.txsL kx).length := by omega
        first
          | (rw [e]; exact HJ5.out)
          | (show J (k0 + ((Tr.txsL kx).length + 1)) wr; rw [e]; exact HJ5.out)
theorem run_mkF3 {P : Program} (fn : Fn) (first cap : Array Value) (w : World) : (Instr.makeFunc fn first cap).run P w = .ok (.func fn first cap) w := rfl
theorem texts_any (c0 c1 c2 c3 : Value) (w : World) :
    Calls Tryz.prog 95 #[.agg #[c0, c1, c2, c3]] w fun e w' => e = .returned (.func (.func 127) #[] #[.pointer (some ⟨w.heap.size, 0, none⟩)]) ∧ w' = w.alloc (.cells #[c0, c1, c2, c3] 28) := by
  have hmf := @run_mkF3 Tryz.prog
  go_enter Tryz.func95, Tryz.ntmps95
  go_wp2_with fail
  go_ret
  exact ⟨rfl, rfl⟩
set_option maxRecDepth 20000 in
set_option maxHeartbeats 8000000 in
theorem texts1_in (F : Fence) (hF : FreeF F) (hro : F.round = none) (mm l B gb : Nat) (w : World) (J : Nat → World → Prop)
    (hG : ∀ k A, J k A → Below w.heap.size w A) (hK : ∀ k A C, J k A → Below A.heap.size A C → J k C) (x : Tr) (P : Nat → Prop) (c0 c1 c2 c3 : Value) (hok : x.ok 1) (hT : TrC w P x [c0, c1, c2, c3]) (hgb : ∀ k A, J k A → Blk A gb 28 #[c0, c1, c2, c3])
    (hY : ∀ (i mm : Nat) (A W : World) (t : List UInt8), x.txs[i]? = some t → J i A → Below A.heap.size A W → YieldAt F mm Tryz.prog l #[.string (bs t)] W fun e W' => e = .returned (.bool true) ∧ J (i + 1) W' ∧ KT U8T B W W')
    (W : World) (hBW : B ≤ W.heap.size) (h0 : J 0 W) :
    CallsIn F mm Tryz.prog 127 #[.func (.yield l) #[] #[], .pointer (some ⟨gb, 0, none⟩)] W fun e W' => (∃ v, e = .returned v) ∧ J x.txs.length W' := by
  have hb := hgb 0 W h0
  have d0 := (hb.cell 0).trans rfl
  have d1 := (hb.cell 1).trans rfl
  have d2 := (hb.cell 2).trans rfl
  have d3 := (hb.cell 3).trans rfl
  have HE := Lib.hid (xeach_in F hF hro l B w J hG hK x.sz x P [c0, c1, c2, c3] (mm - 1) 0 (Nat.le_refl _) hok hT (fun i mm A W t h1 h2 h3 => by
    have := hY i mm A W t h1 (by rw [Nat.zero_add] at h2; exact h2) h3
    rw [Nat.zero_add]
    exact this) W hBW h0)
  have HF := Lib.hid hF
  have hdep := hF.depth
  clear hG hK hT hgb hY hb h0
  refine callsIn_of_wp Tryz.func127 rfl (hF.fn _) ?_ hro
  clear hF
  simp only [Tryz.ntmps127, List.size_toArray, List.length_cons, List.length_nil, Nat.reduceAdd, Nat.reduceSub, Array.replicate_succ, Array.replicate_zero, List.push_toArray, List.append_toArray, List.nil_append, List.cons_append]
  gi_wp2
  refine ⟨HF.out.fn _, ?_⟩
  refine HE.out.mono ?_
  rintro e W3 ⟨rfl, hj3, hk3⟩
  rw [Nat.zero_add] at hj3
  have HJ := Lib.hid hj3
  clear hj3 hk3
  gi_wp2
  go_end0
  exact ⟨⟨_, rfl⟩, HJ.out⟩
end Go.Proofs.YtkghpmpmcafhkaaGreatDoor

namespace Go.Proofs.YtkghpmpmcafhkaaGreatDoor
open Go.RowKit
attribute [local go_sem] Oper.semAt_some

theorem xleaves_one {F : Fence} {n : Nat} {P : Program} {fn : Func} {tmps : Array Value} {R : Ending → World → Prop} {D : Nat} {w : World} (hD : w.heap[D]? = some (.deferred (some [])))
    (h : ∃ v, (results fn tmps).run P (w.putObj D (.deferred none)) = .ok v (w.putObj D (.deferred none)) ∧ R (.returned v) (w.putObj D (.deferred none))) : LeavesInM F n P fn tmps R [{ target := .collected D, args := #[] }] .returning w := by
  unfold LeavesInM
  refine ⟨by simp, .inl ⟨D, _, rfl, run_takeDeferred hD, ?_⟩⟩
  unfold LeavesInM LeavesIn
  exact h
theorem xbelow_mark {B D : Nat} {w W : World} {o : Obj} (h : Below B w W) (hB : B ≤ D) (hD : W.heap[D]? = some (.deferred (some []))) : Below B w (W.putObj D o) := by
  have hg := grownBy_putObj' W D o
  exact ⟨hg.os.trans h.os, hg.tape.trans h.tape, hg.output.trans h.output, Nat.le_trans h.size hg.size, fun i hi => (hg.block i (Nat.lt_of_lt_of_le hi (by
    have := h.size
    have := (Array.getElem?_eq_some_iff.1 hD).1
    omega)) (fun e => by cases e; omega)).trans (h.block i hi)⟩
theorem IsB.sees {T : TypeId} {B b C : Nat} {l : List UInt8} {w w' : World} (h : IsB T B b l w) (hb : Sees C w w') : IsB T B b l w' := by
  have one : ∀ p, Lib.BuilderAtF T 5 B b p (Lib.byteCells l) w → Lib.BuilderAtF T 5 B b p (Lib.byteCells l) w' := by
    rintro p ⟨hB, v, hbk, hown, hne⟩
    refine ⟨hB, v, hb.cells _ _ hbk rfl, ⟨hown.1, ?_⟩, hne⟩
    rcases hown.2 with hn | ⟨g, cap, cur, fz, hv, hbg, hg, rest⟩
    · exact .inl hn
    · exact .inr ⟨g, cap, cur, fz, hv, hbg, hb.cells _ _ hg rfl, rest⟩
  exact h.imp (one _) (one _)
theorem IsB.base {T : TypeId} {B b : Nat} {l : List UInt8} {w : World} (h : IsB T B b l w) : B ≤ b := by
  rcases h with h | h <;> exact h.1
/-- Word's world behind k texts -/
structure WdJ (x : Tr) (cs : Array Value) (g0 gb ge : Nat) (w : World) (k : Nat) (W : World) : Prop where
  low : Below g0 w W
  bld : IsB 117 g0 gb (x.txs.take k).flatten W
  el : Blk W ge 28 cs
theorem WdJ.sees {x : Tr} {cs : Array Value} {g0 gb ge k C : Nat} {w W W' : World} (h : WdJ x cs g0 gb ge w k W) (hs : Sees C W W') (h0 : g0 ≤ C) : WdJ x cs g0 gb ge w k W' :=
  ⟨hs.below h0 h.low (by have := IsB.lt h.bld; have := IsB.base h.bld; omega), IsB.sees h.bld hs, hs.blk h.el⟩
/-- what is deferred stays -/
def Dfr (w w' : World) : Prop := ∀ (D : Nat) (o : Option (List Deferred)), w.heap[D]? = some (Obj.deferred o) → w'.heap[D]? = some (Obj.deferred o)
theorem Dfr.freeze {w : World} {g n : Nat} {cur : Array Value} {T : TypeId} {fz : Nat × Nat} (hg : w.heap[g]? = some (.cells cur T fz)) : Dfr w (w.drew.freeze ⟨g, 0, none⟩ n) := by
  intro D o h
  unfold World.freeze
  split
  · exact h
  · show (w.drew.heap.modify g _)[D]? = _
    rw [Array.getElem?_modify, if_neg (fun e => by
      subst e
      rw [hg] at h
      cases h)]
    exact h
set_option maxRecDepth 100000 in
set_option maxHeartbeats 1000000 in
theorem xstring_some {T : TypeId} (B b : Nat) (l : List UInt8) (w : World) (h : IsB T B b l w) (h0 : l ≠ []) :
    Calls Tryz.prog 60 #[.pointer (some ⟨b, 0, none⟩)] w fun e w' => e = .returned (.string (bs l)) ∧ Below B w w' ∧ Dfr w w' := by
  have hco : Tryz.prog.cellsOf 5 = 1 := by kernel_rfl
  obtain ⟨p, hp, hAt⟩ : ∃ p, (p = .pointer none ∨ p = .pointer (some ⟨b, 0, none⟩)) ∧ Lib.BuilderAtF T 5 B b p (Lib.byteCells l) w := by
    rcases h with h | h
    · exact ⟨_, .inl rfl, h⟩
    · exact ⟨_, .inr rfl, h⟩
  obtain ⟨hB, v, hbk, hown, hne⟩ := hAt
  have hl0 : l.length ≠ 0 := by simpa using h0
  rw [Lib.byteCells_length] at hown
  obtain ⟨g, cap, cur, fz, rfl, hbg, hg, hfz, hnc, hcm, hcs, htake⟩ : ∃ g cap cur fz, v = .slice (some ⟨g, 0, none⟩) l.length cap ∧ B ≤ g ∧ w.heap[g]? = some (.cells cur 5 fz) ∧ fz.2 ≤ l.length * 1 ∧ l.length ≤ cap ∧ cap ≤ maxLen ∧ cur.size = cap * 1 ∧ cur.toList.take (l.length * 1) = Lib.byteCells l := by
    rcases hown.2 with ⟨_, hz⟩ | ⟨g, cap, cur, fz, hv, r⟩
    · exact absurd hz hl0
    · exact ⟨g, cap, cur, fz, hv, r⟩
  have c1 : w.drew.cell? ⟨b, 1, none⟩ = some (.slice (some ⟨g, 0, none⟩) l.length cap) := by
    have : w.drew.heap[b]? = some (.cells #[p, .slice (some ⟨g, 0, none⟩) l.length cap] T (0, 0)) := hbk
    rw [Lib.cell_of_heap this]; rfl
  have hSD : (Builtin.unsafeSliceData_ #[64] 170 #[.slice (some ⟨g, 0, none⟩) l.length cap]).run Tryz.prog w.drew = .ok (.pointer (some ⟨g, 0, none⟩)) w.drew :=
    Lib.run_unsafeSliceData_row _ _ _ _ _ _ (by omega)
  have hUS : (Builtin.unsafeString_ #[170, 3] 9 #[.pointer (some ⟨g, 0, none⟩), .int .i64 l.length]).run Tryz.prog w.drew = .ok (.string ⟨l.toArray⟩) (w.drew.freeze ⟨g, 0, none⟩ l.length) := by
    refine Lib.run_unsafeString_row w.drew 170 3 9 5 Tryz.underlying170 hco g cur.size (by have hg' : w.drew.heap[g]? = some (.cells cur 5 fz) := hg; simp [World.shape?, hg']) l h0 (by omega) (by unfold maxLen at hcm; omega) ?_
    intro j x hx
    have := hown.cells (g := g) rfl j (.int .u8 x.toNat) (by simp [Lib.byteCells, hx])
    exact this
  go_enter Tryz.func60, Tryz.ntmps60
  go_wp2
  go_region
  all_goals (go_wp2; go_ret; exact ⟨rfl, Lib.below_freeze (Below.drew (Below.refl B w)) (p := ⟨g, 0, none⟩) hbg _, Dfr.freeze hg⟩)
set_option maxRecDepth 100000 in
set_option maxHeartbeats 2000000 in
theorem xstring_empty {T : TypeId} (B b : Nat) (w : World) (h : IsB T B b [] w) (hBw : B ≤ w.heap.size) :
    Calls Tryz.prog 60 #[.pointer (some ⟨b, 0, none⟩)] w fun e w' => e = .returned (.string (bs [])) ∧ Below B w w' ∧ Dfr w w' := by
  have hUS := fun (W : World) (q : Option Addr) => Lib.run_unsafeString_none (P := Tryz.prog) W 170 3 9 q
  obtain ⟨p, hp, hAt⟩ : ∃ p, (p = .pointer none ∨ p = .pointer (some ⟨b, 0, none⟩)) ∧ Lib.BuilderAtF T 5 B b p (Lib.byteCells []) w := by
    rcases h with h | h
    · exact ⟨_, .inl rfl, h⟩
    · exact ⟨_, .inr rfl, h⟩
  obtain ⟨hB, v, hbk, hown, hne⟩ := hAt
  have hlt : b < w.heap.size := (Array.getElem?_eq_some_iff.1 hbk).1
  rcases hown.2 with ⟨rfl, _⟩ | ⟨g, cap, cur, fz, rfl, hbg, hg, _, _, _, _, _⟩
  · have c1 : w.drew.cell? ⟨b, 1, none⟩ = some (.slice none 0 0) := by
      have : w.drew.heap[b]? = some (.cells #[p, .slice none 0 0] T (0, 0)) := hbk
      rw [Lib.cell_of_heap this]; rfl
    have hSD : (Builtin.unsafeSliceData_ #[64] 170 #[.slice none 0 0]).run Tryz.prog w.drew = .ok (.pointer none) w.drew := rfl
    go_enter Tryz.func60, Tryz.ntmps60
    go_wp2
    go_region
    all_goals (go_wp2; go_ret; exact ⟨rfl, Below.drew (Below.refl B w), fun _ _ h => h⟩)
  · by_cases hc0 : cap = 0
    · subst hc0
      have c1 : w.drew.cell? ⟨b, 1, none⟩ = some (.slice (some ⟨g, 0, none⟩) 0 0) := by
        have : w.drew.heap[b]? = some (.cells #[p, .slice (some ⟨g, 0, none⟩) 0 0] T (0, 0)) := hbk
        rw [Lib.cell_of_heap this]; rfl
      have hSD : (Builtin.unsafeSliceData_ #[64] 170 #[.slice (some ⟨g, 0, none⟩) 0 0]).run Tryz.prog w.drew = .ok (.pointer (some ⟨w.drew.heap.size, 0, none⟩)) (w.drew.alloc (.view ⟨g, 0, none⟩ 5)) :=
        Lib.run_unsafeSliceData_zero w.drew _ _ 5 Tryz.underlying170 ⟨g, 0, none⟩ 0 (5, cur.size) (by have hg' : w.drew.heap[g]? = some (.cells cur 5 fz) := hg; simp [World.shape?, hg'])
      have c2 : (w.drew.alloc (.view ⟨g, 0, none⟩ 5)).cell? ⟨b, 1, none⟩ = some (.slice (some ⟨g, 0, none⟩) 0 0) := by
        have : (w.drew.alloc (.view ⟨g, 0, none⟩ 5)).heap[b]? = _ := (Lib.alloc_old w.drew _ b hlt).trans hbk
        rw [Lib.cell_of_heap this]; rfl
      have c3 : (w.alloc (.view ⟨g, 0, none⟩ 5)).drew.cell? ⟨b, 1, none⟩ = some (.slice (some ⟨g, 0, none⟩) 0 0) := c2
      have c0 : w.cell? ⟨b, 1, none⟩ = some (.slice (some ⟨g, 0, none⟩) 0 0) := c1
      go_enter Tryz.func60, Tryz.ntmps60
      go_wp2
      go_region
      all_goals (go_wp2; go_ret; exact ⟨rfl, (Below.drew (Below.refl B w)).alloc hBw _, fun _ _ h => (Lib.alloc_old w.drew _ _ (Array.getElem?_eq_some_iff.1 h).1).trans h⟩)
    · have c1 : w.drew.cell? ⟨b, 1, none⟩ = some (.slice (some ⟨g, 0, none⟩) 0 cap) := by
        have : w.drew.heap[b]? = some (.cells #[p, .slice (some ⟨g, 0, none⟩) 0 cap] T (0, 0)) := hbk
        rw [Lib.cell_of_heap this]; rfl
      have hSD : (Builtin.unsafeSliceData_ #[64] 170 #[.slice (some ⟨g, 0, none⟩) 0 cap]).run Tryz.prog w.drew = .ok (.pointer (some ⟨g, 0, none⟩)) w.drew :=
        Lib.run_unsafeSliceData_row _ _ _ _ _ _ hc0
      clear hc0
      go_enter Tryz.func60, Tryz.ntmps60
      go_wp2
      go_region
      all_goals (go_wp2; go_ret; exact ⟨rfl, Below.drew (Below.refl B w), fun _ _ h => h⟩)
theorem xstring_any {T : TypeId} (B b : Nat) (l : List UInt8) (w : World) (h : IsB T B b l w) (hBw : B ≤ w.heap.size) :
    Calls Tryz.prog 60 #[.pointer (some ⟨b, 0, none⟩)] w fun e w' => e = .returned (.string (bs l)) ∧ Below B w w' ∧ Dfr w w' := by
  cases l with
  | nil => exact xstring_empty B b w h hBw
  | cons x r => exact xstring_some B b (x :: r) w h (by simp)
def KnX (x : Tr) (k : Nat) (args : Array Value) (_ _ : World) : Prop := ∃ t, x.txs[k]? = some t ∧ args = #[.string (bs t)]
def BdX (x : Tr) (ga gb ge : Nat) (c0 c1 c2 c3 : Value) (k : Nat) (_ : Array Value) (a' : Act) (_ _ : World) : Prop :=
  ∃ t, x.txs[k]? = some t ∧ a' = { tmps := #[.agg #[c0, c1, c2, c3], .pointer (some ⟨ga, 0, none⟩), .string ⟨#[]⟩, .pointer (some ⟨gb, 0, none⟩), .string (bs t), .agg #[c0, c1, c2, c3], .func (.func 127) #[] #[.pointer (some ⟨ge, 0, none⟩)], .string (bs t), undef, undef, undef], defers := [] }
set_option maxRecDepth 20000 in
set_option maxHeartbeats 8000000 in
theorem word_any (x : Tr) (P : Nat → Prop) (c0 c1 c2 c3 : Value) (w : World) (hok : x.ok 1) (hlen : x.txs.flatten.length ≤ 100000000) (hT : TrC w P x [c0, c1, c2, c3]) :
    Calls Tryz.prog 54 #[.agg #[c0, c1, c2, c3]] w fun e w' => e = .returned (.string (bs x.txs.flatten)) ∧ Below w.heap.size w w' := by
  obtain ⟨wa, hwa⟩ : ∃ wa, (w.alloc (.cells #[c0, c1, c2, c3] 28)).alloc (.cells #[.pointer none, .slice none 0 0] 117) = wa := ⟨_, rfl⟩
  have hsa : wa.heap.size = w.heap.size + 1 + 1 := by rw [← hwa]; simp
  have hba : Below w.heap.size w wa := by rw [← hwa]; exact below_alloc (below_alloc1 w _) _
  have hn0 : Blk wa w.heap.size 28 #[c0, c1, c2, c3] := by rw [← hwa]; exact (Blk.new w _ _).alloc _
  have hn1 : IsB 117 w.heap.size (w.heap.size + 1) [] wa := by
    rw [← hwa]
    have := Lib.IsBuilderF.of (Lib.fresh_isBuilder 117 5 (w.alloc (.cells #[c0, c1, c2, c3] 28)))
    rw [World.size_alloc] at this
    have one : ∀ p W, Lib.BuilderAtF 117 5 (w.heap.size + 1) (w.heap.size + 1) p [] W → Lib.BuilderAtF 117 5 w.heap.size (w.heap.size + 1) p [] W := by
      rintro p W ⟨hB, v, hbk, hown, hne⟩
      refine ⟨by omega, v, hbk, ⟨hown.1, ?_⟩, hne⟩
      rcases hown.2 with hn | ⟨g, cap, cur, fz, hv, hbg, hg, rest⟩
      · exact .inl hn
      · exact .inr ⟨g, cap, cur, fz, hv, by omega, hg, rest⟩
    exact this.imp (one _ _) (one _ _)
  have HWA := Lib.hid hwa
  have HBA := Lib.hid hba
  have HSA := Lib.hid hsa
  have HN1 := Lib.hid hn1
  have HT := Lib.hid hT
  have HLN := Lib.hid hlen
  have a0 := (hn0.cell 0).trans rfl
  have a1 := (hn0.cell 1).trans rfl
  have a2 := (hn0.cell 2).trans rfl
  have a3 := (hn0.cell 3).trans rfl
  rw [← hwa] at a0 a1 a2 a3
  have HNA := Lib.hid (texts_any c0 c1 c2 c3 wa)
  rw [← hwa] at HNA
  have HOK := Lib.hid hok
  clear hwa hba hsa hn0 hn1 hT hok hlen
  refine (callsIn_wide (n := 5)).1 (callsIn_of_wp_marks (F := Fence.wide) Tryz.func54 rfl trivial (wpIn_wide.2 ?_))
  simp only [Tryz.ntmps54, List.size_toArray, List.length_cons, List.length_nil, Nat.reduceAdd, Nat.reduceSub, Array.replicate_succ, Array.replicate_zero, List.push_toArray, List.append_toArray, List.nil_append, List.cons_append]
  go_wp2_with (go_at_call 95; refine HNA.out.mono ?_; rintro e w5 ⟨rfl, rfl⟩)
  clear a0 a1 a2 a3 HNA
  rw [HWA.out]
  have hb5 := below_alloc1 wa (.cells #[c0, c1, c2, c3] 28)
  have hel := Blk.new wa 28 #[c0, c1, c2, c3]
  have hs5 : (wa.alloc (.cells #[c0, c1, c2, c3] 28)).heap.size = w.heap.size + 3 := by simp [HSA.out]
  rw [HSA.out] at hel
  obtain ⟨g0, hg0⟩ : ∃ g0, w.heap.size = g0 := ⟨_, rfl⟩
  have HJ0 := Lib.hid (show WdJ x #[c0, c1, c2, c3] g0 (g0 + 1) (g0 + 1 + 1) w 0 (wa.alloc (.cells #[c0, c1, c2, c3] 28)) from by
    rw [← hg0]
    exact ⟨HBA.out.trans (hb5.mono HBA.out.size), HN1.out.below hb5, hel⟩)
  generalize wa.alloc (.cells #[c0, c1, c2, c3] 28) = w5 at *
  clear hb5 hel HWA HN1 HSA HBA
  rw [hg0]
  rw [hg0] at hs5
  have HG0 := Lib.hid hg0
  clear hg0
  generalize hgb : g0 + 1 = gb at *
  generalize hge : gb + 1 = ge at *
  have HNU := Lib.hid (show g0 < gb ∧ gb < w5.heap.size ∧ ge + 1 = w5.heap.size ∧ gb < ge from by omega)
  clear hgb hge hs5
  refine (wpIn_wide (n := 5)).1 ?_
  refine wpIn_rangeM U8T rfl (by omega) (gf := 127) (lb := #[.pointer (some ⟨ge, 0, none⟩)]) rfl trivial (enters_of Tryz.func127 (by kernel_rfl) rfl)
    (WdJ x #[c0, c1, c2, c3] g0 gb ge w) (KnX x) x.txs.length (fun k W W' h k' => h.sees k' (by have := HNU.out; omega)) HJ0.out (BdX x g0 gb ge c0 c1 c2 c3) (fun k args a' A W W' h k' => h) ?hps ?hiter ?hassign ?hbody ?hdone
  case hps =>
    rintro k args A W ⟨t, h1, rfl⟩
    rfl
  case hiter =>
    intro l W J' hbW hJ1 hJ2 hY h0
    exact texts1_in Fence.wide FreeF.wide rfl _ l w5.heap.size ge w J' (fun k A h => by rw [HG0.out]; exact (hJ2 k A h).low) hJ1 x P c0 c1 c2 c3 HOK.out HT.out (fun k A h => (hJ2 k A h).el)
      (fun i mm A W t hi hA hAW => xyield_any rfl mm (hY i _ A W (List.getElem?_eq_some_iff.1 hi).1 hA hAW ⟨t, hi, rfl⟩)) W hbW.size h0
  case hassign =>
    rintro l k args A W K ⟨t, h1, rfl⟩ hjA hAW hK
    gi_wp2
    refine hK _ _ (Below.refl _ _) ?_
    exact ⟨t, h1, rfl⟩
  case hbody =>
    rintro l k args a' A W hk hjA hs ⟨t, h1, rfl⟩
    have hj := hjA.sees hs (by have := HNU.out; omega)
    have ht : x.txs[k] = t := by
      rw [List.getElem?_eq_getElem hk] at h1
      exact Option.some.inj h1
    have hft := flat_take hk
    rw [ht] at hft
    have hfl := flat_le (xs := x.txs) (i := k + 1)
    rw [hft, List.length_append] at hfl
    have hln := HLN.out
    have HFT := Lib.hid hft
    have hB := hj.bld
    have hgw : g0 ≤ W.heap.size := by have := IsB.lt hB; have := HNU.out; omega
    have HW := Lib.hid (bwrite_any bty_own g0 gb (x.txs.take k).flatten t W hB (by omega) hgw)
    have HJ := Lib.hid hj
    clear hj hjA hs h1 ht hft hfl hln hB hgw hk HJ0
    generalize (x.txs.take k).flatten = acc at *
    gi_wp2
    refine ⟨trivial, ?_⟩
    refine ((FreeF.wide.inRound _).calls _ _ _ _ _ _ HW.out).mono ?_
    rintro e w1 ⟨rfl, g1, g2, g3⟩
    have HFIN := Lib.hid (show KeepsFrom w5.heap.size W w1 ∧ WdJ x #[c0, c1, c2, c3] g0 gb ge w (k + 1) w1 ∧ KT U8T w5.heap.size W w1 from by
      have hge := HNU.out
      refine ⟨⟨g2.size, fun i o hi ho hc => g3 i o ho (by intro h; cases h; omega) fun c fz e => by subst e; cases hc⟩, ⟨HJ.out.low.trans g2, by rw [HFT.out]; exact g1, HJ.out.el.kept g3 (by intro h; cases h; omega) (by decide)⟩, fun g ty cs hty hg hb => hb.kept g3 (by intro h; cases h; omega) hty⟩)
    clear g1 g2 g3 HW
    gi_wp2
    exact ⟨HFIN.out.1, HFIN.out.2.1, HFIN.out.2.2⟩
  case hdone =>
    intro D W hD hj hW
    have hB := hj.bld
    rw [List.take_length] at hB
    have HS := Lib.hid (xstring_any g0 gb x.txs.flatten W hB (by have := IsB.lt hB; have := HNU.out; omega))
    have HJ := Lib.hid hj
    have HWD := Lib.hid hW
    clear hB hj hW HJ0
    go_wp2_with (go_at_call 60; refine HS.out.mono ?_; rintro e W1 ⟨rfl, b1, b2⟩)
    have HFIN := Lib.hid (show W1.heap[D]? = some (.deferred (some [])) ∧ Below w.heap.size w (W1.putObj D (.deferred none)) from by
      have hm := b2 D _ HWD.out
      exact ⟨hm, by rw [HG0.out]; exact xbelow_mark (HJ.out.low.trans b1) (by have := HNU.out; omega) hm⟩)
    clear b1 b2
    go_wp2_with fail
    refine xleaves_one HFIN.out.1 ⟨.string (bs x.txs.flatten), by simp [results, Tryz.results54, go_sem], rfl, HFIN.out.2⟩
end Go.Proofs.YtkghpmpmcafhkaaGreatDoor

namespace Go.Proofs.YtkghpmpmcafhkaaGreatDoor
open Go.RowKit Go.Extern.Stop Go.Stop Go.Extern
attribute [local go_sem] bs_toList
attribute [local irreducible] wpPhi

/-- <a b='1'>x&amp;y</a> -/
def xliveS : List UInt8 := [60, 97, 32, 98, 61, 39, 49, 39, 62, 120, 38, 97, 109, 112, 59, 121, 60, 47, 97, 62]
def xliveT : Tr := .node [[97]] [[[98], [49]]] [textK [120, 38, 121]] []
theorem xlive_parse : parseE xliveS = .ok xliveT := by rfl
theorem xlive_ok : xliveT.ok 1 ∧ xliveT.txs.flatten = [120, 38, 121] := by
  unfold xliveT textK
  simp [Tr.ok, Tr.okL, Tr.txs, Tr.txsL]
theorem xlive_cells {w : World} {P : Nat → Prop} {cs : List Value} (h : TrC w P xliveT cs) : ∃ g off ca pk ck, cs = [.string ⟨#[97]⟩, .slice (some ⟨g, off, none⟩) 1 ca, .slice pk 1 ck, .string ⟨#[]⟩] ∧ w.cell? ⟨g, off + 1, none⟩ = some (.string ⟨#[49]⟩) := by
  unfold xliveT TrC at h
  obtain ⟨pa, ca, pk, ck, css, rfl, ⟨_, _, hr, _⟩, _⟩ := h
  rcases hr with h | ⟨g, off, rfl, hc⟩
  · simp [acells, strs] at h
  · exact ⟨g, off, ca, pk, ck, rfl, hc 1 _ rfl⟩
set_option maxRecDepth 20000 in
set_option maxHeartbeats 4000000 in
theorem alive23_any (E : Nat → Addr) (w : World) (hg : LibG w) (hE : Errs w E) :
    Calls Tryz.prog 24 #[] w (fun e w' => e = .returned (.bool true) ∧ Below w.heap.size w w') := by
  have hPA := parse_any E xliveS w hg hE (by unfold maxLen xliveS; simp)
  rw [xlive_parse] at hPA
  have HPA := Lib.hid (hPA.mono (R' := fun e w' => ∃ g off ca pk ck, e = .returned (.tuple #[.agg #[.string ⟨#[97]⟩, .slice (some ⟨g, off, none⟩) 1 ca, .slice pk 1 ck, .string ⟨#[]⟩], .nilIface]) ∧ w'.cell? ⟨g, off + 1, none⟩ = some (.string ⟨#[49]⟩) ∧ TrC w' (Bt w.heap.size w'.heap.size none) xliveT [.string ⟨#[97]⟩, .slice (some ⟨g, off, none⟩) 1 ca, .slice pk 1 ck, .string ⟨#[]⟩] ∧ Below w.heap.size w w') fun e w' ⟨hb, s0, p1, n1, c1, p2, n2, c2, s3, he, hT⟩ => by
    obtain ⟨g, off, ca, pk, ck, hcs, hc⟩ := xlive_cells hT
    cases hcs
    exact ⟨g, off, _, _, _, he, hc, hT, hb⟩)
  clear hPA hg hE
  go_enter Tryz.func24, Tryz.ntmps24
  go_wp2_with (first | (go_at_call 28; refine HPA.out.mono ?_; rintro e w2 ⟨g, off, ca, pk, ck, rfl, hc2, hT2, hb2⟩; have HN2 := Lib.hid (Blk.new w2 28 #[.string ⟨#[]⟩, .slice none 0 0, .slice none 0 0, .string ⟨#[]⟩])) | (refine wpList_store (.tmp 1) (.tmp 5) 28 rfl rfl w2.heap.size 0 _ _ #[.string ⟨#[97]⟩, .slice (some ⟨g, off, none⟩) 1 ca, .slice pk 1 ck, .string ⟨#[]⟩] rfl rfl HN2.out ?s0 ?s1 ?s2 ?_))
  case s0 => kernel_rfl
  case s1 => simp [Value.oneCell']
  case s2 => simp
  intro w3 hb3 ho3
  rw [putCells_all #[.string ⟨#[]⟩, .slice none 0 0, .slice none 0 0, .string ⟨#[]⟩] #[.string ⟨#[97]⟩, .slice (some ⟨g, off, none⟩) 1 ca, .slice pk 1 ck, .string ⟨#[]⟩] rfl] at hb3
  have hbX := below_alloc1 w2 (.cells #[.string ⟨#[]⟩, .slice none 0 0, .slice none 0 0, .string ⟨#[]⟩] 28)
  have HW3 := Lib.hid ((hb2.trans (hbX.mono hb2.size)).trans (ho3.below hb2.size))
  have hT3 := ((hT2.below hbX).only ho3 (fun b hb => by have := hb.2.1; omega)).imp (Q := fun _ => True) fun b hb => trivial
  have HWD := Lib.hid (word_any xliveT _ _ _ _ _ w3 xlive_ok.1 (by rw [xlive_ok.2]; simp) hT3)
  rw [xlive_ok.2] at HWD
  have k1 : w3.cell? ⟨g, off + 1, none⟩ = some (.string ⟨#[49]⟩) := by
    have hlt := cell_lt hc2
    exact (World.cell?_of_block (ho3.block g (by simp at hlt; omega))).trans (Below.keeps hbX _ _ hc2)
  have a0 := (hb3.cell 0).trans rfl
  have a1 := (hb3.cell 1).trans rfl
  have a2 := (hb3.cell 2).trans rfl
  have a3 := (hb3.cell 3).trans rfl
  generalize w2.heap.size = g2 at *
  clear hb3 ho3 hbX hT2 hT3 hb2 hc2 HN2
  go_wp2_with (go_at_call 54; refine HWD.out.mono ?_; rintro e w4 ⟨rfl, hb4⟩; have HW4 := Lib.hid (HW3.out.trans (hb4.mono HW3.out.size)); clear hb4)
  go_ret
  exact ⟨rfl, HW4.out⟩
end Go.Proofs.YtkghpmpmcafhkaaGreatDoor
