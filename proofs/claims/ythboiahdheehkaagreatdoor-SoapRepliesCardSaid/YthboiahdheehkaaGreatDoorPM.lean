/- RangeJ -/
import Derived.Test.YthboiahdheehkaaGreatDoorBA
import Derived.RangeFuncNested
import Derived.RangeFuncBound
import Derived.RangeFuncCalls
import Derived.RangeFuncLeaves
import Derived.Shelf.Abstract
import Derived.OwnWalkIn
import Derived.TacticsInMore
import Derived.LoopNIn
import Derived.LoopIn
import Derived.Test.YthboiahdheehkaaGreatDoorPL
open List renaming cons_append → lD, nil_append → lE, length_append → lF, length_nil → lP
open Go.Lib renaming hid → hI
open Array renaming getElem?_eq_some_iff → aA
open Nat renaming le_refl → nR
open Go.Proofs.Tryz renaming prog → pG
open Go.Value renaming string → S
open Go.Value renaming slice → CC
open Go.Ending renaming returned → T
open Go.Obj renaming cells → OO
namespace Go.Proofs.YthboiahdheehkaaGreatDoor
section
set_option maxHeartbeats 8000000
set_option maxRecDepth 20000
open Go.RowKit
structure Sees (B : Nat) (W W' : World) : Prop where
 os : W'.os = W.os
 tape : W'.tape = W.tape
 output : W'.output = W.output
 size : W.heap.size ≤ W'.heap.size
 low : ∀ i, i < B → i < W.heap.size → W'.heap[i]? = W.heap[i]?
 cells : ∀ (i : Nat) (o : Obj), W.heap[i]? = some o → o.isCells = true → W'.heap[i]? = some o
theorem Sees.trans {B : Nat} {X Y Z : World} (h : Sees B X Y) (k : Sees B Y Z) : Sees B X Z :=
 ⟨k.os.trans h.os, k.tape.trans h.tape, k.output.trans h.output, Nat.le_trans h.size k.size, fun i hi hx => (k.low i hi (Nat.lt_of_lt_of_le hx h.size)).trans (h.low i hi hx), fun i o hi ho => k.cells i o (h.cells i o hi ho) ho⟩
theorem Sees.of_below {B : Nat} {W W' : World} (h : Below W.heap.size W W') : Sees B W W' :=
 ⟨h.os, h.tape, h.output, h.size, fun i _ hi => h.block i hi, fun i o hi _ => (h.block i (aA.1 hi).1).trans hi⟩
theorem Sees.putObj {B l : Nat} {W : World} {o : Obj} (o' : Obj) (hB : B ≤ l) (h : W.heap[l]? = some o) (ho : o.isCells = false) : Sees B W (W.putObj l o') := by
 have hg := grownBy_putObj' W l o'
 refine ⟨hg.os, hg.tape, hg.output, hg.size, fun i hi hx => hg.block i hx (fun e => ?_), fun i u hi hu => (hg.block i (aA.1 hi).1 (fun e => ?_)).trans hi⟩
 ·cases e; omega
 ·cases e
  rw [h] at hi
  cases hi
  rw [ho] at hu
  cases hu
theorem Sees.blk {B g : Nat} {W W' : World} {t : TypeId} {cs : Array Value} (h : Sees B W W') (hb : Blk W g t cs) : Blk W' g t cs := h.cells g _ hb rfl
theorem Sees.owns {B base size n : Nat} {W W' : World} {e : TypeId} {v : Value} {xs : List Value} (h : Sees B W W') (ho : W.ownsRow base e size v n xs) : W'.ownsRow base e size v n xs := by
 refine ⟨ho.1, ?_⟩
 rcases ho.2 with h2 | ⟨g, cap, cur, rfl, hB, hh, r⟩
 ·exact .inl h2
 ·exact .inr ⟨g, cap, cur, rfl, hB, h.cells g _ hh rfl, r⟩
theorem Sees.below {B n₀ : Nat} {w W W' : World} (h : Sees B W W') (hn : n₀ ≤ B) (hb : Below n₀ w W) (hs : n₀ ≤ W.heap.size) : Below n₀ w W' :=
 ⟨h.os.trans hb.os, h.tape.trans hb.tape, h.output.trans hb.output, Nat.le_trans hb.size h.size, fun i hi => (h.low i (by omega) (by omega)).trans (hb.block i hi)⟩
variable {F : Fence} {n : Nat} {P : Program}
end
section
set_option maxHeartbeats 8000000
set_option maxRecDepth 20000
open Go.RowKit
def KT (T0 : TypeId) (B : Nat) (W W' : World) : Prop := ∀ (g : Nat) (t : TypeId) (cs : Array Value), t ≠ T0 → B ≤ g → Blk W g t cs → Blk W' g t cs
theorem KT.refl (T0 : TypeId) (B : Nat) (W : World) : KT T0 B W W := fun _ _ _ _ _ h => h
theorem KT.trans {T0 : TypeId} {B : Nat} {X Y Z : World} (h : KT T0 B X Y) (k : KT T0 B Y Z) : KT T0 B X Z := fun g t cs ht hg hb => k g t cs ht hg (h g t cs ht hg hb)
theorem KT.of_below {T0 : TypeId} {B : Nat} {W W' : World} (h : Below W.heap.size W W') : KT T0 B W W' := fun _ _ _ _ _ hb => hb.below h hb.lt
theorem KT.of_sees {T0 : TypeId} {B C : Nat} {W W' : World} (h : Sees C W W') : KT T0 B W W' := fun _ _ _ _ _ hb => h.blk hb
structure FreeF (F : Fence) : Prop where
 fn : ∀ f, F.fn f
 depth : F.depth = none
 calls : ∀ (n : Nat) (P : Program) (f : FuncId) (args : Array Value) (w : World) (R : Ending → World → Prop), Calls P f args w R → CallsIn F n P f args w R
 rows : ∀ (n : Nat) (P : Program) (f : String) (args : Array Value) (w : World) (R : Value → World → Prop), Rows P f args w R → RowsIn F n P f args w R
theorem FreeF.wide : FreeF Fence.wide := ⟨fun _ => trivial, rfl, fun _ _ _ _ _ _ h => callsIn_wide.2 h, fun _ _ _ _ _ _ h c cs _ => let ⟨v, w', r, s⟩ := h c cs; ⟨v, w', r, stepsIn_wide.2 s⟩⟩
theorem FreeF.inRound {F : Fence} (h : FreeF F) (l : Nat) : FreeF (F.inRound l) := ⟨h.fn, h.depth, fun n P f args w R k => (h.calls n P f args w R k).inRound l, fun n P f args w R k => h.rows n P f args w R k⟩
variable {F : Fence} {n : Nat} {P : Program}
theorem wpIn_rangeM (T0 : TypeId) {g : Operand} {ps : Array Tmp} {assign body : Code} {Q : Exit → Act → World → Prop} {a : Act} {w : World}
  (hro : F.round = none) (h1 : 1 ≤ n) {gf : Nat} {lb : Array Value} (hg : a.eval g = .func (.func gf) #[] lb) (hFg : F.fn gf) (eg : ∀ args w, (callFunc gf args).run P w = .ok (.enter gf args) w)
  (J : Nat → World → Prop) (Kn : Nat → Array Value → World → World → Prop) (m : Nat)
  (hJ : ∀ k W W', J k W → Sees w.heap.size W W' → J k W') (h0 : J 0 w)
  (Bd : Nat → Array Value → Act → World → World → Prop) (hBd : ∀ k args a' A W W', Bd k args a' A W → Sees w.heap.size W W' → Bd k args a' A W')
  (hps : ∀ k args A W, Kn k args A W → args.size = ps.size)
  (hiter : ∀ (l : Nat) (W : World) (J' : Nat → World → Prop), Below w.heap.size w W → (∀ k A B, J' k A → Below A.heap.size A B → J' k B) → (∀ k A, J' k A → J k A) →
   (∀ k args A W, k < m → J' k A → Below A.heap.size A W → Kn k args A W → YieldAt F (n - 1 - 1) P l args W fun e W' => e = T (.bool true) ∧ J' (k + 1) W' ∧ KT T0 w.heap.size W W') → J' 0 W →
   CallsIn F (n - 1) P gf (#[.func (.yield l) #[] #[]] ++ lb) W fun e W' => (∃ v, e = T v) ∧ J' m W')
  (hassign : ∀ (l k : Nat) (args : Array Value) (A W : World) (K : Act → World → Prop), Kn k args A W → J k A → Below A.heap.size A W → (∀ a' W', Below W.heap.size W W' → Bd k args a' A W' → K a' W') →
   assign.wpIn (F.inRound l) (n - 1 - 1) P (Exit.then K (fun _ _ _ => False)) { tmps := (ps.zip args).foldl (fun t (p, v) => t.setIfInBounds p v) a.tmps, defers := [] } W)
  (hbody : ∀ (l k : Nat) (args : Array Value) (a' : Act) (A W : World), k < m → J k A → Sees w.heap.size A W → Bd k args a' A W →
   body.wpIn (F.inRound l) (n - 1 - 1) P (fun e _ W' => e = .normal ∧ KeepsFrom w.heap.size W W' ∧ J (k + 1) W' ∧ KT T0 w.heap.size W W') a' W)
  (hdone : ∀ (D : Nat) (W : World), w.heap.size ≤ D → J m W → W.heap[D]? = some (.deferred (some [])) → Q .normal { a with defers := { target := .collected D, args := #[] } :: a.defers } W) :
  (Code.rangeFunc g ps assign body).wpIn F n P Q a w := by
 refine wpIn_rangeFunc fun fn hfn => ?_
 rw [hro]
 obtain ⟨L, hL⟩ : ∃ L : LoopState → Loop, L = fun st => { state := st, pending := none, fn, tmps := a.tmps, params := ps, assign, body, defers := w.heap.size } := ⟨_, rfl⟩
 obtain ⟨W1, hW1⟩ : ∃ W1, (w.alloc (.deferred (some []))).alloc (.loop (L .ready)) = W1 := ⟨_, rfl⟩
 have hsz1 : W1.heap.size = w.heap.size + 2 := by rw [← hW1, World.size_alloc, World.size_alloc]
 have hb1 : Below w.heap.size w W1 := by rw [← hW1]; exact below_alloc (below_alloc1 w _) _
 have hloop : W1.heap[w.heap.size + 1]? = some (.loop (L .ready)) := by
  rw [← hW1]
  have := heap_alloc_new (w.alloc (.deferred (some []))) (.loop (L .ready))
  rwa [World.size_alloc] at this
 have hdef : W1.heap[w.heap.size]? = some (.deferred (some [])) := by
  rw [← hW1]
  exact (Below.heap_alloc _ _ _ (by rw [World.size_alloc]; omega)).trans (heap_alloc_new w _)
 -- J and the two blocks of the loop's own
 obtain ⟨J', hJ'⟩ : ∃ J' : Nat → World → Prop, J' = fun k W => J k W ∧ W.heap[w.heap.size + 1]? = some (.loop (L .ready)) ∧ W.heap[w.heap.size]? = some (.deferred (some [])) := ⟨_, rfl⟩
 have keep : ∀ k A B, J' k A → Below A.heap.size A B → J' k B := by
  intro k A B h hb
  rw [hJ'] at h ⊢
  exact ⟨hJ k A B h.1 (Sees.of_below hb), (hb.block _ (aA.1 h.2.1).1).trans h.2.1, (hb.block _ (aA.1 h.2.2).1).trans h.2.2⟩
 refine ⟨w.heap.size + 1, [{ target := .collected w.heap.size, args := #[] }], W1, { target := .fn (.func gf) lb, args := #[.func (.yield (w.heap.size + 1)) #[] #[]] }, W1, gf,
  #[.func (.yield (w.heap.size + 1)) #[] #[]] ++ lb, W1, ?_, ?_, ?_, ?_, fun _ => h1, ?_⟩
 ·rw [← hW1, hL]
  exact run_enterLoop_outer _ _ _ _ _
 ·simp only [resolve, hg]
  simp [go_sem]
 ·intro f' hf'
  simp [Target.leads] at hf'
  subst hf'
  exact hFg
 ·simp [invoke, go_sem, eg]
 ·refine (hiter (w.heap.size + 1) W1 J' hb1 keep (fun k A h => by rw [hJ'] at h; exact h.1) ?_ ?_).mono ?_
  ·-- one round
   intro k args A W hk hA hAW hkn
   have hW := keep k A W hA hAW
   rw [hJ'] at hW hA
   obtain ⟨hi, hl, hd⟩ := hW
   have hlt : w.heap.size + 1 < W.heap.size := (aA.1 hl).1
   have hy := run_yield (P := P) (args := args) hl (by rw [hL]; exact hps k args A W hkn)
   rw [hL] at hy
   refine ⟨fn, _, assign, body, hy, roundIn_of_wpIn hfn (hassign _ k args A W _ hkn hA.1 hAW fun a' W9 hb9 hbd => ?_)⟩
   have hl := (hb9.block _ hlt).trans hl
   have hd := (hb9.block _ (aA.1 hd).1).trans hd
   have hAW := hAW.trans (hb9.mono hAW.size)
   have hkb9 : KT T0 w.heap.size W W9 := KT.of_below hb9
   have hlt : w.heap.size + 1 < W9.heap.size := (aA.1 hl).1
   clear hy hb9
   refine ⟨_, run_beginRound hl (by rw [hL]), ?_⟩
   obtain ⟨W2, hW2⟩ : ∃ W2, W9.putObj (w.heap.size + 1) (.loop { L .ready with state := .busy }) = W2 := ⟨_, rfl⟩
   have hs2 : Sees w.heap.size W9 W2 := by rw [← hW2]; exact Sees.putObj _ (by omega) hl rfl
   have hl2 : W2.heap[w.heap.size + 1]? = some (.loop { L .ready with state := .busy }) := by rw [← hW2]; exact World.putObj_heap_same hlt
   have hd2 : W2.heap[w.heap.size]? = some (.deferred (some [])) := by rw [← hW2]; exact (World.putObj_heap_other (by omega)).trans hd
   rw [hW2]
   refine wpIn_mono (hbody _ k args a' A W2 hk hA.1 ((Sees.of_below hAW).trans hs2) (hBd k args a' A W9 W2 hbd hs2)) ?_
   rintro e a3 W3 ⟨rfl, hk3, hj3, hkb3⟩
   have hl3 := hk3.same _ _ (by omega) hl2 rfl
   have hd3 := hk3.same _ _ (nR _) hd2 rfl
   have hr := run_endRound (P := P) none hl3
   refine ⟨_, _, hr, rfl, ?_, (hkb9.trans (KT.of_sees hs2)).trans (hkb3.trans (KT.of_sees (Sees.putObj (B := w.heap.size) _ (by omega) hl3 rfl)))⟩
   rw [hJ']
   refine ⟨hJ _ _ _ hj3 (Sees.putObj _ (by omega) hl3 rfl), ?_, (World.putObj_heap_other (by omega)).trans hd3⟩
   rw [World.putObj_heap_same (aA.1 hl3).1, hL]
   rfl
  ·rw [hJ']
   exact ⟨hJ 0 w W1 h0 ⟨hb1.os, hb1.tape, hb1.output, hb1.size, fun i hi _ => hb1.block i hi, fun i o hi _ => (hb1.block i (aA.1 hi).1).trans hi⟩, hloop, hdef⟩
  ·rintro e W2 ⟨⟨v, rfl⟩, hj⟩
   rw [hJ'] at hj
   obtain ⟨hj, hl, hd⟩ := hj
   refine ⟨none, _, by have := run_endLoop (P := P) hl (by rw [hL]; simp); rw [hL] at this; exact this, hdone _ _ (nR _) (hJ _ _ _ hj (Sees.putObj _ (by omega) hl rfl)) ((World.putObj_heap_other (by omega)).trans hd)⟩
end
section
set_option maxHeartbeats 8000000
set_option maxRecDepth 20000
open Go.RowKit
attribute [local go_sem] Oper.semAt_some
theorem room_of_none {F : Fence} (hd : F.depth = none) (k : Nat) : F.room k := fun d h => by rw [hd] at h; cases h
theorem yield_any {F : Fence} (hd : F.depth = none) {m : Nat} (m' : Nat) {P : Program} {l : Nat} {args : Array Value} {W : World} {R : Ending → World → Prop} (h : YieldAt F m P l args W R) : YieldAt F m' P l args W R := by
 obtain ⟨fn, tmps, assign, body, hy, hR⟩ := h
 exact ⟨fn, tmps, assign, body, hy, hR.1, fun c cs _ => hR.2 c cs (room_of_none hd _)⟩
mutual
def Tr.nms : Tr → List (List (List UInt8))
 | .node nm ats ks _ => nm :: (ats.map (fun a => a.take 2) ++ Tr.nmsL ks)
def Tr.nmsL : List Tr → List (List (List UInt8))
 | [] => []
 | k :: ks => k.nms ++ Tr.nmsL ks
end
theorem nmsL_take {ks : List Tr} {j : Nat} (h : j < ks.length) : Tr.nmsL (ks.take (j + 1)) = Tr.nmsL (ks.take j) ++ ks[j].nms := by
 have happ : ∀ xs ys : List Tr, Tr.nmsL (xs ++ ys) = Tr.nmsL xs ++ Tr.nmsL ys := by
  intro xs ys
  induction xs with
  | nil => rw [lE, Tr.nmsL, lE]
  | cons x xs ih => rw [lD, Tr.nmsL, Tr.nmsL, ih, List.append_assoc]
 rw [List.take_succ_eq_append_getElem h, happ]
 congr 1
 rw [Tr.nmsL, Tr.nmsL, List.append_nil]
theorem nmsL_get : ∀ {ks : List Tr} {j : Nat} (h : j < ks.length) (i : Nat) (hi : i < ks[j].nms.length), (Tr.nmsL ks)[(Tr.nmsL (ks.take j)).length + i]? = ks[j].nms[i]?
 | k :: ks, 0, h, i, hi => by
  rw [List.take_zero, Tr.nmsL, Tr.nmsL, lP, Nat.zero_add]
  rw [List.getElem?_append_left (by simpa using hi)]
  rfl
 | k :: ks, j + 1, h, i, hi => by
  rw [List.take_succ_cons, Tr.nmsL, Tr.nmsL, lF, Nat.add_assoc, List.getElem?_append_right (by omega), Nat.add_sub_cancel_left]
  exact nmsL_get (by simpa using h) i (by simpa using hi)
theorem nms_head (nm : List (List UInt8)) (ats : List (List (List UInt8))) (ks : List Tr) (t : List UInt8) : (Tr.node nm ats ks t).nms = nm :: (ats.map (fun a => a.take 2) ++ Tr.nmsL ks) := by rw [Tr.nms]
abbrev XAT : TypeId := 186
theorem each_in (F : Fence) (hF : FreeF F) (hro : F.round = none) (l B : Nat) (w : World) (J : Nat → World → Prop)
  (hG : ∀ k A, J k A → Below w.heap.size w A) (hK : ∀ k A C, J k A → Below A.heap.size A C → J k C) :
  ∀ (n : Nat) (x : Tr) (P : Nat → Prop) (cx : List Value) (mm k0 : Nat), x.sz ≤ n → x.ok 2 → TrC w P x cx →
  (∀ (i mm : Nat) (A W : World) (n0 n1 : List UInt8), x.nms[i]? = some [n0, n1] → J (k0 + i) A → Below A.heap.size A W → YieldAt F mm pG l #[.agg #[S (bs n0), S (bs n1)]] W fun e W' => e = T (.bool true) ∧ J (k0 + i + 1) W' ∧ KT XAT B W W') →
  ∀ W : World, B ≤ W.heap.size → J k0 W →
  CallsIn F mm pG 181 #[.agg cx.toArray, .func (.yield l) #[] #[]] W fun e W' => e = T (.bool true) ∧ J (k0 + x.nms.length) W' ∧ KT XAT B W W' := by
 have HG := hI hG
 have HK := hI hK
 have hdep := hF.depth
 have HF := hI hF
 clear hG hK
 intro n
 induction n with
 | zero => intro x P cx mm k0 hs; have := x.sz_pos; omega
 | succ n ih =>
  intro x P cx mm k0 hs hx hcx hY W hBW h0
  obtain ⟨nx, ax, kx, tx⟩ := x
  unfold TrC at hcx
  unfold Tr.ok at hx
  obtain ⟨hx1, hx2, hx3⟩ := hx
  obtain ⟨a0, a1, rfl⟩ := two_of hx1
  obtain ⟨pa, ca, pk, ck, css, rfl, ⟨A1, A2, A3, -⟩, ⟨K1, K2, K3, -⟩, hL⟩ := hcx
  show CallsIn F mm pG 181 #[.agg #[S (bs a0), S (bs a1), CC pa ax.length ca, CC pk kx.length ck, S (bs tx)], .func (.yield l) #[] #[]] W _
  have hnm := nms_head [a0, a1] ax kx tx
  rw [hnm] at hY ⊢
  have HY := hI hY
  have HIH := hI ih
  have HA := hI A3
  have HKK := hI K3
  have HL := hI hL
  have HX2 := hI hx2
  have HX3 := hI hx3
  have hks : ∀ i (hi : i < kx.length), kx[i].sz ≤ n := fun i hi => by
   have := Tr.sz_kid (.node [a0, a1] ax kx tx) i hi
   have h2 : (Tr.node [a0, a1] ax kx tx).ks[i] = kx[i] := rfl
   rw [h2] at this
   omega
  have HKS := hI hks
  unfold maxLen at A2 K2
  have HNB := hI (Blk.new W 44 #[S (bs a0), S (bs a1), CC pa ax.length ca, CC pk kx.length ck, S (bs tx)])
  have HB1 := hI (below_alloc1 W (OO #[S (bs a0), S (bs a1), CC pa ax.length ca, CC pk kx.length ck, S (bs tx)] 44))
  obtain ⟨c0, c1, -⟩ := HNB.out.cc
  obtain ⟨fn, tmps, assign, body, hy, hR⟩ := hY 0 (mm - 1) W _ a0 a1 rfl h0 HB1.out
  have HR := hI hR
  clear hY ih A3 K3 hL hx2 hx3 hks hR hnm h0
  refine callsIn_of_wp Tryz.func181 rfl (hF.fn _) ?_ hro
  clear hF
  simp only [Tryz.ntmps181, List.size_toArray, List.length_cons, lP, Nat.reduceAdd, Nat.reduceSub, Array.replicate_succ, Array.replicate_zero, List.push_toArray, List.append_toArray, lE, lD]
  gi_wp2
  refine HR.out.mono ?_
  rintro e W2 ⟨rfl, hj2, hk2⟩
  have HJ2 := hI hj2
  have HK2 := hI ((KT.of_below (T0 := XAT) (B := B) HB1.out).trans hk2)
  have HN2 := hI (hk2 _ _ _ (by decide) hBW HNB.out)
  have c2 := (HN2.out.cell 2).trans rfl
  clear hj2 hk2 hy c0 c1
  gi_wp2
  gi_loopw [17] (fun i wr => ∃ j : Nat, j ≤ ax.length ∧ i = .int .i64 (j : Int) ∧ J (k0 + (1 + j)) wr ∧ Blk wr W.heap.size 44 #[S (bs a0), S (bs a1), CC pa ax.length ca, CC pk kx.length ck, S (bs tx)] ∧ KT XAT B W wr ∧ W.heap.size ≤ wr.heap.size) (fun i _ => ax.length - (intOf i).toNat)
  case atStart => exact ⟨0, by omega, rfl, by simpa [Nat.add_assoc] using HJ2.out, HN2.out, HK2.out, Nat.le_of_lt HN2.out.lt⟩
  case round =>
   clear c2
   obtain ⟨j, hj, rfl, hjr, hnb, hkr, hsr⟩ := hrel
   by_cases hlt : j < ax.length
   ·obtain ⟨e1, o1, x0, x1, x2, rfl, hgx, hx0, hx1, hx2⟩ := at_2 HA.out HX2.out hlt
    have hlow := HG.out _ _ hjr
    have hx0 := Below.keeps hlow _ _ hx0
    have hx1 := Below.keeps hlow _ _ hx1
    have hx2 := Below.keeps hlow _ _ hx2
    have hlt' : (j : Int) < (ax.length : Int) := by omega
    have HBA := hI (below_alloc1 wr (OO #[S (bs x0), S (bs x1), S (bs x2)] 87))
    have hNA := Blk.new wr 87 #[S (bs x0), S (bs x1), S (bs x2)]
    obtain ⟨d0, d1, -⟩ := hNA.cc
    have hnx : ([a0, a1] :: (ax.map (fun a => a.take 2) ++ Tr.nmsL kx))[1 + j]? = some [x0, x1] := by
     rw [Nat.add_comm, List.getElem?_cons_succ, List.getElem?_append_left (by simpa using hlt), List.getElem?_map, List.getElem?_eq_getElem hlt, hgx]
     rfl
    obtain ⟨fn, tmps, assign, body, hy, hR⟩ := HY.out (1 + j) (mm - 1) wr _ x0 x1 hnx hjr HBA.out
    have HR := hI hR
    have HNB3 := hI (hnb.alloc (OO #[S (bs x0), S (bs x1), S (bs x2)] 87))
    have HKR := hI (hkr.trans (KT.of_below (T0 := XAT) (B := B) HBA.out))
    have hszz : (wr.alloc (OO #[S (bs x0), S (bs x1), S (bs x2)] 87)).heap.size = wr.heap.size + 1 := by simp
    clear hR hgx hlow hNA hjr hnb hkr hnx
    gi_wp2
    refine HR.out.mono ?_
    rintro e W3 ⟨rfl, hj3, hk3⟩
    have HJ3 := hI hj3
    have HN3 := hI (hk3 _ _ _ (by decide) (by omega) HNB3.out)
    have HK3 := hI (HKR.out.trans hk3)
    clear hj3 hk3 hy d0 d1 hx0 hx1 hx2
    gi_wp2
    go_roundw
    case rel => exact ⟨j + 1, by omega, by go_num, by simpa [Nat.add_assoc] using HJ3.out, HN3.out, HK3.out, Nat.le_of_lt HN3.out.lt⟩
    case measure => simp [intOf]; omega
   ·obtain rfl : j = ax.length := by omega
    have c3 := (hnb.cell 3).trans rfl
    have HJ4 := hI hjr
    have HN4 := hI hnb
    have HK4 := hI hkr
    clear hjr hnb hkr
    gi_wp2
    clear c3
    gi_loopw [30] (fun i wr => ∃ j : Nat, j ≤ kx.length ∧ i = .int .i64 (j : Int) ∧ J (k0 + (1 + ax.length + (Tr.nmsL (kx.take j)).length)) wr ∧ KT XAT B W wr ∧ Blk wr W.heap.size 44 #[S (bs a0), S (bs a1), CC pa ax.length ca, CC pk kx.length ck, S (bs tx)]) (fun i _ => kx.length - (intOf i).toNat)
    case atStart => exact ⟨0, by omega, rfl, by rw [List.take_zero, Tr.nmsL]; exact HJ4.out, HK4.out, HN4.out⟩
    case round =>
     obtain ⟨j, hj, rfl, hjr, hkr, hnb⟩ := hrel
     have hsr := hnb.lt
     clear HJ4 HN4 HK4
     by_cases hlt : j < kx.length
     ·obtain ⟨e1, o1, m0, m1, u1, u2, u3, u4, u5, u6, u7, rfl, hgx, hT1, hq0, hq1, hq2, hq3, hq4⟩ := kid_2 HKK.out HL.out HX3.out hlt
      have hlow := HG.out _ _ hjr
      have hq0 := Below.keeps hlow _ _ hq0
      have hq1 := Below.keeps hlow _ _ hq1
      have hq2 := Below.keeps hlow _ _ hq2
      have hq3 := Below.keeps hlow _ _ hq3
      have hq4 := Below.keeps hlow _ _ hq4
      have hlt' : (j : Int) < (kx.length : Int) := by omega
      have HBA := hI (below_alloc1 wr (OO #[S (bs m0), S (bs m1), CC u4 u1.length u5, CC u6 u2.length u7, S (bs u3)] 44))
      have hNA := Blk.new wr 44 #[S (bs m0), S (bs m1), CC u4 u1.length u5, CC u6 u2.length u7, S (bs u3)]
      obtain ⟨d0, d1, d2, d3, d4, -⟩ := hNA.cc
      have hszz : (wr.alloc (OO #[S (bs m0), S (bs m1), CC u4 u1.length u5, CC u6 u2.length u7, S (bs u3)] 44)).heap.size = wr.heap.size + 1 := by simp
      have hIH := hI (HIH.out kx[j] P _ (mm - 1) (k0 + (1 + ax.length + (Tr.nmsL (kx.take j)).length)) (HKS.out j hlt) (okL_get 2 kx HX3.out j hlt) hT1
       (fun i mm' A W' n0 n1 hi hA hAW => by
        have hil : i < kx[j].nms.length := (List.getElem?_eq_some_iff.1 hi).1
        have h2 := HY.out (1 + ax.length + (Tr.nmsL (kx.take j)).length + i) mm' A W' n0 n1 (by
         rw [show 1 + ax.length + (Tr.nmsL (kx.take j)).length + i = (ax.length + ((Tr.nmsL (kx.take j)).length + i)) + 1 by omega, List.getElem?_cons_succ, List.getElem?_append_right (by simp)]
         rw [List.length_map, Nat.add_sub_cancel_left, nmsL_get hlt i hil]
         exact hi) (by rw [← Nat.add_assoc]; exact hA) hAW
        rw [← Nat.add_assoc] at h2
        exact h2) (wr.alloc (OO #[S (bs m0), S (bs m1), CC u4 u1.length u5, CC u6 u2.length u7, S (bs u3)] 44)) (by omega) (HK.out _ _ _ hjr HBA.out))
      have HST := hI (nmsL_take hlt)
      have HKR := hI (hkr.trans (KT.of_below (T0 := XAT) (B := B) HBA.out))
      have HNB3 := hI (hnb.alloc (OO #[S (bs m0), S (bs m1), CC u4 u1.length u5, CC u6 u2.length u7, S (bs u3)] 44))
      clear hgx hlow hNA hjr hkr hT1 hnb
      gi_wp2
      refine ⟨HF.out.fn _, ?_⟩
      refine hIH.out.mono ?_
      rintro e W3 ⟨rfl, hj3, hk3⟩
      have HJ3 := hI hj3
      have HK3 := hI (HKR.out.trans hk3)
      have HN3 := hI (hk3 _ _ _ (by decide) (by omega) HNB3.out)
      clear hj3 hk3 hIH d0 d1 d2 d3 d4 hq0 hq1 hq2 hq3 hq4
      gi_wp2
      go_roundw
      case rel => exact ⟨j + 1, by omega, by go_num, by rw [HST.out, lF, ← Nat.add_assoc (1 + ax.length), ← Nat.add_assoc k0]; exact HJ3.out, HK3.out, HN3.out⟩
      case measure => simp [intOf]; omega
     ·obtain rfl : j = kx.length := by omega
      rw [List.take_of_length_le (nR _)] at hjr
      have HJ5 := hI hjr
      have HK5 := hI hkr
      clear hjr hkr hnb
      gi_wp2
      refine bodyPost_ret (v := .bool true) (by simp [results, Tryz.results181, go_sem]) rfl ?_
      refine ⟨rfl, ?_, HK5.out⟩
      have e : (ax.map (fun a => a.take 2) ++ Tr.nmsL kx).length + 1 = 1 + ax.length + (Tr.nmsL kx).length := by simp; omega
      first
       | (rw [e]; exact HJ5.out)
       | (show J (k0 + ((ax.map (fun a => a.take 2) ++ Tr.nmsL kx).length + 1)) wr; rw [e]; exact HJ5.out)
end
section
set_option maxHeartbeats 8000000
set_option maxRecDepth 20000
open Go.RowKit
attribute [local go_sem] Oper.semAt_some
theorem run_mkF2 {P : Program} (fn : Fn) (first cap : Array Value) (w : World) : (Instr.makeFunc fn first cap).run P w = .ok (.func fn first cap) w := rfl
theorem names_any (c0 c1 c2 c3 c4 : Value) (w : World) :
  Calls pG 129 #[.agg #[c0, c1, c2, c3, c4]] w fun e w' => e = T (.func (.func 180) #[] #[.pointer (some ⟨w.heap.size, 0, none⟩)]) ∧ w' = w.alloc (OO #[c0, c1, c2, c3, c4] 44) := by
 have hmf := @run_mkF2 pG
 go_enter Tryz.func129, Tryz.ntmps129
 go_wp2_with fail
 go_ret
 exact ⟨rfl, rfl⟩
theorem names1_in (F : Fence) (hF : FreeF F) (hro : F.round = none) (mm l B gb : Nat) (w : World) (J : Nat → World → Prop)
  (hG : ∀ k A, J k A → Below w.heap.size w A) (hK : ∀ k A C, J k A → Below A.heap.size A C → J k C) (x : Tr) (P : Nat → Prop) (c0 c1 c2 c3 c4 : Value) (hok : x.ok 2) (hT : TrC w P x [c0, c1, c2, c3, c4]) (hgb : ∀ k A, J k A → Blk A gb 44 #[c0, c1, c2, c3, c4])
  (hY : ∀ (i mm : Nat) (A W : World) (n0 n1 : List UInt8), x.nms[i]? = some [n0, n1] → J i A → Below A.heap.size A W → YieldAt F mm pG l #[.agg #[S (bs n0), S (bs n1)]] W fun e W' => e = T (.bool true) ∧ J (i + 1) W' ∧ KT XAT B W W')
  (W : World) (hBW : B ≤ W.heap.size) (h0 : J 0 W) :
  CallsIn F mm pG 180 #[.func (.yield l) #[] #[], .pointer (some ⟨gb, 0, none⟩)] W fun e W' => (∃ v, e = T v) ∧ J x.nms.length W' := by
 have hb := hgb 0 W h0
 obtain ⟨d0, d1, d2, d3, d4, -⟩ := hb.cc
 have HE := hI (each_in F hF hro l B w J hG hK x.sz x P [c0, c1, c2, c3, c4] (mm - 1) 0 (nR _) hok hT (fun i mm A W n0 n1 h1 h2 h3 => by
  have := hY i mm A W n0 n1 h1 (by rw [Nat.zero_add] at h2; exact h2) h3
  rw [Nat.zero_add]
  exact this) W hBW h0)
 have HF := hI hF
 have hdep := hF.depth
 clear hG hK hT hgb hY hb h0
 refine callsIn_of_wp Tryz.func180 rfl (hF.fn _) ?_ hro
 clear hF
 simp only [Tryz.ntmps180, List.size_toArray, List.length_cons, lP, Nat.reduceAdd, Nat.reduceSub, Array.replicate_succ, Array.replicate_zero, List.push_toArray, List.append_toArray, lE, lD]
 gi_wp2
 refine ⟨HF.out.fn _, ?_⟩
 refine HE.out.mono ?_
 rintro e W3 ⟨rfl, hj3, hk3⟩
 rw [Nat.zero_add] at hj3
 have HJ := hI hj3
 clear hj3 hk3
 gi_wp2
 go_end0
 exact ⟨⟨_, rfl⟩, HJ.out⟩
end
end Go.Proofs.YthboiahdheehkaaGreatDoor
