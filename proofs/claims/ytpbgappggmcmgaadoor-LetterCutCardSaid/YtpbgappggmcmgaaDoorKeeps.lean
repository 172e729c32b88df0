/-
  Keeps: what a call leaves alone that writes to blocks of its own kinds; blocks that are known whole. No program.
-/
import Derived.Test.YtpbgappggmcmgaaDoorBase
import Derived.Laws.Rows
import Derived.Laws.CopyRow
namespace Go.Proofs.YtpbgappggmcmgaaDoor
open Go.RowKit

/-- block g is just the cells cs of the type t, none frozen -/
def Blk (w : World) (g : Nat) (t : TypeId) (cs : Array Value) : Prop := w.heap[g]? = some (.cells cs t (0, 0))
section
variable {w w' : World} {g : Nat} {t : TypeId} {cs : Array Value}
theorem Blk.lt (h : Blk w g t cs) : g < w.heap.size := (Array.getElem?_eq_some_iff.1 h).1
theorem Blk.cell (h : Blk w g t cs) (i : Nat) : w.cell? ⟨g, i, none⟩ = cs[i]? := cell_of_row w g i cs t (0, 0) h
theorem Blk.frozen (h : Blk w g t cs) (i : Nat) : w.frozen? ⟨g, i, none⟩ = false := by
  unfold Blk at h
  simp [World.frozen?, h]
theorem Blk.new (w : World) (t : TypeId) (cs : Array Value) : Blk (w.alloc (.cells cs t)) w.heap.size t cs := heap_alloc_new w _
theorem Blk.alloc (h : Blk w g t cs) (o : Obj) : Blk (w.alloc o) g t cs := (Below.heap_alloc w o g h.lt).trans h
theorem Blk.set_ (h : Blk w g t cs) (i : Nat) (u : Value) : Blk (w.setCell ⟨g, i, none⟩ u) g t (cs.setIfInBounds i u) := by
  unfold Blk at h ⊢
  simp [World.setCell, Array.getElem?_modify, h]
theorem Blk.far (h : Blk w g t cs) {b : Nat} (hp : g ≠ b) (i : Nat) (u : Value) : Blk (w.setCell ⟨b, i, none⟩ u) g t cs := (Below.heap_setCell _ _ _ _ hp).trans h
theorem Blk.below {B : Nat} (h : Blk w g t cs) (hb : Below B w w') (hg : g < B) : Blk w' g t cs := (hb.block g hg).trans h
theorem Blk.ne_ {g' : Nat} {t' : TypeId} {cs' : Array Value} (h : Blk w g t cs) (h' : Blk w g' t' cs') (hne : t ≠ t') : g ≠ g' := by
  rintro rfl
  unfold Blk at h h'
  rw [h] at h'
  injection h' with h'
  injection h' with _ ht
  exact hne ht
end

theorem owns_lower {w : World} {base base' size n : Nat} {e : TypeId} {v : Value} {xs : List Value} (h : w.ownsRow base e size v n xs) (hb : base' ≤ base) : w.ownsRow base' e size v n xs := by
  refine ⟨h.1, ?_⟩
  rcases h.2 with h2 | ⟨g, cap, cur, hv, hg, r⟩
  · exact .inl h2
  · exact .inr ⟨g, cap, cur, hv, Nat.le_trans hb hg, r⟩
theorem owns_shorter {w : World} {base n m : Nat} {e : TypeId} {p : Option Addr} {c : Nat} {xs : List Value} (h : w.ownsRow base e 1 (.slice p n c) n xs) (hm : m ≤ n) : w.ownsRow base e 1 (.slice p m c) m (xs.take m) := by
  refine ⟨by rw [List.length_take, h.1]; omega, ?_⟩
  rcases h.2 with ⟨hv, hn⟩ | ⟨g, cap, cur, hv, hg, hh, hc, hl, hs, ht⟩
  · cases hv
    obtain rfl : m = 0 := by omega
    exact .inl ⟨rfl, rfl⟩
  · cases hv
    refine .inr ⟨g, c, cur, rfl, hg, hh, by omega, hl, hs, ?_⟩
    have : xs = cur.toList.take n := by rw [← ht, Nat.mul_one]
    rw [this, List.take_take, Nat.mul_one]
    congr 1; omega
/-- block g alone may have turned -/
structure Only (g : Nat) (w w' : World) : Prop where
  os : w'.os = w.os
  tape : w'.tape = w.tape
  output : w'.output = w.output
  size : w'.heap.size = w.heap.size
  block : ∀ k, k ≠ g → w'.heap[k]? = w.heap[k]?
theorem Only.refl (g : Nat) (w : World) : Only g w w := ⟨rfl, rfl, rfl, rfl, fun _ _ => rfl⟩
theorem Only.set_ {g : Nat} {w w' : World} (h : Only g w w') (i : Nat) (u : Value) : Only g w (w'.setCell ⟨g, i, none⟩ u) :=
  ⟨h.os, h.tape, h.output, by rw [← h.size]; simp [World.setCell], fun k hk => (Below.heap_setCell _ _ _ _ hk).trans (h.block k hk)⟩
theorem Only.drew {g : Nat} {w w' : World} (h : Only g w w') : Only g w w'.drew := ⟨h.os, h.tape, h.output, h.size, h.block⟩
theorem Only.drewN {g : Nat} {w w' : World} (h : Only g w w') (n : Nat) : Only g w (w'.drewN n) := ⟨h.os, h.tape, h.output, h.size, h.block⟩
theorem Only.trans {g : Nat} {a b c : World} (h : Only g a b) (k : Only g b c) : Only g a c :=
  ⟨k.os.trans h.os, k.tape.trans h.tape, k.output.trans h.output, k.size.trans h.size, fun i hi => (k.block i hi).trans (h.block i hi)⟩
theorem Only.below {g B : Nat} {w w' : World} (h : Only g w w') (hg : B ≤ g) : Below B w w' := ⟨h.os, h.tape, h.output, by rw [h.size]; exact Nat.le_refl _, fun k hk => h.block k (by omega)⟩

/-- below block number B, and in every block that holds no cells of the types Ts, w' is as w was -/
structure Keeps (B : Nat) (Ts : List TypeId) (w w' : World) : Prop where
  below : Below B w w'
  rest : ∀ (k : Nat) (o : Obj), w.heap[k]? = some o → (∀ c t f, o = .cells c t f → Ts.contains t = false) → w'.heap[k]? = some o
section
variable {B : Nat} {Ts : List TypeId} {a b c w w' : World}
theorem Keeps.refl (B : Nat) (Ts : List TypeId) (w : World) : Keeps B Ts w w := ⟨Below.refl _ _, fun _ _ h _ => h⟩
theorem Keeps.trans (h : Keeps B Ts a b) (k : Keeps B Ts b c) : Keeps B Ts a c := ⟨h.below.trans k.below, fun i o hi hn => k.rest i o (h.rest i o hi hn) hn⟩
theorem Keeps.of_below (h : Below w.heap.size w w') (hB : B ≤ w.heap.size) : Keeps B Ts w w' :=
  ⟨h.mono hB, fun k o hk _ => (h.block k (Array.getElem?_eq_some_iff.1 hk).1).trans hk⟩
theorem Keeps.size (h : Keeps B Ts w w') : w.heap.size ≤ w'.heap.size := h.below.size
theorem Keeps.call (h : Keeps B Ts a w) (hB : B ≤ w.heap.size) (k : Below w.heap.size w w') : Keeps B Ts a w' := h.trans (Keeps.of_below k hB)
theorem Keeps.drew (h : Keeps B Ts a w) : Keeps B Ts a w.drew := ⟨h.below.drew, h.rest⟩
theorem Keeps.drewN (h : Keeps B Ts a w) (n : Nat) : Keeps B Ts a (w.drewN n) := ⟨h.below.trans ⟨rfl, rfl, rfl, Nat.le_refl _, fun _ _ => rfl⟩, h.rest⟩
theorem Keeps.alloc (h : Keeps B Ts a w) (hB : B ≤ w.heap.size) (o : Obj) : Keeps B Ts a (w.alloc o) :=
  ⟨h.below.alloc hB o, fun k x hk hn => by
    have := h.rest k x hk hn
    exact (Below.heap_alloc w o k (Array.getElem?_eq_some_iff.1 this).1).trans this⟩
theorem Keeps.only {g : Nat} {t : TypeId} {cs : Array Value} (h : Keeps B Ts a w) (hg : B ≤ g) (hb : Blk w g t cs) (ht : Ts.contains t = true) (k : Only g w w') : Keeps B Ts a w' :=
  ⟨h.below.trans (k.below hg), fun i o hi hn => by
    have h1 := h.rest i o hi hn
    refine (k.block i fun e => ?_).trans h1
    subst e
    rw [hb] at h1
    injection h1 with h1
    have := hn cs t (0, 0) h1.symm
    rw [ht] at this; cases this⟩
theorem Keeps.grown {base size n : Nat} {e : TypeId} {v : Value} {xs : List Value} (h : Keeps B Ts a w) (hB : B ≤ w.heap.size) (ho : w.ownsRow base e size v n xs) (hb : B ≤ base) (he : Ts.contains e = true) (k : w.grownBy w' v.ownBlock) : Keeps B Ts a w' :=
  ⟨h.below.grown k hB (fun j hj => Nat.le_trans hb (ho.lt j hj).1), fun i o hi hn => by
    have h1 := h.rest i o hi hn
    refine (k.block i (Array.getElem?_eq_some_iff.1 h1).1 fun e' => ?_).trans h1
    rcases ho.2 with ⟨rfl, _⟩ | ⟨g, cap, cur, rfl, _, hg, _⟩
    · simp [Value.ownBlock] at e'
    · have e1 : i = g := by simpa [Value.ownBlock] using e'
      subst e1
      rw [hg] at h1
      injection h1 with h1
      have := hn cur e (0, 0) h1.symm
      rw [he] at this; cases this⟩
/-- a block that was not there alone turned besides -/
theorem Keeps.new {g : Nat} (h : Keeps B Ts a w) (hB : B ≤ g) (hg : a.heap.size ≤ g) (k : Only g w w') : Keeps B Ts a w' :=
  ⟨h.below.trans (k.below hB), fun i o hi hn => (k.block i (by have := (Array.getElem?_eq_some_iff.1 hi).1; omega)).trans (h.rest i o hi hn)⟩
theorem Keeps.blk {g : Nat} {t : TypeId} {cs : Array Value} (h : Keeps B Ts w w') (hb : Blk w g t cs) (ht : Ts.contains t = false) : Blk w' g t cs :=
  h.rest g _ hb fun c t' f he => by injection he with _ h2 _; rw [← h2]; exact ht
theorem Keeps.owns {base size n : Nat} {e : TypeId} {v : Value} {xs : List Value} (h : Keeps B Ts w w') (ho : w.ownsRow base e size v n xs) (he : Ts.contains e = false) : w'.ownsRow base e size v n xs := by
  refine ⟨ho.1, ?_⟩
  rcases ho.2 with h2 | ⟨g, cap, cur, hv, hg, hh, r⟩
  · exact .inl h2
  · exact .inr ⟨g, cap, cur, hv, hg, h.rest g _ hh (fun c t f heq => by injection heq with _ h2 _; rw [← h2]; exact he), r⟩
theorem Keeps.cells (h : Keeps B Ts w w') : ∀ (p : Addr) v, p.block < B → w.cell? p = some v → w'.cell? p = some v := fun p _ hp hc => (h.below.cell hp).trans hc
/-- a wider list -/
theorem Keeps.mono {Ts' : List TypeId} (h : Keeps B Ts w w') (hs : ∀ t, Ts'.contains t = false → Ts.contains t = false) : Keeps B Ts' w w' :=
  ⟨h.below, fun k o hk hn => h.rest k o hk fun c t f he => hs t (hn c t f he)⟩
theorem Keeps.lower {B' : Nat} (h : Keeps B Ts w w') (hB : B' ≤ B) : Keeps B' Ts w w' := ⟨h.below.mono hB, h.rest⟩
/-- an owned row beside a block of another type that alone has turned -/
theorem Only.owns {g base size n : Nat} {t e : TypeId} {cs : Array Value} {v : Value} {xs : List Value} (k : Only g w w') (hb : Blk w g t cs) (ho : w.ownsRow base e size v n xs) (hne : e ≠ t) : w'.ownsRow base e size v n xs := by
  refine ⟨ho.1, ?_⟩
  rcases ho.2 with h2 | ⟨g', cap, cur, hv, hg, hh, r⟩
  · exact .inl h2
  · exact .inr ⟨g', cap, cur, hv, hg, (k.block g' (Blk.ne_ (t := e) (cs := cur) hh hb hne)).trans hh, r⟩
theorem Only.blk {g g' : Nat} {t : TypeId} {cs : Array Value} (k : Only g w w') (hb : Blk w g' t cs) (hne : g' ≠ g) : Blk w' g' t cs := (k.block g' hne).trans hb
end

/-- a block of another type beside a row that grows -/
theorem grown_blk {w w' : World} {base size n g : Nat} {e t : TypeId} {v : Value} {xs : List Value} {cs : Array Value} (hg : w.grownBy w' v.ownBlock) (ho : w.ownsRow base e size v n xs) (hb : Blk w g t cs) (hne : e ≠ t) : Blk w' g t cs := by
  refine (hg.block g hb.lt fun h => ?_).trans hb
  rcases ho.2 with ⟨rfl, _⟩ | ⟨g', cap, cur, rfl, _, hh, _⟩
  · simp [Value.ownBlock] at h
  · have e1 : g = g' := by simpa [Value.ownBlock] using h
    subst e1
    exact Blk.ne_ (t := e) (cs := cur) hh hb hne rfl

/-! ### a store of a struct into a block that is known whole -/
def putCells (cs : Array Value) (off : Nat) (vs : Array Value) : Array Value := (cs.toList.take off ++ vs.toList ++ cs.toList.drop (off + vs.size)).toArray
theorem wpList_skip {P : Program} {w w' : World} {ops : Array Oper} {rest : List Oper} {o : Oper} {a : Act} {Q : Exit → Act → World → Prop}
    (hw : Region.wanted o (yielded ops a.tmps) = true) (hr : (execOp a.eval o).run P w = .ok .skip w')
    (h : wpList P ops Q rest (a.put o.dst undef) w') : wpList P ops Q (o :: rest) a w := by
  refine wpList_step fun K hK => ?_
  rw [if_pos hw]
  unfold Oper.wp
  rw [hr]
  exact hK _ _ h
theorem wpList_store {P : Program} {w : World} {ops : Array Oper} {rest : List Oper} {o : Oper} {a : Act} {Q : Exit → Act → World → Prop} (pa pv : Operand) (ty : TypeId)
    (ho : o.op = .store ty pa pv) (hw : Region.wanted o (yielded ops a.tmps) = true)
    (g off : Nat) (t : TypeId) (cs vs : Array Value) (hpa : a.eval pa = .pointer (some ⟨g, off, none⟩)) (hpv : a.eval pv = .agg vs) (hb : Blk w g t cs)
    (hi : (P.info? ty).map (·.size) = some vs.size) (h1 : ∀ v ∈ vs.toList, v.oneCell' = true) (hfit : off + vs.size ≤ cs.size)
    (h : ∀ w', Blk w' g t (putCells cs off vs) → Only g w w' → wpList P ops Q rest (a.put o.dst undef) w') : wpList P ops Q (o :: rest) a w := by
  obtain ⟨i, hi1, hi2⟩ := Option.map_eq_some_iff.1 hi
  have hst := run_storeCells_at (P := P) g off t vs.toList 0 cs w hb (by simpa using hfit) h1
  have hst2 : (storeCells ⟨g, off, none⟩ vs.toList).run P w = .ok () (w.setRow g (putCells cs off vs)) := by
    have e : putCells cs off vs = (cs.toList.take (off + 0) ++ vs.toList ++ cs.toList.drop (off + 0 + vs.toList.length)).toArray := by simp [putCells]
    rw [e]; exact hst
  refine wpList_skip hw (w' := w.setRow g (putCells cs off vs)) ?_ (h _ (setRow_heap w g cs _ t _ hb) ⟨rfl, rfl, rfl, by simp, fun k hk => setRow_other w g k _ hk⟩)
  have hsz : (Value.agg vs).cells = vs := rfl
  unfold execOp
  simp [ho, hpa, hpv, Instr.storeAt, Instr.sureAddr, storeVar, sizeOf, typeInfo, hi1, hi2, hsz, hst2]
end Go.Proofs.YtpbgappggmcmgaaDoor
