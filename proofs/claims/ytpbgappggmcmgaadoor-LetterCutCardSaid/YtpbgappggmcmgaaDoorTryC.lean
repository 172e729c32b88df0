/-
  TryC: what the walks of catch.Try share, whatever the type.
-/
import Derived.Test.YtpbgappggmcmgaaDoorTold
import Derived.Test.YtpbgappggmcmgaaDoorKeeps
namespace Go.Proofs.YtpbgappggmcmgaaDoor
open Go.RowKit Go.Extern.Stop Go.Stop Go.Extern

/-- of what was there the blocks S alone may have turned -/
structure But (S : List Nat) (w w' : World) : Prop where
  os : w'.os = w.os
  tape : w'.tape = w.tape
  output : w'.output = w.output
  size : w.heap.size ≤ w'.heap.size
  block : ∀ k, k < w.heap.size → S.contains k = false → w'.heap[k]? = w.heap[k]?
theorem But.of_below {S : List Nat} {w w' : World} (h : Below w.heap.size w w') : But S w w' := ⟨h.os, h.tape, h.output, h.size, fun k hk _ => h.block k hk⟩
theorem But.set_ {S : List Nat} {a w : World} (h : But S a w) (g i : Nat) (u : Value) (hg : S.contains g = true) : But S a (w.setCell ⟨g, i, none⟩ u) :=
  ⟨h.os, h.tape, h.output, Nat.le_trans h.size (by simp [World.setCell]), fun k hk hn => (Below.heap_setCell _ _ _ _ (by rintro rfl; rw [hg] at hn; cases hn)).trans (h.block k hk hn)⟩
theorem But.trans {S : List Nat} {a b c : World} (h : But S a b) (k : But S b c) : But S a c :=
  ⟨k.os.trans h.os, k.tape.trans h.tape, k.output.trans h.output, Nat.le_trans h.size k.size, fun j hj hn => (k.block j (Nat.lt_of_lt_of_le hj h.size) hn).trans (h.block j hj hn)⟩
theorem But.blk {S : List Nat} {w w' : World} {g : Nat} {t : TypeId} {cs : Array Value} (h : But S w w') (hb : Blk w g t cs) (hn : S.contains g = false) : Blk w' g t cs := (h.block g hb.lt hn).trans hb
theorem But.cell {S : List Nat} {w w' : World} {g i : Nat} {v : Value} (h : But S w w') (hn : S.contains g = false) (hc : w.cell? ⟨g, i, none⟩ = some v) : w'.cell? ⟨g, i, none⟩ = some v :=
  (World.cell?_of_block (h.block g (cell_lt hc) hn)).trans hc
theorem But.below {S : List Nat} {B : Nat} {w w' : World} (h : But S w w') (hS : ∀ s ∈ S, B ≤ s) (hB : B ≤ w.heap.size) : Below B w w' :=
  ⟨h.os, h.tape, h.output, h.size, fun k hk => h.block k (by omega) (by
    rw [Bool.eq_false_iff]
    intro hc
    have := hS k (List.contains_iff_mem.1 hc)
    omega)⟩
theorem But.out {S : List Nat} {w w2 w' : World} {n : Nat} (h : But S w w2) (k : But [n, n + 1, n + 2] w2 w') (hn : w.heap.size ≤ n) : But S w w' :=
  ⟨k.os.trans h.os, k.tape.trans h.tape, k.output.trans h.output, Nat.le_trans h.size k.size, fun j hj hs => (k.block j (Nat.lt_of_lt_of_le hj h.size) (by simp; omega)).trans (h.block j hj hs)⟩
theorem But.wide {n : Nat} {w w' : World} (h : But [n, n + 1] w w') : But [n, n + 1, n + 2] w w' :=
  ⟨h.os, h.tape, h.output, h.size, fun j hj hs => h.block j hj (by simp at hs ⊢; omega)⟩
/-- what panicked is told as the error n -/
def Tells (w0 : World) (u : Value) (E : Nat → Addr) (n : Nat) : Prop := ∀ w, Below w0.heap.size w0 w → Errs w E → Calls Tryd.prog 46 #[u] w fun e w' => e = .returned (errAt (E n)) ∧ Below w.heap.size w w'
/-- what a call within Try may do: it gives a value, or panics with what is told as one of package api's errors -/
def MayG (R : Value → World → Prop) (Q : Nat → World → Prop) (E : Nat → Addr) (e : Ending) (w' : World) : Prop :=
  (∃ v, e = .returned v ∧ R v w') ∨ (∃ u n, n < 14 ∧ Q n w' ∧ (∃ T x, u = .iface T x) ∧ Tells w' u E n ∧ e = .panicked [{ v := u, recovered := false }])
/-- what Try gives; of what was there the blocks S alone may have turned -/
def TryG (S : List Nat) (R : World → Value → World → Prop) (Q : Nat → World → World → Prop) (E : Nat → Addr) (z : Value) (w : World) (e : Ending) (w' : World) : Prop :=
  But S w w' ∧ ∃ w1 w2, w1.heap.size = w.heap.size + 3 ∧ Below w.heap.size w w1 ∧ But S w1 w2 ∧ But [w.heap.size, w.heap.size + 1, w.heap.size + 2] w2 w' ∧
  ((∃ v, e = .returned (.tuple #[v, .nilIface]) ∧ R w1 v w2) ∨ (∃ n, n < 14 ∧ Q n w1 w2 ∧ e = .returned (.tuple #[z, errAt (E n)])))
end Go.Proofs.YtpbgappggmcmgaaDoor
