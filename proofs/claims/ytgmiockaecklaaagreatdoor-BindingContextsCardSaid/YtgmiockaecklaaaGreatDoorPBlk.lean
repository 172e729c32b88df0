/-
  PBlk: a slice newly laid within a region that draws its order. No program.
-/
import Derived.Test.YtgmiockaecklaaaGreatDoorTreeW
namespace Go.Proofs.YtgmiockaecklaaaGreatDoor
open Go.RowKit

/-- a slice of n elements, newly laid -/
def PBlk (B0 : Nat) (t : TypeId) (cs : Array Value) (n : Nat) : Part :=
  ⟨fun v => ∃ g, v = .slice (some ⟨g, 0, none⟩) n n, fun w v => ∀ g, v = .slice (some ⟨g, 0, none⟩) n n → B0 ≤ g ∧ Blk w g t cs⟩
theorem PBlk_stays {B0 n : Nat} {t : TypeId} {cs : Array Value} {w w' : World} {v : Value} (hb : Below w.heap.size w w') (h : (PBlk B0 t cs n).fact w v) : (PBlk B0 t cs n).fact w' v :=
  fun g hg => ⟨(h g hg).1, (h g hg).2.below hb (h g hg).2.lt⟩
/-- a block newly laid -/
def PNew (B0 : Nat) (t : TypeId) (cs : Array Value) : Part :=
  ⟨fun v => ∃ g, v = .pointer (some ⟨g, 0, none⟩), fun w v => ∀ g, v = .pointer (some ⟨g, 0, none⟩) → B0 ≤ g ∧ Blk w g t cs⟩
theorem PNew_stays {B0 : Nat} {t : TypeId} {cs : Array Value} {w w' : World} {v : Value} (hb : Below w.heap.size w w') (h : (PNew B0 t cs).fact w v) : (PNew B0 t cs).fact w' v :=
  fun g hg => ⟨(h g hg).1, (h g hg).2.below hb (h g hg).2.lt⟩
/-- a tree of two names that a call gave -/
def PTr2 (x : Tr) (B0 : Nat) : Part :=
  ⟨fun v => ∃ c0 c1 c2 c3 c4, v = .agg #[c0, c1, c2, c3, c4], fun w v => ∃ cs B, v = .agg cs.toArray ∧ TrC w (Bt B0 B none) x cs ∧ B ≤ w.heap.size⟩
theorem PTr2_stays {x : Tr} {B0 : Nat} {w w' : World} {v : Value} (hb : Below w.heap.size w w') (h : (PTr2 x B0).fact w v) : (PTr2 x B0).fact w' v := by
  obtain ⟨cs, B, h1, h2, h3⟩ := h
  exact ⟨cs, B, h1, h2.below hb, Nat.le_trans h3 hb.size⟩
theorem cells5 {w : World} {P : Nat → Prop} {x : Tr} {cs : List Value} (h : TrC w P x cs) (hx : x.ok 2) : ∃ c0 c1 c2 c3 c4, cs = [c0, c1, c2, c3, c4] := by
  have := h.len
  obtain ⟨nm, ats, ks, t⟩ := x
  unfold Tr.ok at hx
  rw [show (Tr.node nm ats ks t).nm.length = 2 from hx.1] at this
  match cs, this with
  | [a, b, c, d, e], _ => exact ⟨a, b, c, d, e, rfl⟩
end Go.Proofs.YtgmiockaecklaaaGreatDoor
