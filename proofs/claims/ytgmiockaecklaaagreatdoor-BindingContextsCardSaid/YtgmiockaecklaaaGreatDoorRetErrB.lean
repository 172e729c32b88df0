/-
  RetErr: 'return T{}, err' with a struct T: a drawn region that stores the zero struct. No program.
-/
import Derived.Test.YtgmiockaecklaaaGreatDoorPhiUB
namespace Go.Proofs.YtgmiockaecklaaaGreatDoor
open Go.RowKit

def PSto (F : World → Prop) : Part := ⟨fun v => v = undef, fun w _ => F w⟩
theorem gives_store {P : Program} {w : World} {o : Oper} {a : Act} {T : Value → World → Prop} (pa pv : Operand) (ty : TypeId) (ho : o.op = .store ty pa pv)
    (g off : Nat) (t : TypeId) (cs vs : Array Value) (hpa : a.eval pa = .pointer (some ⟨g, off, none⟩)) (hpv : a.eval pv = .agg vs) (hb : Blk w g t cs)
    (hi : (P.info? ty).map (·.size) = some vs.size) (h1 : ∀ v ∈ vs.toList, v.oneCell' = true) (hfit : off + vs.size ≤ cs.size)
    (h : ∀ w', Blk w' g t (putCells cs off vs) → Only g w w' → T undef w') : gives P o a.eval w T := by
  obtain ⟨i, hi1, hi2⟩ := Option.map_eq_some_iff.1 hi
  have hst := run_storeCells_at (P := P) g off t vs.toList 0 cs w hb (by simpa using hfit) h1
  have hst2 : (storeCells ⟨g, off, none⟩ vs.toList).run P w = .ok () (w.setRow g (putCells cs off vs)) := by
    have e : putCells cs off vs = (cs.toList.take (off + 0) ++ vs.toList ++ cs.toList.drop (off + 0 + vs.toList.length)).toArray := by simp [putCells]
    rw [e]; exact hst
  have hsz : (Value.agg vs).cells = vs := rfl
  have hr : (execOp a.eval o).run P w = .ok .skip (w.setRow g (putCells cs off vs)) := by
    unfold execOp
    simp [ho, hpa, hpv, Instr.storeAt, Instr.sureAddr, storeVar, sizeOf, typeInfo, hi1, hi2, hsz, hst2]
  unfold gives
  rw [hr]
  exact h _ (setRow_heap w g cs _ t _ hb) ⟨rfl, rfl, rfl, by simp, fun k hk => setRow_other w g k _ hk⟩
end Go.Proofs.YtgmiockaecklaaaGreatDoor
