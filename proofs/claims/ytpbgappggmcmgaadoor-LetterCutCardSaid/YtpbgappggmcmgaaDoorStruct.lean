/-
  Struct: loads and stores of whole structs. No program.
-/
import Derived.Test.YtpbgappggmcmgaaDoorKeeps
import Derived.Test.YtpbgappggmcmgaaDoorTryC
namespace Go.Proofs.YtpbgappggmcmgaaDoor
open Go.RowKit

theorem putCells_all (cs vs : Array Value) (h : vs.size = cs.size) : putCells cs 0 vs = vs := by
  unfold putCells
  rw [List.take_zero, List.nil_append, Nat.zero_add, h, List.drop_of_length_le (by simp), List.append_nil]
theorem wpList_loadS {P : Program} {w : World} {ops : Array Oper} {rest : List Oper} {o : Oper} {a : Act} {Q : Exit → Act → World → Prop} (px : Operand) (ty : TypeId)
    (ho : o.op = .load ty px) (hw : Region.wanted o (yielded ops a.tmps) = true)
    (g : Nat) (t : TypeId) (cs : Array Value) (hpx : a.eval px = .pointer (some ⟨g, 0, none⟩)) (hb : Blk w g t cs) (d : TypeDesc)
    (hu : P.underlying ty = some d) (hd : (match d with | .struct _ | .array _ _ => true | _ => false) = true) (hi : (P.info? ty).map (·.size) = some cs.size)
    (h : wpList P ops Q rest (a.put o.dst (.agg cs)) w) : wpList P ops Q (o :: rest) a w := by
  refine wpList_run hw (v := .agg cs) (w' := w) ?_ h
  unfold execOp
  simp only [ho, hpx, Instr.loadAt, Instr.sureAddr, Sem.run_bind, Sem.run_pure, Result.andThen_ok, run_loadVar_row w g t ty cs (0, 0) d hb hu hd hi]
theorem But.only {S : List Nat} {a w w' : World} {g : Nat} (h : But S a w) (k : Only g w w') (hg : S.contains g = true) : But S a w' :=
  ⟨k.os.trans h.os, k.tape.trans h.tape, k.output.trans h.output, by rw [k.size]; exact h.size, fun j hj hn => (k.block j (by rintro rfl; rw [hg] at hn; cases hn)).trans (h.block j hj hn)⟩
end Go.Proofs.YtpbgappggmcmgaaDoor
