/-
  NetRow: a row whose cells are written over in place. No program.
-/
import Derived.Test.YtbbhecadpbnobaaDoorNA
import Derived.Laws.IdiomCopy
import Derived.Deep.RegionLaw
import Derived.Lib.SliceRun
namespace Go.Proofs.YtbbhecadpbnobaaDoor
open Go.RowKit

/-- the cells vs are laid from off on -/
def setsAt (cs : Array Value) : Nat → List Value → Array Value
  | _, [] => cs
  | off, v :: r => setsAt (cs.setIfInBounds off v) (off + 1) r
theorem setsAt_size : ∀ (vs : List Value) (cs : Array Value) (off : Nat), (setsAt cs off vs).size = cs.size
  | [], _, _ => rfl
  | v :: r, cs, off => by rw [setsAt, setsAt_size r]; simp
theorem setsAt_get : ∀ (vs : List Value) (cs : Array Value) (off i : Nat), off + vs.length ≤ cs.size → (setsAt cs off vs)[i]? = if off ≤ i ∧ i < off + vs.length then vs[i - off]? else cs[i]?
  | [], cs, off, i, _ => by rw [setsAt, if_neg (by simp)]
  | v :: r, cs, off, i, h => by
    rw [List.length_cons] at h
    rw [setsAt, setsAt_get r _ _ _ (by simp; omega), List.length_cons]
    by_cases h1 : i = off
    · subst h1
      rw [if_neg (by omega), if_pos (by omega), Nat.sub_self]
      simp only [List.getElem?_cons_zero]
      rw [Array.getElem?_setIfInBounds_self_of_lt (by omega)]
    · by_cases h2 : off + 1 ≤ i ∧ i < off + 1 + r.length
      · rw [if_pos h2, if_pos (by omega), show i - off = (i - (off + 1)) + 1 by omega, List.getElem?_cons_succ]
      · rw [if_neg h2, if_neg (by omega), Array.getElem?_setIfInBounds_ne (by omega)]
theorem blk_sets {g : Nat} {t : TypeId} : ∀ (vs : List Value) {w : World} {cs : Array Value} (off : Nat), Blk w g t cs → Blk (w.setCells g off vs) g t (setsAt cs off vs) ∧ Only g w (w.setCells g off vs)
  | [], w, cs, off, h => ⟨h, Only.refl _ _⟩
  | v :: r, w, cs, off, h => by
    obtain ⟨h1, h2⟩ := blk_sets r (off + 1) (h.set_ off v)
    exact ⟨h1, ((Only.refl g w).set_ off v).trans h2⟩
theorem cell_of {w : World} {g : Nat} {t : TypeId} {cs : Array Value} (h : Blk w g t cs) {i : Nat} (hi : i < cs.size) : w.cell? ⟨g, i, none⟩ = some cs[i] := by
  rw [h.cell i]; simp [hi]
/-- append where there is room: in place -/
theorem wpList_appRoom {P : Program} {w : World} {ops : Array Oper} {rest : List Oper} {o : Oper} {a : Act} {Q : Exit → Act → World → Prop} (s x : Operand) (t : TypeId)
    (ho : o.op = .call { callee := .builtin .append, args := #[s, x], argTypes := #[t, t] }) (hw : Region.wanted o (yielded ops a.tmps) = true)
    (e : TypeId) (i : TypeInfo) (h1 : P.underlying t = some (.slice e)) (h2 : P.info? e = some i) (g n cap : Nat) (hs : a.eval s = .slice (some ⟨g, 0, none⟩) n cap) (ad : Addr) (m c : Nat) (news : List Value) (hx : a.eval x = .slice (some ad) m c)
    (hn : news.length = m * i.size) (hc : ∀ j u, news[j]? = some u → w.cell? (ad.add j) = some u) (h1c : ∀ u ∈ news, u.oneCell' = true) (hroom : n + m ≤ cap) {ty : TypeId} {cs : Array Value} (hb : Blk w g ty cs) (hsz : n * i.size + news.length ≤ cs.size)
    (h : wpList P ops Q rest (a.put o.dst (.slice (some ⟨g, 0, none⟩) (n + m) cap)) (w.setCells g (n * i.size) news)) : wpList P ops Q (o :: rest) a w := by
  have hrun := run_append_room_cells (P := P) w t o.type e i h1 h2 g 0 n cap ad m c news hn hc h1c hroom (fun j hj => by rw [Nat.zero_add, cell_of hb (by omega)]; rfl) (fun j _ => hb.frozen _)
  rw [Nat.zero_add] at hrun
  refine wpList_run hw (v := .slice (some ⟨g, 0, none⟩) (n + m) cap) (w' := w.setCells g (n * i.size) news) ?_ h
  unfold execOp
  simp only [ho, resolve, invoke, builtin, Sem.run_bind, Sem.run_pure, Result.andThen_ok, List.map_toArray, List.map_cons, List.map_nil, hs, hx, hrun]
end Go.Proofs.YtbbhecadpbnobaaDoor
