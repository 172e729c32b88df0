/-
  AppU: an append within a region that draws its order. No program.
-/
import Derived.Test.YtoiknidlincdkaaDoorJC
namespace Go.Proofs.YtoiknidlincdkaaDoor
open Go.RowKit

theorem gives_appAt {P : Program} {w : World} {o : Oper} {a : Act} {T : Value → World → Prop} (s x : Operand) (t : TypeId)
    (ho : o.op = .call { callee := .builtin .append, args := #[s, x], argTypes := #[t, t] })
    (base : Nat) (e : TypeId) (i : TypeInfo) (z : Value) (size bytes : Nat) (ht : P.underlying t = some (.slice e)) (hi : P.info? e = some i) (hz : i.zero = some z)
    (hsize : i.size = size) (hby : i.bytes = bytes) (hzs : z.cells.size = size) (hsz : 0 < size)
    (v : Value) (n : Nat) (xs : List Value) (hs : a.eval s = v) (hown : w.ownsRow base e size v n xs)
    (p : Option Addr) (m c : Nat) (news : List Value) (hx : a.eval x = .slice p m c) (hl : news.length = m * size) (hr : Rd w p news) (h1 : ∀ u ∈ news, u.oneCell' = true)
    (h63 : n + m ≤ maxLen) (hbytes : (n + m) * bytes ≤ 140737488355328) (hbase : base ≤ w.heap.size)
    (h : ∀ v' w', w'.ownsRow base e size v' (n + m) (xs ++ news) → w.grownBy w' v.ownBlock → (v'.ownBlock = v.ownBlock ∨ v'.ownBlock = some w.heap.size) → T v' w') : gives P o a.eval w T := by
  obtain ⟨v', w', hrun, h2, h3, h4⟩ := run_appAt (P := P) base t o.type e i z size bytes ht hi hz hsize hby hzs hsz v n xs hown p m c news hl hr h1 h63 hbytes hbase
  have hr : (execOp a.eval o).run P w = .ok (.value v') w' := by
    unfold execOp
    simp only [ho, resolve, invoke, builtin, Sem.run_bind, Sem.run_pure, Result.andThen_ok, List.map_toArray, List.map_cons, List.map_nil, hs, hx, hrun]
  unfold gives
  rw [hr]
  exact h v' w' h2 h3 h4
theorem But.grown_nx {S : List Nat} {a w w' : World} {q : Option Nat} (h : But S a w) (k : w.grownBy w' q) (hq : ∀ g, q = some g → g ∈ S ∨ a.heap.size ≤ g) : But S a w' :=
  ⟨k.os.trans h.os, k.tape.trans h.tape, k.output.trans h.output, Nat.le_trans h.size k.size, fun i hi hn => (k.block i (Nat.lt_of_lt_of_le hi h.size) (fun e => by
    rcases hq i e.symm with h1 | h1
    · rw [List.contains_iff_mem.2 h1] at hn; cases hn
    · omega)).trans (h.block i hi hn)⟩
/-- what an operation at the place j may turn: the append (at ja) the row v, of n cells of the type e; any other nothing -/
def rAdd (ja : Nat) (e : TypeId) (v : Value) (n : Nat) (j : Nat) (w w' : World) : Prop :=
  if j = ja then (∃ xs, w.ownsRow 0 e 1 v n xs) ∧ w.grownBy w' v.ownBlock else Below w.heap.size w w'
theorem rAdd_at {ja : Nat} {e : TypeId} {v : Value} {n : Nat} {w w' : World} : rAdd ja e v n ja w w' = ((∃ xs, w.ownsRow 0 e 1 v n xs) ∧ w.grownBy w' v.ownBlock) := by unfold rAdd; rw [if_pos rfl]
theorem rAdd_o {ja j : Nat} {e : TypeId} {v : Value} {n : Nat} {w w' : World} (h : j ≠ ja) : rAdd ja e v n j w w' = Below w.heap.size w w' := by unfold rAdd; rw [if_neg h]
/-- a block of another type stays -/
theorem rAdd_blk {ja j : Nat} {e t : TypeId} {v : Value} {n g : Nat} {w w' : World} {cs : Array Value} (h : rAdd ja e v n j w w') (hb : Blk w g t cs) (hne : e ≠ t) : Blk w' g t cs := by
  unfold rAdd at h
  split at h
  · obtain ⟨⟨xs, ho⟩, hg⟩ := h
    exact grown_blk hg ho hb hne
  · exact hb.below h hb.lt
theorem rAdd_but {S : List Nat} {ja j : Nat} {e : TypeId} {v : Value} {n : Nat} {a w w' : World} (h : rAdd ja e v n j w w') (hb : But S a w) (hq : ∀ g, v.ownBlock = some g → g ∈ S ∨ a.heap.size ≤ g) : But S a w' := by
  unfold rAdd at h
  split at h
  · exact hb.grown_nx h.2 hq
  · exact hb.trans (But.of_below h)
theorem rAdd_size {ja j : Nat} {e : TypeId} {v : Value} {n : Nat} {w w' : World} (h : rAdd ja e v n j w w') : w.heap.size ≤ w'.heap.size := by
  unfold rAdd at h
  split at h
  · exact h.2.size
  · exact h.size
theorem rAdd_blkne {ja j : Nat} {e t : TypeId} {v : Value} {n g : Nat} {w w' : World} {cs : Array Value} (h : rAdd ja e v n j w w') (hb : Blk w g t cs) (hne : ∀ q, v.ownBlock = some q → q ≠ g) : Blk w' g t cs := by
  unfold rAdd at h
  split at h
  · exact (h.2.block g hb.lt fun e => hne g e.symm rfl).trans hb
  · exact hb.below h hb.lt
theorem rAdd_owns {ja j : Nat} {e e' : TypeId} {v v' : Value} {n base size n' : Nat} {xs : List Value} {w w' : World} (h : rAdd ja e v n j w w') (ho : w.ownsRow base e' size v' n' xs) (hne : e ≠ e') : w'.ownsRow base e' size v' n' xs := by
  unfold rAdd at h
  split at h
  · obtain ⟨⟨ys, hy⟩, hg⟩ := h
    exact grown_owns hg hy ho hne
  · exact owns_below ho h
theorem rAdd_below {ja j B : Nat} {e : TypeId} {v : Value} {n : Nat} {w w' : World} (h : rAdd ja e v n j w w') (hB : B ≤ w.heap.size) (hv : ∀ g, v.ownBlock = some g → B ≤ g) : Below B w w' := by
  unfold rAdd at h
  split at h
  · exact (Below.refl B w).grown h.2 hB hv
  · exact h.mono hB
theorem wp_phiU_tail {P : Program} {Q : Exit → Act → World → Prop} {a₀ : Act} {id : Nat} {w : World} (lo tl : List Oper) {l : List Oper} (hl : l = lo ++ tl) (R : Nat → World → World → Prop) (I : World → Prop) (ps : List (Nat × Part)) (ns : List (Nat × List Nat)) (us : List (Nat × (World → Prop))) (ks : List (Nat × Nat)) (hm : P.follows .mixedOrders = true)
    (hok : phiOk l.toArray (needs ns) lo.length = true)
    (hI : ∀ p ∈ ps, ∀ w w', I w → R p.1 w w' → I w') (hS : ∀ p ∈ ps, ∀ p' ∈ ps, p'.1 ≠ p.1 → ks.lookup p.1 ≠ some p'.1 → p'.1 ∉ needs ns p.1 → ∀ w w' v, I w → R p'.1 w w' → p.2.fact w v → p.2.fact w' v)
    (hU : ∀ p ∈ ps, ∀ u ∈ us, u.1 ≠ p.1 → ∀ w w', I w → R p.1 w w' → u.2 w → u.2 w') (hu0 : ∀ u ∈ us, u.2 w.drew)
    (hw : I w.drew) (h : wpPhiU P l.toArray (wpList P l.toArray Q tl) I R (planOf ps) (needs ns) us (fun i => ks.lookup i) 0 lo a₀ []) : (Code.region id l.toArray true).wp P Q a₀ w := by
  subst hl
  exact wp_phi_RU lo tl R I ps ns us ks hm hok hI hS hU hu0 hw h
end Go.Proofs.YtoiknidlincdkaaDoor
