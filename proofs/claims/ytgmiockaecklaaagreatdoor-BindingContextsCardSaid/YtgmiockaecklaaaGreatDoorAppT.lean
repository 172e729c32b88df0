/-
  AppT: appends, and where the new row lies; within regions that draw their order too. No program.
-/
import Derived.Test.YtgmiockaecklaaaGreatDoorPhiUB
import Derived.Maps.AppendAt
namespace Go.Proofs.YtgmiockaecklaaaGreatDoor
open Go.RowKit

/-- append, and where the new row lies -/
theorem run_appAt {P : Program} {w : World} (base : Nat) (t ty e : TypeId) (i : TypeInfo) (z : Value) (size bytes : Nat) (ht : P.underlying t = some (.slice e)) (hi : P.info? e = some i) (hz : i.zero = some z)
    (hsize : i.size = size) (hby : i.bytes = bytes) (hzs : z.cells.size = size) (hsz : 0 < size)
    (v : Value) (n : Nat) (xs : List Value) (hown : w.ownsRow base e size v n xs)
    (p : Option Addr) (m c : Nat) (news : List Value) (hl : news.length = m * size) (hr : Rd w p news) (h1 : ∀ u ∈ news, u.oneCell' = true)
    (h63 : n + m ≤ maxLen) (hbytes : (n + m) * bytes ≤ 140737488355328) (hbase : base ≤ w.heap.size) :
    ∃ v' w', (Builtin.append_ #[t, t] ty #[v, .slice p m c]).run P w = .ok v' w' ∧ w'.ownsRow base e size v' (n + m) (xs ++ news) ∧ w.grownBy w' v.ownBlock ∧ (v'.ownBlock = v.ownBlock ∨ v'.ownBlock = some w.heap.size) := by
  cases p with
  | none =>
    have hn : news = [] := by
      rcases hr with h | ⟨b, off, hp, _⟩
      · exact h
      · cases hp
    subst hn
    have hm : m = 0 := by
      simp only [List.length_nil] at hl
      rcases Nat.mul_eq_zero.1 hl.symm with h | h
      · exact h
      · omega
    subst hm
    refine ⟨v, w, ?_, by simpa using hown, ⟨rfl, rfl, rfl, Nat.le_refl _, fun _ _ _ => rfl⟩, .inl rfl⟩
    rcases hown.2 with ⟨rfl, rfl⟩ | ⟨g, cap, cur, rfl, _, _, hnc, _⟩
    · simp [Builtin.append_, run_underlying ht, sizeOf, typeInfo, hi, Builtin.lenOf, Builtin.firstCells]
    · simp [Builtin.append_, run_underlying ht, sizeOf, typeInfo, hi, Builtin.lenOf, Builtin.firstCells, hnc, storeCells]
  | some a =>
    have hnews : ∀ j u, news[j]? = some u → w.cell? (a.add j) = some u := by
      intro j u hu
      rcases hr with h | ⟨b, off, hp, hc⟩
      · subst h; simp at hu
      · cases hp
        rw [cell_add]
        exact hc j u hu
    obtain ⟨v', w', h2, h3, h4, _, h5⟩ := run_append_own_at (P := P) w base t ty e i z size bytes ht hi hz hsize hby hzs hsz v n xs hown a m c news hl hnews h1 h63 hbytes hbase
    exact ⟨v', w', h2, h3, h4, h5⟩
theorem wpList_appAt {P : Program} {w : World} {ops : Array Oper} {rest : List Oper} {o : Oper} {a : Act} {Q : Exit → Act → World → Prop} (s x : Operand) (t : TypeId)
    (ho : o.op = .call { callee := .builtin .append, args := #[s, x], argTypes := #[t, t] }) (hw : Region.wanted o (yielded ops a.tmps) = true)
    (base : Nat) (e : TypeId) (i : TypeInfo) (z : Value) (size bytes : Nat) (ht : P.underlying t = some (.slice e)) (hi : P.info? e = some i) (hz : i.zero = some z)
    (hsize : i.size = size) (hby : i.bytes = bytes) (hzs : z.cells.size = size) (hsz : 0 < size)
    (v : Value) (n : Nat) (xs : List Value) (hs : a.eval s = v) (hown : w.ownsRow base e size v n xs)
    (p : Option Addr) (m c : Nat) (news : List Value) (hx : a.eval x = .slice p m c) (hl : news.length = m * size) (hr : Rd w p news) (h1 : ∀ u ∈ news, u.oneCell' = true)
    (h63 : n + m ≤ maxLen) (hbytes : (n + m) * bytes ≤ 140737488355328) (hbase : base ≤ w.heap.size)
    (h : ∀ v' w', w'.ownsRow base e size v' (n + m) (xs ++ news) → w.grownBy w' v.ownBlock → (v'.ownBlock = v.ownBlock ∨ v'.ownBlock = some w.heap.size) → wpList P ops Q rest (a.put o.dst v') w') : wpList P ops Q (o :: rest) a w := by
  obtain ⟨v', w', hrun, h2, h3, h4⟩ := run_appAt (P := P) base t o.type e i z size bytes ht hi hz hsize hby hzs hsz v n xs hown p m c news hl hr h1 h63 hbytes hbase
  refine wpList_run hw (v := v') (w' := w') ?_ (h v' w' h2 h3 h4)
  unfold execOp
  simp only [ho, resolve, invoke, builtin, Sem.run_bind, Sem.run_pure, Result.andThen_ok, List.map_toArray, List.map_cons, List.map_nil, hs, hx, hrun]
theorem gives_appAt {P : Program} {w : World} {o : Oper} {a : Act} {T : Value → World → Prop} (s x : Operand) (t : TypeId)
    (ho : o.op = .call { callee := .builtin .append, args := #[s, x], argTypes := #[t, t] })
    (base : Nat) (e : TypeId) (i : TypeInfo) (z : Value) (size bytes : Nat) (ht : P.underlying t = some (.slice e)) (hi : P.info? e = some i) (hz : i.zero = some z)
    (hsize : i.size = size) (hby : i.bytes = bytes) (hzs : z.cells.size = size) (hsz : 0 < size)
    (v : Value) (n : Nat) (xs : List Value) (hs : a.eval s = v) (hown : w.ownsRow base e size v n xs)
    (p : Option Addr) (m c : Nat) (news : List Value) (hx : a.eval x = .slice p m c) (hl : news.length = m * size) (hr : Rd w p news) (h1 : ∀ u ∈ news, u.oneCell' = true)
    (h63 : n + m ≤ maxLen) (hbytes : (n + m) * bytes ≤ 140737488355328) (hbase : base ≤ w.heap.size)
    (h : ∀ v' w', w'.ownsRow base e size v' (n + m) (xs ++ news) → w.grownBy w' v.ownBlock → (v'.ownBlock = v.ownBlock ∨ v'.ownBlock = some w.heap.size) → T v' w') : gives P o a.eval w T := by
  obtain ⟨v', w', hrun, h2, h3, h4⟩ := run_appAt (P := P) base t o.type e i z size bytes ht hi hz hsize hby hzs hsz v n xs hown p m c news hl hr h1 h63 hbytes hbase
  have hr : (execOp a.eval o).run P w = .ok (.value v') w' := by
    unfold execOp
    simp only [ho, resolve, invoke, builtin, Sem.run_bind, Sem.run_pure, Result.andThen_ok, List.map_toArray, List.map_cons, List.map_nil, hs, hx, hrun]
  unfold gives
  rw [hr]
  exact h v' w' h2 h3 h4
theorem wp_phiU_tail {P : Program} {Q : Exit → Act → World → Prop} {a₀ : Act} {id : Nat} {w : World} (lo tl : List Oper) {l : List Oper} (hl : l = lo ++ tl) (R : Nat → World → World → Prop) (I : World → Prop) (ps : List (Nat × Part)) (ns : List (Nat × List Nat)) (us : List (Nat × (World → Prop))) (ks : List (Nat × Nat)) (hm : P.follows .mixedOrders = true)
    (hok : phiOk l.toArray (needs ns) lo.length = true)
    (hI : ∀ p ∈ ps, ∀ w w', I w → R p.1 w w' → I w') (hS : ∀ p ∈ ps, ∀ p' ∈ ps, p'.1 ≠ p.1 → ks.lookup p.1 ≠ some p'.1 → p'.1 ∉ needs ns p.1 → ∀ w w' v, I w → R p'.1 w w' → p.2.fact w v → p.2.fact w' v)
    (hU : ∀ p ∈ ps, ∀ u ∈ us, u.1 ≠ p.1 → ∀ w w', I w → R p.1 w w' → u.2 w → u.2 w') (hu0 : ∀ u ∈ us, u.2 w.drew)
    (hw : I w.drew) (h : wpPhiU P l.toArray (wpList P l.toArray Q tl) I R (planOf ps) (needs ns) us (fun i => ks.lookup i) 0 lo a₀ []) : (Code.region id l.toArray true).wp P Q a₀ w := by
  subst hl
  exact wp_phi_RU lo tl R I ps ns us ks hm hok hI hS hU hu0 hw h
end Go.Proofs.YtgmiockaecklaaaGreatDoor
