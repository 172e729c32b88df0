/-
  AppK: append to a row of the call's own, where the shorter slice is read again behind it. No program.
-/
import Derived.Test.YtehoenojjdgphaaDoorBase
namespace Go.Proofs.YtehoenojjdgphaaDoor
open Go.RowKit

/-- the shorter slice reads as it did -/
theorem app_keeps {P : Program} {w w' : World} (base : Nat) (t ty e : TypeId) (i : TypeInfo) (z : Value) (size bytes : Nat) (ht : P.underlying t = some (.slice e)) (hi : P.info? e = some i) (hz : i.zero = some z)
    (hsize : i.size = size) (hby : i.bytes = bytes) (hzs : z.cells.size = size) (hsz : 0 < size)
    (p0 : Option Addr) (c0 n : Nat) (xs : List Value) (hown : w.ownsRow base e size (.slice p0 n c0) n xs)
    (p : Option Addr) (m c : Nat) (news : List Value) (hl : news.length = m * size) (hr : Rd w p news) (h1 : ∀ u ∈ news, u.oneCell' = true)
    (h63 : n + m ≤ maxLen) (hbytes : (n + m) * bytes ≤ 140737488355328) {v' : Value}
    (hrun : (Builtin.append_ #[t, t] ty #[.slice p0 n c0, .slice p m c]).run P w = .ok v' w') : Rd w' p0 xs := by
  subst hsize
  have hxl := hown.1
  rcases hown.2 with ⟨he, hn⟩ | ⟨g, cap, cur, he, hb, hg, hnc, hcm, hcs, htake⟩
  · subst hn
    exact .inl (List.eq_nil_of_length_eq_zero (by simpa using hxl))
  · cases he
    have hcells : Rd w (some ⟨g, 0, none⟩) xs := by
      obtain ⟨p', c', hp, _, _, h⟩ := owns_rd hown
      cases hp; exact h
    cases p with
    | none =>
      have hn : news = [] := by
        rcases hr with h | ⟨b, off, hp, _⟩
        · exact h
        · cases hp
      subst hn
      have hm : m = 0 := by
        simp only [List.length_nil] at hl
        rcases Nat.mul_eq_zero.1 hl.symm with h | h <;> omega
      subst hm
      have : (Builtin.append_ #[t, t] ty #[.slice (some ⟨g, 0, none⟩) n c0, .slice none 0 c]).run P w = .ok (.slice (some ⟨g, 0, none⟩) n c0) w := by
        simp [Builtin.append_, run_underlying ht, sizeOf, typeInfo, hi, Builtin.lenOf, Builtin.firstCells, hnc, storeCells]
      rw [this] at hrun
      cases hrun
      exact hcells
    | some a =>
      have hnews : ∀ j u, news[j]? = some u → w.cell? (a.add j) = some u := by
        intro j u hu
        rcases hr with h | ⟨b, off, hp, hc⟩
        · subst h; simp at hu
        · cases hp
          rw [cell_add]
          exact hc j u hu
      by_cases hroom : n + m ≤ c0
      · have hfit : n * i.size + news.length ≤ cur.size := by rw [hl, hcs, ← Nat.add_mul]; exact Nat.mul_le_mul_right _ hroom
        have h := run_append_room (P := P) w t ty e i ht hi g n c0 cur hg a m c news hl hnews h1 hroom hfit
        rw [h] at hrun
        cases hrun
        refine .inr ⟨g, 0, rfl, fun j u hu => ?_⟩
        have hj : j < n * i.size := by rw [← hxl]; exact (List.getElem?_eq_some_iff.1 hu).1
        rw [cell_of_row _ g (0 + j) _ e _ (setRow_heap w g cur _ e _ hg), Nat.zero_add, List.getElem?_toArray, List.append_assoc,
          List.getElem?_append_left (by rw [List.length_take, Array.length_toList, hcs]; have := Nat.mul_le_mul_right i.size hnc; omega)]
        rw [← htake] at hu
        exact hu
      · have h := run_append_grow (P := P) w t ty e i z ht hi hz ⟨g, 0, none⟩ n c0 xs hxl (hown.cells (g := g) rfl) a m c news hl hnews (by omega) (by unfold maxLen at h63; omega) (growslice_fits (by omega) (by rw [hby]; exact hbytes))
        rw [h] at hrun
        cases hrun
        exact hcells.keep (keep_alloc w.drew _)

theorem wpList_appK {P : Program} {w : World} {ops : Array Oper} {rest : List Oper} {o : Oper} {a : Act} {Q : Exit → Act → World → Prop} (s x : Operand) (t : TypeId)
    (ho : o.op = .call { callee := .builtin .append, args := #[s, x], argTypes := #[t, t] }) (hw : Region.wanted o (yielded ops a.tmps) = true)
    (base : Nat) (e : TypeId) (i : TypeInfo) (z : Value) (size bytes : Nat) (ht : P.underlying t = some (.slice e)) (hi : P.info? e = some i) (hz : i.zero = some z)
    (hsize : i.size = size) (hby : i.bytes = bytes) (hzs : z.cells.size = size) (hsz : 0 < size)
    (v : Value) (n : Nat) (xs : List Value) (hs : a.eval s = v) (hown : w.ownsRow base e size v n xs)
    (p : Option Addr) (m c : Nat) (news : List Value) (hx : a.eval x = .slice p m c) (hl : news.length = m * size) (hr : Rd w p news) (h1 : ∀ u ∈ news, u.oneCell' = true)
    (h63 : n + m ≤ maxLen) (hbytes : (n + m) * bytes ≤ 140737488355328) (hbase : base ≤ w.heap.size)
    (h : ∀ v' w', w'.ownsRow base e size v' (n + m) (xs ++ news) → w.grownBy w' v.ownBlock → (∀ p0 c0, v = .slice p0 n c0 → Rd w' p0 xs) → wpList P ops Q rest (a.put o.dst v') w') : wpList P ops Q (o :: rest) a w := by
  obtain ⟨v', w', hrun, h2, h3⟩ := run_app (P := P) base t o.type e i z size bytes ht hi hz hsize hby hzs hsz v n xs hown p m c news hl hr h1 h63 hbytes hbase
  refine wpList_run hw (v := v') (w' := w') ?_ (h v' w' h2 h3 fun p0 c0 hv => ?_)
  · unfold execOp
    simp only [ho, resolve, invoke, builtin, Sem.run_bind, Sem.run_pure, Result.andThen_ok, List.map_toArray, List.map_cons, List.map_nil, hs, hx, hrun]
  · subst hv
    exact app_keeps base t o.type e i z size bytes ht hi hz hsize hby hzs hsz p0 c0 n xs hown p m c news hl hr h1 h63 hbytes hrun
end Go.Proofs.YtehoenojjdgphaaDoor
