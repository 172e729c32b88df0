/-
  CloseOpJ: a parameter that is a row of ops of journals.
-/
import Derived.Test.YtoiknidlincdkaaDoorJH
import Derived.Test.YtoiknidlincdkaaDoorLong7
import Derived.Deep.SlicePairs
namespace Go.Proofs.YtoiknidlincdkaaDoor
open Go.RowKit Go.ChangeShapes Go.WideShapes Go.ChangeAt

section
variable {H : Type} {enc : TypeId × Value → H} {P : Program}
theorem open_rows3 {t e : TypeId} {f0 f1 f2 : Field} {w : World} {base : Nat} {sp : Nat → Bool} {held : Bool} {fuel : Nat} {cs : List Value} {x : DataW H × List MemPlace}
    (ht : P.underlying t = some (.slice e)) (he : P.underlying e = some (.struct #[f0, f1, f2])) (ce : P.cellsOf e = 3) (o0 : f0.offset = 0) (o1 : f1.offset = 1) (o2 : f2.offset = 2)
    (c0 : P.cellsOf f0.type = 1) (c1 : P.cellsOf f1.type = 1) (c2 : P.cellsOf f2.type = 1) (h : DataW.trod enc P w base sp held fuel t cs = some x) :
    ∃ (p : Option Addr) (len cap : Nat), cs = [.slice p len cap] ∧ len ≤ cap ∧ cap ≤ maxLen ∧
      ∀ i, i < len → ∃ (b off : Nat) (v0 v1 v2 : Value) (y0 y1 y2 : DataW H × List MemPlace) (n : Nat), p = some ⟨b, off, none⟩ ∧ w.cell? ⟨b, off + i * 3, none⟩ = some v0 ∧ w.cell? ⟨b, off + i * 3 + 1, none⟩ = some v1 ∧ w.cell? ⟨b, off + i * 3 + 2, none⟩ = some v2 ∧
        DataW.trod enc P w base sp held n f0.type [v0] = some y0 ∧ DataW.trod enc P w base sp held n f1.type [v1] = some y1 ∧ DataW.trod enc P w base sp held n f2.type [v2] = some y2 := by
  rcases Deep.open_slice ht h with ⟨h0, _⟩ | ⟨a, len, cap, m, n, D, Pl, rfl, _, hl, hm, hmm, _, hx⟩
  · exact ⟨none, 0, 0, h0, by omega, by unfold maxLen; omega, fun i hi => absurd hi (by omega)⟩
  have hlm : len ≤ m := by rw [hmm]; split <;> omega
  have each : ∀ i, i < m → ∃ (v0 v1 v2 : Value) (y0 y1 y2 : DataW H × List MemPlace) (k : Nat), w.cell? (a.add (i * 3)) = some v0 ∧ w.cell? (a.add (i * 3 + 1)) = some v1 ∧ w.cell? (a.add (i * 3 + 2)) = some v2 ∧
      DataW.trod enc P w base sp held k f0.type [v0] = some y0 ∧ DataW.trod enc P w base sp held k f1.type [v1] = some y1 ∧ DataW.trod enc P w base sp held k f2.type [v2] = some y2 := by
    intro i hi
    obtain ⟨cs', h1, h2⟩ := hx i hi
    rw [ce] at h1
    obtain ⟨_, hlen, hcell⟩ := World.cells?_some h1
    obtain ⟨xs, k, _, _, _, hxl, hf⟩ := DataW.trod_struct he h2
    match xs, hxl, cs', hlen with
    | [y0, y1, y2], _, [v0, v1, v2], _ =>
      have g0 := hf 0 f0 rfl
      have g1 := hf 1 f1 rfl
      have g2 := hf 2 f2 rfl
      simp [o0, o1, o2, c0, c1, c2] at g0 g1 g2
      have e0 := hcell 0 (by omega)
      have e1 := hcell 1 (by omega)
      have e2 := hcell 2 (by omega)
      rw [Deep.add_add] at e0 e1 e2
      exact ⟨v0, v1, v2, y0, y1, y2, k, by simpa using e0, by simpa using e1, by simpa using e2, g0, g1, g2⟩
  refine ⟨some a, len, cap, rfl, hl, hm, fun i hi => ?_⟩
  obtain ⟨v0, v1, v2, y0, y1, y2, k, g0, g1, g2, r⟩ := each i (by omega)
  have hsp : a.spot = none := by
    obtain ⟨_, _, _, _, _, _, _, g, _⟩ := each 0 (by omega)
    have : a.add (0 * 3) = a := by simp [Addr.add]
    rw [this] at g
    unfold World.cell? at g
    split at g
    · split at g
      · cases g
      · rename_i hs; simpa using hs
    · cases g
  obtain ⟨b, off, s⟩ := a
  simp only at hsp
  subst hsp
  rw [cell_add] at g0 g1 g2
  exact ⟨b, off, v0, v1, v2, y0, y1, y2, k, rfl, g0, by simpa [Nat.add_assoc] using g1, by simpa [Nat.add_assoc] using g2, r⟩
end
section
variable {H : Type} {enc : TypeId × Value → H}
theorem open_ops {w : World} {base : Nat} {sp : Nat → Bool} {held : Bool} {fuel : Nat} {cs : List Value} {x : DataW H × List MemPlace}
    (h : DataW.trod enc Tryd.prog w base sp held fuel 50 cs = some x) : ∃ v os, cs = [v] ∧ (OpLJ w v os ∧ ∀ o ∈ os, -9223372036854775808 ≤ o.2.1 ∧ o.2.1 ≤ 9223372036854775807) := by
  obtain ⟨p, len, cap, rfl, hl, hm, each⟩ := open_rows3 Tryd.underlying50 Tryd.underlying49 (by kernel_rfl) rfl rfl rfl (by kernel_rfl) (by kernel_rfl) (by kernel_rfl) h
  have hall : ∀ i, ∃ o : OpJ, i < len → ∃ b off q c, p = some ⟨b, off, none⟩ ∧ w.cell? ⟨b, off + i * 3, none⟩ = some (.int .i64 o.1) ∧ w.cell? ⟨b, off + i * 3 + 1, none⟩ = some (.int .i64 o.2.1) ∧
      w.cell? ⟨b, off + i * 3 + 2, none⟩ = some (.slice q o.2.2.length c) ∧ BytL w (.slice q o.2.2.length c) o.2.2 ∧ -9223372036854775808 ≤ o.2.1 ∧ o.2.1 ≤ 9223372036854775807 := by
    intro i
    by_cases hi : i < len
    · obtain ⟨b, off, v0, v1, v2, y0, y1, y2, k, hp, g0, g1, g2, t0, t1, t2⟩ := each i hi
      obtain ⟨z0, rfl, _⟩ := trod_i64 Tryd.underlying3 t0
      obtain ⟨z1, rfl, hw⟩ := trod_i64 Tryd.underlying3 t1
      obtain ⟨v, l, hv, hb⟩ := open_bytl Tryd.underlying39 (by kernel_rfl) Tryd.underlying22 Tryd.underlying5 (by kernel_rfl) t2
      cases hv
      obtain ⟨q, c, _, rfl, _⟩ := id hb
      exact ⟨(z0, z1, l), fun _ => ⟨b, off, q, c, hp, g0, g1, g2, hb, int_bd hw⟩⟩
    · exact ⟨(0, 0, []), fun h => absurd h hi⟩
  obtain ⟨F, hF⟩ := Classical.axiomOfChoice hall
  refine ⟨_, (List.range len).map F, rfl, ⟨p, cap, by simp, by simpa using hl, hm, fun i o ho => ?_⟩, fun o ho => ?_⟩
  · simp only [List.getElem?_map, Option.map_eq_some_iff] at ho
    obtain ⟨j, hj, rfl⟩ := ho
    obtain ⟨hi, rfl⟩ := List.getElem?_eq_some_iff.1 hj
    simp only [List.length_range] at hi
    simp only [List.getElem_range]
    obtain ⟨b, off, q, c, e, g0, g1, g2, g3, _⟩ := hF i hi
    exact ⟨b, off, q, c, e, g0, g1, g2, g3⟩
  · rw [List.mem_map] at ho
    obtain ⟨j, hj, rfl⟩ := ho
    obtain ⟨b, off, q, c, _, _, _, _, _, hb⟩ := hF j (List.mem_range.1 hj)
    exact hb
end
end Go.Proofs.YtoiknidlincdkaaDoor
