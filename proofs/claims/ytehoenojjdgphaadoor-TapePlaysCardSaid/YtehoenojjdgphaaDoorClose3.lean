/-
  Close3: a parameter that is a row of structs of three fields. No program.
-/
import Derived.Test.YtehoenojjdgphaaDoorClose
import Derived.Deep.SlicePairs
namespace Go.Proofs.YtehoenojjdgphaaDoor
open Go.RowKit Go.ChangeShapes Go.WideShapes Go.ChangeAt

section
variable {H : Type} {enc : TypeId × Value → H} {P : Program}
theorem open_rows3 {t e : TypeId} {f0 f1 f2 : Field} {w : World} {base : Nat} {sp : Nat → Bool} {held : Bool} {fuel : Nat} {cs : List Value} {x : DataW H × List MemPlace}
    (ht : P.underlying t = some (.slice e)) (he : P.underlying e = some (.struct #[f0, f1, f2])) (ce : P.cellsOf e = 3) (o0 : f0.offset = 0) (o1 : f1.offset = 1) (o2 : f2.offset = 2)
    (c0 : P.cellsOf f0.type = 1) (c1 : P.cellsOf f1.type = 1) (c2 : P.cellsOf f2.type = 1) (h : DataW.trod enc P w base sp held fuel t cs = some x) :
    ∃ (p : Option Addr) (len cap : Nat), cs = [.slice p len cap] ∧ len ≤ cap ∧ cap ≤ maxLen ∧
      ∀ i, i < len → ∃ (b off : Nat) (v0 v1 v2 : Value) (y0 y1 y2 : DataW H × List MemPlace) (n : Nat), p = some ⟨b, off, none⟩ ∧ w.cell? ⟨b, off + i * 3, none⟩ = some v0 ∧ w.cell? ⟨b, off + i * 3 + 1, none⟩ = some v1 ∧ w.cell? ⟨b, off + i * 3 + 2, none⟩ = some v2 ∧
        DataW.trod enc P w base sp held n f0.type [v0] = some y0 ∧ DataW.trod enc P w base sp held n f1.type [v1] = some y1 ∧ DataW.trod enc P w base sp held n f2.type [v2] = some y2 := by
  rcases Deep.open_slice ht h with ⟨h0, _⟩ | ⟨a, len, cap, m, n, D, Pl, rfl, _, hl, hm, hmm, _, hx⟩
  · exact ⟨none, 0, 0, h0, by omega, by unfold maxLen; omega, fun i hi => absurd hi (by omega)⟩
  have hlm : len ≤ m := by rw [hmm]; split <;> omega
  have each : ∀ i, i < m → ∃ (v0 v1 v2 : Value) (y0 y1 y2 : DataW H × List MemPlace) (k : Nat), w.cell? (a.add (i * 3)) = some v0 ∧ w.cell? (a.add (i * 3 + 1)) = some v1 ∧ w.cell? (a.add (i * 3 + 2)) = some v2 ∧
      DataW.trod enc P w base sp held k f0.type [v0] = some y0 ∧ DataW.trod enc P w base sp held k f1.type [v1] = some y1 ∧ DataW.trod enc P w base sp held k f2.type [v2] = some y2 := by
    intro i hi
    obtain ⟨cs', h1, h2⟩ := hx i hi
    rw [ce] at h1
    obtain ⟨_, hlen, hcell⟩ := World.cells?_some h1
    obtain ⟨xs, k, _, _, _, hxl, hf⟩ := DataW.trod_struct he h2
    match xs, hxl, cs', hlen with
    | [y0, y1, y2], _, [v0, v1, v2], _ =>
      have g0 := hf 0 f0 rfl
      have g1 := hf 1 f1 rfl
      have g2 := hf 2 f2 rfl
      simp [o0, o1, o2, c0, c1, c2] at g0 g1 g2
      have e0 := hcell 0 (by omega)
      have e1 := hcell 1 (by omega)
      have e2 := hcell 2 (by omega)
      rw [Deep.add_add] at e0 e1 e2
      exact ⟨v0, v1, v2, y0, y1, y2, k, by simpa using e0, by simpa using e1, by simpa using e2, g0, g1, g2⟩
  refine ⟨some a, len, cap, rfl, hl, hm, fun i hi => ?_⟩
  obtain ⟨v0, v1, v2, y0, y1, y2, k, g0, g1, g2, r⟩ := each i (by omega)
  have hsp : a.spot = none := by
    obtain ⟨_, _, _, _, _, _, _, g, _⟩ := each 0 (by omega)
    have : a.add (0 * 3) = a := by simp [Addr.add]
    rw [this] at g
    unfold World.cell? at g
    split at g
    · split at g
      · cases g
      · rename_i hs; simpa using hs
    · cases g
  obtain ⟨b, off, s⟩ := a
  simp only at hsp
  subst hsp
  rw [cell_add] at g0 g1 g2
  exact ⟨b, off, v0, v1, v2, y0, y1, y2, k, rfl, g0, by simpa [Nat.add_assoc] using g1, by simpa [Nat.add_assoc] using g2, r⟩
end
end Go.Proofs.YtehoenojjdgphaaDoor
