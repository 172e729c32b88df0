/-
  CloseOpN: a parameter that is a row of a net's ops.
-/
import Derived.Test.YtbbhecadpbnobaaDoorNH
import Derived.Test.YtbbhecadpbnobaaDoorNetL
import Derived.Deep.SlicePairs
namespace Go.Proofs.YtbbhecadpbnobaaDoor
open Go.RowKit Go.ChangeShapes Go.WideShapes Go.ChangeAt

section
variable {H : Type} {enc : TypeId × Value → H} {P : Program}
set_option maxHeartbeats 1000000 in
theorem open_rows6 {t e : TypeId} {f0  f1  f2  f3  f4  f5 : Field} {w : World} {base : Nat} {sp : Nat → Bool} {held : Bool} {fuel : Nat} {cs : List Value} {x : DataW H × List MemPlace}
    (ht : P.underlying t = some (.slice e)) (he : P.underlying e = some (.struct #[f0, f1, f2, f3, f4, f5])) (ce : P.cellsOf e = 6) (o0 : f0.offset = 0) (o1 : f1.offset = 1) (o2 : f2.offset = 2) (o3 : f3.offset = 3) (o4 : f4.offset = 4) (o5 : f5.offset = 5)
    (c0 : P.cellsOf f0.type = 1) (c1 : P.cellsOf f1.type = 1) (c2 : P.cellsOf f2.type = 1) (c3 : P.cellsOf f3.type = 1) (c4 : P.cellsOf f4.type = 1) (c5 : P.cellsOf f5.type = 1) (h : DataW.trod enc P w base sp held fuel t cs = some x) :
    ∃ (p : Option Addr) (len cap : Nat), cs = [.slice p len cap] ∧ len ≤ cap ∧ cap ≤ maxLen ∧
      ∀ i, i < len → ∃ (b off : Nat) (v0  v1  v2  v3  v4  v5 : Value) (y0  y1  y2  y3  y4  y5 : DataW H × List MemPlace) (n : Nat), p = some ⟨b, off, none⟩ ∧ w.cell? ⟨b, off + i * 6, none⟩ = some v0 ∧ w.cell? ⟨b, off + i * 6 + 1, none⟩ = some v1 ∧ w.cell? ⟨b, off + i * 6 + 2, none⟩ = some v2 ∧ w.cell? ⟨b, off + i * 6 + 3, none⟩ = some v3 ∧ w.cell? ⟨b, off + i * 6 + 4, none⟩ = some v4 ∧ w.cell? ⟨b, off + i * 6 + 5, none⟩ = some v5 ∧
        DataW.trod enc P w base sp held n f0.type [v0] = some y0 ∧ DataW.trod enc P w base sp held n f1.type [v1] = some y1 ∧ DataW.trod enc P w base sp held n f2.type [v2] = some y2 ∧ DataW.trod enc P w base sp held n f3.type [v3] = some y3 ∧ DataW.trod enc P w base sp held n f4.type [v4] = some y4 ∧ DataW.trod enc P w base sp held n f5.type [v5] = some y5 := by
  rcases Deep.open_slice ht h with ⟨h0, _⟩ | ⟨a, len, cap, m, n, D, Pl, rfl, _, hl, hm, hmm, _, hx⟩
  · exact ⟨none, 0, 0, h0, by omega, by unfold maxLen; omega, fun i hi => absurd hi (by omega)⟩
  have hlm : len ≤ m := by rw [hmm]; split <;> omega
  have each : ∀ i, i < m → ∃ (v0  v1  v2  v3  v4  v5 : Value) (y0  y1  y2  y3  y4  y5 : DataW H × List MemPlace) (k : Nat), w.cell? (a.add (i * 6)) = some v0 ∧ w.cell? (a.add (i * 6 + 1)) = some v1 ∧ w.cell? (a.add (i * 6 + 2)) = some v2 ∧ w.cell? (a.add (i * 6 + 3)) = some v3 ∧ w.cell? (a.add (i * 6 + 4)) = some v4 ∧ w.cell? (a.add (i * 6 + 5)) = some v5 ∧
      DataW.trod enc P w base sp held k f0.type [v0] = some y0 ∧ DataW.trod enc P w base sp held k f1.type [v1] = some y1 ∧ DataW.trod enc P w base sp held k f2.type [v2] = some y2 ∧ DataW.trod enc P w base sp held k f3.type [v3] = some y3 ∧ DataW.trod enc P w base sp held k f4.type [v4] = some y4 ∧ DataW.trod enc P w base sp held k f5.type [v5] = some y5 := by
    intro i hi
    obtain ⟨cs', h1, h2⟩ := hx i hi
    rw [ce] at h1
    obtain ⟨_, hlen, hcell⟩ := World.cells?_some h1
    obtain ⟨xs, k, _, _, _, hxl, hf⟩ := DataW.trod_struct he h2
    match xs, hxl, cs', hlen with
    | [y0, y1, y2, y3, y4, y5], _, [v0, v1, v2, v3, v4, v5], _ =>
      have g0 := hf 0 f0 rfl
      have g1 := hf 1 f1 rfl
      have g2 := hf 2 f2 rfl
      have g3 := hf 3 f3 rfl
      have g4 := hf 4 f4 rfl
      have g5 := hf 5 f5 rfl
      simp [o0, o1, o2, o3, o4, o5, c0, c1, c2, c3, c4, c5] at g0 g1 g2 g3 g4 g5
      have e0 := hcell 0 (by omega)
      have e1 := hcell 1 (by omega)
      have e2 := hcell 2 (by omega)
      have e3 := hcell 3 (by omega)
      have e4 := hcell 4 (by omega)
      have e5 := hcell 5 (by omega)
      rw [Deep.add_add] at e0 e1 e2 e3 e4 e5
      exact ⟨v0, v1, v2, v3, v4, v5, y0, y1, y2, y3, y4, y5, k, by simpa using e0, by simpa using e1, by simpa using e2, by simpa using e3, by simpa using e4, by simpa using e5, g0, g1, g2, g3, g4, g5⟩
  refine ⟨some a, len, cap, rfl, hl, hm, fun i hi => ?_⟩
  obtain ⟨v0, v1, v2, v3, v4, v5, y0, y1, y2, y3, y4, y5, k, g0, g1, g2, g3, g4, g5, r⟩ := each i (by omega)
  have hsp : a.spot = none := by
    obtain ⟨_, _, _, _, _, _, _, _, _, _, _, _, _, g, _⟩ := each 0 (by omega)
    have : a.add (0 * 6) = a := by simp [Addr.add]
    rw [this] at g
    unfold World.cell? at g
    split at g
    · split at g
      · cases g
      · rename_i hs; simpa using hs
    · cases g
  obtain ⟨b, off, s⟩ := a
  simp only at hsp
  subst hsp
  rw [cell_add] at g0 g1 g2 g3 g4 g5
  exact ⟨b, off, v0, v1, v2, v3, v4, v5, y0, y1, y2, y3, y4, y5, k, rfl, g0, by simpa [Nat.add_assoc] using g1, by simpa [Nat.add_assoc] using g2, by simpa [Nat.add_assoc] using g3, by simpa [Nat.add_assoc] using g4, by simpa [Nat.add_assoc] using g5, r⟩
theorem open_opsN {w : World} {base : Nat} {sp : Nat → Bool} {held : Bool} {fuel : Nat} {cs : List Value} {x : DataW H × List MemPlace}
    (h : DataW.trod enc Tryd.prog w base sp held fuel 50 cs = some x) : ∃ v os, cs = [v] ∧ (OpLN w v os ∧ ∀ o ∈ os, In64 o.frm ∧ In64 o.to_) := by
  obtain ⟨p, len, cap, rfl, hl, hm, each⟩ := open_rows6 Tryd.underlying50 Tryd.underlying55 (by kernel_rfl) rfl rfl rfl rfl rfl rfl (by kernel_rfl) (by kernel_rfl) (by kernel_rfl) (by kernel_rfl) (by kernel_rfl) (by kernel_rfl) h
  have hall : ∀ i, ∃ o : OpN, i < len → ∃ b off q c, p = some ⟨b, off, none⟩ ∧ w.cell? ⟨b, off + i * 6, none⟩ = some (.int .i64 o.kind) ∧ w.cell? ⟨b, off + i * 6 + 1, none⟩ = some (.int .i64 o.at_) ∧
      w.cell? ⟨b, off + i * 6 + 2, none⟩ = some (.int .i64 o.frm) ∧ w.cell? ⟨b, off + i * 6 + 3, none⟩ = some (.int .i64 o.to_) ∧ w.cell? ⟨b, off + i * 6 + 4, none⟩ = some (.bool o.is) ∧
      w.cell? ⟨b, off + i * 6 + 5, none⟩ = some (.slice q o.dat.length c) ∧ Byt w (.slice q o.dat.length c) o.dat ∧ In64 o.frm ∧ In64 o.to_ := by
    intro i
    by_cases hi : i < len
    · obtain ⟨b, off, v0, v1, v2, v3, v4, v5, y0, y1, y2, y3, y4, y5, k, hp, g0, g1, g2, g3, g4, g5, t0, t1, t2, t3, t4, t5⟩ := each i hi
      obtain ⟨z0, rfl, _⟩ := trod_i64 Tryd.underlying3 t0
      obtain ⟨z1, rfl, _⟩ := trod_i64 Tryd.underlying3 t1
      obtain ⟨z2, rfl, h2⟩ := trod_i64 Tryd.underlying3 t2
      obtain ⟨z3, rfl, h3⟩ := trod_i64 Tryd.underlying3 t3
      obtain ⟨z4, rfl⟩ := trod_bool Tryd.underlying4 t4
      obtain ⟨v, l, hv, hb⟩ := open_byt Tryd.underlying32 Tryd.underlying5 (by kernel_rfl) t5
      cases hv
      obtain ⟨q, c, rfl, _⟩ := id hb
      exact ⟨⟨z0, z1, z2, z3, z4, l⟩, fun _ => ⟨b, off, q, c, hp, g0, g1, g2, g3, g4, g5, hb, int_bd h2, int_bd h3⟩⟩
    · exact ⟨⟨0, 0, 0, 0, false, []⟩, fun h => absurd h hi⟩
  obtain ⟨G, hG⟩ := Classical.axiomOfChoice hall
  refine ⟨_, (List.range len).map G, rfl, ⟨p, cap, by simp, by simpa using hl, hm, fun i o ho => ?_⟩, fun o ho => ?_⟩
  · simp only [List.getElem?_map, Option.map_eq_some_iff] at ho
    obtain ⟨j, hj, rfl⟩ := ho
    obtain ⟨hi, rfl⟩ := List.getElem?_eq_some_iff.1 hj
    simp only [List.length_range] at hi
    simp only [List.getElem_range]
    obtain ⟨b, off, q, c, e, g0, g1, g2, g3, g4, g5, g6, _⟩ := hG i hi
    exact ⟨b, off, q, c, e, g0, g1, g2, g3, g4, g5, g6⟩
  · rw [List.mem_map] at ho
    obtain ⟨j, hj, rfl⟩ := ho
    obtain ⟨b, off, q, c, _, _, _, _, _, _, _, _, hb⟩ := hG j (List.mem_range.1 hj)
    exact hb
end
end Go.Proofs.YtbbhecadpbnobaaDoor
