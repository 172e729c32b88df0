/-
  CloseOp: a parameter that is a row of ops.
-/
import Derived.Test.YtehoenojjdgphaaDoorClose3
import Derived.Test.YtehoenojjdgphaaDoorOpl
namespace Go.Proofs.YtehoenojjdgphaaDoor
open Go.RowKit Go.ChangeShapes Go.WideShapes Go.ChangeAt

section
variable {H : Type} {enc : TypeId × Value → H}
theorem open_ops {w : World} {base : Nat} {sp : Nat → Bool} {held : Bool} {fuel : Nat} {cs : List Value} {x : DataW H × List MemPlace}
    (h : DataW.trod enc Tryd.prog w base sp held fuel 45 cs = some x) : ∃ v os, cs = [v] ∧ (OpL w v os ∧ ∀ o ∈ os, -9223372036854775808 ≤ o.2.1 ∧ o.2.1 ≤ 9223372036854775807) := by
  obtain ⟨p, len, cap, rfl, hl, hm, each⟩ := open_rows3 Tryd.underlying45 Tryd.underlying50 (by kernel_rfl) rfl rfl rfl (by kernel_rfl) (by kernel_rfl) (by kernel_rfl) h
  have hall : ∀ i, ∃ o : OpD, i < len → ∃ b off q c, p = some ⟨b, off, none⟩ ∧ w.cell? ⟨b, off + i * 3, none⟩ = some (.int .i64 o.1) ∧ w.cell? ⟨b, off + i * 3 + 1, none⟩ = some (.int .i64 o.2.1) ∧
      w.cell? ⟨b, off + i * 3 + 2, none⟩ = some (.slice q o.2.2.length c) ∧ Byt w (.slice q o.2.2.length c) o.2.2 ∧ -9223372036854775808 ≤ o.2.1 ∧ o.2.1 ≤ 9223372036854775807 := by
    intro i
    by_cases hi : i < len
    · obtain ⟨b, off, v0, v1, v2, y0, y1, y2, k, hp, g0, g1, g2, t0, t1, t2⟩ := each i hi
      obtain ⟨z0, rfl, _⟩ := trod_i64 Tryd.underlying3 t0
      obtain ⟨z1, rfl, hw⟩ := trod_i64 Tryd.underlying3 t1
      obtain ⟨v, l, hv, hb⟩ := open_byt Tryd.underlying22 Tryd.underlying5 (by kernel_rfl) t2
      cases hv
      obtain ⟨q, c, rfl, _⟩ := id hb
      exact ⟨(z0, z1, l), fun _ => ⟨b, off, q, c, hp, g0, g1, g2, hb, int_bd hw⟩⟩
    · exact ⟨(0, 0, []), fun h => absurd h hi⟩
  obtain ⟨F, hF⟩ := Classical.axiomOfChoice hall
  refine ⟨_, (List.range len).map F, rfl, ⟨p, cap, by simp, by simpa using hl, hm, fun i o ho => ?_⟩, fun o ho => ?_⟩
  · simp only [List.getElem?_map, Option.map_eq_some_iff] at ho
    obtain ⟨j, hj, rfl⟩ := ho
    obtain ⟨hi, rfl⟩ := List.getElem?_eq_some_iff.1 hj
    simp only [List.length_range] at hi
    simp only [List.getElem_range]
    obtain ⟨b, off, q, c, e, g0, g1, g2, g3, _⟩ := hF i hi
    exact ⟨b, off, q, c, e, g0, g1, g2, g3⟩
  · rw [List.mem_map] at ho
    obtain ⟨j, hj, rfl⟩ := ho
    obtain ⟨b, off, q, c, _, _, _, _, _, hb⟩ := hF j (List.mem_range.1 hj)
    exact hb
end
end Go.Proofs.YtehoenojjdgphaaDoor
