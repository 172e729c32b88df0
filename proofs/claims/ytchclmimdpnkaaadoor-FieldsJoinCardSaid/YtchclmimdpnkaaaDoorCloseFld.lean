/-
  CloseFld: a parameter that is a row of fields.
-/
import Derived.Test.YtchclmimdpnkaaaDoorClose
import Derived.Test.YtchclmimdpnkaaaDoorCutPre
import Derived.Deep.SlicePairs
namespace Go.Proofs.YtchclmimdpnkaaaDoor
open Go.RowKit Go.ChangeShapes Go.WideShapes Go.ChangeAt

section
variable {H : Type} {enc : TypeId × Value → H}
theorem open_flds {w : World} {base : Nat} {sp : Nat → Bool} {held : Bool} {fuel : Nat} {cs : List Value} {x : DataW H × List MemPlace}
    (h : DataW.trod enc Tryd.prog w base sp held fuel 49 cs = some x) : ∃ v fs, cs = [v] ∧ FldL w v fs := by
  rcases Deep.open_slice_pairs Tryd.underlying49 Tryd.underlying60 (by kernel_rfl) rfl rfl (by kernel_rfl) (by kernel_rfl) h with ⟨rfl, _⟩ | ⟨a, len, cap, m, n, V0, V1, D0, D1, P0, P1, rfl, _, hlc, hm, hmm, _, hcell⟩
  · exact ⟨_, [], rfl, none, 0, [], rfl, by simp, by unfold maxLen; omega, rfl, .inl rfl, by intro i f hf; simp at hf⟩
  · have hlm : len ≤ m := by rw [hmm]; split <;> omega
    have hall : ∀ i, ∃ f : Int × List UInt8, i < m → V0 i = .int .i64 f.1 ∧ Byt w (V1 i) f.2 := by
      intro i
      by_cases hi : i < m
      · obtain ⟨_, _, h0, h1⟩ := hcell i hi
        obtain ⟨y, hy, _⟩ := trod_i64 Tryd.underlying3 h0
        obtain ⟨v, l, hv, hb⟩ := open_byt Tryd.underlying23 Tryd.underlying5 (by kernel_rfl) h1
        cases hv
        exact ⟨(y, l), fun _ => ⟨hy, hb⟩⟩
      · exact ⟨(0, []), fun h => absurd h hi⟩
    obtain ⟨F, hF⟩ := Classical.axiomOfChoice hall
    refine ⟨_, (List.range len).map F, rfl, some a, cap, (List.range len).map V1, by simp, by simpa using hlc, hm, by simp, ?_, ?_⟩
    · by_cases h0 : len = 0
      · left; subst h0; rfl
      · right
        have h00 := (hcell 0 (by omega)).1
        have hsp : a.spot = none := by
          have : a.add (0 * 2) = a := by simp [Addr.add]
          rw [this] at h00
          unfold World.cell? at h00
          split at h00
          · split at h00
            · cases h00
            · rename_i hs; simpa using hs
          · cases h00
        obtain ⟨b, off, s⟩ := a
        simp only at hsp
        subst hsp
        refine ⟨b, off, rfl, fun j u hu => ?_⟩
        have hlen := fcells_len ((List.range len).map F) ((List.range len).map V1) (by simp)
        have hj : j < (fcells ((List.range len).map F) ((List.range len).map V1)).length := (List.getElem?_eq_some_iff.1 hu).1
        simp only [hlen, List.length_map, List.length_range] at hj
        have hi : j / 2 < len := by omega
        obtain ⟨g1, g2⟩ := fcells_get ((List.range len).map F) ((List.range len).map V1) (j / 2) (F (j / 2)) (V1 (j / 2)) (by simp [hi]) (by simp [hi])
        obtain ⟨c1, c2, _, _⟩ := hcell (j / 2) (by omega)
        rw [cell_add] at c1 c2
        rcases Nat.mod_two_eq_zero_or_one j with hp | hp
        · have e : 2 * (j / 2) = j := by omega
          rw [e] at g1
          rw [g1] at hu
          cases hu
          rw [show j / 2 * 2 = j by omega] at c1
          rw [c1, (hF (j / 2) (by omega)).1]
        · have e : 2 * (j / 2) + 1 = j := by omega
          rw [e] at g2
          rw [g2] at hu
          cases hu
          rw [show j / 2 * 2 + 1 = j by omega] at c2
          exact c2
    · intro i f hf
      simp only [List.getElem?_map, Option.map_eq_some_iff] at hf
      obtain ⟨j, hj, rfl⟩ := hf
      obtain ⟨hi, rfl⟩ := List.getElem?_eq_some_iff.1 hj
      simp only [List.length_range] at hi
      simp only [List.getElem_range]
      exact ⟨V1 i, by simp [hi], (hF i (by omega)).2⟩
end
end Go.Proofs.YtchclmimdpnkaaaDoor
