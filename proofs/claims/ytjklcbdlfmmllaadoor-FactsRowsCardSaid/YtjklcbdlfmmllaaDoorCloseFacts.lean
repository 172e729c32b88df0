/-
  CloseFacts: a row of facts that is handed in.
-/
import Derived.Test.YtjklcbdlfmmllaaDoorCloseFact
import Derived.Test.YtjklcbdlfmmllaaDoorRowsW
import Derived.Deep.SlicePairs
namespace Go.Proofs.YtjklcbdlfmmllaaDoor
open Go.RowKit Go.ChangeShapes Go.WideShapes Go.ChangeAt

section
variable {H : Type} {enc : TypeId × Value → H}
theorem list14 {α : Type} {cs : List α} (h : cs.length = 14) : ∃ c0 c1 c2 c3 c4 c5 c6 c7 c8 c9 c10 c11 c12 c13, cs = [c0, c1, c2, c3, c4, c5, c6, c7, c8, c9, c10, c11, c12, c13] := by
  match cs, h with
  | [c0, c1, c2, c3, c4, c5, c6, c7, c8, c9, c10, c11, c12, c13], _ => exact ⟨c0, c1, c2, c3, c4, c5, c6, c7, c8, c9, c10, c11, c12, c13, rfl⟩
set_option maxRecDepth 100000 in
set_option maxHeartbeats 2000000 in
theorem open_factc {w : World} {spare : Nat → Bool} {base : Nat} {held : Bool} {fuel : Nat} {cs : List Value} {x : DataW H × List MemPlace}
    (hf : DataW.trod enc Tryd.prog w base spare held fuel 33 cs = some x) (hl : cs.length = 14) : ∃ f : Fct, cs = (fctA f).toList ∧ f.wf := by
  obtain ⟨c0, c1, c2, c3, c4, c5, c6, c7, c8, c9, c10, c11, c12, c13, rfl⟩ := list14 hl
  obtain ⟨y0, y1, y2, y3, y4, y5, y6, y7, y8, y9, y10, y11, y12, n, h0, h1, h2, h3, h4, h5, h6, h7, h8, h9, h10, h11, h12⟩ := trod_struct13 Tryd.underlying33 hf
  have k0 : Tryd.prog.cellsOf 30 = 2 := by kernel_rfl
  have k1 : Tryd.prog.cellsOf 3 = 1 := by kernel_rfl
  have k2 : Tryd.prog.cellsOf 31 = 1 := by kernel_rfl
  simp only [k0, k1, k2, List.drop_succ_cons, List.drop_zero, List.take_succ_cons, List.take_zero] at h0 h1 h2 h3 h4 h5 h6 h7 h8 h9 h10 h11 h12
  obtain ⟨z0, z1, m, _, _, g0, g1⟩ := trod_struct2 Tryd.underlying30 h1
  simp only [k1, List.drop_succ_cons, List.drop_zero, List.take_succ_cons, List.take_zero] at g0 g1
  obtain ⟨a0, rfl, e0⟩ := trod_i64 Tryd.underlying3 h0
  obtain ⟨a1, rfl, e1⟩ := trod_i64 Tryd.underlying3 g0
  obtain ⟨a2, rfl, e2⟩ := trod_i64 Tryd.underlying3 g1
  obtain ⟨a3, rfl, e3⟩ := trod_i64 Tryd.underlying3 h2
  obtain ⟨a4, rfl, e4⟩ := trod_i64 Tryd.underlying3 h3
  obtain ⟨a5, rfl, e5⟩ := trod_i64 Tryd.underlying3 h4
  obtain ⟨a6, rfl, e6⟩ := trod_i64 Tryd.underlying3 h5
  obtain ⟨a7, rfl, e7⟩ := trod_i64 Tryd.underlying3 h6
  obtain ⟨a8, rfl, e8⟩ := trod_i64 Tryd.underlying3 h7
  obtain ⟨a9, rfl, e9⟩ := trod_i64 Tryd.underlying3 h8
  obtain ⟨a10, rfl, e10⟩ := trod_i64 Tryd.underlying3 h9
  obtain ⟨a11, rfl, e11⟩ := trod_i64 Tryd.underlying3 h10
  obtain ⟨a12, rfl, e12⟩ := trod_i64 Tryd.underlying3 h11
  obtain ⟨x, rfl, hx⟩ := trod_f64 Tryd.underlying31 h12
  refine ⟨⟨a0, a1, a2, a3, a4, a5, a6, a7, a8, a9, a10, a11, a12, x⟩, rfl, ?_, hx⟩
  intro z hz
  unfold Fct.l at hz
  simp only [List.mem_cons, List.not_mem_nil, or_false] at hz
  rcases hz with rfl | rfl | rfl | rfl | rfl | rfl | rfl | rfl | rfl | rfl | rfl | rfl | rfl
  · exact int_bd e0
  · exact int_bd e1
  · exact int_bd e2
  · exact int_bd e3
  · exact int_bd e4
  · exact int_bd e5
  · exact int_bd e6
  · exact int_bd e7
  · exact int_bd e8
  · exact int_bd e9
  · exact int_bd e10
  · exact int_bd e11
  · exact int_bd e12
theorem open_facts {w : World} {base : Nat} {sp : Nat → Bool} {held : Bool} {fuel : Nat} {cs : List Value} {x : DataW H × List MemPlace}
    (h : DataW.trod enc Tryd.prog w base sp held fuel 22 cs = some x) : ∃ v fs, cs = [v] ∧ FctL w v fs ∧ ∀ f ∈ fs, f.wf := by
  rcases Deep.open_slice Tryd.underlying22 h with ⟨h0, _⟩ | ⟨a, len, cap, m, n, D, Pl, rfl, _, hl, hm, hmm, _, hx⟩
  · exact ⟨_, [], h0, ⟨none, 0, rfl, by simp, by unfold maxLen; omega, fun i f hf => by simp at hf⟩, by simp⟩
  have hlm : len ≤ m := by rw [hmm]; split <;> omega
  have hall : ∀ i, ∃ f : Fct, i < len → f.wf ∧ ∀ j, j < 14 → w.cell? (a.add (i * 14 + j)) = (fctA f)[j]? := by
    intro i
    by_cases hi : i < len
    · obtain ⟨cs', h1, h2⟩ := hx i (by omega)
      rw [show Tryd.prog.cellsOf 33 = 14 by kernel_rfl] at h1
      obtain ⟨_, hlen, hcell⟩ := World.cells?_some h1
      obtain ⟨f, rfl, hf⟩ := open_factc h2 hlen
      refine ⟨f, fun _ => ⟨hf, fun j hj => ?_⟩⟩
      have := hcell j (by simpa using hj)
      rw [Deep.add_add] at this
      rw [this]
      simp
    · exact ⟨fct0, fun h => absurd h hi⟩
  obtain ⟨G, hG⟩ := Classical.axiomOfChoice hall
  refine ⟨_, (List.range len).map G, rfl, ⟨some a, cap, by simp, by simpa using hl, hm, fun i f hf => ?_⟩, fun f hf => ?_⟩
  · simp only [List.getElem?_map, Option.map_eq_some_iff] at hf
    obtain ⟨j, hj, rfl⟩ := hf
    obtain ⟨hi, rfl⟩ := List.getElem?_eq_some_iff.1 hj
    simp only [List.length_range] at hi
    simp only [List.getElem_range]
    have hsp : a.spot = none := by
      have g := (hG 0 (by omega)).2 0 (by omega)
      have e0 : a.add (0 * 14 + 0) = a := by simp [Addr.add]
      rw [e0, show (fctA (G 0))[0]? = some (.int .i64 (G 0).k) from rfl] at g
      unfold World.cell? at g
      split at g
      · split at g
        · cases g
        · rename_i hs; simpa using hs
      · cases g
    obtain ⟨b, off, s⟩ := a
    simp only at hsp
    subst hsp
    refine ⟨b, off, rfl, fun j hj => ?_⟩
    have g := (hG i hi).2 j hj
    rw [cell_add] at g
    rw [Nat.add_assoc]
    exact g
  · rw [List.mem_map] at hf
    obtain ⟨j, hj, rfl⟩ := hf
    exact (hG j (List.mem_range.1 hj)).1
end
end Go.Proofs.YtjklcbdlfmmllaaDoor
