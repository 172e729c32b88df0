/-
  IdsN: the document's numbers by the four patterns, as contracts.
-/
import Derived.Test.YtehdbiilbbbbpaaDoorIdsQ2
import Derived.Test.YtehdbiilbbbbpaaDoorLawIUnlike
namespace Go.Proofs.YtehdbiilbbbbpaaDoor
open Go.RowKit Go.Extern.Stop Go.Stop Go.Extern

theorem nums_ok {x : Except Nat (List Nat)} {l : List Nat} {w w' : World} {e : Ending} (h : NumsR x w e w') (hx : x = .ok l) :
    Below w.heap.size w w' ∧ ∃ u, e = .returned (.tuple #[u, .int .i64 0]) ∧ Iv w' u (l.map fun n : Nat => (n : Int)) := by
  obtain ⟨hb, ⟨u, m, hm, rfl, hi⟩ | ⟨n, hn, rfl⟩⟩ := h
  · rw [hx] at hm; cases hm
    exact ⟨hb, u, rfl, hi⟩
  · rw [hx] at hn; cases hn
theorem nums_bad {x : Except Nat (List Nat)} {k : Nat} {w w' : World} {e : Ending} (h : NumsR x w e w') (hx : x = .error k) :
    Below w.heap.size w w' ∧ e = .returned (.tuple #[.slice none 0 0, .int .i64 ((k + 1 : Nat) : Int)]) := by
  obtain ⟨hb, ⟨u, m, hm, rfl, hi⟩ | ⟨n, hn, rfl⟩⟩ := h
  · rw [hx] at hm; cases hm
  · rw [hx] at hn; cases hn
    exact ⟨hb, rfl⟩
theorem n_node (s : List UInt8) (hs : s.length ≤ 1000) (w : World) : Calls Tryd.prog 23 #[.string (bs s), .string ⟨#[110, 35]⟩, .slice (some ⟨w.heap.size, 0, none⟩) 1 1] (w.alloc (.cells #[.int .i64 4] 3)) (NumsR (numsX [110, 35] [4] s) (w.alloc (.cells #[.int .i64 4] 3))) :=
  numbers_any s [110, 35] [4] _ hs (by decide) (by decide) _ ⟨_, _, rfl, by decide, by unfold maxLen; decide, rd_new w #[.int .i64 4] _ _⟩
theorem n_node_ok {s : List UInt8} {n : Nat} (h : toNodeT s = .ok n) (hs : s.length ≤ 1000) (w : World) : Calls Tryd.prog 23 #[.string (bs s), .string ⟨#[110, 35]⟩, .slice (some ⟨w.heap.size, 0, none⟩) 1 1] (w.alloc (.cells #[.int .i64 4] 3)) fun e w' => Below w.heap.size w w' ∧ ∃ u, e = .returned (.tuple #[u, .int .i64 0]) ∧ Iv w' u [(n : Int)] := by
  refine (n_node s hs w).mono ?_
  intro e w' hN
  obtain ⟨hb, u, he, hi⟩ := nums_ok hN (by rw [nums_node, h]; rfl)
  exact ⟨(below_alloc1 w _).trans (hb.mono (below_alloc1 w _).size), u, he, hi⟩
theorem n_node_bad {s : List UInt8} {k : Nat} (h : toNodeT s = .error k) (hs : s.length ≤ 1000) (w : World) : Calls Tryd.prog 23 #[.string (bs s), .string ⟨#[110, 35]⟩, .slice (some ⟨w.heap.size, 0, none⟩) 1 1] (w.alloc (.cells #[.int .i64 4] 3)) fun e w' => Below w.heap.size w w' ∧ e = .returned (.tuple #[.slice none 0 0, .int .i64 ((k + 1 : Nat) : Int)]) := by
  refine (n_node s hs w).mono ?_
  intro e w' hN
  obtain ⟨hb, he⟩ := nums_bad hN (by rw [nums_node, h]; rfl)
  exact ⟨(below_alloc1 w _).trans (hb.mono (below_alloc1 w _).size), he⟩
theorem n_act (s : List UInt8) (hs : s.length ≤ 1000) (w : World) : Calls Tryd.prog 23 #[.string (bs s), .string ⟨#[97, 35, 46, 35]⟩, .slice (some ⟨w.heap.size, 0, none⟩) 2 2] (w.alloc (.cells #[.int .i64 4, .int .i64 1000000] 3)) (NumsR (numsX [97, 35, 46, 35] [4, 1000000] s) (w.alloc (.cells #[.int .i64 4, .int .i64 1000000] 3))) :=
  numbers_any s [97, 35, 46, 35] [4, 1000000] _ hs (by decide) (by decide) _ ⟨_, _, rfl, by decide, by unfold maxLen; decide, rd_new w #[.int .i64 4, .int .i64 1000000] _ _⟩
theorem n_act_ok {s : List UInt8} {n m : Nat} (h : toActT s = .ok (n, m)) (hs : s.length ≤ 1000) (w : World) : Calls Tryd.prog 23 #[.string (bs s), .string ⟨#[97, 35, 46, 35]⟩, .slice (some ⟨w.heap.size, 0, none⟩) 2 2] (w.alloc (.cells #[.int .i64 4, .int .i64 1000000] 3)) fun e w' => Below w.heap.size w w' ∧ ∃ u, e = .returned (.tuple #[u, .int .i64 0]) ∧ Iv w' u [(n : Int), (m : Int)] := by
  refine (n_act s hs w).mono ?_
  intro e w' hN
  obtain ⟨hb, u, he, hi⟩ := nums_ok hN (by rw [nums_act, h]; rfl)
  exact ⟨(below_alloc1 w _).trans (hb.mono (below_alloc1 w _).size), u, he, hi⟩
theorem n_act_bad {s : List UInt8} {k : Nat} (h : toActT s = .error k) (hs : s.length ≤ 1000) (w : World) : Calls Tryd.prog 23 #[.string (bs s), .string ⟨#[97, 35, 46, 35]⟩, .slice (some ⟨w.heap.size, 0, none⟩) 2 2] (w.alloc (.cells #[.int .i64 4, .int .i64 1000000] 3)) fun e w' => Below w.heap.size w w' ∧ e = .returned (.tuple #[.slice none 0 0, .int .i64 ((k + 1 : Nat) : Int)]) := by
  refine (n_act s hs w).mono ?_
  intro e w' hN
  obtain ⟨hb, he⟩ := nums_bad hN (by rw [nums_act, h]; rfl)
  exact ⟨(below_alloc1 w _).trans (hb.mono (below_alloc1 w _).size), he⟩
theorem n_reg (s : List UInt8) (hs : s.length ≤ 1000) (w : World) : Calls Tryd.prog 23 #[.string (bs s), .string ⟨#[97, 35, 46, 35, 47, 35]⟩, .slice (some ⟨w.heap.size, 0, none⟩) 3 3] (w.alloc (.cells #[.int .i64 4, .int .i64 1000000, .int .i64 6] 3)) (NumsR (numsX [97, 35, 46, 35, 47, 35] [4, 1000000, 6] s) (w.alloc (.cells #[.int .i64 4, .int .i64 1000000, .int .i64 6] 3))) :=
  numbers_any s [97, 35, 46, 35, 47, 35] [4, 1000000, 6] _ hs (by decide) (by decide) _ ⟨_, _, rfl, by decide, by unfold maxLen; decide, rd_new w #[.int .i64 4, .int .i64 1000000, .int .i64 6] _ _⟩
theorem n_reg_ok {s : List UInt8} {n m r : Nat} (h : toRegT s = .ok (n, m, r)) (hs : s.length ≤ 1000) (w : World) : Calls Tryd.prog 23 #[.string (bs s), .string ⟨#[97, 35, 46, 35, 47, 35]⟩, .slice (some ⟨w.heap.size, 0, none⟩) 3 3] (w.alloc (.cells #[.int .i64 4, .int .i64 1000000, .int .i64 6] 3)) fun e w' => Below w.heap.size w w' ∧ ∃ u, e = .returned (.tuple #[u, .int .i64 0]) ∧ Iv w' u [(n : Int), (m : Int), (r : Int)] := by
  refine (n_reg s hs w).mono ?_
  intro e w' hN
  obtain ⟨hb, u, he, hi⟩ := nums_ok hN (by rw [nums_reg, h]; rfl)
  exact ⟨(below_alloc1 w _).trans (hb.mono (below_alloc1 w _).size), u, he, hi⟩
theorem n_reg_bad {s : List UInt8} {k : Nat} (h : toRegT s = .error k) (hs : s.length ≤ 1000) (w : World) : Calls Tryd.prog 23 #[.string (bs s), .string ⟨#[97, 35, 46, 35, 47, 35]⟩, .slice (some ⟨w.heap.size, 0, none⟩) 3 3] (w.alloc (.cells #[.int .i64 4, .int .i64 1000000, .int .i64 6] 3)) fun e w' => Below w.heap.size w w' ∧ e = .returned (.tuple #[.slice none 0 0, .int .i64 ((k + 1 : Nat) : Int)]) := by
  refine (n_reg s hs w).mono ?_
  intro e w' hN
  obtain ⟨hb, he⟩ := nums_bad hN (by rw [nums_reg, h]; rfl)
  exact ⟨(below_alloc1 w _).trans (hb.mono (below_alloc1 w _).size), he⟩
theorem n_part (s : List UInt8) (hs : s.length ≤ 1000) (w : World) : Calls Tryd.prog 23 #[.string (bs s), .string ⟨#[112, 35, 46, 35]⟩, .slice (some ⟨w.heap.size, 0, none⟩) 2 2] (w.alloc (.cells #[.int .i64 4, .int .i64 8] 3)) (NumsR (numsX [112, 35, 46, 35] [4, 8] s) (w.alloc (.cells #[.int .i64 4, .int .i64 8] 3))) :=
  numbers_any s [112, 35, 46, 35] [4, 8] _ hs (by decide) (by decide) _ ⟨_, _, rfl, by decide, by unfold maxLen; decide, rd_new w #[.int .i64 4, .int .i64 8] _ _⟩
theorem n_part_ok {s : List UInt8} {n m : Nat} (h : toPartT s = .ok (n, m)) (hs : s.length ≤ 1000) (w : World) : Calls Tryd.prog 23 #[.string (bs s), .string ⟨#[112, 35, 46, 35]⟩, .slice (some ⟨w.heap.size, 0, none⟩) 2 2] (w.alloc (.cells #[.int .i64 4, .int .i64 8] 3)) fun e w' => Below w.heap.size w w' ∧ ∃ u, e = .returned (.tuple #[u, .int .i64 0]) ∧ Iv w' u [(n : Int), (m : Int)] := by
  refine (n_part s hs w).mono ?_
  intro e w' hN
  obtain ⟨hb, u, he, hi⟩ := nums_ok hN (by rw [nums_part, h]; rfl)
  exact ⟨(below_alloc1 w _).trans (hb.mono (below_alloc1 w _).size), u, he, hi⟩
theorem n_part_bad {s : List UInt8} {k : Nat} (h : toPartT s = .error k) (hs : s.length ≤ 1000) (w : World) : Calls Tryd.prog 23 #[.string (bs s), .string ⟨#[112, 35, 46, 35]⟩, .slice (some ⟨w.heap.size, 0, none⟩) 2 2] (w.alloc (.cells #[.int .i64 4, .int .i64 8] 3)) fun e w' => Below w.heap.size w w' ∧ e = .returned (.tuple #[.slice none 0 0, .int .i64 ((k + 1 : Nat) : Int)]) := by
  refine (n_part s hs w).mono ?_
  intro e w' hN
  obtain ⟨hb, he⟩ := nums_bad hN (by rw [nums_part, h]; rfl)
  exact ⟨(below_alloc1 w _).trans (hb.mono (below_alloc1 w _).size), he⟩
theorem node_head {s : List UInt8} {n : Nat} (h : toNodeT s = .ok n) : ∃ t, s = 110 :: t := by
  rcases after_or 110 s with ⟨t, rfl, _⟩ | ⟨ht, _⟩
  · exact ⟨t, rfl⟩
  · unfold toNodeT at h
    rw [bind_error ht] at h
    cases h
theorem part_head {s : List UInt8} {n : Nat × Nat} (h : toPartT s = .ok n) : ∃ t, s = 112 :: t := by
  rcases after_or 112 s with ⟨t, rfl, _⟩ | ⟨ht, _⟩
  · exact ⟨t, rfl⟩
  · unfold toPartT at h
    rw [bind_error ht] at h
    cases h
theorem act_head {s : List UInt8} {n : Nat × Nat} (h : toActT s = .ok n) : ∃ t, s = 97 :: t ∧ (47 : UInt8) ∉ s := by
  unfold toActT at h
  rcases after_or 97 s with ⟨t, rfl, ht⟩ | ⟨ht, _⟩
  · rw [bind_ok ht] at h
    rcases two_or 46 t with ⟨p, hp⟩ | hp
    · obtain ⟨a, b, rfl, ha, hb⟩ := two_ok 46 hp
      have h1 := dig_notin (c := 47) (digX_ok ha).2.1 (by decide)
      have h2 := dig_notin (c := 47) (digX_ok hb).2.1 (by decide)
      exact ⟨_, rfl, by simp [h1, h2]⟩
    · rw [bind_error hp] at h
      cases h
  · rw [bind_error ht] at h
    cases h
theorem reg_head {s : List UInt8} {n : Nat × Nat × Nat} (h : toRegT s = .ok n) : ∃ t, s = 97 :: t ∧ (47 : UInt8) ∈ s := by
  rcases reg_form s with ⟨a, b, r, n, m, k, rfl, _⟩ | ⟨h2, _⟩
  · exact ⟨_, rfl, by simp⟩
  · rw [h] at h2; cases h2
end Go.Proofs.YtehdbiilbbbbpaaDoor
