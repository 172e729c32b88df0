/-
  RowC: rows of structs, rows of texts, as a claim's arguments hand them over. No program.
  ClosePd: a parameter that is a row of pieces (law 23).
-/
import Derived.Test.YtkghpmpmcafhkaaGreatDoorSH
import Derived.Test.YtkghpmpmcafhkaaGreatDoorPD
import Derived.Deep.SlicePairs
import Derived.Test.YtkghpmpmcafhkaaGreatDoorTD
namespace Go.Proofs.YtkghpmpmcafhkaaGreatDoor
open Go.RowKit Go.ChangeShapes Go.WideShapes Go.ChangeAt

section
variable {H : Type} {enc : TypeId × Value → H} {P : Program}
theorem spot_none {w : World} {a : Addr} {v : Value} (h : w.cell? a = some v) : a.spot = none := by
  unfold World.cell? at h
  split at h
  · split at h
    · cases h
    · rename_i hs; simpa using hs
  · cases h
theorem trod_str {w : World} {base : Nat} {sp : Nat → Bool} {held : Bool} {fuel : Nat} {e : TypeId} {v : Value} {x : DataW H × List MemPlace} (he : P.underlying e = some .string) (h : DataW.trod enc P w base sp held fuel e [v] = some x) : ∃ l, v = .string (bs l) := by
  obtain ⟨z, hc, _, _⟩ := DataW.trod_string he h
  exact ⟨z.data.toList, by simpa [bs] using hc⟩
theorem open_strs0 {t e : TypeId} {w : World} {base : Nat} {sp : Nat → Bool} {held : Bool} {fuel : Nat} {cs : List Value} {x : DataW H × List MemPlace}
    (ht : P.underlying t = some (.slice e)) (hce : P.cellsOf e = 1) (he : P.underlying e = some .string) (h : DataW.trod enc P w base sp held fuel t cs = some x) :
    ∃ p cap ls, cs = [.slice p ls.length cap] ∧ ls.length ≤ cap ∧ cap ≤ maxLen ∧ Rd w p (strs ls) := by
  rcases Deep.open_slice1 ht hce h with ⟨rfl, _⟩ | ⟨a, len, cap, m, n, V, D, Pl, rfl, _, hlc, hm, hmm, _, hcell⟩
  · exact ⟨none, 0, [], rfl, by simp, by unfold maxLen; omega, .inl rfl⟩
  · have hlm : len ≤ m := by rw [hmm]; split <;> omega
    have hall : ∀ i, ∃ l : List UInt8, i < m → V i = .string (bs l) := by
      intro i
      by_cases hi : i < m
      · obtain ⟨l, hl⟩ := trod_str he (hcell i hi).2
        exact ⟨l, fun _ => hl⟩
      · exact ⟨[], fun h => absurd h hi⟩
    obtain ⟨L, hL⟩ := Classical.axiomOfChoice hall
    refine ⟨some a, cap, (List.range len).map L, by simp, by simpa using hlc, hm, ?_⟩
    by_cases h0 : len = 0
    · left; subst h0; rfl
    · right
      have h00 := (hcell 0 (by omega)).1
      have hsp : a.spot = none := by
        have : a.add 0 = a := by simp [Addr.add]
        rw [this] at h00
        exact spot_none h00
      obtain ⟨b, off, s⟩ := a
      simp only at hsp
      subst hsp
      refine ⟨b, off, rfl, fun i u hu => ?_⟩
      simp only [strs, List.getElem?_map, Option.map_eq_some_iff] at hu
      obtain ⟨l, ⟨j, hj, rfl⟩, rfl⟩ := hu
      obtain ⟨hi, rfl⟩ := List.getElem?_eq_some_iff.1 hj
      simp only [List.length_range] at hi
      simp only [List.getElem_range]
      have := (hcell i (by omega)).1
      rw [cell_add] at this
      rw [this, hL i (by omega)]
set_option maxHeartbeats 1000000 in
theorem open_rows2 {t e : TypeId} {f0  f1 : Field} {w : World} {base : Nat} {sp : Nat → Bool} {held : Bool} {fuel : Nat} {cs : List Value} {x : DataW H × List MemPlace}
    (ht : P.underlying t = some (.slice e)) (he : P.underlying e = some (.struct #[f0, f1])) (ce : P.cellsOf e = 2) (o0 : f0.offset = 0) (o1 : f1.offset = 1)
    (c0 : P.cellsOf f0.type = 1) (c1 : P.cellsOf f1.type = 1) (h : DataW.trod enc P w base sp held fuel t cs = some x) :
    ∃ (p : Option Addr) (len cap : Nat), cs = [.slice p len cap] ∧ len ≤ cap ∧ cap ≤ maxLen ∧
      ∀ i, i < len → ∃ (b off : Nat) (v0  v1 : Value) (y0  y1 : DataW H × List MemPlace) (n : Nat), p = some ⟨b, off, none⟩ ∧ w.cell? ⟨b, off + i * 2, none⟩ = some v0 ∧ w.cell? ⟨b, off + i * 2 + 1, none⟩ = some v1 ∧
        DataW.trod enc P w base sp held n f0.type [v0] = some y0 ∧ DataW.trod enc P w base sp held n f1.type [v1] = some y1 := by
  rcases Deep.open_slice ht h with ⟨h0, _⟩ | ⟨a, len, cap, m, n, D, Pl, rfl, _, hl, hm, hmm, _, hx⟩
  · exact ⟨none, 0, 0, h0, by omega, by unfold maxLen; omega, fun i hi => absurd hi (by omega)⟩
  have hlm : len ≤ m := by rw [hmm]; split <;> omega
  have each : ∀ i, i < m → ∃ (v0  v1 : Value) (y0  y1 : DataW H × List MemPlace) (k : Nat), w.cell? (a.add (i * 2)) = some v0 ∧ w.cell? (a.add (i * 2 + 1)) = some v1 ∧
      DataW.trod enc P w base sp held k f0.type [v0] = some y0 ∧ DataW.trod enc P w base sp held k f1.type [v1] = some y1 := by
    intro i hi
    obtain ⟨cs', h1, h2⟩ := hx i hi
    rw [ce] at h1
    obtain ⟨_, hlen, hcell⟩ := World.cells?_some h1
    obtain ⟨xs, k, _, _, _, hxl, hf⟩ := DataW.trod_struct he h2
    match xs, hxl, cs', hlen with
    | [y0, y1], _, [v0, v1], _ =>
      have g0 := hf 0 f0 rfl
      have g1 := hf 1 f1 rfl
      simp [o0, o1, c0, c1] at g0 g1
      have e0 := hcell 0 (by omega)
      have e1 := hcell 1 (by omega)
      rw [Deep.add_add] at e0 e1
      exact ⟨v0, v1, y0, y1, k, by simpa using e0, by simpa using e1, g0, g1⟩
  refine ⟨some a, len, cap, rfl, hl, hm, fun i hi => ?_⟩
  obtain ⟨v0, v1, y0, y1, k, g0, g1, r⟩ := each i (by omega)
  have hsp : a.spot = none := by
    obtain ⟨_, _, _, _, _, g, _⟩ := each 0 (by omega)
    have : a.add (0 * 2) = a := by simp [Addr.add]
    rw [this] at g
    unfold World.cell? at g
    split at g
    · split at g
      · cases g
      · rename_i hs; simpa using hs
    · cases g
  obtain ⟨b, off, s⟩ := a
  simp only at hsp
  subst hsp
  rw [cell_add] at g0 g1
  exact ⟨b, off, v0, v1, y0, y1, k, rfl, g0, by simpa [Nat.add_assoc] using g1, r⟩
set_option maxHeartbeats 1000000 in
theorem open_rows4 {t e : TypeId} {f0  f1  f2  f3 : Field} {w : World} {base : Nat} {sp : Nat → Bool} {held : Bool} {fuel : Nat} {cs : List Value} {x : DataW H × List MemPlace}
    (ht : P.underlying t = some (.slice e)) (he : P.underlying e = some (.struct #[f0, f1, f2, f3])) (ce : P.cellsOf e = 4) (o0 : f0.offset = 0) (o1 : f1.offset = 1) (o2 : f2.offset = 2) (o3 : f3.offset = 3)
    (c0 : P.cellsOf f0.type = 1) (c1 : P.cellsOf f1.type = 1) (c2 : P.cellsOf f2.type = 1) (c3 : P.cellsOf f3.type = 1) (h : DataW.trod enc P w base sp held fuel t cs = some x) :
    ∃ (p : Option Addr) (len cap : Nat), cs = [.slice p len cap] ∧ len ≤ cap ∧ cap ≤ maxLen ∧
      ∀ i, i < len → ∃ (b off : Nat) (v0  v1  v2  v3 : Value) (y0  y1  y2  y3 : DataW H × List MemPlace) (n : Nat), p = some ⟨b, off, none⟩ ∧ w.cell? ⟨b, off + i * 4, none⟩ = some v0 ∧ w.cell? ⟨b, off + i * 4 + 1, none⟩ = some v1 ∧ w.cell? ⟨b, off + i * 4 + 2, none⟩ = some v2 ∧ w.cell? ⟨b, off + i * 4 + 3, none⟩ = some v3 ∧
        DataW.trod enc P w base sp held n f0.type [v0] = some y0 ∧ DataW.trod enc P w base sp held n f1.type [v1] = some y1 ∧ DataW.trod enc P w base sp held n f2.type [v2] = some y2 ∧ DataW.trod enc P w base sp held n f3.type [v3] = some y3 := by
  rcases Deep.open_slice ht h with ⟨h0, _⟩ | ⟨a, len, cap, m, n, D, Pl, rfl, _, hl, hm, hmm, _, hx⟩
  · exact ⟨none, 0, 0, h0, by omega, by unfold maxLen; omega, fun i hi => absurd hi (by omega)⟩
  have hlm : len ≤ m := by rw [hmm]; split <;> omega
  have each : ∀ i, i < m → ∃ (v0  v1  v2  v3 : Value) (y0  y1  y2  y3 : DataW H × List MemPlace) (k : Nat), w.cell? (a.add (i * 4)) = some v0 ∧ w.cell? (a.add (i * 4 + 1)) = some v1 ∧ w.cell? (a.add (i * 4 + 2)) = some v2 ∧ w.cell? (a.add (i * 4 + 3)) = some v3 ∧
      DataW.trod enc P w base sp held k f0.type [v0] = some y0 ∧ DataW.trod enc P w base sp held k f1.type [v1] = some y1 ∧ DataW.trod enc P w base sp held k f2.type [v2] = some y2 ∧ DataW.trod enc P w base sp held k f3.type [v3] = some y3 := by
    intro i hi
    obtain ⟨cs', h1, h2⟩ := hx i hi
    rw [ce] at h1
    obtain ⟨_, hlen, hcell⟩ := World.cells?_some h1
    obtain ⟨xs, k, _, _, _, hxl, hf⟩ := DataW.trod_struct he h2
    match xs, hxl, cs', hlen with
    | [y0, y1, y2, y3], _, [v0, v1, v2, v3], _ =>
      have g0 := hf 0 f0 rfl
      have g1 := hf 1 f1 rfl
      have g2 := hf 2 f2 rfl
      have g3 := hf 3 f3 rfl
      simp [o0, o1, o2, o3, c0, c1, c2, c3] at g0 g1 g2 g3
      have e0 := hcell 0 (by omega)
      have e1 := hcell 1 (by omega)
      have e2 := hcell 2 (by omega)
      have e3 := hcell 3 (by omega)
      rw [Deep.add_add] at e0 e1 e2 e3
      exact ⟨v0, v1, v2, v3, y0, y1, y2, y3, k, by simpa using e0, by simpa using e1, by simpa using e2, by simpa using e3, g0, g1, g2, g3⟩
  refine ⟨some a, len, cap, rfl, hl, hm, fun i hi => ?_⟩
  obtain ⟨v0, v1, v2, v3, y0, y1, y2, y3, k, g0, g1, g2, g3, r⟩ := each i (by omega)
  have hsp : a.spot = none := by
    obtain ⟨_, _, _, _, _, _, _, _, _, g, _⟩ := each 0 (by omega)
    have : a.add (0 * 4) = a := by simp [Addr.add]
    rw [this] at g
    unfold World.cell? at g
    split at g
    · split at g
      · cases g
      · rename_i hs; simpa using hs
    · cases g
  obtain ⟨b, off, s⟩ := a
  simp only at hsp
  subst hsp
  rw [cell_add] at g0 g1 g2 g3
  exact ⟨b, off, v0, v1, v2, v3, y0, y1, y2, y3, k, rfl, g0, by simpa [Nat.add_assoc] using g1, by simpa [Nat.add_assoc] using g2, by simpa [Nat.add_assoc] using g3, r⟩
set_option maxHeartbeats 1000000 in
theorem open_rows6 {t e : TypeId} {f0  f1  f2  f3  f4  f5 : Field} {w : World} {base : Nat} {sp : Nat → Bool} {held : Bool} {fuel : Nat} {cs : List Value} {x : DataW H × List MemPlace}
    (ht : P.underlying t = some (.slice e)) (he : P.underlying e = some (.struct #[f0, f1, f2, f3, f4, f5])) (ce : P.cellsOf e = 6) (o0 : f0.offset = 0) (o1 : f1.offset = 1) (o2 : f2.offset = 2) (o3 : f3.offset = 3) (o4 : f4.offset = 4) (o5 : f5.offset = 5)
    (c0 : P.cellsOf f0.type = 1) (c1 : P.cellsOf f1.type = 1) (c2 : P.cellsOf f2.type = 1) (c3 : P.cellsOf f3.type = 1) (c4 : P.cellsOf f4.type = 1) (c5 : P.cellsOf f5.type = 1) (h : DataW.trod enc P w base sp held fuel t cs = some x) :
    ∃ (p : Option Addr) (len cap : Nat), cs = [.slice p len cap] ∧ len ≤ cap ∧ cap ≤ maxLen ∧
      ∀ i, i < len → ∃ (b off : Nat) (v0  v1  v2  v3  v4  v5 : Value) (y0  y1  y2  y3  y4  y5 : DataW H × List MemPlace) (n : Nat), p = some ⟨b, off, none⟩ ∧ w.cell? ⟨b, off + i * 6, none⟩ = some v0 ∧ w.cell? ⟨b, off + i * 6 + 1, none⟩ = some v1 ∧ w.cell? ⟨b, off + i * 6 + 2, none⟩ = some v2 ∧ w.cell? ⟨b, off + i * 6 + 3, none⟩ = some v3 ∧ w.cell? ⟨b, off + i * 6 + 4, none⟩ = some v4 ∧ w.cell? ⟨b, off + i * 6 + 5, none⟩ = some v5 ∧
        DataW.trod enc P w base sp held n f0.type [v0] = some y0 ∧ DataW.trod enc P w base sp held n f1.type [v1] = some y1 ∧ DataW.trod enc P w base sp held n f2.type [v2] = some y2 ∧ DataW.trod enc P w base sp held n f3.type [v3] = some y3 ∧ DataW.trod enc P w base sp held n f4.type [v4] = some y4 ∧ DataW.trod enc P w base sp held n f5.type [v5] = some y5 := by
  rcases Deep.open_slice ht h with ⟨h0, _⟩ | ⟨a, len, cap, m, n, D, Pl, rfl, _, hl, hm, hmm, _, hx⟩
  · exact ⟨none, 0, 0, h0, by omega, by unfold maxLen; omega, fun i hi => absurd hi (by omega)⟩
  have hlm : len ≤ m := by rw [hmm]; split <;> omega
  have each : ∀ i, i < m → ∃ (v0  v1  v2  v3  v4  v5 : Value) (y0  y1  y2  y3  y4  y5 : DataW H × List MemPlace) (k : Nat), w.cell? (a.add (i * 6)) = some v0 ∧ w.cell? (a.add (i * 6 + 1)) = some v1 ∧ w.cell? (a.add (i * 6 + 2)) = some v2 ∧ w.cell? (a.add (i * 6 + 3)) = some v3 ∧ w.cell? (a.add (i * 6 + 4)) = some v4 ∧ w.cell? (a.add (i * 6 + 5)) = some v5 ∧
      DataW.trod enc P w base sp held k f0.type [v0] = some y0 ∧ DataW.trod enc P w base sp held k f1.type [v1] = some y1 ∧ DataW.trod enc P w base sp held k f2.type [v2] = some y2 ∧ DataW.trod enc P w base sp held k f3.type [v3] = some y3 ∧ DataW.trod enc P w base sp held k f4.type [v4] = some y4 ∧ DataW.trod enc P w base sp held k f5.type [v5] = some y5 := by
    intro i hi
    obtain ⟨cs', h1, h2⟩ := hx i hi
    rw [ce] at h1
    obtain ⟨_, hlen, hcell⟩ := World.cells?_some h1
    obtain ⟨xs, k, _, _, _, hxl, hf⟩ := DataW.trod_struct he h2
    match xs, hxl, cs', hlen with
    | [y0, y1, y2, y3, y4, y5], _, [v0, v1, v2, v3, v4, v5], _ =>
      have g0 := hf 0 f0 rfl
      have g1 := hf 1 f1 rfl
      have g2 := hf 2 f2 rfl
      have g3 := hf 3 f3 rfl
      have g4 := hf 4 f4 rfl
      have g5 := hf 5 f5 rfl
      simp [o0, o1, o2, o3, o4, o5, c0, c1, c2, c3, c4, c5] at g0 g1 g2 g3 g4 g5
      have e0 := hcell 0 (by omega)
      have e1 := hcell 1 (by omega)
      have e2 := hcell 2 (by omega)
      have e3 := hcell 3 (by omega)
      have e4 := hcell 4 (by omega)
      have e5 := hcell 5 (by omega)
      rw [Deep.add_add] at e0 e1 e2 e3 e4 e5
      exact ⟨v0, v1, v2, v3, v4, v5, y0, y1, y2, y3, y4, y5, k, by simpa using e0, by simpa using e1, by simpa using e2, by simpa using e3, by simpa using e4, by simpa using e5, g0, g1, g2, g3, g4, g5⟩
  refine ⟨some a, len, cap, rfl, hl, hm, fun i hi => ?_⟩
  obtain ⟨v0, v1, v2, v3, v4, v5, y0, y1, y2, y3, y4, y5, k, g0, g1, g2, g3, g4, g5, r⟩ := each i (by omega)
  have hsp : a.spot = none := by
    obtain ⟨_, _, _, _, _, _, _, _, _, _, _, _, _, g, _⟩ := each 0 (by omega)
    have : a.add (0 * 6) = a := by simp [Addr.add]
    rw [this] at g
    unfold World.cell? at g
    split at g
    · split at g
      · cases g
      · rename_i hs; simpa using hs
    · cases g
  obtain ⟨b, off, s⟩ := a
  simp only at hsp
  subst hsp
  rw [cell_add] at g0 g1 g2 g3 g4 g5
  exact ⟨b, off, v0, v1, v2, v3, v4, v5, y0, y1, y2, y3, y4, y5, k, rfl, g0, by simpa [Nat.add_assoc] using g1, by simpa [Nat.add_assoc] using g2, by simpa [Nat.add_assoc] using g3, by simpa [Nat.add_assoc] using g4, by simpa [Nat.add_assoc] using g5, r⟩
/-- a row of attributes of two texts -/
theorem open_ats {t e : TypeId} {f0 f1 : Field} {w : World} {base : Nat} {sp : Nat → Bool} {held : Bool} {fuel : Nat} {cs : List Value} {x : DataW H × List MemPlace}
    (ht : P.underlying t = some (.slice e)) (he : P.underlying e = some (.struct #[f0, f1])) (ce : P.cellsOf e = 2) (o0 : f0.offset = 0) (o1 : f1.offset = 1) (c0 : P.cellsOf f0.type = 1) (c1 : P.cellsOf f1.type = 1)
    (s0 : P.underlying f0.type = some .string) (s1 : P.underlying f1.type = some .string) (h : DataW.trod enc P w base sp held fuel t cs = some x) :
    ∃ p cap ats, cs = [.slice p ats.length cap] ∧ (ats.length ≤ cap ∧ cap ≤ maxLen ∧ Rd w p (acells ats)) ∧ ∀ a ∈ ats, a.length = 1 + 1 := by
  obtain ⟨p, len, cap, rfl, hl, hm, each⟩ := open_rows2 ht he ce o0 o1 c0 c1 h
  have hall : ∀ i, ∃ a : List UInt8 × List UInt8, i < len → ∃ b off, p = some ⟨b, off, none⟩ ∧ w.cell? ⟨b, off + i * 2, none⟩ = some (.string (bs a.1)) ∧ w.cell? ⟨b, off + i * 2 + 1, none⟩ = some (.string (bs a.2)) := by
    intro i
    by_cases hi : i < len
    · obtain ⟨b, off, v0, v1, y0, y1, k, hp, g0, g1, t0, t1⟩ := each i hi
      obtain ⟨l0, rfl⟩ := trod_str s0 t0
      obtain ⟨l1, rfl⟩ := trod_str s1 t1
      exact ⟨(l0, l1), fun _ => ⟨b, off, hp, g0, g1⟩⟩
    · exact ⟨([], []), fun h => absurd h hi⟩
  obtain ⟨G, hG⟩ := Classical.axiomOfChoice hall
  refine ⟨p, cap, (List.range len).map fun i => [(G i).1, (G i).2], by simp, ⟨by simpa using hl, hm, ?_⟩, fun a ha => ?_⟩
  · by_cases h0 : len = 0
    · left; subst h0; rfl
    · right
      obtain ⟨b, off, hp, _, _⟩ := hG 0 (by omega)
      refine ⟨b, off, hp, fun j u hu => ?_⟩
      have hac : ∀ n, acells ((List.range n).map fun i => [(G i).1, (G i).2]) = (List.range (n * 2)).map fun j => if j % 2 = 0 then Value.string (bs (G (j / 2)).1) else .string (bs (G (j / 2)).2) := by
        intro n
        induction n with
        | zero => rfl
        | succ n ih =>
          rw [List.range_succ, List.map_append, show (n + 1) * 2 = n * 2 + 1 + 1 by omega, List.range_succ, List.range_succ, List.map_append, List.map_append, ← ih]
          unfold acells
          rw [List.flatMap_append, List.append_assoc]
          congr 1
          simp only [List.map_cons, List.map_nil, List.flatMap_cons, List.flatMap_nil, List.append_nil]
          rw [if_pos (by omega), if_neg (by omega), show n * 2 / 2 = n by omega, show (n * 2 + 1) / 2 = n by omega]
          rfl
      rw [hac, List.getElem?_map, Option.map_eq_some_iff] at hu
      obtain ⟨j', hj, rfl⟩ := hu
      obtain ⟨hi, rfl⟩ := List.getElem?_eq_some_iff.1 hj
      simp only [List.length_range] at hi
      simp only [List.getElem_range]
      obtain ⟨b', off', hp', e0, e1⟩ := hG (j / 2) (by omega)
      rw [hp] at hp'
      cases hp'
      by_cases hm : j % 2 = 0
      · rw [if_pos hm, ← e0, show j = j / 2 * 2 by omega, show j / 2 * 2 / 2 * 2 = j / 2 * 2 by omega]
      · rw [if_neg hm, ← e1]
        congr 2
        omega
  · obtain ⟨i, _, rfl⟩ := List.mem_map.1 ha
    rfl
end
end Go.Proofs.YtkghpmpmcafhkaaGreatDoor

namespace Go.Proofs.YtkghpmpmcafhkaaGreatDoor
open Go.RowKit Go.ChangeShapes Go.WideShapes Go.ChangeAt

theorem open_pds {H : Type} {enc : TypeId × Value → H} {w : World} {base : Nat} {sp : Nat → Bool} {held : Bool} {fuel : Nat} {cs : List Value} {x : DataW H × List MemPlace}
    (h : DataW.trod enc Tryz.prog w base sp held fuel 75 cs = some x) : ∃ v ps, cs = [v] ∧ PdL w v ps := by
  obtain ⟨p, len, cap, rfl, hl, hm, each⟩ := open_rows4 Tryz.underlying75 Tryz.underlying141 (by kernel_rfl) rfl rfl rfl rfl (by kernel_rfl) (by kernel_rfl) (by kernel_rfl) (by kernel_rfl) h
  have hall : ∀ i, ∃ o : Pd, i < len → ∃ b off pa ca, p = some ⟨b, off, none⟩ ∧ w.cell? ⟨b, off + i * 4, none⟩ = some (.int .i64 o.par) ∧ w.cell? ⟨b, off + i * 4 + 1, none⟩ = some (.string (bs o.nm)) ∧
      w.cell? ⟨b, off + i * 4 + 2, none⟩ = some (.slice pa o.ats.length ca) ∧ w.cell? ⟨b, off + i * 4 + 3, none⟩ = some (.string (bs o.tx)) ∧
      (o.ats.length ≤ ca ∧ ca ≤ maxLen ∧ Rd w pa (acells o.ats)) ∧ (∀ a ∈ o.ats, a.length = 1 + 1) := by
    intro i
    by_cases hi : i < len
    · obtain ⟨b, off, v0, v1, v2, v3, y0, y1, y2, y3, k, hp, g0, g1, g2, g3, t0, t1, t2, t3⟩ := each i hi
      obtain ⟨z0, rfl, _⟩ := trod_i64 Tryz.underlying3 t0
      obtain ⟨z1, rfl⟩ := trod_str Tryz.underlying9 t1
      obtain ⟨pa, ca, ats, e3, ha, ha2⟩ := open_ats Tryz.underlying25 Tryz.underlying69 (by kernel_rfl) rfl rfl (by kernel_rfl) (by kernel_rfl) Tryz.underlying9 Tryz.underlying9 t2
      cases e3
      obtain ⟨z3, rfl⟩ := trod_str Tryz.underlying9 t3
      exact ⟨⟨z0, z1, ats, z3⟩, fun _ => ⟨b, off, pa, ca, hp, g0, g1, g2, g3, ha, ha2⟩⟩
    · exact ⟨⟨0, [], [], []⟩, fun h => absurd h hi⟩
  obtain ⟨G, hG⟩ := Classical.axiomOfChoice hall
  refine ⟨_, (List.range len).map G, rfl, p, cap, by simp, by simpa using hl, hm, fun i o ho => ?_⟩
  simp only [List.getElem?_map, Option.map_eq_some_iff] at ho
  obtain ⟨j, hj, rfl⟩ := ho
  obtain ⟨hi, rfl⟩ := List.getElem?_eq_some_iff.1 hj
  simp only [List.length_range] at hi
  simp only [List.getElem_range]
  exact hG i hi
end Go.Proofs.YtkghpmpmcafhkaaGreatDoor
