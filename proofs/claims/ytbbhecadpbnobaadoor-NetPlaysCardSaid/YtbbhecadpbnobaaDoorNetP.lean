/-
  NetP: a frame of 162 slots written out; the marks that ranges over functions leave.
-/
import Derived.Test.YtbbhecadpbnobaaDoorNetL
import Derived.Test.YtbbhecadpbnobaaDoorNetTo
namespace Go.Proofs.YtbbhecadpbnobaaDoor
open Go.RowKit

set_option maxRecDepth 20000 in
theorem tmps_lit (a : Array Value) (h : a.size = 162) : ∃ g : Nat → Value, a = #[g 0, g 1, g 2, g 3, g 4, g 5, g 6, g 7, g 8, g 9, g 10, g 11, g 12, g 13, g 14, g 15, g 16, g 17, g 18, g 19, g 20, g 21, g 22, g 23, g 24, g 25, g 26, g 27, g 28, g 29, g 30, g 31, g 32, g 33, g 34, g 35, g 36, g 37, g 38, g 39, g 40, g 41, g 42, g 43, g 44, g 45, g 46, g 47, g 48, g 49, g 50, g 51, g 52, g 53, g 54, g 55, g 56, g 57, g 58, g 59, g 60, g 61, g 62, g 63, g 64, g 65, g 66, g 67, g 68, g 69, g 70, g 71, g 72, g 73, g 74, g 75, g 76, g 77, g 78, g 79, g 80, g 81, g 82, g 83, g 84, g 85, g 86, g 87, g 88, g 89, g 90, g 91, g 92, g 93, g 94, g 95, g 96, g 97, g 98, g 99, g 100, g 101, g 102, g 103, g 104, g 105, g 106, g 107, g 108, g 109, g 110, g 111, g 112, g 113, g 114, g 115, g 116, g 117, g 118, g 119, g 120, g 121, g 122, g 123, g 124, g 125, g 126, g 127, g 128, g 129, g 130, g 131, g 132, g 133, g 134, g 135, g 136, g 137, g 138, g 139, g 140, g 141, g 142, g 143, g 144, g 145, g 146, g 147, g 148, g 149, g 150, g 151, g 152, g 153, g 154, g 155, g 156, g 157, g 158, g 159, g 160, g 161] ∧ ∀ i, g i = a.getD i undef := by
  refine ⟨fun i => a.getD i undef, ?_, fun _ => rfl⟩
  apply Array.ext'
  have e : a.toList = (List.range 162).map fun i => a.getD i undef := by
    apply List.ext_getElem?
    intro i
    rw [List.getElem?_map]
    by_cases hi : i < 162
    · rw [List.getElem?_range hi, Array.getElem?_toList, Array.getElem?_eq_getElem (by omega)]
      simp [Array.getD, h, hi]
    · rw [List.getElem?_eq_none (by simp; omega), List.getElem?_eq_none (by simp; omega)]
      rfl
  rw [e]
  rfl
/-- the mark of a range whose calls are collected in the block D -/
def mkD (D : Nat) : Deferred := { target := .collected D, args := #[] }
structure MarksOk (B : Nat) (w : World) (Ds : List Nat) : Prop where
  nd : Ds.Nodup
  at_ : ∀ D ∈ Ds, B ≤ D ∧ w.heap[D]? = some (.deferred (some []))
theorem MarksOk.keep {B : Nat} {w w' : World} {Ds : List Nat} (h : MarksOk B w Ds) (k : ∀ D ∈ Ds, w'.heap[D]? = w.heap[D]?) : MarksOk B w' Ds :=
  ⟨h.nd, fun D hD => ⟨(h.at_ D hD).1, (k D hD).trans (h.at_ D hD).2⟩⟩
theorem MarksOk.below {B : Nat} {w w' : World} {Ds : List Nat} (h : MarksOk B w Ds) (k : Below w.heap.size w w') : MarksOk B w' Ds :=
  h.keep fun D hD => k.block D (Array.getElem?_eq_some_iff.1 (h.at_ D hD).2).1
theorem MarksOk.but {S : List Nat} {B : Nat} {w w' : World} {Ds : List Nat} (h : MarksOk B w Ds) (k : But S w w') (hS : ∀ D ∈ Ds, S.contains D = false) : MarksOk B w' Ds :=
  h.keep fun D hD => k.block D (Array.getElem?_eq_some_iff.1 (h.at_ D hD).2).1 (hS D hD)
theorem MarksOk.lt {B : Nat} {w : World} {Ds : List Nat} (h : MarksOk B w Ds) {D : Nat} (hD : D ∈ Ds) : D < w.heap.size := (Array.getElem?_eq_some_iff.1 (h.at_ D hD).2).1
/-- a mark is no block of cells, and no map -/
theorem MarksOk.not_blk {B : Nat} {w : World} {Ds : List Nat} (h : MarksOk B w Ds) {D : Nat} (hD : D ∈ Ds) {g : Nat} {t : TypeId} {cs : Array Value} (hb : Blk w g t cs) : g ≠ D := fun e => by
  subst e
  have := (h.at_ g hD).2
  unfold Blk at hb
  rw [hb] at this
  cases this
theorem MarksOk.nets {B : Nat} {w : World} {Ds : List Nat} (h : MarksOk B w Ds) {n b m c : Nat} {p q : Option Nat} {R : List Nat} {st st' : NSt} (hn : Nn w n b p c st) (hm : Mn w m q R st') : ∀ D ∈ Ds, (nS n b p ++ mS m q R).contains D = false := fun D hD => by
  rw [Bool.eq_false_iff]
  intro hc
  rcases List.mem_append.1 (List.contains_iff_mem.1 hc) with hc | hc
  · obtain ⟨⟨cn, tn⟩, tp, _⟩ := hn.types
    rcases mem_nS.1 hc with e | e | e
    · exact h.not_blk hD tn e.symm
    · obtain ⟨_, ⟨es, clock, hb, _⟩, _⟩ := hn.map
      have := (h.at_ D hD).2
      rw [e, hb] at this
      cases this
    · obtain ⟨cs, hcs⟩ := tp D e
      exact h.not_blk hD hcs rfl
  · obtain ⟨T, cs, hb, _⟩ := hm.types D hc
    exact h.not_blk hD hb rfl
theorem leaves_marks {F : Fence} {n : Nat} {P : Program} {fn : Func} {tmps : Array Value} {R : Ending → World → Prop} {B : Nat} : ∀ (Ds : List Nat) (w : World), MarksOk B w Ds →
    (∀ w', Sees B w w' → ∃ v, (results fn tmps).run P w' = .ok v w' ∧ R (.returned v) w') → LeavesInM F n P fn tmps R (Ds.map mkD) .returning w
  | [], w, _, h => by
    unfold List.map LeavesInM LeavesIn
    exact h w (Sees.refl _ _)
  | D :: Ds, w, hm, h => by
    obtain ⟨hB, hD⟩ := hm.at_ D (by simp)
    have hs : Sees B w (w.putObj D (.deferred none)) := Sees.putObj _ hB hD rfl
    refine ⟨by simp, .inl ⟨D, _, rfl, run_takeDeferred hD, leaves_marks Ds _ ⟨(List.nodup_cons.1 hm.nd).2, fun D' hD' => ⟨(hm.at_ D' (List.mem_cons_of_mem _ hD')).1, ?_⟩⟩ fun w' hw' => h w' (hs.trans hw')⟩⟩
    have hne : D' ≠ D := fun e => by
      subst e
      exact (List.nodup_cons.1 hm.nd).1 hD'
    exact (World.putObj_heap_other (by omega)).trans (hm.at_ D' (List.mem_cons_of_mem _ hD')).2
end Go.Proofs.YtbbhecadpbnobaaDoor
