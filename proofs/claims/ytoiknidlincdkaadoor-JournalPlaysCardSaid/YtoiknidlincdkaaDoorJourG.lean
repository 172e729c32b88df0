/-
  JourG: two journals side by side; rows that are handed out and written over.
-/
import Derived.Test.YtoiknidlincdkaaDoorLawJK
namespace Go.Proofs.YtoiknidlincdkaaDoor
open Go.RowKit

theorem out_of {S T : List Nat} (h : ∀ g ∈ S, ¬ g ∈ T) : ∀ g ∈ S, T.contains g = false := fun g hg => by
  rw [Bool.eq_false_iff]
  exact fun hc => h g hg (List.contains_iff_mem.1 hc)
theorem mem_jS {g j a : Nat} {p o : Option Nat} : g ∈ jS j a p o ↔ g = j ∨ g = a ∨ p = some g ∨ o = some g := by
  unfold jS
  simp only [List.mem_cons, List.mem_append, Option.mem_toList]
/-- the types of a journal's blocks -/
theorem Jn.types {w : World} {j a : Nat} {p o : Option Nat} {X : List Nat} {st : JSt} (h : Jn w j a p o X st) :
    (∃ cs, Blk w j 83 cs) ∧ (∃ cs, Blk w a 57 cs) ∧ (∀ g, p = some g → ∃ cs, Blk w g 22 cs) ∧ (∀ g, o = some g → ∃ cs, Blk w g 5 cs) := by
  obtain ⟨⟨v, rfl, h2, us, _, ho, _⟩, h4, _⟩ := h
  refine ⟨⟨_, h2⟩, ?_, fun g hg => ?_, h4.own⟩
  · obtain ⟨va, _, ha, _⟩ := h4
    exact ⟨_, ha⟩
  · rcases ho.2 with ⟨h0, _⟩ | ⟨g9, cap, cur, h0, _, hh, _⟩
    · rw [h0] at hg; cases hg
    · rw [h0] at hg
      cases hg
      exact ⟨cur, hh⟩
/-- the other journal's calls: its blocks are none of these -/
theorem Jn.beside {w w' : World} {j a j2 a2 : Nat} {p o p2 o2 p2' o2' : Option Nat} {X : List Nat} {st st2 : JSt} (h : Jn w j a p o o2.toList st) (h2 : Jn w j2 a2 p2 o2 X st2) (hd : ∀ g ∈ jS j a p o, ¬ g ∈ jS j2 a2 p2 o2)
    (k : But (jS j2 a2 p2 o2) w w') (hp : Nx w p2 p2') (ho : Nx w o2 o2') : Jn w' j a p o o2'.toList st ∧ ∀ g ∈ jS j a p o, ¬ g ∈ jS j2 a2 p2' o2' := by
  obtain ⟨⟨cj, tj⟩, ⟨ca, ta⟩, tp, to⟩ := h2.types
  have h3 : Jn w j a p o (o2.toList ++ o2'.toList) st := h.next fun g hg => by
    rcases List.mem_append.1 hg with hx | hx
    · exact .inl hx
    · rcases ho with rfl | ho
      · exact .inl hx
      · exact .inr (ho g (Option.mem_toList.1 hx))
  have h4 := h3.but k (out_of hd) (fun g hg => by
    rcases mem_jS.1 hg with rfl | rfl | hg | hg
    · exact .inr fun cs hcs => Blk.ne_ hcs tj (by decide) rfl
    · exact .inr fun cs hcs => Blk.ne_ hcs ta (by decide) rfl
    · obtain ⟨cp, hcp⟩ := tp g hg
      exact .inr fun cs hcs => Blk.ne_ hcs hcp (by decide) rfl
    · exact .inl (List.mem_append_left _ (Option.mem_toList.2 hg)))
  refine ⟨h4.next fun g hg => .inl (List.mem_append_right _ hg), fun g hg hc => ?_⟩
  have hlt := h.lt g hg
  refine hd g hg (mem_jS.2 ?_)
  rcases mem_jS.1 hc with hx | hx | hx | hx
  · exact .inl hx
  · exact .inr (.inl hx)
  · rcases hp with rfl | hp
    · exact .inr (.inr (.inl hx))
    · have := hp g hx; omega
  · rcases ho with rfl | ho
    · exact .inr (.inr (.inr hx))
    · have := ho g hx; omega
/-- rows that may be written over: each begins with a byte -/
structure Shown (w : World) (B : Nat) (v : Value) (n : Nat) : Prop where
  row : ∃ us, w.ownsRow B 22 1 v n us ∧ ∀ i, i < n → ∃ g l c cs x, us[i]? = some (.slice (some ⟨g, 0, none⟩) (l + 1) c) ∧ B ≤ g ∧ Blk w g 5 cs ∧ cs[0]? = some (.int .u8 x)
theorem OutJ.shown {w : World} {B : Nat} {v : Value} {ls : List (List UInt8)} (h : OutJ w B v ls) (h1 : ∀ l ∈ ls, 1 ≤ l.length) : Shown w B v ls.length := by
  obtain ⟨us, h2, h3, h4⟩ := h
  refine ⟨us, h3, fun i hi => ?_⟩
  obtain ⟨u, hu, ho⟩ := h4 i ls[i] (by simp [hi])
  have hl := h1 ls[i] (List.getElem_mem hi)
  rcases ho.2 with ⟨_, h0⟩ | ⟨g, cap, cur, h0, hg, hh, _, _, _, ht⟩
  · omega
  · obtain ⟨m, hm⟩ : ∃ m, ls[i].length = m + 1 := ⟨ls[i].length - 1, by omega⟩
    refine ⟨g, m, cap, cur, (ls[i][0]'(by omega)).toNat, by rw [hu, h0, hm], hg, hh, ?_⟩
    have h5 := congrArg (fun l => l[0]?) ht
    simp only [Nat.mul_one] at h5
    rw [List.getElem?_take, if_pos (by omega), bvs_get _ 0 (by omega)] at h5
    simpa using h5
theorem Shown.set_ {w : World} {B : Nat} {v : Value} {n g : Nat} {cs : Array Value} (h : Shown w B v n) (hb : Blk w g 5 cs) (hg : B ≤ g) (y : Int) : Shown (w.setCell ⟨g, 0, none⟩ (.int .u8 y)) B v n := by
  obtain ⟨us, h3, h4⟩ := h
  have k : But [g] w (w.setCell ⟨g, 0, none⟩ (.int .u8 y)) := (but_refl _ _).set_ g 0 _ (by simp)
  refine ⟨us, k.owns2 (owns_not h3 fun q hq cs' hcs => ?_) h3, fun i hi => ?_⟩
  · obtain rfl : q = g := by simpa using hq
    exact Blk.ne_ hcs hb (by decide) rfl
  · obtain ⟨g', l, c, cs', x, e1, e2, e3, e4⟩ := h4 i hi
    by_cases hgg : g' = g
    · subst hgg
      refine ⟨g', l, c, cs'.setIfInBounds 0 (.int .u8 y), y, e1, e2, e3.set_ 0 _, ?_⟩
      have : 0 < cs'.size := (Array.getElem?_eq_some_iff.1 e4).1
      simp [this]
    · exact ⟨g', l, c, cs', x, e1, e2, e3.far hgg 0 _, e4⟩
end Go.Proofs.YtoiknidlincdkaaDoor
