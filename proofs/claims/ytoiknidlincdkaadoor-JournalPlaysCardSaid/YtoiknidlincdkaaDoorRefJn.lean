/-
  RefJn: the document's journal in memory.
-/
import Derived.Test.YtoiknidlincdkaaDoorRefRd
import Derived.Test.YtoiknidlincdkaaDoorRefAl
import Derived.Test.YtoiknidlincdkaaDoorJourG
import Derived.Test.YtoiknidlincdkaaDoorJR
namespace Go.Proofs.YtoiknidlincdkaaDoor
open Go.RowKit

theorem But.of_only {g : Nat} {w w' : World} (k : Only g w w') : But [g] w w' := ⟨k.os, k.tape, k.output, Nat.le_of_eq k.size.symm, fun j _ hn => k.block j (by rintro rfl; simp at hn)⟩
/-- blocks o, then blocks o' -/
def Zx (w : World) (o o' : Nat → Prop) : Prop := ∀ b, o' b → o b ∨ w.heap.size ≤ b
theorem Zx.rfl_ {w : World} {o : Nat → Prop} : Zx w o o := fun _ h => .inl h
/-- u is the bytes l, which lie below block B or in a block of their own kind that is none of o -/
def ElM (w : World) (B : Nat) (o : Nat → Prop) (u : Value) (l : List UInt8) : Prop :=
  Byt w u l ∧ ∀ b, u.ownBlock = some b → b < B ∨ ((∃ cs, Blk w b 5 cs) ∧ ¬ o b)
theorem ElM.below {w w' : World} {B : Nat} {o : Nat → Prop} {u : Value} {l : List UInt8} (h : ElM w B o u l) (k : Below w.heap.size w w') : ElM w' B o u l :=
  ⟨h.1.below k, fun b hb => by
    rcases h.2 b hb with h1 | ⟨⟨cs, hcs⟩, h1⟩
    · exact .inl h1
    · exact .inr ⟨⟨cs, hcs.below k hcs.lt⟩, h1⟩⟩
theorem byt_but {S : List Nat} {w w' : World} {u : Value} {l : List UInt8} (h : Byt w u l) (k : But S w w') (hn : l ≠ [] → ∀ b, u.ownBlock = some b → S.contains b = false) : Byt w' u l := by
  obtain ⟨p, c, rfl, h1, h2, h3⟩ := h
  refine ⟨p, c, rfl, h1, h2, ?_⟩
  rcases h3 with h3 | ⟨b, off, rfl, h3⟩
  · exact .inl h3
  · by_cases hl : l = []
    · subst hl; exact .inl rfl
    · refine .inr ⟨b, off, rfl, fun i x hx => ?_⟩
      exact k.cell (hn hl b rfl) (h3 i x hx)
/-- what turns blocks from B on, none of this kind but o, leaves it; then o may be another one -/
theorem ElM.but {S : List Nat} {w w' : World} {B : Nat} {o o' : Nat → Prop} {u : Value} {l : List UInt8} (h : ElM w B o u l) (k : But S w w') (hB : ∀ g ∈ S, B ≤ g) (hS : ∀ g ∈ S, o g ∨ ∀ cs, ¬ Blk w g 5 cs) (ho : Zx w o o') : ElM w' B o' u l := by
  have hno : ∀ b, u.ownBlock = some b → S.contains b = false := fun b hb => by
    rw [Bool.eq_false_iff]
    intro hc
    have hm := List.contains_iff_mem.1 hc
    rcases h.2 b hb with h1 | ⟨⟨cs, hcs⟩, h1⟩
    · have := hB b hm; omega
    · rcases hS b hm with h2 | h2
      · exact h1 h2
      · exact h2 cs hcs
  refine ⟨byt_but h.1 k fun _ => hno, fun b hb => ?_⟩
  rcases h.2 b hb with h1 | ⟨⟨cs, hcs⟩, h1⟩
  · exact .inl h1
  · refine .inr ⟨⟨cs, k.blk hcs (hno b hb)⟩, fun e => ?_⟩
    rcases ho b e with ho | ho
    · exact h1 ho
    · have := hcs.lt
      omega
/-- THE DOCUMENT's JOURNAL mr: block m, its tape's block g, its rows' block q; no row lies in o -/
structure Mn (B : Nat) (w : World) (m g : Nat) (q : Option Nat) (o : Nat → Prop) (mr : MJr) : Prop where
  ex : ∃ v us, v.ownBlock = q ∧ Blk w m 71 #[.pointer (some ⟨g, 0, none⟩), v, .bool mr.dead] ∧ w.ownsRow 0 22 1 v mr.rows.length us ∧ us.length = mr.rows.length ∧
    ∀ (i : Nat) (l : List UInt8), mr.rows[i]? = some l → ∃ u, us[i]? = some u ∧ ElM w B o u l
  tape : MB w g mr.m
  rel : ∃ s, Rel s mr.m
  base : B ≤ m ∧ B ≤ g ∧ ∀ b, q = some b → B ≤ b
def mS (m g : Nat) (q : Option Nat) : List Nat := m :: g :: q.toList
theorem mem_mS {x m g : Nat} {q : Option Nat} : x ∈ mS m g q ↔ x = m ∨ x = g ∨ q = some x := by
  unfold mS
  simp only [List.mem_cons, Option.mem_toList]
theorem Mn.types {B : Nat} {w : World} {m g : Nat} {q : Option Nat} {o : Nat → Prop} {mr : MJr} (h : Mn B w m g q o mr) :
    (∃ cs, Blk w m 71 cs) ∧ (∃ cs, Blk w g 73 cs) ∧ (∀ b, q = some b → ∃ cs, Blk w b 22 cs) := by
  obtain ⟨⟨v, us, rfl, h2, h3, _⟩, h4, _, _⟩ := h
  refine ⟨⟨_, h2⟩, ⟨_, h4⟩, fun b hb => ?_⟩
  rcases h3.2 with ⟨h0, _⟩ | ⟨g9, cap, cur, h0, _, hh, _⟩
  · rw [h0] at hb; cases hb
  · rw [h0] at hb
    cases hb
    exact ⟨cur, hh⟩
theorem Mn.lt {B : Nat} {w : World} {m g : Nat} {q : Option Nat} {o : Nat → Prop} {mr : MJr} (h : Mn B w m g q o mr) : ∀ x ∈ mS m g q, x < w.heap.size := by
  obtain ⟨⟨_, h1⟩, ⟨_, h2⟩, h3⟩ := h.types
  intro x hx
  rcases mem_mS.1 hx with rfl | rfl | hx
  · exact h1.lt
  · exact h2.lt
  · obtain ⟨cs, h⟩ := h3 x hx
    exact h.lt
theorem Mn.bytl {B : Nat} {w : World} {m g : Nat} {q : Option Nat} {o : Nat → Prop} {mr : MJr} (h : Mn B w m g q o mr) : ∃ v, Blk w m 71 #[.pointer (some ⟨g, 0, none⟩), v, .bool mr.dead] ∧ BytL w v mr.rows := by
  obtain ⟨⟨v, us, _, h2, h3, h4, h5⟩, _⟩ := h
  obtain ⟨p, c, hv, k1, k2, k3⟩ := owns_rd h3
  exact ⟨v, h2, p, c, us, hv, k1, k2, k3, h4, fun i l hl => by obtain ⟨u, hu, hy⟩ := h5 i l hl; exact ⟨u, hu, hy.1⟩⟩
theorem Mn.below {B : Nat} {w w' : World} {m g : Nat} {q : Option Nat} {o : Nat → Prop} {mr : MJr} (h : Mn B w m g q o mr) (k : Below w.heap.size w w') : Mn B w' m g q o mr := by
  obtain ⟨⟨v, us, h1, h2, h3, h4, h5⟩, h6, h7, h8⟩ := h
  exact ⟨⟨v, us, h1, h2.below k h2.lt, owns_below h3 k, h4, fun i l hl => by obtain ⟨u, hu, hy⟩ := h5 i l hl; exact ⟨u, hu, hy.below k⟩⟩, Blk.below h6 k (Blk.lt h6), h7, h8⟩
/-- what turns other blocks, from B on -/
theorem Mn.but {S : List Nat} {B : Nat} {w w' : World} {m g : Nat} {q : Option Nat} {o o' : Nat → Prop} {mr : MJr} (h : Mn B w m g q o mr) (k : But S w w') (hB : ∀ x ∈ S, B ≤ x) (hd : ∀ x ∈ mS m g q, ¬ x ∈ S) (hS : ∀ x ∈ S, o x ∨ ∀ cs, ¬ Blk w x 5 cs) (ho : Zx w o o') : Mn B w' m g q o' mr := by
  obtain ⟨⟨v, us, rfl, h2, h3, h4, h5⟩, h6, h7, h8⟩ := h
  have ho' := out_of hd
  refine ⟨⟨v, us, rfl, k.blk h2 (ho' m (mem_mS.2 (.inl rfl))), k.owns2 (fun b hb => ho' b (mem_mS.2 (.inr (.inr hb)))) h3, h4, fun i l hl => ?_⟩, k.blk (show Blk w g _ _ from h6) (ho' g (mem_mS.2 (.inr (.inl rfl)))), h7, h8⟩
  obtain ⟨u, hu, hy⟩ := h5 i l hl
  exact ⟨u, hu, hy.but k hB hS ho⟩
theorem Mn.bd {B : Nat} {w : World} {m g : Nat} {q : Option Nat} {o : Nat → Prop} {mr : MJr} (h : Mn B w m g q o mr) : mr.m.Bd := h.rel.choose_spec.bd
/-- rows that lay there ahead of all: below block B -/
def OldL (B : Nat) (w : World) (v : Value) (ls : List (List UInt8)) : Prop :=
  ∃ p cap vs, v = .slice p ls.length cap ∧ ls.length ≤ cap ∧ cap ≤ maxLen ∧ vs.length = ls.length ∧ (∀ w', Below B w w' → Rd w' p vs) ∧
    ∀ (i : Nat) (l : List UInt8), ls[i]? = some l → ∃ u, vs[i]? = some u ∧ (∀ w', Below B w w' → Byt w' u l) ∧ (l ≠ [] → ∀ b, u.ownBlock = some b → b < B)
theorem OldL.of {W w : World} {v : Value} {ls : List (List UInt8)} (h : BytL W v ls) (k : Below W.heap.size W w) : OldL W.heap.size w v ls := by
  obtain ⟨p, cap, vs, h1, h2, h3, h4, h5, h6⟩ := h
  refine ⟨p, cap, vs, h1, h2, h3, h5, fun w' k' => h4.below (k.trans k'), fun i l hl => ?_⟩
  obtain ⟨u, hu, hy⟩ := h6 i l hl
  refine ⟨u, hu, fun w' k' => hy.below (k.trans k'), fun hne b hb => ?_⟩
  obtain ⟨p, c, rfl, _, _, h3⟩ := hy
  obtain ⟨b', off, rfl, hc⟩ := h3.has (fun e => hne ((bvs_nil l).1 e))
  cases hb
  have hx : (bvs l)[0]? = some (.int .u8 ((l[0]'(List.length_pos_iff.2 hne)).toNat : Int)) := bvs_get l 0 (List.length_pos_iff.2 hne)
  exact cell_lt (hc 0 _ hx)
theorem OldL.mono {B : Nat} {w w' : World} {v : Value} {ls : List (List UInt8)} (h : OldL B w v ls) (k : Below B w w') : OldL B w' v ls := by
  obtain ⟨p, cap, vs, h1, h2, h3, h4, h5, h6⟩ := h
  refine ⟨p, cap, vs, h1, h2, h3, h4, fun w'' k' => h5 _ (k.trans k'), fun i l hl => ?_⟩
  obtain ⟨u, hu, hy, hb⟩ := h6 i l hl
  exact ⟨u, hu, fun w'' k' => hy _ (k.trans k'), hb⟩
theorem OldL.bytl {B : Nat} {w : World} {v : Value} {ls : List (List UInt8)} (h : OldL B w v ls) : BytL w v ls := by
  obtain ⟨p, cap, vs, h1, h2, h3, h4, h5, h6⟩ := h
  exact ⟨p, cap, vs, h1, h2, h3, h5 w (Below.refl _ _), h4, fun i l hl => by obtain ⟨u, hu, hy, _⟩ := h6 i l hl; exact ⟨u, hu, hy w (Below.refl _ _)⟩⟩
theorem OldL.stay {S : List Nat} {B : Nat} {w : World} {v : Value} {ls : List (List UInt8)} (h : OldL B w v ls) (hS : ∀ g ∈ S, B ≤ g) (hB : B ≤ w.heap.size) : StayL S w v ls := by
  obtain ⟨p, cap, vs, h1, h2, h3, h4, h5, h6⟩ := h
  exact ⟨p, cap, vs, h1, h2, h3, h4, fun w' k => ⟨h5 w' (k.below hS hB), fun i l hl => by obtain ⟨u, hu, hy, _⟩ := h6 i l hl; exact ⟨u, hu, hy w' (k.below hS hB)⟩⟩⟩
theorem MSt.stepE_cases (m : MSt) : m.stepE = 0 ∨ m.stepE = 7 := by unfold MSt.stepE; split <;> simp
theorem MSt.appendE_cases (m : MSt) (d : List UInt8) : m.appendE d = 0 ∨ m.appendE d = 6 ∨ m.appendE d = 7 := by
  unfold MSt.appendE
  split
  · simp
  · rcases m.stepE_cases with h | h <;> simp [h]
theorem MSt.swapE_cases (m : MSt) (d : List UInt8) : m.swapE d = 0 ∨ m.swapE d = 6 ∨ m.swapE d = 7 := by
  unfold MSt.swapE
  split
  · simp
  · rcases m.stepE_cases with h | h <;> simp [h]
/-- the call gives r; the document's journal is mr -/
def MOut (B : Nat) (m g : Nat) (q : Option Nat) (o : Nat → Prop) (mr : MJr) (r : Value) (w : World) (e : Ending) (w' : World) : Prop :=
  e = .returned r ∧ (∃ q', Nx w q q' ∧ Mn B w' m g q' o mr) ∧ But (mS m g q) w w'
theorem MOut.same {B : Nat} {w w' : World} {m g : Nat} {q : Option Nat} {o : Nat → Prop} {mr : MJr} {r : Value} (h : Mn B w m g q o mr) (k : Below w.heap.size w w') : MOut B m g q o mr r w (.returned r) w' :=
  ⟨rfl, ⟨q, .inl rfl, h.below k⟩, But.of_below k⟩
/-- a call on the tape alone -/
theorem Mn.only {B : Nat} {w w' : World} {m g : Nat} {q : Option Nat} {o : Nat → Prop} {mr : MJr} {m' : MSt} (h : Mn B w m g q o mr) (k : Only g w w') (hm : MB w' g m') (hr : ∃ s, Rel s m') : Mn B w' m g q o ⟨m', mr.rows, mr.dead⟩ := by
  obtain ⟨⟨cm, tm⟩, ⟨cg, tg⟩, tq⟩ := h.types
  obtain ⟨⟨v, us, rfl, h2, h3, h4, h5⟩, h6, h7, h8⟩ := h
  have kb : But [g] w w' := But.of_only k
  refine ⟨⟨v, us, rfl, k.blk h2 (Blk.ne_ tm tg (by decide)), k.owns tg h3 (by decide), h4, fun i l hl => ?_⟩, hm, hr, h8⟩
  obtain ⟨u, hu, hy⟩ := h5 i l hl
  exact ⟨u, hu, hy.but kb (by simpa using h8.2.1) (fun x hx => .inr fun cs hcs => by
    obtain rfl : x = g := by simpa using hx
    exact Blk.ne_ hcs tg (by decide) rfl) Zx.rfl_⟩
/-- the mark that it is dead -/
theorem Mn.setdead {B : Nat} {w : World} {m g : Nat} {q : Option Nat} {o : Nat → Prop} {mr : MJr} (h : Mn B w m g q o mr) (d : Bool) : Mn B (w.setCell ⟨m, 2, none⟩ (.bool d)) m g q o ⟨mr.m, mr.rows, d⟩ := by
  obtain ⟨⟨cm, tm⟩, ⟨cg, tg⟩, tq⟩ := h.types
  obtain ⟨⟨v, us, rfl, h2, h3, h4, h5⟩, h6, h7, h8⟩ := h
  have kb : But [m] w (w.setCell ⟨m, 2, none⟩ (.bool d)) := (but_refl _ _).set_ m 2 _ (by simp)
  refine ⟨⟨v, us, rfl, h2.set_ 2 _, kb.owns2 (owns_not h3 fun x hx cs hcs => ?_) h3, h4, fun i l hl => ?_⟩, kb.blk (show Blk w g _ _ from h6) ?_, h7, h8⟩
  · obtain rfl : x = m := by simpa using hx
    exact Blk.ne_ hcs tm (by decide) rfl
  · obtain ⟨u, hu, hy⟩ := h5 i l hl
    exact ⟨u, hu, hy.but kb (by simpa using h8.1) (fun x hx => .inr fun cs hcs => by
      obtain rfl : x = m := by simpa using hx
      exact Blk.ne_ hcs tm (by decide) rfl) Zx.rfl_⟩
  · have := Blk.ne_ tg tm (by decide)
    simpa using this
end Go.Proofs.YtoiknidlincdkaaDoor
