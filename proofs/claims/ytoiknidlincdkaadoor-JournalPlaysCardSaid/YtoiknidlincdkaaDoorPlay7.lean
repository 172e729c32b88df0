/-
  Play7: a journal and the document's, side by side.
-/
import Derived.Test.YtoiknidlincdkaaDoorRefOp
import Derived.Test.YtoiknidlincdkaaDoorJourV
import Derived.Test.YtoiknidlincdkaaDoorLong7
namespace Go.Proofs.YtoiknidlincdkaaDoor
open Go.RowKit

theorem Blk.same {w : World} {g : Nat} {t t' : TypeId} {cs cs' : Array Value} (h : Blk w g t cs) (h' : Blk w g t' cs') : cs = cs' := by
  unfold Blk at h h'
  rw [h] at h'
  cases h'
  rfl
theorem Jn.uniq {w : World} {j a : Nat} {p o p' o' : Option Nat} {X X' : List Nat} {st st' : JSt} (h : Jn w j a p o X st) (h' : Jn w j a p' o' X' st') : p' = p ∧ o' = o := by
  obtain ⟨⟨v, rfl, h2, _⟩, ⟨u, rfl, h3, _⟩, _⟩ := h
  obtain ⟨⟨v', rfl, h2', _⟩, ⟨u', rfl, h3', _⟩, _⟩ := h'
  have e1 := congrArg (fun c : Array Value => c[1]?) (h2.same h2')
  have e2 := congrArg (fun c : Array Value => c[3]?) (Blk.same h3 h3')
  have e1 : some v = some v' := e1
  have e2 : some u = some u' := e2
  cases e1
  cases e2
  exact ⟨rfl, rfl⟩
theorem Mn.uniq {B : Nat} {w : World} {m g : Nat} {q q' : Option Nat} {o o' : Nat → Prop} {mr mr' : MJr} (h : Mn B w m g q o mr) (h' : Mn B w m g q' o' mr') : q' = q := by
  obtain ⟨⟨v, us, rfl, h2, _⟩, _⟩ := h
  obtain ⟨⟨v', us', rfl, h2', _⟩, _⟩ := h'
  have e1 := congrArg (fun c : Array Value => c[1]?) (h2.same h2')
  have e1 : some v = some v' := e1
  cases e1
  rfl
/-- both: no block of the one is the other's, no row of the document's lies in the tape's bytes -/
structure Duo (B : Nat) (w : World) (E : Nat → Addr) (a g j m : Nat) (p o q : Option Nat) (st : JSt) (mr : MJr) : Prop where
  jg : JG B w E j a p o [] st
  mn : Mn B w m g q (fun b => o = some b) mr
  dis : ∀ x ∈ jS j a p o, ¬ x ∈ mS m g q
theorem Duo.below {B : Nat} {w w' : World} {E : Nat → Addr} {a g j m : Nat} {p o q : Option Nat} {st : JSt} {mr : MJr} (h : Duo B w E a g j m p o q st mr) (k : Below w.heap.size w w') : Duo B w' E a g j m p o q st mr :=
  ⟨h.jg.same k, h.mn.below k, h.dis⟩
theorem Duo.uniq {B : Nat} {w : World} {E : Nat → Addr} {a g j m : Nat} {p o q p' o' q' : Option Nat} {st st' : JSt} {mr mr' : MJr} (h : Duo B w E a g j m p o q st mr) (h' : Duo B w E a g j m p' o' q' st' mr') : p' = p ∧ o' = o ∧ q' = q := by
  obtain ⟨h1, h2⟩ := h.jg.jn.uniq h'.jg.jn
  exact ⟨h1, h2, h.mn.uniq h'.mn⟩
/-- a call on the journal -/
def JStep (B : Nat) (E : Nat → Addr) (a g j m : Nat) (w w' : World) : Prop :=
  ∃ p o q st mr p' o' st', Duo B w E a g j m p o q st mr ∧ JG B w' E j a p' o' [] st' ∧ Nx w p p' ∧ Nx w o o' ∧ But (jS j a p o) w w'
/-- a call on the document's -/
def MStepJ (B : Nat) (E : Nat → Addr) (a g j m : Nat) (w w' : World) : Prop :=
  ∃ p o q st mr q' mr', Duo B w E a g j m p o q st mr ∧ Mn B w' m g q' (fun b => o = some b) mr' ∧ Nx w q q' ∧ But (mS m g q) w w'
theorem Duo.jstep {B : Nat} {w w' : World} {E : Nat → Addr} {a g j m : Nat} {p o q p' o' : Option Nat} {st st' : JSt} {mr : MJr} (h : Duo B w E a g j m p o q st mr) (hj : JG B w' E j a p' o' [] st') (hp : Nx w p p') (ho : Nx w o o') (k : But (jS j a p o) w w') : Duo B w' E a g j m p' o' q st' mr := by
  obtain ⟨⟨cj, tj⟩, ⟨ca, ta⟩, tp, to⟩ := h.jg.jn.types
  refine ⟨hj, h.mn.but k h.jg.base (fun x hx hc => h.dis x hc hx) (fun x hx => ?_) (fun b hb => ?_), fun x hx hc => ?_⟩
  · rcases mem_jS.1 hx with rfl | rfl | hx | hx
    · exact .inr fun cs hcs => Blk.ne_ hcs tj (by decide) rfl
    · exact .inr fun cs hcs => Blk.ne_ hcs ta (by decide) rfl
    · obtain ⟨cp, hcp⟩ := tp x hx
      exact .inr fun cs hcs => Blk.ne_ hcs hcp (by decide) rfl
    · exact .inl hx
  · rcases ho with rfl | ho
    · exact .inl hb
    · exact .inr (ho b hb)
  · have hlt := h.mn.lt x hc
    refine h.dis x (mem_jS.2 ?_) hc
    rcases mem_jS.1 hx with hx | hx | hx | hx
    · exact .inl hx
    · exact .inr (.inl hx)
    · rcases hp with rfl | hp
      · exact .inr (.inr (.inl hx))
      · have := hp x hx; omega
    · rcases ho with rfl | ho
      · exact .inr (.inr (.inr hx))
      · have := ho x hx; omega
theorem Duo.mstep {B : Nat} {w w' : World} {E : Nat → Addr} {a g j m : Nat} {p o q q' : Option Nat} {st : JSt} {mr mr' : MJr} (h : Duo B w E a g j m p o q st mr) (hm : Mn B w' m g q' (fun b => o = some b) mr') (hq : Nx w q q') (k : But (mS m g q) w w') : Duo B w' E a g j m p o q' st mr' := by
  obtain ⟨⟨cm, tm⟩, ⟨cg, tg⟩, tq⟩ := h.mn.types
  refine ⟨⟨h.jg.jn.but k (out_of h.dis) (fun x hx => .inr fun cs hcs => ?_), h.jg.base, Nat.le_trans h.jg.hB k.size, h.jg.glob.below (k.below h.mn.base3 h.jg.hB), nofun⟩, hm, fun x hx hc => ?_⟩
  · rcases mem_mS.1 hx with rfl | rfl | hx
    · exact Blk.ne_ hcs tm (by decide) rfl
    · exact Blk.ne_ hcs tg (by decide) rfl
    · obtain ⟨cq, hcq⟩ := tq x hx
      exact Blk.ne_ hcs hcq (by decide) rfl
  · have hlt := h.jg.jn.lt x hx
    refine h.dis x hx (mem_mS.2 ?_)
    rcases mem_mS.1 hc with hc | hc | hc
    · exact .inl hc
    · exact .inr (.inl hc)
    · rcases hq with rfl | hq
      · exact .inr (.inr hc)
      · have := hq x hc; omega
/-- the journal is st; the document's is mr -/
def AJ (B : Nat) (E : Nat → Addr) (a g j m : Nat) (st : JSt) (w : World) : Prop := ∃ p o q mr, Duo B w E a g j m p o q st mr
def AM (B : Nat) (E : Nat → Addr) (a g j m : Nat) (mr : MJr) (w : World) : Prop := ∃ p o q st, Duo B w E a g j m p o q st mr
theorem AJ.below {B : Nat} {w w' : World} {E : Nat → Addr} {a g j m : Nat} {st : JSt} (h : AJ B E a g j m st w) (k : Below w.heap.size w w') : AJ B E a g j m st w' := by
  obtain ⟨p, o, q, mr, h⟩ := h
  exact ⟨p, o, q, mr, h.below k⟩
theorem AM.below {B : Nat} {w w' : World} {E : Nat → Addr} {a g j m : Nat} {mr : MJr} (h : AM B E a g j m mr w) (k : Below w.heap.size w w') : AM B E a g j m mr w' := by
  obtain ⟨p, o, q, st, h⟩ := h
  exact ⟨p, o, q, st, h.below k⟩
theorem AJ.mstep {B : Nat} {w w' : World} {E : Nat → Addr} {a g j m : Nat} {st : JSt} (h : AJ B E a g j m st w) (k : MStepJ B E a g j m w w') : AJ B E a g j m st w' := by
  obtain ⟨p, o, q, mr, h⟩ := h
  obtain ⟨p1, o1, q1, st1, mr1, q', mr', h1, hm, hq, kk⟩ := k
  obtain ⟨rfl, rfl, rfl⟩ := h.uniq h1
  exact ⟨_, _, _, _, h.mstep hm hq kk⟩
theorem AM.jstep {B : Nat} {w w' : World} {E : Nat → Addr} {a g j m : Nat} {mr : MJr} (h : AM B E a g j m mr w) (k : JStep B E a g j m w w') : AM B E a g j m mr w' := by
  obtain ⟨p, o, q, st, h⟩ := h
  obtain ⟨p1, o1, q1, st1, mr1, p', o', st', h1, hj, hp, ho, kk⟩ := k
  obtain ⟨rfl, rfl, rfl⟩ := h.uniq h1
  exact ⟨_, _, _, _, h.jstep hj hp ho kk⟩
theorem AJ.and {B : Nat} {w : World} {E : Nat → Addr} {a g j m : Nat} {st : JSt} {mr : MJr} (h : AJ B E a g j m st w) (h' : AM B E a g j m mr w) : ∃ p o q, Duo B w E a g j m p o q st mr := by
  obtain ⟨p, o, q, mr1, h⟩ := h
  obtain ⟨p1, o1, q1, st1, h1⟩ := h'
  obtain ⟨rfl, rfl, rfl⟩ := h.uniq h1
  exact ⟨_, _, _, h.jg, h1.mn, h.dis⟩
/-- what other blocks a step leaves -/
theorem JStep.blk {B : Nat} {w w' : World} {E : Nat → Addr} {a g j m x : Nat} {t : TypeId} {cs : Array Value} (k : JStep B E a g j m w w') (h : Blk w x t cs) (h1 : t ≠ 83) (h2 : t ≠ 57) (h3 : t ≠ 22) (h4 : t ≠ 5) : Blk w' x t cs := by
  obtain ⟨p1, o1, q1, st1, mr1, p', o', st', hd, _, _, _, kk⟩ := k
  obtain ⟨⟨cj, tj⟩, ⟨ca, ta⟩, tp, to⟩ := hd.jg.jn.types
  refine kk.blk h ?_
  rw [Bool.eq_false_iff]
  intro hc
  rcases mem_jS.1 (List.contains_iff_mem.1 hc) with rfl | rfl | hx | hx
  · exact Blk.ne_ h tj h1 rfl
  · exact Blk.ne_ h ta h2 rfl
  · obtain ⟨cp, hcp⟩ := tp x hx
    exact Blk.ne_ h hcp h3 rfl
  · obtain ⟨cp, hcp⟩ := to x hx
    exact Blk.ne_ h hcp h4 rfl
theorem MStepJ.blk {B : Nat} {w w' : World} {E : Nat → Addr} {a g j m x : Nat} {t : TypeId} {cs : Array Value} (k : MStepJ B E a g j m w w') (h : Blk w x t cs) (h1 : t ≠ 71) (h2 : t ≠ 73) (h3 : t ≠ 22) : Blk w' x t cs := by
  obtain ⟨p1, o1, q1, st1, mr1, q', mr', hd, _, _, kk⟩ := k
  obtain ⟨⟨cj, tj⟩, ⟨ca, ta⟩, tq⟩ := hd.mn.types
  refine kk.blk h ?_
  rw [Bool.eq_false_iff]
  intro hc
  rcases mem_mS.1 (List.contains_iff_mem.1 hc) with rfl | rfl | hx
  · exact Blk.ne_ h tj h1 rfl
  · exact Blk.ne_ h ta h2 rfl
  · obtain ⟨cp, hcp⟩ := tq x hx
    exact Blk.ne_ h hcp h3 rfl
theorem JStep.below {B : Nat} {w w' : World} {E : Nat → Addr} {a g j m : Nat} (k : JStep B E a g j m w w') : Below B w w' := by
  obtain ⟨p1, o1, q1, st1, mr1, p', o', st', hd, _, _, _, kk⟩ := k
  exact hd.jg.below kk
theorem MStepJ.below {B : Nat} {w w' : World} {E : Nat → Addr} {a g j m : Nat} (k : MStepJ B E a g j m w w') : Below B w w' := by
  obtain ⟨p1, o1, q1, st1, mr1, q', mr', hd, _, _, kk⟩ := k
  exact kk.below hd.mn.base3 hd.jg.hB
/-- play's blocks -/
structure PlayW (B : Nat) (w : World) (E : Nat → Addr) (P a g j m : Nat) (p o q : Option Nat) (st : JSt) (mr : MJr) : Prop where
  duo : Duo B w E a g j m p o q st mr
  pl : Blk w P 67 #[.pointer (some ⟨a, 0, none⟩), .pointer (some ⟨j, 0, none⟩), .pointer (some ⟨m, 0, none⟩)]
  rel : RelJ st mr
  hP : B ≤ P
def DoJ (B : Nat) (E : Nat → Addr) (P a g n : Nat) (w : World) (e : Ending) (w' : World) : Prop :=
  e = .returned (.bool true) ∧ (∃ j m p o q st mr, PlayW B w' E P a g j m p o q st mr ∧ st.rows.length ≤ n) ∧ Below B w w'
end Go.Proofs.YtoiknidlincdkaaDoor
