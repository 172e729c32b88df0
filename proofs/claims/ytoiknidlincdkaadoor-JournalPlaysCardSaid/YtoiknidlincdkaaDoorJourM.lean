/-
  JourM: a journal in memory.
-/
import Derived.Test.YtoiknidlincdkaaDoorJD
import Derived.Test.YtoiknidlincdkaaDoorJC
import Derived.Test.YtoiknidlincdkaaDoorRangeJ
namespace Go.Proofs.YtoiknidlincdkaaDoor
open Go.RowKit

/-- the rows that the slice v holds, all of them of the call's own; none of them lies in one of the blocks X -/
def RowsO (w : World) (X : List Nat) (v : Value) (ls : List (List UInt8)) : Prop :=
  ∃ us : List Value, us.length = ls.length ∧ w.ownsRow 0 22 1 v ls.length us ∧
    ∀ (i : Nat) (l : List UInt8), ls[i]? = some l → ∃ u, us[i]? = some u ∧ w.ownsRow 0 5 1 u l.length (bvs l) ∧ ∀ g, u.ownBlock = some g → ¬ g ∈ X
theorem RowsO.nil (w : World) (X : List Nat) : RowsO w X (.slice none 0 0) [] := ⟨[], rfl, ⟨rfl, .inl ⟨rfl, rfl⟩⟩, by simp⟩
theorem RowsO.lt {w : World} {X : List Nat} {v : Value} {ls : List (List UInt8)} (h : RowsO w X v ls) : ∀ g, v.ownBlock = some g → g < w.heap.size := by
  obtain ⟨us, _, b, _⟩ := h
  exact fun g hg => (b.lt g hg).2
theorem RowsO.below {w w' : World} {X : List Nat} {v : Value} {ls : List (List UInt8)} (h : RowsO w X v ls) (k : Below w.heap.size w w') : RowsO w' X v ls := by
  obtain ⟨us, a, b, c⟩ := h
  refine ⟨us, a, owns_below b k, fun i l hl => ?_⟩
  obtain ⟨u, hu, ho, hn⟩ := c i l hl
  exact ⟨u, hu, owns_below ho k, hn⟩
theorem RowsO.sees {B : Nat} {w w' : World} {X : List Nat} {v : Value} {ls : List (List UInt8)} (h : RowsO w X v ls) (k : Sees B w w') : RowsO w' X v ls := by
  obtain ⟨us, a, b, c⟩ := h
  refine ⟨us, a, k.owns b, fun i l hl => ?_⟩
  obtain ⟨u, hu, ho, hn⟩ := c i l hl
  exact ⟨u, hu, k.owns ho, hn⟩
/-- blocks S have turned, and none of them is the rows' or one row's; then no row lies in blocks Y that X has or that were not there -/
theorem RowsO.but2 {S X Y : List Nat} {w w' : World} {v : Value} {ls : List (List UInt8)} (h : RowsO w X v ls) (k : But S w w') (hv : ∀ g, v.ownBlock = some g → S.contains g = false)
    (hS : ∀ g ∈ S, g ∈ X ∨ ∀ cs, ¬ Blk w g 5 cs) (hY : ∀ g ∈ Y, g ∈ X ∨ w.heap.size ≤ g) : RowsO w' Y v ls := by
  obtain ⟨us, a, b, c⟩ := h
  refine ⟨us, a, k.owns2 hv b, fun i l hl => ?_⟩
  obtain ⟨u, hu, ho, hn⟩ := c i l hl
  refine ⟨u, hu, k.owns2 (fun g hg => ?_) ho, fun g hg e => ?_⟩
  · rw [Bool.eq_false_iff]
    intro hc
    rcases hS g (List.contains_iff_mem.1 hc) with h1 | h1
    · exact hn g hg h1
    · rcases ho.2 with ⟨rfl, _⟩ | ⟨g', cap, cur, rfl, _, hh, _⟩
      · cases hg
      · cases hg
        exact h1 cur hh
  · rcases hY g e with h1 | h1
    · exact hn g hg h1
    · have := (ho.lt g hg).2
      omega
theorem RowsO.but {S X : List Nat} {w w' : World} {v : Value} {ls : List (List UInt8)} (h : RowsO w X v ls) (k : But S w w') (hv : ∀ g, v.ownBlock = some g → S.contains g = false)
    (hS : ∀ g ∈ S, g ∈ X ∨ ∀ cs, ¬ Blk w g 5 cs) : RowsO w' X v ls := h.but2 k hv hS fun _ hg => .inl hg
/-- more blocks that are not the rows': such that were not there -/
theorem RowsO.next {w : World} {X Y : List Nat} {v : Value} {ls : List (List UInt8)} (h : RowsO w X v ls) (k : ∀ g ∈ Y, g ∈ X ∨ w.heap.size ≤ g) : RowsO w Y v ls := by
  obtain ⟨us, a, b, c⟩ := h
  refine ⟨us, a, b, fun i l hl => ?_⟩
  obtain ⟨u, hu, ho, hn⟩ := c i l hl
  refine ⟨u, hu, ho, fun g hg e => ?_⟩
  rcases k g e with h1 | h1
  · exact hn g hg h1
  · have := (ho.lt g hg).2
    omega
theorem RowsO.bytl {w : World} {X : List Nat} {v : Value} {ls : List (List UInt8)} (h : RowsO w X v ls) : BytL w v ls := by
  obtain ⟨us, a, b, c⟩ := h
  obtain ⟨p, cap, hv, h1, h2, h3⟩ := owns_rd b
  exact ⟨p, cap, us, hv, h1, h2, h3, a, fun i l hl => by obtain ⟨u, hu, ho, _⟩ := c i l hl; exact ⟨u, hu, owns_byt ho⟩⟩
/-- a row behind the others -/
theorem RowsO.add {w2 w3 : World} {X : List Nat} {v v3 : Value} {ls : List (List UInt8)} {us : List Value} {l : List UInt8} {u : Value} (hus : us.length = ls.length)
    (ho3 : w3.ownsRow 0 22 1 v3 (ls.length + 1) (us ++ [u])) (hown : w2.ownsRow 0 22 1 v ls.length us) (hg3 : w2.grownBy w3 v.ownBlock)
    (hel : ∀ (i : Nat) (l : List UInt8), ls[i]? = some l → ∃ u, us[i]? = some u ∧ w2.ownsRow 0 5 1 u l.length (bvs l) ∧ ∀ g, u.ownBlock = some g → ¬ g ∈ X)
    (hu : w2.ownsRow 0 5 1 u l.length (bvs l)) (hn : ∀ g, u.ownBlock = some g → ¬ g ∈ X) : RowsO w3 X v3 (ls ++ [l]) := by
  refine ⟨us ++ [u], by simp [hus], by rw [List.length_append]; exact ho3, fun i f' hf => ?_⟩
  by_cases hi : i < ls.length
  · rw [List.getElem?_append_left hi] at hf
    obtain ⟨u', hu', ho, hn'⟩ := hel i f' hf
    exact ⟨u', by rw [List.getElem?_append_left (by omega)]; exact hu', grown_owns hg3 hown ho (by decide), hn'⟩
  · rw [List.getElem?_append_right (by omega)] at hf
    have hi0 : i - ls.length = 0 := by
      have := (List.getElem?_eq_some_iff.1 hf).1
      simp at this; omega
    rw [hi0] at hf
    obtain rfl : l = f' := by simpa using hf
    exact ⟨_, by rw [List.getElem?_append_right (by omega), hus, hi0]; rfl, grown_owns hg3 hown hu (by decide), hn⟩
/-- THE JOURNAL st: block j, its tape's block a, the rows' block p, the block o of the tape's bytes; no row lies in o or in a block of X -/
structure Jn (w : World) (j a : Nat) (p o : Option Nat) (X : List Nat) (st : JSt) : Prop where
  ex : ∃ v, v.ownBlock = p ∧ Blk w j 83 #[.pointer (some ⟨a, 0, none⟩), v, .int .i64 ((framesJ st.rows).length : Int), .bool st.dead] ∧ RowsO w (o.toList ++ X) v st.rows
  tape : Tp w a o st.t
  ok : okRows st.rows = true
def jS (j a : Nat) (p o : Option Nat) : List Nat := j :: a :: (p.toList ++ o.toList)
theorem Jn.below {w w' : World} {j a : Nat} {p o : Option Nat} {X : List Nat} {st : JSt} (h : Jn w j a p o X st) (k : Below w.heap.size w w') : Jn w' j a p o X st := by
  obtain ⟨⟨v, h1, h2, h3⟩, h4, h5⟩ := h
  exact ⟨⟨v, h1, h2.below k h2.lt, h3.below k⟩, h4.below k, h5⟩
theorem Jn.lt {w : World} {j a : Nat} {p o : Option Nat} {X : List Nat} {st : JSt} (h : Jn w j a p o X st) : ∀ g ∈ jS j a p o, g < w.heap.size := by
  obtain ⟨⟨v, rfl, h2, h3⟩, h4, _⟩ := h
  intro g hg
  unfold jS at hg
  simp only [List.mem_cons, List.mem_append, Option.mem_toList] at hg
  rcases hg with rfl | rfl | hg | hg
  · exact h2.lt
  · exact h4.lt.1
  · exact h3.lt g hg
  · exact h4.lt.2 g hg
/-- what other blocks do -/
theorem Jn.but {S : List Nat} {w w' : World} {j a : Nat} {p o : Option Nat} {X : List Nat} {st : JSt} (h : Jn w j a p o X st) (k : But S w w') (hS : ∀ g ∈ jS j a p o, S.contains g = false)
    (hr : ∀ g ∈ S, g ∈ X ∨ ∀ cs, ¬ Blk w g 5 cs) : Jn w' j a p o X st := by
  obtain ⟨⟨v, rfl, h2, h3⟩, h4, h5⟩ := h
  refine ⟨⟨v, rfl, k.blk h2 (hS j (by simp [jS])), h3.but k (fun g hg => hS g (by simp [jS, hg])) (fun g hg => ?_)⟩, h4.but k (hS a (by simp [jS])) (fun g hg => hS g (by simp [jS, hg])), h5⟩
  rcases hr g hg with h | h
  · exact .inl (List.mem_append_right _ h)
  · exact .inr h
/-- more blocks that were not there -/
theorem Jn.next {w : World} {j a : Nat} {p o : Option Nat} {X Y : List Nat} {st : JSt} (h : Jn w j a p o X st) (k : ∀ g ∈ Y, g ∈ X ∨ w.heap.size ≤ g) : Jn w j a p o Y st := by
  obtain ⟨⟨v, h1, h2, h3⟩, h4, h5⟩ := h
  refine ⟨⟨v, h1, h2, h3.next fun g hg => ?_⟩, h4, h5⟩
  rcases List.mem_append.1 hg with h | h
  · exact .inl (List.mem_append_left _ h)
  · rcases k g h with h | h
    · exact .inl (List.mem_append_right _ h)
    · exact .inr h
/-- behind calls on the tape alone -/
theorem Jn.tapes {w w' : World} {j a : Nat} {p o : Option Nat} {X : List Nat} {st : JSt} {s' : TSt} (h : Jn w j a p o X st) (ht : ∃ o', Nx w o o' ∧ Tp w' a o' s') (k : But (a :: o.toList) w w') :
    ∃ o', Nx w o o' ∧ Jn w' j a p o' X ⟨s', st.rows, st.dead⟩ := by
  obtain ⟨⟨v, rfl, h2, h3⟩, h4, h5⟩ := h
  obtain ⟨o', hn, ht'⟩ := ht
  obtain ⟨va, ha1, ha2, ha3, ha4⟩ := h4
  have nja : j ≠ a := Blk.ne_ h2 ha2 (by decide)
  have njo : ∀ g, o = some g → j ≠ g := fun g hg => by
    obtain ⟨cs, hcs⟩ := Tp.own ⟨va, ha1, ha2, ha3, ha4⟩ g hg
    exact Blk.ne_ h2 hcs (by decide)
  have hj : (a :: o.toList).contains j = false := by
    rw [Bool.eq_false_iff]
    intro hc
    rcases List.mem_cons.1 (List.contains_iff_mem.1 hc) with h | h
    · exact nja h
    · exact njo j (Option.mem_toList.1 h) rfl
  have hpv : ∀ g, v.ownBlock = some g → (a :: o.toList).contains g = false := fun g hg => by
    rw [Bool.eq_false_iff]
    intro hc
    obtain ⟨us, _, b, _⟩ := h3
    rcases b.2 with ⟨rfl, _⟩ | ⟨g', cap, cur, rfl, _, hh, _⟩
    · cases hg
    · cases hg
      have hh' : Blk w g' 22 cur := hh
      have hc' : g' ∈ a :: o.toList := List.contains_iff_mem.1 hc
      rcases List.mem_cons.1 hc' with h | h
      · exact Blk.ne_ hh' ha2 (by decide) h
      · obtain ⟨cs, hcs⟩ := Tp.own ⟨va, ha1, ha2, ha3, ha4⟩ _ (Option.mem_toList.1 h)
        exact Blk.ne_ hh' hcs (by decide) rfl
  refine ⟨o', hn, ⟨v, rfl, k.blk h2 hj, h3.but2 k hpv (fun g hg => ?_) (fun g hg => ?_)⟩, ht', h5⟩
  · rcases List.mem_cons.1 hg with h | h
    · refine .inr fun cs hcs => ?_
      rw [h] at hcs
      exact Blk.ne_ hcs ha2 (by decide) rfl
    · exact .inl (List.mem_append_left _ h)
  · rcases List.mem_append.1 hg with h | h
    · rcases hn with rfl | hn
      · exact .inl (List.mem_append_left _ h)
      · exact .inr (hn g (Option.mem_toList.1 h))
    · exact .inl (List.mem_append_right _ h)
/-- what a method's contract leans on: block number B, below which its words on package api's errors and check's table lie -/
structure Glob (B : Nat) (w : World) (E : Nat → Addr) : Prop where
  errs : ∀ w', Below B w w' → Errs w' E
  half : ∀ w', Below B w w' → HalfTab w'
theorem Glob.below {B : Nat} {w w' : World} {E : Nat → Addr} (h : Glob B w E) (k : Below B w w') : Glob B w' E := ⟨fun _ h' => h.errs _ (k.trans h'), fun _ h' => h.half _ (k.trans h')⟩
structure JG (B : Nat) (w : World) (E : Nat → Addr) (j a : Nat) (p o : Option Nat) (X : List Nat) (st : JSt) : Prop where
  jn : Jn w j a p o X st
  base : ∀ g ∈ jS j a p o, B ≤ g
  hB : B ≤ w.heap.size
  glob : Glob B w E
  lt : ∀ g ∈ X, g < w.heap.size
/-- the call gives r; the journal is st -/
def JOut (B : Nat) (E : Nat → Addr) (j a : Nat) (p o : Option Nat) (X : List Nat) (st : JSt) (r : Value) (w : World) (e : Ending) (w' : World) : Prop :=
  e = .returned r ∧ (∃ p' o', Nx w p p' ∧ Nx w o o' ∧ JG B w' E j a p' o' X st) ∧ But (jS j a p o) w w'
theorem JG.new {B : Nat} {w w' : World} {E : Nat → Addr} {j a : Nat} {p o p' o' : Option Nat} {X : List Nat} {st st' : JSt} (h : JG B w E j a p o X st) (k : But (jS j a p o) w w') (hj : Jn w' j a p' o' X st') (hp : Nx w p p') (ho : Nx w o o') : JG B w' E j a p' o' X st' := by
  refine ⟨hj, fun g hg => ?_, Nat.le_trans h.hB k.size, h.glob.below (k.below h.base h.hB), fun g hg => Nat.lt_of_lt_of_le (h.lt g hg) k.size⟩
  have nx : ∀ q q' : Option Nat, Nx w q q' → (∀ g ∈ q.toList, B ≤ g) → ∀ g ∈ q'.toList, B ≤ g := fun q q' hn hq g hg => by
    rcases hn with rfl | hn
    · exact hq g hg
    · have := hn g (Option.mem_toList.1 hg); have := h.hB; omega
  unfold jS at hg
  simp only [List.mem_cons, List.mem_append] at hg
  rcases hg with rfl | rfl | hg | hg
  · exact h.base _ (by simp [jS])
  · exact h.base _ (by simp [jS])
  · exact nx p p' hp (fun g hg => h.base g (by simp only [jS, List.mem_cons, List.mem_append]; exact .inr (.inr (.inl hg)))) g hg
  · exact nx o o' ho (fun g hg => h.base g (by simp only [jS, List.mem_cons, List.mem_append]; exact .inr (.inr (.inr hg)))) g hg
theorem But.wider {S T : List Nat} {w w' : World} (h : But S w w') (hs : ∀ g ∈ S, g ∈ T) : But T w w' :=
  ⟨h.os, h.tape, h.output, h.size, fun k hk hn => h.block k hk (by
    rw [Bool.eq_false_iff] at hn ⊢
    exact fun hc => hn (List.contains_iff_mem.2 (hs k (List.contains_iff_mem.1 hc))))⟩
theorem jS_tape (j a : Nat) (p o : Option Nat) : ∀ g ∈ a :: o.toList, g ∈ jS j a p o := by
  intro g hg
  unfold jS
  simp only [List.mem_cons, List.mem_append] at *
  rcases hg with h | h
  · exact .inr (.inl h)
  · exact .inr (.inr (.inr h))
theorem jS_j (j a : Nat) (p o : Option Nat) : ∀ g ∈ [j], g ∈ jS j a p o := by
  intro g hg
  unfold jS
  simp only [List.mem_cons, List.mem_append, List.not_mem_nil, or_false] at *
  exact .inl hg
theorem jS_rows (j a : Nat) (p o : Option Nat) : ∀ g ∈ j :: p.toList, g ∈ jS j a p o := by
  intro g hg
  unfold jS
  simp only [List.mem_cons, List.mem_append] at *
  rcases hg with h | h
  · exact .inl h
  · exact .inr (.inr (.inl h))
/-- behind what a call on blocks of the journal's own makes, its further blocks -/
theorem But.next {j a : Nat} {p o p' o' : Option Nat} {w w1 w2 : World} (h : But (jS j a p o) w w1) (k : But (jS j a p' o') w1 w2) (hp : Nx w p p') (ho : Nx w o o') : But (jS j a p o) w w2 :=
  ⟨k.os.trans h.os, k.tape.trans h.tape, k.output.trans h.output, Nat.le_trans h.size k.size, fun g hg hn => by
    refine (k.block g (Nat.lt_of_lt_of_le hg h.size) ?_).trans (h.block g hg hn)
    rw [Bool.eq_false_iff] at hn ⊢
    refine fun hc => hn (List.contains_iff_mem.2 ?_)
    have hc := List.contains_iff_mem.1 hc
    have nx : ∀ q q' : Option Nat, Nx w q q' → g ∈ q'.toList → g ∈ q.toList := fun q q' hq hm => by
      rcases hq with rfl | hq
      · exact hm
      · have := hq g (Option.mem_toList.1 hm); omega
    unfold jS at hc ⊢
    simp only [List.mem_cons, List.mem_append] at hc ⊢
    rcases hc with h | h | h | h
    · exact .inl h
    · exact .inr (.inl h)
    · exact .inr (.inr (.inl (nx p p' hp h)))
    · exact .inr (.inr (.inr (nx o o' ho h)))⟩
end Go.Proofs.YtoiknidlincdkaaDoor
