/-
  TreeW: trees that are made: rows of the call's own, kids that lie apart from the row that grows. No program.
-/
import Derived.Test.YtgmiockaecklaaaGreatDoorTrK1
import Derived.Test.YtgmiockaecklaaaGreatDoorTrK2
import Derived.Test.YtgmiockaecklaaaGreatDoorAppT
namespace Go.Proofs.YtgmiockaecklaaaGreatDoor
open Go.RowKit

/-- blocks from lo on, below hi, that aren't the row o -/
def Bt (lo hi : Nat) (o : Option Nat) (b : Nat) : Prop := lo ≤ b ∧ b < hi ∧ o ≠ some b
/-- a call gives the tree x, all of whose rows are new -/
def TrR (x : Tr) (w : World) (e : Ending) (w' : World) : Prop :=
  ∃ cs, e = .returned (.agg cs.toArray) ∧ TrC w' (Bt w.heap.size w'.heap.size none) x cs ∧ Below w.heap.size w w'
mutual
/-- no more than a million attributes, kids -/
def Tr.sm : Tr → Prop
  | .node _ ats ks _ => ats.length ≤ 1000000 ∧ ks.length ≤ 1000000 ∧ Tr.smL ks
def Tr.smL : List Tr → Prop
  | [] => True
  | x :: xs => x.sm ∧ Tr.smL xs
end
theorem smL_get : ∀ (xs : List Tr), Tr.smL xs → ∀ (i : Nat) (hi : i < xs.length), (xs[i]).sm
  | [], _, i, hi => by simp at hi
  | x :: xs, h, i, hi => by
    unfold Tr.smL at h
    cases i with
    | zero => exact h.1
    | succ i => exact smL_get xs h.2 i (by simpa using hi)
theorem Only.owns2 {g base size n : Nat} {e : TypeId} {v : Value} {xs : List Value} {w w' : World} (k : Only g w w') (ho : w.ownsRow base e size v n xs) (hg : g < base) : w'.ownsRow base e size v n xs :=
  ho.kept (row := some g) ⟨k.os, k.tape, k.output, by rw [k.size]; exact Nat.le_refl _, fun i hi hn => k.block i (fun e => hn (by rw [e]))⟩ (by
    cases hv : v.ownBlock with
    | none => exact .inl rfl
    | some b =>
      right
      intro e
      have := ho.lt b hv
      cases e
      omega)
theorem TrC.only {g : Nat} {w w' : World} {P : Nat → Prop} {x : Tr} {cs : List Value} (h : TrC w P x cs) (k : Only g w w') (hP : ∀ b, P b → b ≠ g) : TrC w' P x cs :=
  h.keepP fun a v hp hc => (World.cell?_of_block (k.block a.block (hP _ hp))).trans hc
theorem TrL.only {g : Nat} {w w' : World} {P : Nat → Prop} {x : List Tr} {cs : List (List Value)} (h : TrL w P x cs) (k : Only g w w') (hP : ∀ b, P b → b ≠ g) : TrL w' P x cs :=
  h.keepP fun a v hp hc => (World.cell?_of_block (k.block a.block (hP _ hp))).trans hc
theorem cell_grown {w w' : World} {q : Option Nat} (k : w.grownBy w' q) {a : Addr} {v : Value} (h : q ≠ some a.block) (hc : w.cell? a = some v) : w'.cell? a = some v :=
  (World.cell?_of_block (k.block a.block (cell_lt hc) (fun e => h e.symm))).trans hc
theorem TrC.grown {q : Option Nat} {w w' : World} {P : Nat → Prop} {x : Tr} {cs : List Value} (h : TrC w P x cs) (k : w.grownBy w' q) (hP : ∀ b, P b → q ≠ some b) : TrC w' P x cs :=
  h.keepP fun a v hp hc => cell_grown k (hP _ hp) hc
theorem TrL.grown {q : Option Nat} {w w' : World} {P : Nat → Prop} {x : List Tr} {cs : List (List Value)} (h : TrL w P x cs) (k : w.grownBy w' q) (hP : ∀ b, P b → q ≠ some b) : TrL w' P x cs :=
  h.keepP fun a v hp hc => cell_grown k (hP _ hp) hc
theorem grown_owns {w w' : World} {base base' size size' n n' : Nat} {e e' : TypeId} {v v' : Value} {xs xs' : List Value} (hg : w.grownBy w' v.ownBlock) (ho : w.ownsRow base e size v n xs) (h : w.ownsRow base' e' size' v' n' xs') (hne : e ≠ e') : w'.ownsRow base' e' size' v' n' xs' := by
  refine h.kept hg ?_
  rcases h.2 with ⟨rfl, _⟩ | ⟨g, _, cur, rfl, _, hb, _⟩
  · exact .inl rfl
  · right
    rcases ho.2 with ⟨rfl, _⟩ | ⟨g', _, cur', rfl, _, hb', _⟩
    · intro h; cases h
    · intro h
      cases h
      rw [hb] at hb'
      injection hb' with h1
      injection h1 with _ h2 _
      exact hne h2.symm
/-- what an operation at the place j may turn: the append (at ja) the row v, of n elements of the type e; any other nothing -/
def rT (ja base size : Nat) (e : TypeId) (v : Value) (n : Nat) (j : Nat) (w w' : World) : Prop :=
  if j = ja then (∃ xs, w.ownsRow base e size v n xs) ∧ w.grownBy w' v.ownBlock else Below w.heap.size w w'
section
variable {ja j base size : Nat} {e t : TypeId} {v : Value} {n g : Nat} {w w' : World}
theorem rT_at : rT ja base size e v n ja w w' = ((∃ xs, w.ownsRow base e size v n xs) ∧ w.grownBy w' v.ownBlock) := by unfold rT; rw [if_pos rfl]
theorem rT_o (h : j ≠ ja) : rT ja base size e v n j w w' = Below w.heap.size w w' := by unfold rT; rw [if_neg h]
theorem rT_size (h : rT ja base size e v n j w w') : w.heap.size ≤ w'.heap.size := by
  unfold rT at h
  split at h
  · exact h.2.size
  · exact h.size
theorem rT_blk {cs : Array Value} (h : rT ja base size e v n j w w') (hb : Blk w g t cs) (hne : v.ownBlock ≠ some g) : Blk w' g t cs := by
  unfold rT at h
  split at h
  · exact (h.2.block g hb.lt fun e => hne e.symm).trans hb
  · exact hb.below h hb.lt
theorem rT_blklo {cs : Array Value} (h : rT ja base size e v n j w w') (hb : Blk w g t cs) (hlo : g < base) : Blk w' g t cs := by
  unfold rT at h
  split at h
  · obtain ⟨⟨xs, ho⟩, hg⟩ := h
    exact (hg.block g hb.lt fun e => by have := (ho.lt g e.symm).1; omega).trans hb
  · exact hb.below h hb.lt
theorem rT_below {B : Nat} {a : World} (h : rT ja base size e v n j w w') (hb : Below B a w) (hB : B ≤ base) (hs : B ≤ w.heap.size) : Below B a w' := by
  unfold rT at h
  split at h
  · obtain ⟨⟨xs, ho⟩, hg⟩ := h
    exact hb.grown hg hs fun k hk => Nat.le_trans hB (ho.lt k hk).1
  · exact hb.trans (h.mono hs)
theorem rT_owns {base' size' n' : Nat} {e' : TypeId} {v' : Value} {xs' : List Value} (h : rT ja base size e v n j w w') (ho : w.ownsRow base' e' size' v' n' xs') (hne : e ≠ e') : w'.ownsRow base' e' size' v' n' xs' := by
  unfold rT at h
  split at h
  · obtain ⟨⟨ys, hy⟩, hg⟩ := h
    exact grown_owns hg hy ho hne
  · exact owns_below ho h
theorem rT_trl {P : Nat → Prop} {x : List Tr} {cs : List (List Value)} (h : rT ja base size e v n j w w') (ht : TrL w P x cs) (hP : ∀ b, P b → v.ownBlock ≠ some b) : TrL w' P x cs := by
  unfold rT at h
  split at h
  · exact ht.grown h.2 hP
  · exact ht.below h
theorem rT_trc {P : Nat → Prop} {x : Tr} {cs : List Value} (h : rT ja base size e v n j w w') (ht : TrC w P x cs) (hP : ∀ b, P b → v.ownBlock ≠ some b) : TrC w' P x cs := by
  unfold rT at h
  split at h
  · exact ht.grown h.2 hP
  · exact ht.below h
end
/-- a kid that a call gave -/
def PKid (cv : Value → Prop) (B0 : Nat) (x : Tr) : Part :=
  ⟨cv, fun w v => ∃ cs B, v = .agg cs.toArray ∧ TrC w (Bt (B0 + 1) B none) x cs ∧ B ≤ w.heap.size⟩
/-- a slice of one element, newly laid: the kid -/
def POne (B0 : Nat) (t : TypeId) (x : Tr) : Part :=
  ⟨fun v => ∃ g, v = .slice (some ⟨g, 0, none⟩) 1 1, fun w v => ∀ g, v = .slice (some ⟨g, 0, none⟩) 1 1 → B0 < g ∧ ∃ cs B, Blk w g t cs.toArray ∧ TrC w (Bt (B0 + 1) B none) x cs ∧ B ≤ w.heap.size⟩
/-- the kids' row with one more -/
def PRow (base size : Nat) (t : TypeId) (n : Nat) (xs : List Tr) (css : List (List Value)) (x : Tr) : Part :=
  ⟨fun v => ∃ p cap, v = .slice p n cap, fun w v => ∃ cs, w.ownsRow base t size v n (css ++ [cs]).flatten ∧ TrL w (Bt base w.heap.size v.ownBlock) (xs ++ [x]) (css ++ [cs])⟩
theorem PKid_stays {cv : Value → Prop} {B0 ja j base size : Nat} {e : TypeId} {v0 : Value} {n : Nat} {x : Tr} {w w' : World} {v : Value} (hR : rT ja base size e v0 n j w w') (hv : ∀ g, v0.ownBlock = some g → g < B0) (h : (PKid cv B0 x).fact w v) : (PKid cv B0 x).fact w' v := by
  obtain ⟨cs, B, h1, h2, h3⟩ := h
  exact ⟨cs, B, h1, rT_trc hR h2 fun b hb e => by have := hv b e; have := hb.1; omega, Nat.le_trans h3 (rT_size hR)⟩
theorem POne_stays {B0 ja j base size : Nat} {e t : TypeId} {v0 : Value} {n : Nat} {x : Tr} {w w' : World} {v : Value} (hR : rT ja base size e v0 n j w w') (hv : ∀ g, v0.ownBlock = some g → g < B0) (h : (POne B0 t x).fact w v) : (POne B0 t x).fact w' v := fun g hg => by
  obtain ⟨h1, cs, B, h2, h3, h4⟩ := h g hg
  exact ⟨h1, cs, B, rT_blk hR h2 fun e => by (have := hv g e; omega), rT_trc hR h3 fun b hb e => by (have := hv b e; have := hb.1; omega), Nat.le_trans h4 (rT_size hR)⟩
/-- the step of the kids' row -/
theorem prow_step {B0 base size : Nat} {t : TypeId} {v0 v : Value} {n : Nat} {xs : List Tr} {css : List (List Value)} {x : Tr} {w w' : World} {cs : List Value} {B : Nat}
    (hg : w.grownBy w' v0.ownBlock) (hat : v.ownBlock = v0.ownBlock ∨ v.ownBlock = some w.heap.size) (hv : ∀ g, v0.ownBlock = some g → g < B0) (hB0 : base ≤ B0) (hs0 : B0 ≤ w.heap.size)
    (hl : TrL w (Bt base B0 v0.ownBlock) xs css) (hk : TrC w (Bt (B0 + 1) B none) x cs) (hB : B ≤ w.heap.size)
    (ho : w'.ownsRow base t size v n (css ++ [cs]).flatten) : (PRow base size t n xs css x).fact w' v := by
  have hsz := hg.size
  have h1 := (hl.grown hg fun b hb => hb.2.2).imp (Q := Bt base w'.heap.size v.ownBlock) (fun b hb => ⟨hb.1, by have := hb.2.1; omega, by
    rcases hat with h | h
    · rw [h]; exact hb.2.2
    · rw [h]; intro e; cases e; have := hb.2.1; omega⟩)
  have h2 := (hk.grown hg (fun b hb e => by have := hv b e; have := hb.1; omega)).imp (Q := Bt base w'.heap.size v.ownBlock) (fun b hb => ⟨by have := hb.1; omega, by have := hb.2.1; omega, by
    rcases hat with h | h
    · rw [h]; intro e; have := hv b e; have := hb.1; omega
    · rw [h]; intro e; cases e; have := hb.2.1; omega⟩)
  exact ⟨cs, ho, TrL.app h1 (TrL.one h2)⟩
theorem strs_one (l : List (List UInt8)) : ∀ u ∈ strs l, u.oneCell' = true := by
  intro u hu
  obtain ⟨s, _, rfl⟩ := List.mem_map.1 hu
  rfl
theorem TrC.one {w : World} {P : Nat → Prop} {x : Tr} {cs : List Value} (h : TrC w P x cs) : ∀ u ∈ cs, u.oneCell' = true := by
  obtain ⟨nm, ats, ks, t⟩ := x
  unfold TrC at h
  obtain ⟨pa, ca, pk, ck, css, rfl, _⟩ := h
  intro u hu
  rcases List.mem_append.1 hu with hu | hu
  · exact strs_one nm u hu
  · simp only [List.mem_cons, List.not_mem_nil, or_false] at hu
    rcases hu with rfl | rfl | rfl <;> rfl
theorem flat_snoc (css : List (List Value)) (cs : List Value) : (css ++ [cs]).flatten = css.flatten ++ cs := by simp
theorem acells_snoc (l : List (List (List UInt8))) (a : List (List UInt8)) : acells (l ++ [a]) = acells l ++ strs a := by simp [acells]
/-- a row of the call's own lies in its own block -/
theorem owns_rdP {w : World} {base size n : Nat} {e : TypeId} {v : Value} {xs : List Value} (h : w.ownsRow base e size v n xs) :
    ∃ p cap, v = .slice p n cap ∧ n ≤ cap ∧ cap ≤ maxLen ∧ Rd w p xs ∧ ∀ a, p = some a → base ≤ a.block ∧ a.block < w.heap.size := by
  obtain ⟨p, cap, rfl, h1, h2, h3⟩ := owns_rd h
  exact ⟨p, cap, rfl, h1, h2, h3, fun a ha => by subst ha; exact h.lt a.block rfl⟩
end Go.Proofs.YtgmiockaecklaaaGreatDoor
