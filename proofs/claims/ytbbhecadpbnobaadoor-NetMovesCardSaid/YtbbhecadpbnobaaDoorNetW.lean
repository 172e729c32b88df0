/-
  NetW: the walks of a net's methods: add.
-/
import Derived.Test.YtbbhecadpbnobaaDoorNetM
namespace Go.Proofs.YtbbhecadpbnobaaDoor
open Go.RowKit
attribute [local irreducible] wpPhiU

/-- what an operation at the place j may turn: the append (at 8) the row v of n letters; any other nothing -/
def rAddL (v : Value) (n j : Nat) (w w' : World) : Prop :=
  if j = 8 then (∃ xs, w.ownsRow 0 37 3 v n xs) ∧ w.grownBy w' v.ownBlock else Below w.heap.size w w'
section
variable {v : Value} {n j : Nat} {w w' : World}
theorem rAddL_8 : rAddL v n 8 w w' = ((∃ xs, w.ownsRow 0 37 3 v n xs) ∧ w.grownBy w' v.ownBlock) := by unfold rAddL; rw [if_pos rfl]
theorem rAddL_o (h : j ≠ 8) : rAddL v n j w w' = Below w.heap.size w w' := by unfold rAddL; rw [if_neg h]
theorem rAddL_blkne {t : TypeId} {g : Nat} {cs : Array Value} (h : rAddL v n j w w') (hb : Blk w g t cs) (hne : ∀ q, v.ownBlock = some q → q ≠ g) : Blk w' g t cs := by
  unfold rAddL at h
  split at h
  · exact (h.2.block g hb.lt fun e => hne g e.symm rfl).trans hb
  · exact hb.below h hb.lt
theorem rAddL_but {S : List Nat} {a : World} (h : rAddL v n j w w') (hb : But S a w) (hq : ∀ g, v.ownBlock = some g → g ∈ S ∨ a.heap.size ≤ g) : But S a w' := by
  unfold rAddL at h
  split at h
  · exact hb.grown_nx h.2 hq
  · exact hb.trans (But.of_below h)
theorem rAddL_size (h : rAddL v n j w w') : w.heap.size ≤ w'.heap.size := by
  unfold rAddL at h
  split at h
  · exact h.2.size
  · exact h.size
end
/-- the letters, with their values -/
def LetU (w : World) (v : Value) (xs : List (Lt × Value)) : Prop := w.ownsRow 0 37 3 v xs.length (cel xs) ∧ ∀ x ∈ xs, w.ownsRow 0 5 1 x.2 x.1.2.2.length (bvs x.1.2.2)
theorem LetU.below {w w' : World} {v : Value} {xs : List (Lt × Value)} (h : LetU w v xs) (k : Below w.heap.size w w') : LetU w' v xs := ⟨owns_below h.1 k, fun x hx => owns_below (h.2 x hx) k⟩
def PLetC (B : Nat) (f t : Int) (l : List UInt8) : Part := ⟨fun v => ∃ p c, v = .agg #[.int .i64 f, .int .i64 t, .slice p l.length c], fun w v => ∀ u, v = .agg #[.int .i64 f, .int .i64 t, u] → w.ownsRow B 5 1 u l.length (bvs l)⟩
def PLet1 (B : Nat) (f t : Int) (l : List UInt8) : Part := ⟨fun v => ∃ g, v = .slice (some ⟨g, 0, none⟩) 1 1, fun w v => ∀ g, v = .slice (some ⟨g, 0, none⟩) 1 1 → B ≤ g ∧ ∃ u, Blk w g 37 #[.int .i64 f, .int .i64 t, u] ∧ w.ownsRow B 5 1 u l.length (bvs l)⟩
def PLets (wx : World) (v : Value) (k : Nat) (ys : List Lt) : Part := ⟨fun v' => ∃ p c, v' = .slice p k c, fun w v' => ∃ xs, xs.map (·.1) = ys ∧ LetU w v' xs ∧ Nx wx v.ownBlock v'.ownBlock⟩
/-- the call gives r; the net is st -/
def NOut (n b : Nat) (p : Option Nat) (c : Nat) (st : NSt) (r : Value) (w : World) (e : Ending) (w' : World) : Prop :=
  e = .returned r ∧ (∃ p', Nx w p p' ∧ Nn w' n b p' c st) ∧ But (nS n b p) w w'
theorem NOut.same {n b : Nat} {p : Option Nat} {c : Nat} {st : NSt} {r : Value} {w w' : World} (h : Nn w n b p c st) (k : Below w.heap.size w w') : NOut n b p c st r w (.returned r) w' :=
  ⟨rfl, ⟨p, .inl rfl, h.below k⟩, But.of_below k⟩
theorem Nn.types {w : World} {n b : Nat} {p : Option Nat} {c : Nat} {st : NSt} (h : Nn w n b p c st) : (∃ cs, Blk w n 70 cs) ∧ (∀ g, p = some g → ∃ cs, Blk w g 37 cs) ∧ b ≠ n ∧ (∀ g, p = some g → b ≠ g) ∧ ∀ g t cs, Blk w g t cs → b ≠ g := by
  obtain ⟨⟨v, xs, rfl, _, h3, h4, _⟩, h6⟩ := h
  obtain ⟨D, ⟨es, clock, hb, _⟩, _⟩ := h6
  have hne : ∀ g t cs, Blk w g t cs → b ≠ g := fun g t cs h e => by
    subst e
    unfold Blk at h
    rw [hb] at h
    cases h
  have hp : ∀ g, v.ownBlock = some g → ∃ cs, Blk w g 37 cs := fun g hg => by
    rcases h4.2 with ⟨h0, _⟩ | ⟨g9, cap, cur, h0, _, hh, _⟩
    · rw [h0] at hg; cases hg
    · rw [h0] at hg
      cases hg
      exact ⟨cur, hh⟩
  exact ⟨⟨_, h3⟩, hp, hne _ _ _ h3, fun g hg => by obtain ⟨cs, hcs⟩ := hp g hg; exact hne _ _ _ hcs, hne⟩
theorem Nn.lt {w : World} {n b : Nat} {p : Option Nat} {c : Nat} {st : NSt} (h : Nn w n b p c st) : ∀ g ∈ nS n b p, g < w.heap.size := by
  obtain ⟨⟨cn, tn⟩, tp, _⟩ := h.types
  intro g hg
  rcases mem_nS.1 hg with rfl | rfl | hg
  · exact tn.lt
  · exact h.map.lt
  · obtain ⟨cs, hcs⟩ := tp g hg
    exact hcs.lt
/-- other letters are stored -/
theorem Nn.stored {w w1 : World} {n b : Nat} {p : Option Nat} {c : Nat} {st : NSt} {v' : Value} {xs : List (Lt × Value)} (h : Nn w n b p c st) (k : But p.toList w w1) (hu : LetU w1 v' xs) (hnx : Nx w p v'.ownBlock) (ls : List Lt) (hls : xs.map (·.1) = ls) :
    Nn (w1.setCell ⟨n, 1, none⟩ v') n b v'.ownBlock c ⟨st.nodes, ls, st.cuts, st.lost⟩ ∧ But (nS n b p) w (w1.setCell ⟨n, 1, none⟩ v') := by
  obtain ⟨⟨cn, tn⟩, tp, hbn, hbp, _⟩ := h.types
  obtain ⟨⟨v, xs0, rfl, _, h3, h4, _⟩, h6⟩ := h
  have hnp : v.ownBlock.toList.contains n = false := by
    rw [Bool.eq_false_iff]
    intro hc
    obtain ⟨cs, hcs⟩ := tp n (by simpa using hc)
    exact Blk.ne_ hcs tn (by decide) rfl
  have hb1 := k.blk h3 hnp
  have k2 : But [n] w1 (w1.setCell ⟨n, 1, none⟩ v') := (but_refl _ _).set_ n 1 _ (by simp)
  have hno : ∀ (base size m : Nat) (e : TypeId) (u : Value) (ys : List Value), w1.ownsRow base e size u m ys → e ≠ 70 → ∀ g, u.ownBlock = some g → [n].contains g = false := fun base size m e u ys ho hne g hg => by
    rcases ho.2 with ⟨h0, _⟩ | ⟨g9, cap, cur, h0, _, hh, _⟩
    · rw [h0] at hg; cases hg
    · rw [h0] at hg
      cases hg
      have := Blk.ne_ (show Blk w1 g9 e cur from hh) hb1 hne
      simpa using this
  refine ⟨⟨⟨v', xs, rfl, hls, hb1.set_ 1 v', k2.owns2 (hno _ _ _ _ _ _ hu.1 (by decide)) hu.1, fun x hx => k2.owns2 (hno _ _ _ _ _ _ (hu.2 x hx) (by decide)) (hu.2 x hx)⟩, ?_⟩, ?_⟩
  · refine (h6.but k ?_).but k2 (by simpa using hbn)
    rw [Bool.eq_false_iff]
    intro hc
    exact hbp b (by simpa using hc) rfl
  · have k3 : But (nS n b v.ownBlock) w w1 := ⟨k.os, k.tape, k.output, k.size, fun g hg hn => k.block g hg (by
      rw [Bool.eq_false_iff] at hn ⊢
      exact fun hc => hn (List.contains_iff_mem.2 (mem_nS.2 (.inr (.inr (by simpa using hc))))))⟩
    exact k3.set_ n 1 v' (List.contains_iff_mem.2 (mem_nS.2 (.inl rfl)))
end Go.Proofs.YtbbhecadpbnobaaDoor
