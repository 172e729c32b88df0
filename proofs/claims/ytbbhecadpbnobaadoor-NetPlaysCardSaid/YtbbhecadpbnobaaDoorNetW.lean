/-
  NetW: the walks of a net's methods: add.
-/
import Derived.Test.YtbbhecadpbnobaaDoorNetM
namespace Go.Proofs.YtbbhecadpbnobaaDoor
open Go.RowKit
attribute [local irreducible] wpPhiU

/-- what an operation at the place j may turn: the append (at 8) the row v of n letters; any other nothing -/
def rAddL (v : Value) (n j : Nat) (w w' : World) : Prop :=
  if j = 8 then (∃ xs, w.ownsRow 0 37 3 v n xs) ∧ w.grownBy w' v.ownBlock else Below w.heap.size w w'
section
variable {v : Value} {n j : Nat} {w w' : World}
theorem rAddL_8 : rAddL v n 8 w w' = ((∃ xs, w.ownsRow 0 37 3 v n xs) ∧ w.grownBy w' v.ownBlock) := by unfold rAddL; rw [if_pos rfl]
theorem rAddL_o (h : j ≠ 8) : rAddL v n j w w' = Below w.heap.size w w' := by unfold rAddL; rw [if_neg h]
theorem rAddL_blkne {t : TypeId} {g : Nat} {cs : Array Value} (h : rAddL v n j w w') (hb : Blk w g t cs) (hne : ∀ q, v.ownBlock = some q → q ≠ g) : Blk w' g t cs := by
  unfold rAddL at h
  split at h
  · exact (h.2.block g hb.lt fun e => hne g e.symm rfl).trans hb
  · exact hb.below h hb.lt
theorem rAddL_but {S : List Nat} {a : World} (h : rAddL v n j w w') (hb : But S a w) (hq : ∀ g, v.ownBlock = some g → g ∈ S ∨ a.heap.size ≤ g) : But S a w' := by
  unfold rAddL at h
  split at h
  · exact hb.grown_nx h.2 hq
  · exact hb.trans (But.of_below h)
theorem rAddL_size (h : rAddL v n j w w') : w.heap.size ≤ w'.heap.size := by
  unfold rAddL at h
  split at h
  · exact h.2.size
  · exact h.size
end
/-- the letters, with their values -/
def LetU (w : World) (v : Value) (xs : List (Lt × Value)) : Prop := w.ownsRow 0 37 3 v xs.length (cel xs) ∧ ∀ x ∈ xs, w.ownsRow 0 5 1 x.2 x.1.2.2.length (bvs x.1.2.2)
theorem LetU.below {w w' : World} {v : Value} {xs : List (Lt × Value)} (h : LetU w v xs) (k : Below w.heap.size w w') : LetU w' v xs := ⟨owns_below h.1 k, fun x hx => owns_below (h.2 x hx) k⟩
def PLetC (B : Nat) (f t : Int) (l : List UInt8) : Part := ⟨fun v => ∃ p c, v = .agg #[.int .i64 f, .int .i64 t, .slice p l.length c], fun w v => ∀ u, v = .agg #[.int .i64 f, .int .i64 t, u] → w.ownsRow B 5 1 u l.length (bvs l)⟩
def PLet1 (B : Nat) (f t : Int) (l : List UInt8) : Part := ⟨fun v => ∃ g, v = .slice (some ⟨g, 0, none⟩) 1 1, fun w v => ∀ g, v = .slice (some ⟨g, 0, none⟩) 1 1 → B ≤ g ∧ ∃ u, Blk w g 37 #[.int .i64 f, .int .i64 t, u] ∧ w.ownsRow B 5 1 u l.length (bvs l)⟩
def PLets (wx : World) (v : Value) (k : Nat) (xs0 : List (Lt × Value)) (y : Lt) : Part := ⟨fun v' => ∃ p c, v' = .slice p k c, fun w v' => ∃ u, (∀ g, u.ownBlock = some g → wx.heap.size ≤ g) ∧ LetU w v' (xs0 ++ [(y, u)]) ∧ Nx wx v.ownBlock v'.ownBlock⟩
/-- the call gives r; the net is st -/
def NOut (n b : Nat) (p : Option Nat) (c : Nat) (st : NSt) (r : Value) (w : World) (e : Ending) (w' : World) : Prop :=
  e = .returned r ∧ (∃ p', Nx w p p' ∧ Nn w' n b p' c st) ∧ But (nS n b p) w w'
theorem NOut.same {n b : Nat} {p : Option Nat} {c : Nat} {st : NSt} {r : Value} {w w' : World} (h : Nn w n b p c st) (k : Below w.heap.size w w') : NOut n b p c st r w (.returned r) w' :=
  ⟨rfl, ⟨p, .inl rfl, h.below k⟩, But.of_below k⟩
theorem Nn.types {w : World} {n b : Nat} {p : Option Nat} {c : Nat} {st : NSt} (h : Nn w n b p c st) : (∃ cs, Blk w n 70 cs) ∧ (∀ g, p = some g → ∃ cs, Blk w g 37 cs) ∧ b ≠ n ∧ (∀ g, p = some g → b ≠ g) ∧ ∀ g t cs, Blk w g t cs → b ≠ g := by
  obtain ⟨⟨v, xs, rfl, _, h3, h4, _⟩, h6⟩ := h
  obtain ⟨D, ⟨es, clock, hb, _⟩, _⟩ := h6
  have hne : ∀ g t cs, Blk w g t cs → b ≠ g := fun g t cs h e => by
    subst e
    unfold Blk at h
    rw [hb] at h
    cases h
  have hp : ∀ g, v.ownBlock = some g → ∃ cs, Blk w g 37 cs := fun g hg => by
    rcases h4.2 with ⟨h0, _⟩ | ⟨g9, cap, cur, h0, _, hh, _⟩
    · rw [h0] at hg; cases hg
    · rw [h0] at hg
      cases hg
      exact ⟨cur, hh⟩
  exact ⟨⟨_, h3⟩, hp, hne _ _ _ h3, fun g hg => by obtain ⟨cs, hcs⟩ := hp g hg; exact hne _ _ _ hcs, hne⟩
theorem Nn.lt {w : World} {n b : Nat} {p : Option Nat} {c : Nat} {st : NSt} (h : Nn w n b p c st) : ∀ g ∈ nS n b p, g < w.heap.size := by
  obtain ⟨⟨cn, tn⟩, tp, _⟩ := h.types
  intro g hg
  rcases mem_nS.1 hg with rfl | rfl | hg
  · exact tn.lt
  · exact h.map.lt
  · obtain ⟨cs, hcs⟩ := tp g hg
    exact hcs.lt
/-- other letters are stored -/
theorem Nn.stored {w w1 : World} {n b : Nat} {p : Option Nat} {c : Nat} {st : NSt} {v' : Value} {xs : List (Lt × Value)} (h : Nn w n b p c st) (k : But p.toList w w1) (hu : LetU w1 v' xs) (hnx : Nx w p v'.ownBlock) (ls : List Lt) (hls : xs.map (·.1) = ls) :
    Nn (w1.setCell ⟨n, 1, none⟩ v') n b v'.ownBlock c ⟨st.nodes, ls, st.cuts, st.lost⟩ ∧ But (nS n b p) w (w1.setCell ⟨n, 1, none⟩ v') := by
  obtain ⟨⟨cn, tn⟩, tp, hbn, hbp, _⟩ := h.types
  obtain ⟨⟨v, xs0, rfl, _, h3, h4, _⟩, h6⟩ := h
  have hnp : v.ownBlock.toList.contains n = false := by
    rw [Bool.eq_false_iff]
    intro hc
    obtain ⟨cs, hcs⟩ := tp n (by simpa using hc)
    exact Blk.ne_ hcs tn (by decide) rfl
  have hb1 := k.blk h3 hnp
  have k2 : But [n] w1 (w1.setCell ⟨n, 1, none⟩ v') := (but_refl _ _).set_ n 1 _ (by simp)
  have hno : ∀ (base size m : Nat) (e : TypeId) (u : Value) (ys : List Value), w1.ownsRow base e size u m ys → e ≠ 70 → ∀ g, u.ownBlock = some g → [n].contains g = false := fun base size m e u ys ho hne g hg => by
    rcases ho.2 with ⟨h0, _⟩ | ⟨g9, cap, cur, h0, _, hh, _⟩
    · rw [h0] at hg; cases hg
    · rw [h0] at hg
      cases hg
      have := Blk.ne_ (show Blk w1 g9 e cur from hh) hb1 hne
      simpa using this
  refine ⟨⟨⟨v', xs, rfl, hls, hb1.set_ 1 v', k2.owns2 (hno _ _ _ _ _ _ hu.1 (by decide)) hu.1, fun x hx => k2.owns2 (hno _ _ _ _ _ _ (hu.2 x hx) (by decide)) (hu.2 x hx)⟩, ?_⟩, ?_⟩
  · refine (h6.but k ?_).but k2 (by simpa using hbn)
    rw [Bool.eq_false_iff]
    intro hc
    exact hbp b (by simpa using hc) rfl
  · have k3 : But (nS n b v.ownBlock) w w1 := ⟨k.os, k.tape, k.output, k.size, fun g hg hn => k.block g hg (by
      rw [Bool.eq_false_iff] at hn ⊢
      exact fun hc => hn (List.contains_iff_mem.2 (mem_nS.2 (.inr (.inr (by simpa using hc))))))⟩
    exact k3.set_ n 1 v' (List.contains_iff_mem.2 (mem_nS.2 (.inl rfl)))
/-- no data of the net's letters lies in X -/
def Av (X : List Nat) (w : World) (n : Nat) : Prop :=
  ∃ cs v xs, Blk w n 70 cs ∧ cs[1]? = some v ∧ w.ownsRow 0 37 3 v xs.length (cel xs) ∧ (∀ x ∈ xs, w.ownsRow 0 5 1 x.2 x.1.2.2.length (bvs x.1.2.2)) ∧ ∀ x ∈ xs, ∀ g ∈ X, x.2.ownBlock ≠ some g
theorem Av.below {X : List Nat} {w w' : World} {n : Nat} (h : Av X w n) (k : Below w.heap.size w w') : Av X w' n := by
  obtain ⟨cs, v, xs, h1, h2, h3, h4, h5⟩ := h
  exact ⟨cs, v, xs, h1.below k h1.lt, h2, owns_below h3 k, fun x hx => owns_below (h4 x hx) k, h5⟩
theorem Av.nothing {w : World} {n b : Nat} {p : Option Nat} {c : Nat} {st : NSt} (h : Nn w n b p c st) {X : List Nat} (hX : ∀ g ∈ X, w.heap.size ≤ g) : Av X w n := by
  obtain ⟨v, xs, h1, h2, h3, h4, h5⟩ := h.ex
  refine ⟨_, v, xs, h3, rfl, h4, h5, fun x hx g hg hxg => ?_⟩
  have := ((h5 x hx).lt g hxg).2
  have := hX g hg
  omega
/-- the letters that the net says are those that Av says -/
theorem Av.at_ {X : List Nat} {w : World} {n : Nat} (h : Av X w n) {a z lo : Value} {v : Value} {xs : List (Lt × Value)} (hb : Blk w n 70 #[a, v, z, lo]) (ho : w.ownsRow 0 37 3 v xs.length (cel xs)) : ∀ x ∈ xs, ∀ g ∈ X, x.2.ownBlock ≠ some g := by
  obtain ⟨cs, v', ys, h1, h2, h3, h4, h5⟩ := h
  have hcs : cs = #[a, v, z, lo] := by
    have := h1.symm.trans hb
    simpa using this
  subst hcs
  obtain rfl : v = v' := by simpa using h2
  have hlen : xs.length = ys.length := by
    obtain ⟨p1, c1, e1, _⟩ := owns_rd ho
    obtain ⟨p2, c2, e2, _⟩ := owns_rd h3
    rw [e1] at e2
    simp only [Value.slice.injEq] at e2
    exact e2.2.1
  have hcel : cel xs = cel ys := by
    rcases ho.2 with ⟨_, h0⟩ | ⟨g, cap, cur, hv, _, hh, _, _, _, ht⟩
    · have : xs = [] := List.length_eq_zero_iff.1 h0
      have : ys = [] := List.length_eq_zero_iff.1 (by omega)
      simp_all
    · rcases h3.2 with ⟨hv', _⟩ | ⟨g', cap', cur', hv', _, hh', _, _, _, ht'⟩
      · rw [hv] at hv'; cases hv'
      · rw [hv] at hv'
        simp only [Value.slice.injEq, Option.some.injEq, Addr.mk.injEq] at hv'
        obtain ⟨⟨rfl, _⟩, _, rfl⟩ := hv'
        rw [hh] at hh'
        simp only [Option.some.injEq, Obj.cells.injEq] at hh'
        obtain ⟨rfl, _⟩ := hh'
        rw [← ht, ← ht', hlen]
  intro x hx g hg
  obtain ⟨i, hi, rfl⟩ := List.getElem_of_mem hx
  obtain ⟨_, _, y2⟩ := cel_get xs i hi
  obtain ⟨_, _, z2⟩ := cel_get ys i (by omega)
  rw [hcel] at y2
  have : xs[i].2 = ys[i].2 := Option.some.inj (y2.symm.trans z2)
  rw [this]
  exact h5 _ (List.getElem_mem _) g hg
/-- what lies in old blocks stays apart from the net's data -/
def AvK (w : World) (n : Nat) (w' : World) : Prop := ∀ X : List Nat, (∀ g ∈ X, g < w.heap.size) → Av X w n → Av X w' n
theorem AvK.of_below {w w' : World} {n : Nat} (k : Below w.heap.size w w') : AvK w n w' := fun _ _ h => h.below k
theorem AvK.trans {w w1 w2 : World} {n : Nat} (h : AvK w n w1) (hs : w.heap.size ≤ w1.heap.size) (k : AvK w1 n w2) : AvK w n w2 := fun X hX ha => k X (fun g hg => Nat.lt_of_lt_of_le (hX g hg) hs) (h X hX ha)
theorem AvK.setlost {w : World} {n : Nat} (x : Value) : AvK w n (w.setCell ⟨n, 3, none⟩ x) := fun X _ h => by
  obtain ⟨cs, v, xs, h1, h2, h3, h4, h5⟩ := h
  have k2 : But [n] w (w.setCell ⟨n, 3, none⟩ x) := (but_refl _ _).set_ n 3 _ (by simp)
  have hno : ∀ (base size m : Nat) (e : TypeId) (u : Value) (ys : List Value), w.ownsRow base e size u m ys → e ≠ 70 → ∀ g, u.ownBlock = some g → [n].contains g = false := fun base size m e u ys ho hne g hg => by
    rcases ho.2 with ⟨h0, _⟩ | ⟨g9, cap, cur, h0, _, hh, _⟩
    · rw [h0] at hg; cases hg
    · rw [h0] at hg
      cases hg
      have := Blk.ne_ (show Blk w _ e cur from hh) h1 hne
      simpa using this
  exact ⟨_, v, xs, h1.set_ 3 x, by rw [Array.getElem?_setIfInBounds_ne (by omega)]; exact h2, k2.owns2 (hno _ _ _ _ _ _ h3 (by decide)) h3, fun y hy => k2.owns2 (hno _ _ _ _ _ _ (h4 y hy) (by decide)) (h4 y hy), h5⟩
theorem AvK.stored {w w1 : World} {n : Nat} {v v' z a lo : Value} {xs : List (Lt × Value)} {y : Lt} {u : Value} (hb : Blk w n 70 #[a, v, z, lo]) (ho : w.ownsRow 0 37 3 v xs.length (cel xs)) (hb1 : Blk w1 n 70 #[a, v, z, lo]) (hu : LetU w1 v' (xs ++ [(y, u)])) (hn : ∀ g, u.ownBlock = some g → w.heap.size ≤ g) :
    AvK w n (w1.setCell ⟨n, 1, none⟩ v') := fun X hX h => by
  have hav := h.at_ hb ho
  have k2 : But [n] w1 (w1.setCell ⟨n, 1, none⟩ v') := (but_refl _ _).set_ n 1 _ (by simp)
  have hno : ∀ (base size m : Nat) (e : TypeId) (u : Value) (ys : List Value), w1.ownsRow base e size u m ys → e ≠ 70 → ∀ g, u.ownBlock = some g → [n].contains g = false := fun base size m e u ys ho hne g hg => by
    rcases ho.2 with ⟨h0, _⟩ | ⟨g9, cap, cur, h0, _, hh, _⟩
    · rw [h0] at hg; cases hg
    · rw [h0] at hg
      cases hg
      have := Blk.ne_ (show Blk w1 _ e cur from hh) hb1 hne
      simpa using this
  refine ⟨_, v', _, hb1.set_ 1 v', rfl, k2.owns2 (hno _ _ _ _ _ _ hu.1 (by decide)) hu.1, fun x hx => k2.owns2 (hno _ _ _ _ _ _ (hu.2 x hx) (by decide)) (hu.2 x hx), fun x hx g hg => ?_⟩
  rcases List.mem_append.1 hx with hx | hx
  · exact hav x hx g hg
  · obtain rfl : x = (y, u) := by simpa using hx
    intro he
    have := hn g he
    have := hX g hg
    omega
end Go.Proofs.YtbbhecadpbnobaaDoor
