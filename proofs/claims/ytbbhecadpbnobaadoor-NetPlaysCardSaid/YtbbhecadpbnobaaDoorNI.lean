/-
  Ints: lists of ints, and lists of such, as the walks meet them. No program.
  Bools: lists of bools, as the walks meet them. No program.
-/
import Derived.Test.YtbbhecadpbnobaaDoorNA
import Derived.Deep.DeepHandedRow
import Derived.Lib.LaidTab
import Derived.ChangeSame
namespace Go.Proofs.YtbbhecadpbnobaaDoor
open Go.RowKit Go.ChangeShapes Go.WideShapes Go.ChangeAt

section
variable {H : Type} {enc : TypeId × Value → H} {P : Program} {w : World} {base : Nat} {sp : Nat → Bool} {held : Bool}
/-- a slice whose elements have one cell each: its values, each as told -/
theorem open_row1 {α : Type} {t e : TypeId} {fuel : Nat} {cs : List Value} {x : DataW H × List MemPlace} (Q : Value → α → Prop)
    (ht : P.underlying t = some (.slice e)) (hce : P.cellsOf e = 1) (h : DataW.trod enc P w base sp held fuel t cs = some x)
    (hel : ∀ n v y, DataW.trod enc P w base sp held n e [v] = some y → ∃ a, Q v a) :
    ∃ p cap vs, ∃ l : List α, cs = [.slice p l.length cap] ∧ l.length ≤ cap ∧ cap ≤ maxLen ∧ Rd w p vs ∧ vs.length = l.length ∧ ∀ (i : Nat) v a, vs[i]? = some v → l[i]? = some a → Q v a := by
  rcases Deep.open_slice1 ht hce h with ⟨rfl, _⟩ | ⟨a, len, cap, m, n, V, D, Pl, rfl, _, hlc, hm, hmm, _, hcell⟩
  · exact ⟨none, 0, [], [], rfl, by simp, by unfold maxLen; omega, .inl rfl, rfl, by simp⟩
  · have hlm : len ≤ m := by rw [hmm]; split <;> omega
    by_cases h0 : len = 0
    · subst h0
      exact ⟨some a, cap, [], [], rfl, by simp, hm, .inl rfl, rfl, by simp⟩
    have hne : ∃ a0 : α, True := by
      obtain ⟨a0, _⟩ := hel _ _ _ (hcell 0 (by omega)).2
      exact ⟨a0, trivial⟩
    obtain ⟨a0, _⟩ := hne
    have hall : ∀ i, ∃ y : α, i < m → Q (V i) y := by
      intro i
      by_cases hi : i < m
      · obtain ⟨y, hy⟩ := hel _ _ _ (hcell i hi).2
        exact ⟨y, fun _ => hy⟩
      · exact ⟨a0, fun h => absurd h hi⟩
    obtain ⟨L, hL⟩ := Classical.axiomOfChoice hall
    refine ⟨some a, cap, (List.range len).map V, (List.range len).map L, by simp, by simpa using hlc, hm, ?_, by simp, ?_⟩
    · right
      have h00 := (hcell 0 (by omega)).1
      have hsp : a.spot = none := by
        have : a.add 0 = a := by simp [Addr.add]
        rw [this] at h00
        unfold World.cell? at h00
        split at h00
        · split at h00
          · cases h00
          · rename_i hs; simpa using hs
        · cases h00
      obtain ⟨b, off, s⟩ := a
      simp only at hsp
      subst hsp
      refine ⟨b, off, rfl, fun i u hu => ?_⟩
      simp only [List.getElem?_map, Option.map_eq_some_iff] at hu
      obtain ⟨j, hj, rfl⟩ := hu
      obtain ⟨hi, rfl⟩ := List.getElem?_eq_some_iff.1 hj
      simp only [List.length_range] at hi
      simp only [List.getElem_range]
      have := (hcell i (by omega)).1
      rw [cell_add] at this
      exact this
    · intro i v y hv hy
      simp only [List.getElem?_map, Option.map_eq_some_iff] at hv hy
      obtain ⟨j, hj, rfl⟩ := hv
      obtain ⟨j', hj', rfl⟩ := hy
      obtain rfl : j = j' := Option.some.inj (hj.symm.trans hj')
      obtain ⟨hi, rfl⟩ := List.getElem?_eq_some_iff.1 hj
      simp only [List.length_range] at hi
      simp only [List.getElem_range]
      exact hL i (by omega)
theorem trod_int {n : Nat} {e : TypeId} {k : IntKind} {v : Value} {x : DataW H × List MemPlace}
    (he : P.underlying e = some (.int k)) (h : DataW.trod enc P w base sp held n e [v] = some x) : ∃ y : Int, v = .int k y ∧ (Lit.int k y).wf = true := by
  cases n with
  | zero => simp [DataW.trod] at h
  | succ n =>
    simp only [DataW.trod, he] at h
    split at h
    all_goals rename_i he2 hcs
    all_goals first | (cases h; done) | (cases he2; done) | skip
    all_goals
      first
        | (cases hcs; done)
        | (simp only [TypeDesc.int.injEq, Option.some.injEq] at he2
           subst he2
           simp only [List.cons.injEq, and_true] at hcs
           subst hcs
           split at h
           · rename_i hw
             obtain ⟨rfl, hw⟩ := hw
             exact ⟨_, rfl, hw⟩
           · cases h)
end
def ivs (l : List Int) : List Value := l.map (.int .i64)
theorem ivs_len (l : List Int) : (ivs l).length = l.length := by simp [ivs]
theorem ivs_get (l : List Int) (i : Nat) (h : i < l.length) : (ivs l)[i]? = some (.int .i64 l[i]) := by simp [ivs, h]
theorem ivs_nil (l : List Int) : ivs l = [] ↔ l = [] := by simp [ivs]
theorem ivs_app (l m : List Int) : ivs (l ++ m) = ivs l ++ ivs m := by simp [ivs]
theorem ivs_one {l : List Int} : ∀ u ∈ ivs l, u.oneCell' = true := by
  intro u hu
  obtain ⟨c, _, rfl⟩ := List.mem_map.1 hu
  rfl
/-- THE SLICE VALUE v IS THE LIST l OF INTS in w. -/
def Iv (w : World) (v : Value) (l : List Int) : Prop := ∃ p cap, v = .slice p l.length cap ∧ l.length ≤ cap ∧ cap ≤ maxLen ∧ Rd w p (ivs l)
theorem Iv.below {w w' : World} {v : Value} {l : List Int} (h : Iv w v l) (hb : Below w.heap.size w w') : Iv w' v l := by
  obtain ⟨p, cap, rfl, h1, h2, h3⟩ := h
  exact ⟨p, cap, rfl, h1, h2, h3.below hb⟩
theorem iv_cell {w : World} {p : Option Addr} {l : List Int} (h : Rd w p (ivs l)) {k : Nat} (hk : k < l.length) :
    ∃ b off, p = some ⟨b, off, none⟩ ∧ w.cell? ⟨b, off + k, none⟩ = some (.int .i64 l[k]) := by
  obtain ⟨b, off, hp, hc⟩ := h.has (by rw [Ne, ivs_nil]; intro e; subst e; simp at hk)
  exact ⟨b, off, hp, hc k _ (ivs_get l k hk)⟩
theorem owns_iv {w : World} {base : Nat} {e : TypeId} {v : Value} {l : List Int} (h : w.ownsRow base e 1 v l.length (ivs l)) : Iv w v l := by
  obtain ⟨p, cap, rfl, h1, h2, h3⟩ := owns_rd h
  exact ⟨p, cap, rfl, h1, h2, h3⟩
section
variable {H : Type} {enc : TypeId × Value → H} {P : Program} {w : World} {base : Nat} {sp : Nat → Bool} {held : Bool}
theorem open_ints {t e : TypeId} {fuel : Nat} {cs : List Value} {x : DataW H × List MemPlace}
    (ht : P.underlying t = some (.slice e)) (he : P.underlying e = some (.int .i64)) (hce : P.cellsOf e = 1) (h : DataW.trod enc P w base sp held fuel t cs = some x) :
    ∃ v l, cs = [v] ∧ Iv w v l := by
  obtain ⟨p, cap, vs, l, rfl, h1, h2, h3, h4, h5⟩ := open_row1 (α := Int) (fun v y => v = .int .i64 y) ht hce h (fun n v y hy => by
    obtain ⟨z, hz, _⟩ := trod_int he hy
    exact ⟨z, hz⟩)
  refine ⟨_, l, rfl, p, cap, rfl, h1, h2, ?_⟩
  have : vs = ivs l := by
    apply List.ext_getElem?
    intro i
    by_cases hi : i < l.length
    · rw [ivs_get l i hi, List.getElem?_eq_getElem (by omega)]
      exact congrArg some (h5 i _ _ (List.getElem?_eq_getElem (by omega)) (List.getElem?_eq_getElem hi))
    · rw [List.getElem?_eq_none (by omega), List.getElem?_eq_none (by rw [ivs_len]; omega)]
  rw [← this]
  exact h3
/-- a list of lists of ints -/
def Ivv (w : World) (v : Value) (l : List (List Int)) : Prop :=
  ∃ p cap vs, v = .slice p l.length cap ∧ l.length ≤ cap ∧ cap ≤ maxLen ∧ Rd w p vs ∧ vs.length = l.length ∧ ∀ (i : Nat) v y, vs[i]? = some v → l[i]? = some y → Iv w v y
theorem open_intss {t t' e : TypeId} {fuel : Nat} {cs : List Value} {x : DataW H × List MemPlace}
    (ht : P.underlying t = some (.slice t')) (hct : P.cellsOf t' = 1) (ht' : P.underlying t' = some (.slice e)) (he : P.underlying e = some (.int .i64)) (hce : P.cellsOf e = 1) (h : DataW.trod enc P w base sp held fuel t cs = some x) :
    ∃ v l, cs = [v] ∧ Ivv w v l := by
  obtain ⟨p, cap, vs, l, rfl, h1, h2, h3, h4, h5⟩ := open_row1 (α := List Int) (fun v y => Iv w v y) ht hct h (fun n v y hy => by
    obtain ⟨v', l, hv, hl⟩ := open_ints ht' he hce hy
    cases hv
    exact ⟨l, hl⟩)
  exact ⟨_, l, rfl, p, cap, vs, rfl, h1, h2, h3, h4, h5⟩
end
end Go.Proofs.YtbbhecadpbnobaaDoor

namespace Go.Proofs.YtbbhecadpbnobaaDoor
open Go.RowKit Go.ChangeShapes Go.WideShapes Go.ChangeAt

section
variable {H : Type} {enc : TypeId × Value → H} {P : Program} {w : World} {base : Nat} {sp : Nat → Bool} {held : Bool}
theorem trod_bool {n : Nat} {e : TypeId} {v : Value} {x : DataW H × List MemPlace}
    (he : P.underlying e = some .bool) (h : DataW.trod enc P w base sp held n e [v] = some x) : ∃ y : Bool, v = .bool y := by
  cases n with
  | zero => simp [DataW.trod] at h
  | succ n =>
    simp only [DataW.trod, he] at h
    split at h
    all_goals rename_i he2 hcs
    all_goals first | (cases h; done) | (cases he2; done) | skip
    all_goals
      first
        | (cases hcs; done)
        | (simp only [List.cons.injEq, and_true] at hcs
           subst hcs
           exact ⟨_, rfl⟩)
end
def bbs (l : List Bool) : List Value := l.map .bool
theorem bbs_get (l : List Bool) (i : Nat) (h : i < l.length) : (bbs l)[i]? = some (.bool l[i]) := by simp [bbs, h]
theorem bbs_nil (l : List Bool) : bbs l = [] ↔ l = [] := by simp [bbs]
/-- THE SLICE VALUE v IS THE LIST l OF BOOLS in w. -/
def Bv (w : World) (v : Value) (l : List Bool) : Prop := ∃ p cap, v = .slice p l.length cap ∧ l.length ≤ cap ∧ cap ≤ maxLen ∧ Rd w p (bbs l)
theorem Bv.below {w w' : World} {v : Value} {l : List Bool} (h : Bv w v l) (hb : Below w.heap.size w w') : Bv w' v l := by
  obtain ⟨p, cap, rfl, h1, h2, h3⟩ := h
  exact ⟨p, cap, rfl, h1, h2, h3.below hb⟩
theorem bb_cell {w : World} {p : Option Addr} {l : List Bool} (h : Rd w p (bbs l)) {k : Nat} (hk : k < l.length) :
    ∃ b off, p = some ⟨b, off, none⟩ ∧ w.cell? ⟨b, off + k, none⟩ = some (.bool l[k]) := by
  obtain ⟨b, off, hp, hc⟩ := h.has (by rw [Ne, bbs_nil]; intro e; subst e; simp at hk)
  exact ⟨b, off, hp, hc k _ (bbs_get l k hk)⟩
section
variable {H : Type} {enc : TypeId × Value → H} {P : Program} {w : World} {base : Nat} {sp : Nat → Bool} {held : Bool}
theorem open_bools {t e : TypeId} {fuel : Nat} {cs : List Value} {x : DataW H × List MemPlace}
    (ht : P.underlying t = some (.slice e)) (he : P.underlying e = some .bool) (hce : P.cellsOf e = 1) (h : DataW.trod enc P w base sp held fuel t cs = some x) :
    ∃ v l, cs = [v] ∧ Bv w v l := by
  obtain ⟨p, cap, vs, l, rfl, h1, h2, h3, h4, h5⟩ := open_row1 (α := Bool) (fun v y => v = .bool y) ht hce h (fun n v y hy => trod_bool he hy)
  refine ⟨_, l, rfl, p, cap, rfl, h1, h2, ?_⟩
  have : vs = bbs l := by
    apply List.ext_getElem?
    intro i
    by_cases hi : i < l.length
    · rw [bbs_get l i hi, List.getElem?_eq_getElem (by omega)]
      exact congrArg some (h5 i _ _ (List.getElem?_eq_getElem (by omega)) (List.getElem?_eq_getElem hi))
    · rw [List.getElem?_eq_none (by omega), List.getElem?_eq_none (by simp [bbs]; omega)]
  rw [← this]
  exact h3
end
end Go.Proofs.YtbbhecadpbnobaaDoor
