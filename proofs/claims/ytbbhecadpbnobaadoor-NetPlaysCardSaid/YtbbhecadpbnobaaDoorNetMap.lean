/-
  NetMap: a map from ways to bools.
-/
import Derived.Test.YtbbhecadpbnobaaDoorNA
import Derived.Maps.OwnSet
import Derived.DeepKeys4
namespace Go.Proofs.YtbbhecadpbnobaaDoor
open Go.RowKit

theorem mapLaid : laidOutB Tryd.prog = true := by kernel_rfl
theorem wayKeyed : Maps.Keyed Tryd.prog 72 :=
  Maps.Keyed.of_law (deep_law_laid mapLaid (m := 2) (by omega) (of_decide_eq_true (by kernel_rfl)) (by kernel_rfl) (by rw [Tryd.underlying72]))
def wayV (a c : Int) : Value := .agg #[.int .i64 a, .int .i64 c]
def In64 (a : Int) : Prop := -9223372036854775808 ≤ a ∧ a ≤ 9223372036854775807
theorem wf_in {a : Int} (h : In64 a) : (Lit.int .i64 a).wf = true := by
  unfold In64 at h
  exact WalkArith.wf_i64 (by omega)
theorem way_key (a c : Int) (ha : In64 a) (hc : In64 c) : ∃ kl, keyOf Tryd.prog 72 (wayV a c) = some kl := by
  have hk : Tryd.prog.keyType 72 = true := by kernel_rfl
  have hf : (wayV a c).formed Tryd.prog 72 = true := by kernel_rfl
  have hl : ∃ ls, Tryd.prog.keyLits (Tryd.prog.types.size + 1) 72 (wayV a c).cells.toList = some ls := by
    have hpos : 0 < Tryd.prog.types.size := of_decide_eq_true (by kernel_rfl)
    obtain ⟨d, hd⟩ := Nat.exists_eq_succ_of_ne_zero (Nat.ne_of_gt hpos)
    have c1 : Tryd.prog.cellsOf 72 = 2 := by kernel_rfl
    have c2 : Tryd.prog.cellsOf 3 = 1 := by kernel_rfl
    have w1 := wf_in ha
    have w2 := wf_in hc
    rw [hd]
    have hr : List.range 2 = [0, 1] := by decide
    have ha' : Tryd.prog.keyLits (d + 1) 3 [.int .i64 a] = some [.int .i64 a] := by
      simp [Program.keyLits, Tryd.underlying3, w1]
    have hc' : Tryd.prog.keyLits (d + 1) 3 [.int .i64 c] = some [.int .i64 c] := by
      simp [Program.keyLits, Tryd.underlying3, w2]
    have e0 : Tryd.prog.keyLits (d + 1 + 1) 72 [.int .i64 a, .int .i64 c] = ((List.range 2).mapM fun i => Tryd.prog.keyLits (d + 1) 3 (([.int .i64 a, .int .i64 c].drop (i * Tryd.prog.cellsOf 3)).take (Tryd.prog.cellsOf 3))).map List.flatten := by
      conv => lhs; unfold Program.keyLits
      rw [Tryd.underlying72]
      simp [c1]
    refine ⟨[.int .i64 a, .int .i64 c], e0.trans ?_⟩
    rw [hr, c2]
    simp [ha', hc']
  obtain ⟨ls, hl⟩ := hl
  unfold keyOf
  rw [Tryd.underlying72]
  simp only [hk, hf, Bool.and_self, if_true, hl, Option.map_some]
  exact ⟨_, rfl⟩
/-- block b is a map that tells f; it has at most n entries -/
def MapW (w : World) (b n : Nat) (f : Int → Int → Bool) : Prop :=
  ∃ D : DataW Unit, w.ownsMap Tryd.prog 72 (plainElem Tryd.prog 4) b n D ∧
    ∀ a c kl, In64 a → In64 c → keyOf Tryd.prog 72 (wayV a c) = some kl → D.atKey kl (.lit (.bool false)) = .lit (.bool (f a c))
theorem wayV_inj {a c a' c' : Int} (h : wayV a c = wayV a' c') : a = a' ∧ c = c' := by
  unfold wayV at h
  simp only [Value.agg.injEq] at h
  have h0 := congrArg (fun x : Array Value => x[0]?) h
  have h1 := congrArg (fun x : Array Value => x[1]?) h
  simp at h0 h1
  exact ⟨h0, h1⟩
theorem mapw_made (w : World) : MapW (w.alloc (.map #[] 0)) w.heap.size 0 (fun _ _ => false) :=
  ⟨_, World.ownsMap_made w _ _ _, fun a c kl _ _ _ => rfl⟩
theorem MapW.lt {w : World} {b n : Nat} {f : Int → Int → Bool} (h : MapW w b n f) : b < w.heap.size := by
  obtain ⟨D, h1, _⟩ := h
  exact h1.lt
theorem MapW.but {S : List Nat} {w w' : World} {b n : Nat} {f : Int → Int → Bool} (h : MapW w b n f) (k : But S w w') (hn : S.contains b = false) : MapW w' b n f := by
  obtain ⟨D, ⟨es, clock, hb, F, hs, hD⟩, h2⟩ := h
  exact ⟨D, ⟨es, clock, (k.block b (Array.getElem?_eq_some_iff.1 hb).1 hn).trans hb, F, hs, hD⟩, h2⟩
set_option maxRecDepth 20000 in
theorem zero_bool (w : World) : (zeroValue 4).run Tryd.prog w = .ok (.bool false) w := by kernel_rfl
theorem plainElem_bool_inv {P : Program} {e : TypeId} (he : P.underlying e = some .bool) {v : Value} {z : DataW Unit × List MemPlace} (h : plainElem P e v = some z) : ∃ x, v = .bool x ∧ z = (.lit (.bool x), []) := by
  unfold plainElem at h
  rw [he] at h
  cases v <;> simp at h
  exact ⟨_, rfl, h.symm⟩
theorem MapW.look {w : World} {b n : Nat} {f : Int → Int → Bool} (h : MapW w b n f) {a c : Int} (ha : In64 a) (hc : In64 c) :
    (Instr.lookup 68 (.map (some b)) (wayV a c) false).run Tryd.prog w = .ok (.bool (f a c)) w := by
  obtain ⟨D, h1, h2⟩ := h
  obtain ⟨kl, hk⟩ := way_key a c ha hc
  obtain ⟨v, ps, hrun, hv⟩ := h1.lookup wayKeyed Tryd.underlying68 (zero_bool w) (plainElem_bool Tryd.underlying4 false) hk
  rw [h2 a c kl ha hc hk] at hv
  obtain ⟨x, rfl, hx⟩ := plainElem_bool_inv Tryd.underlying4 hv
  have hx1 : (DataW.lit (.bool (f a c)) : DataW Unit) = .lit (.bool x) := congrArg Prod.fst hx
  simp only [DataW.lit.injEq, Lit.bool.injEq] at hx1
  rw [hx1]
  exact hrun
/-- block b alone may have turned -/
theorem but_turned {w w' : World} {b : Nat} (h : w.mapTurned w' b) : But [b] w w' := by
  have hg := h.grown
  exact ⟨hg.os, hg.tape, hg.output, hg.size, fun k hk hn => hg.block k hk (by rintro e; cases e; simp at hn)⟩
def setW (f : Int → Int → Bool) (a c : Int) (x : Bool) : Int → Int → Bool := fun a' c' => if a' = a ∧ c' = c then x else f a' c'
theorem MapW.store {w : World} {b n : Nat} {f : Int → Int → Bool} (h : MapW w b n f) (hn : n < maxLen) {a c : Int} (ha : In64 a) (hc : In64 c) (x : Bool) :
    ∃ w', (Instr.mapUpdate 68 (.map (some b)) (wayV a c) (.bool x)).run Tryd.prog w = .ok () w' ∧ MapW w' b (n + 1) (setW f a c x) ∧ But [b] w w' := by
  obtain ⟨D, h1, h2⟩ := h
  obtain ⟨kl, hk⟩ := way_key a c ha hc
  obtain ⟨w', hrun, ho, ht⟩ := h1.store wayKeyed Tryd.underlying68 hn hk (plainElem_bool Tryd.underlying4 x)
  refine ⟨w', hrun, ⟨_, ho, fun a' c' kl' ha' hc' hk' => ?_⟩, but_turned ht⟩
  unfold setW
  by_cases e : a' = a ∧ c' = c
  · obtain ⟨rfl, rfl⟩ := e
    rw [hk] at hk'
    cases hk'
    rw [if_pos ⟨rfl, rfl⟩, Maps.atKey_put_same h1.isMap (wayKeyed.key hk)]
  · rw [if_neg e, Maps.atKey_put_other (fun e' => e (by subst e'; exact wayV_inj (wayKeyed.inj hk' hk)))]
    exact h2 a' c' kl' ha' hc' hk'
theorem MapW.drop {w : World} {b n : Nat} {f : Int → Int → Bool} (h : MapW w b n f) {a c : Int} (ha : In64 a) (hc : In64 c) (ty : TypeId) :
    ∃ w', (Builtin.delete_ #[68, 72] ty #[.map (some b), wayV a c]).run Tryd.prog w = .ok (.tuple #[]) w' ∧ MapW w' b n (setW f a c false) ∧ But [b] w w' := by
  obtain ⟨D, h1, h2⟩ := h
  obtain ⟨kl, hk⟩ := way_key a c ha hc
  obtain ⟨w', hrun, ho, ht⟩ := h1.drop wayKeyed Tryd.underlying68 hk ty
  refine ⟨w', hrun, ⟨_, ho, fun a' c' kl' ha' hc' hk' => ?_⟩, but_turned ht⟩
  unfold setW
  by_cases e : a' = a ∧ c' = c
  · obtain ⟨rfl, rfl⟩ := e
    rw [hk] at hk'
    cases hk'
    rw [if_pos ⟨rfl, rfl⟩, Maps.atKey_del_same]
  · rw [if_neg e, Maps.atKey_del_other (fun e' => e (by subst e'; exact wayV_inj (wayKeyed.inj hk' hk)))]
    exact h2 a' c' kl' ha' hc' hk'
end Go.Proofs.YtbbhecadpbnobaaDoor
