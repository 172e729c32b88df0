/-
  NetC: the walks of a net's New, Cut, Copy.
-/
import Derived.Test.YtbbhecadpbnobaaDoorNetAdd
namespace Go.Proofs.YtbbhecadpbnobaaDoor
open Go.RowKit

def NSt.new (k : Int) : NSt := ⟨k, [], fun _ _ => false, 0⟩
theorem nnew_any (w : World) (k : Int) (hk : 1 ≤ k ∧ k ≤ 4) :
    Calls Tryd.prog 8 #[.int .i64 k] w fun e w' => e = .returned (.tuple #[.pointer (some ⟨w.heap.size + 1, 0, none⟩), .nilIface]) ∧ Nn w' (w.heap.size + 1) w.heap.size none 0 (NSt.new k) ∧ Below w.heap.size w w' := by
  have d1 : decide (k < 1) = false := by rw [decide_eq_false_iff_not]; omega
  have d2 : decide (4 < k) = false := by rw [decide_eq_false_iff_not]; omega
  have hmm := @run_makeMap Tryd.prog
  have hbl := below_alloc (below_alloc1 w (.map #[] 0)) (.cells #[.int .i64 k, .slice none 0 0, .map (some w.heap.size), .int .i64 0] 70)
  have hb := Blk.new (w.alloc (.map #[] 0)) 70 #[.int .i64 k, .slice none 0 0, .map (some w.heap.size), .int .i64 0]
  have hs : (w.alloc (.map #[] 0)).heap.size = w.heap.size + 1 := by simp
  rw [hs] at hb
  have hm := (mapw_made w).but (But.of_below (below_alloc1 (w.alloc (.map #[] 0)) (.cells #[.int .i64 k, .slice none 0 0, .map (some w.heap.size), .int .i64 0] 70)) : But [] _ _) rfl
  have HBL := Lib.hid hbl
  have HB := Lib.hid hb
  have HM := Lib.hid hm
  clear hbl hb hm hs hk
  go_enter Tryd.func8, Tryd.ntmps8
  go_wp2_with fail
  go_ret2
  refine ⟨rfl, ⟨⟨.slice none 0 0, [], rfl, rfl, HB.out, ⟨rfl, .inl ⟨rfl, rfl⟩⟩, fun x hx => by cases hx⟩, HM.out⟩, HBL.out⟩
theorem nnew_bad (w : World) (E : Nat → Addr) (he : ErrsOn [0, 2, 5] w E) (k : Int) (hk : ¬ (1 ≤ k ∧ k ≤ 4)) :
    Calls Tryd.prog 8 #[.int .i64 k] w fun e w' => e = .returned (.tuple #[.pointer none, errAt (E 0)]) ∧ Below w.heap.size w w' := by
  have e0 := he.cell 0 rfl
  simp only [errVar, List.getD_cons_zero, List.getD_cons_succ, errAt] at e0
  have d : (decide (k < 1) = true) ∨ (decide (k < 1) = false ∧ decide (4 < k) = true) := by
    simp only [decide_eq_true_eq, decide_eq_false_iff_not]; omega
  clear he hk
  rcases d with d1 | ⟨d1, d2⟩
  all_goals
    go_enter Tryd.func8, Tryd.ntmps8
    go_wp2_with fail
    go_quiet (fail)
    go_wp2_with fail
    go_ret2
    exact ⟨rfl, below_drewN _ _⟩
theorem But.more {S T : List Nat} {w w' : World} (h : But S w w') (hs : ∀ g ∈ S, g ∈ T) : But T w w' :=
  ⟨h.os, h.tape, h.output, h.size, fun k hk hn => h.block k hk (by
    rw [Bool.eq_false_iff] at hn ⊢
    exact fun hc => hn (List.contains_iff_mem.2 (hs k (List.contains_iff_mem.1 hc))))⟩
theorem MapW.mono {w : World} {b n m : Nat} {f : Int → Int → Bool} (h : MapW w b n f) (hm : n ≤ m) : MapW w b m f := by
  obtain ⟨D, h1, h2⟩ := h
  exact ⟨D, h1.mono hm, h2⟩
theorem Nn.mono {w : World} {n b : Nat} {p : Option Nat} {c d : Nat} {st : NSt} (h : Nn w n b p c st) (hd : c ≤ d) : Nn w n b p d st := ⟨h.ex, h.map.mono hd⟩
/-- other cuts -/
theorem Nn.mapped {w w1 : World} {n b : Nat} {p : Option Nat} {c d : Nat} {st : NSt} {f : Int → Int → Bool} (h : Nn w n b p c st) (k : But [b] w w1) (hm : MapW w1 b d f) : Nn w1 n b p d ⟨st.nodes, st.ls, f, st.lost⟩ := by
  obtain ⟨_, _, _, _, hne⟩ := h.types
  obtain ⟨⟨v, xs, h1, h2, h3, h4, h5⟩, _⟩ := h
  have hno : ∀ (base size m : Nat) (e : TypeId) (u : Value) (ys : List Value), w.ownsRow base e size u m ys → ∀ g, u.ownBlock = some g → [b].contains g = false := fun base size m e u ys ho g hg => by
    rcases ho.2 with ⟨h0, _⟩ | ⟨g9, cap, cur, h0, _, hh, _⟩
    · rw [h0] at hg; cases hg
    · rw [h0] at hg
      cases hg
      have := hne _ _ _ (show Blk w _ e cur from hh)
      simpa using this.symm
  refine ⟨⟨v, xs, h1, h2, k.blk h3 ?_, k.owns2 (hno _ _ _ _ _ _ h4) h4, fun x hx => k.owns2 (hno _ _ _ _ _ _ (h5 x hx)) (h5 x hx)⟩, hm⟩
  have := hne _ _ _ h3
  simpa using this.symm
def NSt.has (st : NSt) (i : Int) : Bool := decide (0 ≤ i) && decide (i < st.nodes)
def NSt.cut (st : NSt) (f t : Int) (x : Bool) : NSt := if st.has f && st.has t then ⟨st.nodes, st.ls, setW st.cuts f t x, st.lost⟩ else st
def NSt.cutE (st : NSt) (f t : Int) : Nat := if st.has f && st.has t then 0 else 1
set_option maxRecDepth 20000 in
set_option maxHeartbeats 1000000 in
theorem ncut_any (w : World) (E : Nat → Addr) (he : ErrsOn [0, 2, 5] w E) (n b : Nat) (p : Option Nat) (c : Nat) (st : NSt) (h : Nn w n b p c st) (f t : Int) (x : Bool) (hf : In64 f) (ht : In64 t) (hc : c < maxLen) :
    Calls Tryd.prog 9 #[.pointer (some ⟨n, 0, none⟩), .int .i64 f, .int .i64 t, .bool x] w (NOut n b p (c + 1) (st.cut f t x) (errV E (st.cutE f t)) w) := by
  have HN := Lib.hid h
  have e0 := he.cell 0 rfl
  simp only [errVar, List.getD_cons_zero, List.getD_cons_succ, errAt] at e0
  have HH := Lib.hid (fun i => has_any w n b p c st h i)
  obtain ⟨v, xs, _, _, hb, _⟩ := h.ex
  have c2 := (hb.cell 2).trans rfl
  cases d1 : st.has f with
  | false =>
    have HQ := Lib.hid (show st.cut f t x = st ∧ st.cutE f t = 1 by unfold NSt.cut NSt.cutE; rw [d1]; exact ⟨rfl, rfl⟩)
    have d1 : (decide (0 ≤ f) && decide (f < st.nodes)) = false := d1
    have H1 := Lib.hid (HH.out f)
    rw [d1] at H1
    clear he h hb c2 d1 HH
    go_enter Tryd.func9, Tryd.ntmps9
    go_wp2_with fail
    refine H1.out.mono ?_
    rintro e w1 ⟨rfl, rfl⟩
    go_wp2_with fail
    go_ret
    rw [HQ.out.1, HQ.out.2]
    exact NOut.same (HN.out.mono (Nat.le_succ _)) (Below.refl _ _)
  | true =>
    have H1 := Lib.hid (HH.out f)
    rw [show (decide (0 ≤ f) && decide (f < st.nodes)) = true from d1] at H1
    cases d2 : st.has t with
    | false =>
      have HQ := Lib.hid (show st.cut f t x = st ∧ st.cutE f t = 1 by unfold NSt.cut NSt.cutE; rw [d1, d2]; exact ⟨rfl, rfl⟩)
      have H2 := Lib.hid (HH.out t)
      rw [show (decide (0 ≤ t) && decide (t < st.nodes)) = false from d2] at H2
      clear he h hb c2 d1 d2 HH
      go_enter Tryd.func9, Tryd.ntmps9
      go_wp2_with fail
      refine H1.out.mono ?_
      rintro e w1 ⟨rfl, rfl⟩
      go_wp2_with fail
      refine H2.out.mono ?_
      rintro e w1 ⟨rfl, rfl⟩
      go_wp2_with fail
      go_ret
      rw [HQ.out.1, HQ.out.2]
      exact NOut.same (HN.out.mono (Nat.le_succ _)) (Below.refl _ _)
    | true =>
      have HQ := Lib.hid (show st.cut f t x = ⟨st.nodes, st.ls, setW st.cuts f t x, st.lost⟩ ∧ st.cutE f t = 0 by unfold NSt.cut NSt.cutE; rw [d1, d2]; exact ⟨rfl, rfl⟩)
      have H2 := Lib.hid (HH.out t)
      rw [show (decide (0 ≤ t) && decide (t < st.nodes)) = true from d2] at H2
      clear he hb d1 d2 HH e0
      cases x with
      | true =>
        obtain ⟨w1, hrun, hm, hk⟩ := h.map.store hc hf ht true
        unfold wayV at hrun
        have HM := Lib.hid hm
        have HK := Lib.hid hk
        clear h hm hk
        go_enter Tryd.func9, Tryd.ntmps9
        go_wp2_with fail
        refine H1.out.mono ?_
        rintro e w2 ⟨rfl, rfl⟩
        go_wp2_with fail
        refine H2.out.mono ?_
        rintro e w2 ⟨rfl, rfl⟩
        go_wp2_with fail
        go_ret
        rw [HQ.out.1, HQ.out.2]
        exact ⟨rfl, ⟨p, .inl rfl, HN.out.mapped HK.out HM.out⟩, HK.out.more fun g hg => mem_nS.2 (.inr (.inl (by simpa using hg)))⟩
      | false =>
        obtain ⟨w1, hrun, hm, hk⟩ := h.map.drop hf ht 0
        unfold wayV at hrun
        have HM := Lib.hid (hm.mono (Nat.le_succ c))
        have HK := Lib.hid hk
        clear h hm hk
        go_enter Tryd.func9, Tryd.ntmps9
        go_wp2_with fail
        refine H1.out.mono ?_
        rintro e w2 ⟨rfl, rfl⟩
        go_wp2_with fail
        refine H2.out.mono ?_
        rintro e w2 ⟨rfl, rfl⟩
        go_wp2_with fail
        go_ret
        rw [HQ.out.1, HQ.out.2]
        exact ⟨rfl, ⟨p, .inl rfl, HN.out.mapped HK.out HM.out⟩, HK.out.more fun g hg => mem_nS.2 (.inr (.inl (by simpa using hg)))⟩
end Go.Proofs.YtbbhecadpbnobaaDoor
