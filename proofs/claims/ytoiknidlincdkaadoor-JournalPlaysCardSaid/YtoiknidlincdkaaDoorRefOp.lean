/-
  RefOp: the document's Open.
-/
import Derived.Test.YtoiknidlincdkaaDoorRefPut
import Derived.Lib.ConvBytes
namespace Go.Proofs.YtoiknidlincdkaaDoor
open Go.RowKit
attribute [local go_sem] bs_toList bs_size

/-- the bytes of a string -/
theorem conv_bs (l : List UInt8) (hl : l.length ≤ 1000000) (w : World) : ∃ w1 c, (convert 9 22 (.string (bs l))).run Tryd.prog w = .ok (.slice (some ⟨w.heap.size, 0, none⟩) l.length c) w1 ∧
    Byt w1 (.slice (some ⟨w.heap.size, 0, none⟩) l.length c) l ∧ Below w.heap.size w w1 := by
  have h := Lib.run_convert_string_bytes (P := Tryd.prog) w 9 22 5 (bs l) Tryd.underlying9 Tryd.underlying22 Tryd.underlying5
  rw [bs_size] at h
  refine ⟨_, _, h, ⟨_, _, rfl, grownCap_ge _ _ _ _, grownCap_le_maxLen _ _ _ _ (by unfold maxLen; omega), ?_⟩, ?_⟩
  · refine .inr ⟨_, _, rfl, fun i x hx => ?_⟩
    have hi : i < l.length := by
      have := (List.getElem?_eq_some_iff.1 hx).1
      rw [bvs_len] at this
      exact this
    rw [bvs_get l i hi] at hx
    cases hx
    rw [Nat.zero_add, Lib.bytesWorld_cell w 5 (bs l) i (by rw [bs_size]; exact hi)]
    simp [bs, hi]
  · refine ⟨rfl, rfl, rfl, ?_, fun j hj => Lib.bytesWorld_at_old w 5 _ j hj⟩
    rw [Lib.bytesWorld_size]; omega
def openME (m : MSt) : Nat := if (readJ m.all).2 < m.all.length then m.cutE ((readJ m.all).2 : Int) else 0
def MOpen (B g : Nat) (m : MSt) (w : World) (e : Ending) (w' : World) : Prop :=
  ∃ (mb : Nat) (q : Option Nat), e = .returned (.tuple #[.pointer (some ⟨mb, 0, none⟩), .int .i64 0]) ∧ (∀ o, (∀ b, o b → b < w.heap.size) → Mn B w' mb g q o (openM m)) ∧ w.heap.size ≤ mb ∧ (∀ b, q = some b → w.heap.size ≤ b) ∧ But [g] w w'
theorem Mn.made {B : Nat} {W w : World} {g : Nat} {m : MSt} {v : Value} {ls : List (List UInt8)} {N : Nat} (hm : MB w g m) (hr : ∃ s, Rel s m) (ho : OutJ w N v ls) (hN : W.heap.size ≤ N) (hNw : N ≤ w.heap.size) (hB : B ≤ g) (hg : g < W.heap.size) (o : Nat → Prop) (hoo : ∀ b, o b → b < W.heap.size) :
    Mn B (w.alloc (.cells #[.pointer (some ⟨g, 0, none⟩), v, .bool false] 71)) w.heap.size g v.ownBlock o ⟨m, ls, false⟩ := by
  have k := below_alloc1 w (.cells #[.pointer (some ⟨g, 0, none⟩), v, .bool false] 71)
  obtain ⟨us, h1, h2, h3⟩ := ho.below k
  refine ⟨⟨v, us, rfl, Blk.new w _ _, owns_lower h2 (Nat.zero_le _), h1, fun i l hl => ?_⟩, Blk.below hm k (Blk.lt hm), hr, by omega, hB, fun b hb => ?_⟩
  · obtain ⟨u, hu, hy⟩ := h3 i l hl
    refine ⟨u, hu, owns_byt hy, fun b hb => .inr ⟨?_, fun e => ?_⟩⟩
    · rcases hy.2 with ⟨h0, _⟩ | ⟨g9, cap, cur, h0, _, hh, _⟩
      · rw [h0] at hb; cases hb
      · rw [h0] at hb
        cases hb
        exact ⟨cur, hh⟩
    · have := hoo b e
      have := (hy.lt b hb).1
      omega
  · have := (h2.lt b hb).1
    omega
theorem OutJ.only {w w' : World} {B g : Nat} {t : TypeId} {cs : Array Value} {v : Value} {ls : List (List UInt8)} (h : OutJ w B v ls) (k : Only g w w') (hb : Blk w g t cs) (h1 : 22 ≠ t) (h2 : 5 ≠ t) : OutJ w' B v ls := by
  obtain ⟨us, a, b, c⟩ := h
  exact ⟨us, a, k.owns hb b h1, fun i f hf => by obtain ⟨u, hu, ho⟩ := c i f hf; exact ⟨u, hu, k.owns hb ho h2⟩⟩
set_option maxRecDepth 20000 in
set_option maxHeartbeats 1000000 in
theorem mopen_any (B : Nat) (w : World) (g : Nat) (m : MSt) (hb : MB w g m) (hr : ∃ s, Rel s m) (hB : B ≤ g) (hE : openME m = 0) :
    Calls Tryd.prog 28 #[.pointer (some ⟨g, 0, none⟩)] w (MOpen B g m w) := by
  have HB := Lib.hid hb
  have hm := hr.choose_spec.bd
  obtain ⟨c0, c1, c2, c3, c4⟩ := hb.cells
  have h1 := hm.len
  have hlt := Blk.lt hb
  have hsum := fun w => run_str_add (P := Tryd.prog) w m.sure m.tail (by omega)
  have hla : m.all.length ≤ 65536 := by unfold MSt.all; rw [List.length_append]; exact h1
  have HE := Lib.hid hE
  have HR := Lib.hid hr
  clear hb hr c2 c3 c4 hE hm
  go_enter Tryd.func28, Tryd.ntmps28
  go_wp2_with fail
  go_quiet (fail)
  obtain ⟨w1, k1, hcv, hy1, hb1'⟩ := conv_bs (m.sure ++ m.tail) (by rw [List.length_append]; omega) (w.drewN nq)
  have HB1 := Lib.hid ((below_drewN w nq).trans hb1')
  have HRD := Lib.hid (refread_any w1 _ (m.sure ++ m.tail) hla hy1)
  have HAL := Lib.hid (show m.sure ++ m.tail = m.all from rfl)
  clear hy1 hb1' hsum c0 c1 hla h1
  generalize m.sure ++ m.tail = al at *
  go_wp2_with fail
  refine HRD.out.mono ?_
  rintro e w2 ⟨v2, rfl, ho2, hb2⟩
  obtain ⟨p2, k2, hv2, -⟩ := owns_rd ho2.choose_spec.2.1
  subst hv2
  have HO2 := Lib.hid ho2
  have HB2 := Lib.hid (HB1.out.trans (hb2.mono HB1.out.size))
  have HM2 := Lib.hid (show MB w2 g m from Blk.below HB.out HB2.out hlt)
  have HN2 := Lib.hid (show w.heap.size ≤ w1.heap.size ∧ w1.heap.size ≤ w2.heap.size from ⟨HB1.out.size, hb2.size⟩)
  clear ho2 hb2 HRD hcv
  by_cases hc : (readJ al).2 < al.length
  · have d : decide (((readJ al).2 : Int) < (al.length : Int)) = true := by rw [decide_eq_true_eq]; omega
    have d' : decide ((readJ al).2 < al.length) = true := by rw [decide_eq_true_eq]; exact hc
    have HC := Lib.hid hc
    have hce : m.cutE ((readJ al).2 : Int) = 0 := by
      have h := HE.out
      unfold openME at h
      rw [← HAL.out, if_pos HC.out] at h
      exact h
    have HCE := Lib.hid hce
    clear hc hce
    go_wp2_with fail
    refine (mcut_any w2 g m ((readJ al).2 : Int) HR.out.choose_spec.bd HM2.out).mono ?_
    rintro e w3 ⟨rfl, hm3, k3⟩
    rw [HCE.out]
    have HO3 := Lib.hid (show OutJ w3 w1.heap.size _ _ from HO2.out.only k3 HM2.out (by decide) (by decide))
    have HM3 := Lib.hid hm3
    have HK3 := Lib.hid ((But.of_below HB2.out : But [g] w w2).trans (But.of_only k3))
    have HS3 := Lib.hid (show w2.heap.size ≤ w3.heap.size from Nat.le_of_eq k3.size.symm)
    clear hm3 k3
    go_wp2_with fail
    go_ret2
    have hq : openM m = ⟨m.cutTo ((readJ al).2 : Int), (readJ al).1, false⟩ := by
      unfold openM
      rw [← HAL.out, if_pos HC.out]
    rw [MOpen, hq]
    refine ⟨_, _, rfl, fun o ho => Mn.made HM3.out ?_ HO3.out HN2.out.1 (by have := HN2.out.2; have := HS3.out; omega) hB hlt o ho, ?_, fun b hb => ?_, HK3.out.trans (But.of_below (below_alloc1 _ _))⟩
    · obtain ⟨s, hs⟩ := HR.out
      exact ⟨_, (hs.cutTo _).1⟩
    · have := HN2.out; have := HS3.out; omega
    · have := (HO3.out.choose_spec.2.1.lt b hb).1
      have := HN2.out.1
      omega
  · have d : decide (((readJ al).2 : Int) < (al.length : Int)) = false := by rw [decide_eq_false_iff_not]; omega
    have d' : decide ((readJ al).2 < al.length) = false := by rw [decide_eq_false_iff_not]; exact hc
    have HC := Lib.hid hc
    clear hc
    go_wp2_with fail
    go_ret2
    have hq : openM m = ⟨m, (readJ al).1, false⟩ := by
      unfold openM
      rw [← HAL.out, if_neg HC.out]
    rw [MOpen, hq]
    refine ⟨_, _, rfl, fun o ho => Mn.made HM2.out HR.out HO2.out HN2.out.1 HN2.out.2 hB hlt o ho, ?_, fun b hb => ?_, But.of_below (HB2.out.trans (below_alloc1 _ _ |>.mono HB2.out.size))⟩
    · have := HN2.out; omega
    · have := (HO2.out.choose_spec.2.1.lt b hb).1
      have := HN2.out.1
      omega
end Go.Proofs.YtoiknidlincdkaaDoor
