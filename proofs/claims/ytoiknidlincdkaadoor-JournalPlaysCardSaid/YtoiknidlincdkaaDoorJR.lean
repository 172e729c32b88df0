/-
  RefTape: the walks of the document's tape.
  RefCrash: the walk of the document's Crash.
-/
import Derived.Test.YtoiknidlincdkaaDoorJC
import Derived.Test.YtoiknidlincdkaaDoorJA
import Derived.BigRegion
namespace Go.Proofs.YtoiknidlincdkaaDoor
open Go.RowKit
attribute [local go_sem] bs_toList bs_size

/-- block g is the model m -/
def MB (w : World) (g : Nat) (m : MSt) : Prop := Blk w g 73 m.cells
structure MCells (w : World) (g : Nat) (m : MSt) : Prop where
  c0 : w.cell? ⟨g, 0, none⟩ = some (.string (bs m.sure))
  c1 : w.cell? ⟨g, 1, none⟩ = some (.string (bs m.tail))
  c2 : w.cell? ⟨g, 2, none⟩ = some (.int .i64 m.room)
  c3 : w.cell? ⟨g, 3, none⟩ = some (.int .i64 m.left)
  c4 : w.cell? ⟨g, 4, none⟩ = some (.bool m.off)
theorem MB.cells {w : World} {g : Nat} {m : MSt} (h : MB w g m) : MCells w g m :=
  ⟨(h.cell 0).trans rfl, (h.cell 1).trans rfl, (h.cell 2).trans rfl, (h.cell 3).trans rfl, (h.cell 4).trans rfl⟩
/-- the bounds of a model's numbers -/
structure MSt.Bd (m : MSt) : Prop where
  len : m.sure.length + m.tail.length ≤ 65536
  room : 0 ≤ m.room ∧ m.room ≤ 65536
  left : -1 ≤ m.left ∧ m.left ≤ 9223372036854775807
theorem Rel.bd {s : TSt} {m : MSt} (h : Rel s m) : m.Bd := by
  have := h.ok.len
  rw [h.l, List.length_append] at this
  exact ⟨this, by rw [← h.room]; exact h.ok.room, h.left⟩
/-- the call gives r, the model is m' -/
def MR (w : World) (g : Nat) (m' : MSt) (r : Value) (e : Ending) (w' : World) : Prop := e = .returned r ∧ MB w' g m' ∧ Only g w w'
set_option maxRecDepth 20000 in
set_option maxHeartbeats 1000000 in
theorem mstep_any (w : World) (g : Nat) (m : MSt) (hm : m.Bd) (hb : MB w g m) :
    Calls Tryd.prog 62 #[.pointer (some ⟨g, 0, none⟩)] w (MR w g m.step (.int .i64 (m.stepE : Int))) := by
  have HB := Lib.hid hb
  obtain ⟨sure, tail, room, left, off⟩ := m
  obtain ⟨c0, c1, c2, c3, c4⟩ := hb.cells
  simp only at c0 c1 c2 c3 c4
  have f3 := hb.frozen 3
  have f4 := hb.frozen 4
  have hl := hm.left
  simp only at hl
  clear hb hm c0 c1 c2
  by_cases hz : left = 0
  · subst hz
    have dz : ((0 : Int) == 0) = true := rfl
    have HP := Lib.hid (show MSt.step ⟨sure, tail, room, 0, off⟩ = ⟨sure, tail, room, 0, true⟩ ∧ MSt.stepE ⟨sure, tail, room, 0, off⟩ = 7 by
      unfold MSt.step MSt.stepE MSt.cut; simp)
    go_enter Tryd.func62, Tryd.ntmps62
    go_wp2_with fail
    go_ret
    refine ⟨by rw [HP.out.2]; rfl, ?_, (Only.refl _ _).set_ 4 _⟩
    rw [HP.out.1]
    exact HB.out.set_ 4 (.bool true)
  · have dz : (left == 0) = false := by simpa using hz
    cases off
    · by_cases hp : 0 < left
      · have dp : decide (0 < left) = true := by simpa using hp
        have HP := Lib.hid (show MSt.step ⟨sure, tail, room, left, false⟩ = ⟨sure, tail, room, left - 1, false⟩ ∧ MSt.stepE ⟨sure, tail, room, left, false⟩ = 0 by
          unfold MSt.step MSt.stepE MSt.cut; simp [dz, hp])
        go_enter Tryd.func62, Tryd.ntmps62
        go_wp2_with fail
        go_ret
        refine ⟨by rw [HP.out.2]; rfl, ?_, (Only.refl _ _).set_ 3 _⟩
        rw [HP.out.1]
        exact HB.out.set_ 3 (.int .i64 (left - 1))
      · have dp : decide (0 < left) = false := by simpa using hp
        have HP := Lib.hid (show MSt.step ⟨sure, tail, room, left, false⟩ = ⟨sure, tail, room, left, false⟩ ∧ MSt.stepE ⟨sure, tail, room, left, false⟩ = 0 by
          unfold MSt.step MSt.stepE MSt.cut; simp [dz, hp])
        go_enter Tryd.func62, Tryd.ntmps62
        go_wp2_with fail
        go_ret
        refine ⟨by rw [HP.out.2]; rfl, ?_, Only.refl _ _⟩
        rw [HP.out.1]
        exact HB.out
    · have HP := Lib.hid (show MSt.step ⟨sure, tail, room, left, true⟩ = ⟨sure, tail, room, left, true⟩ ∧ MSt.stepE ⟨sure, tail, room, left, true⟩ = 7 by
        unfold MSt.step MSt.stepE MSt.cut; simp)
      go_enter Tryd.func62, Tryd.ntmps62
      go_wp2_with fail
      go_ret
      refine ⟨by rw [HP.out.2]; rfl, ?_, Only.refl _ _⟩
      rw [HP.out.1]
      exact HB.out
theorem mstepE_cut {m : MSt} (h : m.cut = true) : m.stepE = 7 := by unfold MSt.stepE; rw [h]; rfl
theorem mstepE_go {m : MSt} (h : m.cut = false) : m.stepE = 0 := by unfold MSt.stepE; rw [h]; rfl
theorem mset_tail (m : MSt) (t : List UInt8) : (m.cells).setIfInBounds 1 (.string (bs t)) = ({ m with tail := t } : MSt).cells := rfl
theorem mset_both (m : MSt) (s t : List UInt8) : ((m.cells).setIfInBounds 0 (.string (bs s))).setIfInBounds 1 (.string (bs t)) = ({ m with sure := s, tail := t } : MSt).cells := rfl
theorem bs_nil : bs [] = ⟨#[]⟩ := rfl
set_option maxRecDepth 20000 in
set_option maxHeartbeats 1000000 in
theorem mappend_any (w : World) (g : Nat) (m : MSt) (b : List UInt8) (hl : b.length ≤ 1000000) (hm : m.Bd) (hb : MB w g m) :
    Calls Tryd.prog 63 #[.pointer (some ⟨g, 0, none⟩), .string (bs b)] w (MR w g (m.append b) (.int .i64 (m.appendE b : Int))) := by
  have HB := Lib.hid hb
  have HM := Lib.hid hm
  obtain ⟨c0, c1, c2, c3, c4⟩ := hb.cells
  have h1 := hm.len
  have h2 := hm.room
  clear hb hm c3 c4
  by_cases hf : m.room - m.sure.length - m.tail.length < b.length
  · have df : decide (m.room - (m.sure.length : Int) - (m.tail.length : Int) < (b.length : Int)) = true := by simpa using hf
    have HP := Lib.hid (show m.append b = m ∧ m.appendE b = 6 by unfold MSt.append MSt.appendE; rw [if_pos hf, if_pos hf]; exact ⟨rfl, rfl⟩)
    clear hf
    go_enter Tryd.func63, Tryd.ntmps63
    go_wp2_with fail
    go_quiet (fail)
    go_wp2_with fail
    go_ret
    exact ⟨by rw [HP.out.2]; rfl, by rw [HP.out.1]; exact HB.out, (Only.refl _ _).drewN _⟩
  · have df : decide (m.room - (m.sure.length : Int) - (m.tail.length : Int) < (b.length : Int)) = false := by simpa using hf
    have HP := Lib.hid (show m.append b = (if m.cut then m.step else { m.step with tail := m.tail ++ b }) ∧ m.appendE b = m.stepE by unfold MSt.append MSt.appendE; rw [if_neg hf, if_neg hf]; exact ⟨rfl, rfl⟩)
    clear hf
    go_enter Tryd.func63, Tryd.ntmps63
    go_wp2_with fail
    go_quiet (fail)
    go_wp2_with fail
    refine (mstep_any (w.drewN _) g m HM.out (show MB (w.drewN _) g m from HB.out)).mono ?_
    rintro e w1 ⟨rfl, hb1, k1'⟩
    have k1 := ((Only.refl g w).drewN _).trans k1'
    clear k1'
    have HB1 := Lib.hid hb1
    have K1 := Lib.hid k1
    obtain ⟨c0', c1', c2', c3', c4'⟩ := hb1.cells
    have f1' := hb1.frozen 1
    rw [MSt.step_tail] at c1'
    have hsum := fun w => run_str_add (P := Tryd.prog) w m.tail b (by omega)
    clear hb1 k1 c0 c1 c2 c0' c2' c3' c4'
    cases hcut : m.cut with
    | true =>
      have HC := Lib.hid hcut
      have hE := mstepE_cut hcut
      have HE := Lib.hid hE
      rw [hE]
      clear hcut hE
      go_wp2_with fail
      go_ret
      exact ⟨by rw [HP.out.2, HE.out]; rfl, by rw [HP.out.1, HC.out]; exact HB1.out, K1.out⟩
    | false =>
      have HC := Lib.hid hcut
      have hE := mstepE_go hcut
      have HE := Lib.hid hE
      rw [hE]
      clear hcut hE
      go_wp2_with fail
      go_ret
      refine ⟨by rw [HP.out.2, HE.out]; rfl, ?_, K1.out.set_ 1 _⟩
      rw [HP.out.1, HC.out]
      exact HB1.out.set_ 1 (.string (bs (m.tail ++ b)))
set_option maxRecDepth 20000 in
set_option maxHeartbeats 1000000 in
theorem msync_any (w : World) (g : Nat) (m : MSt) (hm : m.Bd) (hb : MB w g m) :
    Calls Tryd.prog 64 #[.pointer (some ⟨g, 0, none⟩)] w (MR w g m.sync (.int .i64 (m.stepE : Int))) := by
  have HB := Lib.hid hb
  have HM := Lib.hid hm
  have h1 := hm.len
  clear hb hm
  go_enter Tryd.func64, Tryd.ntmps64
  go_wp2_with fail
  refine (mstep_any w g m HM.out HB.out).mono ?_
  rintro e w1 ⟨rfl, hb1, k1⟩
  have HB1 := Lib.hid hb1
  have K1 := Lib.hid k1
  obtain ⟨c0', c1', c2', c3', c4'⟩ := hb1.cells
  have f0' := hb1.frozen 0
  have f1' := hb1.frozen 1
  rw [MSt.step_tail] at c1'
  rw [MSt.step_sure] at c0'
  have hsum := fun w => run_str_add (P := Tryd.prog) w m.sure m.tail (by omega)
  have HN := Lib.hid bs_nil
  clear hb1 k1 c2' c3' c4'
  cases hcut : m.cut with
  | true =>
    have HC := Lib.hid (show m.sync = m.step by unfold MSt.sync; rw [hcut]; rfl)
    have hE := mstepE_cut hcut
    have HE := Lib.hid hE
    rw [hE]
    clear hcut hE
    go_wp2_with fail
    go_ret
    exact ⟨by rw [HE.out]; rfl, by rw [HC.out]; exact HB1.out, K1.out⟩
  | false =>
    have HC := Lib.hid (show m.sync = { m.step with sure := m.sure ++ m.tail, tail := [] } by unfold MSt.sync; rw [hcut]; rfl)
    have hE := mstepE_go hcut
    have HE := Lib.hid hE
    rw [hE]
    clear hcut hE
    go_wp2_with fail
    go_region
    go_wp2_with fail
    go_ret
    refine ⟨by rw [HE.out]; rfl, ?_, ((K1.out.set_ 0 _).set_ 1 _).drew⟩
    rw [HC.out]
    exact (HB1.out.set_ 0 (.string (bs (m.sure ++ m.tail)))).set_ 1 (.string (bs []))
set_option maxRecDepth 20000 in
set_option maxHeartbeats 1000000 in
theorem mswap_any (w : World) (g : Nat) (m : MSt) (b : List UInt8) (hm : m.Bd) (hb : MB w g m) :
    Calls Tryd.prog 65 #[.pointer (some ⟨g, 0, none⟩), .string (bs b)] w (MR w g (m.swap b) (.int .i64 (m.swapE b : Int))) := by
  have HB := Lib.hid hb
  have HM := Lib.hid hm
  obtain ⟨c0, c1, c2, c3, c4⟩ := hb.cells
  have h2 := hm.room
  clear hb hm c0 c1 c3 c4
  by_cases hf : m.room < b.length
  · have df : decide (m.room < (b.length : Int)) = true := by simpa using hf
    have HP := Lib.hid (show m.swap b = m ∧ m.swapE b = 6 by unfold MSt.swap MSt.swapE; rw [if_pos hf, if_pos hf]; exact ⟨rfl, rfl⟩)
    clear hf
    go_enter Tryd.func65, Tryd.ntmps65
    go_wp2_with fail
    go_ret
    exact ⟨by rw [HP.out.2]; rfl, by rw [HP.out.1]; exact HB.out, Only.refl _ _⟩
  · have df : decide (m.room < (b.length : Int)) = false := by simpa using hf
    have HP := Lib.hid (show m.swap b = (if m.cut then m.step else { m.step with sure := b, tail := [] }) ∧ m.swapE b = m.stepE by unfold MSt.swap MSt.swapE; rw [if_neg hf, if_neg hf]; exact ⟨rfl, rfl⟩)
    clear hf
    go_enter Tryd.func65, Tryd.ntmps65
    go_wp2_with fail
    refine (mstep_any w g m HM.out HB.out).mono ?_
    rintro e w1 ⟨rfl, hb1, k1⟩
    have HB1 := Lib.hid hb1
    have K1 := Lib.hid k1
    obtain ⟨c0', c1', c2', c3', c4'⟩ := hb1.cells
    have f0' := hb1.frozen 0
    have f1' := hb1.frozen 1
    clear hb1 k1 c2 c2' c3' c4'
    cases hcut : m.cut with
    | true =>
      have HC := Lib.hid hcut
      have hE := mstepE_cut hcut
      have HE := Lib.hid hE
      rw [hE]
      clear hcut hE
      go_wp2_with fail
      go_ret
      exact ⟨by rw [HP.out.2, HE.out]; rfl, by rw [HP.out.1, HC.out]; exact HB1.out, K1.out⟩
    | false =>
      have HC := Lib.hid hcut
      have hE := mstepE_go hcut
      have HE := Lib.hid hE
      rw [hE]
      clear hcut hE
      go_wp2_with fail
      go_ret
      refine ⟨by rw [HP.out.2, HE.out]; rfl, ?_, (K1.out.set_ 0 _).set_ 1 _⟩
      rw [HP.out.1, HC.out]
      exact (HB1.out.set_ 0 (.string (bs b))).set_ 1 (.string (bs []))
set_option maxRecDepth 20000 in
set_option maxHeartbeats 1000000 in
theorem mcut_any (w : World) (g : Nat) (m : MSt) (n : Int) (hm : m.Bd) (hb : MB w g m) :
    Calls Tryd.prog 45 #[.pointer (some ⟨g, 0, none⟩), .int .i64 n] w (MR w g (m.cutTo n) (.int .i64 (m.cutE n : Int))) := by
  have HB := Lib.hid hb
  have HM := Lib.hid hm
  obtain ⟨c0, c1, c2, c3, c4⟩ := hb.cells
  have h1 := hm.len
  clear hb hm c2 c3 c4
  have hsum := fun w => run_str_add (P := Tryd.prog) w m.sure m.tail (by omega)
  by_cases hf : n < 0 ∨ ((m.sure ++ m.tail).length : Int) < n
  · have HP := Lib.hid (show m.cutTo n = m ∧ m.cutE n = 1 by unfold MSt.cutTo MSt.cutE; rw [if_pos hf, if_pos hf]; exact ⟨rfl, rfl⟩)
    have hl : (m.sure ++ m.tail).length = m.sure.length + m.tail.length := List.length_append
    rw [hl] at hf
    have d : (decide (n < 0) = true) ∨ (decide (n < 0) = false ∧ decide ((m.sure.length : Int) + (m.tail.length : Int) < n) = true) := by
      simp only [decide_eq_true_eq, decide_eq_false_iff_not]; omega
    clear hf hl
    rcases d with d1 | ⟨d1, d2⟩
    all_goals
      go_enter Tryd.func45, Tryd.ntmps45
      go_wp2_with fail
      go_quiet (fail)
      go_wp2_with fail
      go_ret
      exact ⟨by rw [HP.out.2]; rfl, by rw [HP.out.1]; exact HB.out, (Only.refl _ _).drewN _⟩
  · have HP := Lib.hid (show m.cutTo n = (if m.cut then m.step else { m.step with sure := (m.sure ++ m.tail).take n.toNat, tail := [] }) ∧ m.cutE n = m.stepE by unfold MSt.cutTo MSt.cutE; rw [if_neg hf, if_neg hf]; exact ⟨rfl, rfl⟩)
    obtain ⟨k, rfl⟩ : ∃ k : Nat, n = (k : Int) := ⟨n.toNat, by omega⟩
    have hk : k ≤ (m.sure ++ m.tail).length := by omega
    have hk2 : k ≤ m.sure.length + m.tail.length := by rw [← List.length_append]; exact hk
    have d1 : decide ((k : Int) < 0) = false := by simp
    have d2 : decide ((m.sure.length : Int) + (m.tail.length : Int) < (k : Int)) = false := by simp; omega
    have hto := fun w => run_str_to (P := Tryd.prog) Tryd.underlying9 (m.sure ++ m.tail) k hk w
    clear hf hk
    go_enter Tryd.func45, Tryd.ntmps45
    go_wp2_with fail
    go_quiet (fail)
    go_wp2_with fail
    refine (mstep_any (w.drewN _) g m HM.out (show MB (w.drewN _) g m from HB.out)).mono ?_
    rintro e w1 ⟨rfl, hb1, k1'⟩
    have k1 := ((Only.refl g w).drewN _).trans k1'
    clear k1'
    have HB1 := Lib.hid hb1
    have K1 := Lib.hid k1
    obtain ⟨c0', c1', c2', c3', c4'⟩ := hb1.cells
    have f0' := hb1.frozen 0
    have f1' := hb1.frozen 1
    clear hb1 k1 c0 c1 c2' c3' c4'
    cases hcut : m.cut with
    | true =>
      have HC := Lib.hid hcut
      have hE := mstepE_cut hcut
      have HE := Lib.hid hE
      rw [hE]
      clear hcut hE
      go_wp2_with fail
      go_ret
      exact ⟨by rw [HP.out.2, HE.out]; rfl, by rw [HP.out.1, HC.out]; exact HB1.out, K1.out⟩
    | false =>
      have HC := Lib.hid hcut
      have hE := mstepE_go hcut
      have HE := Lib.hid hE
      rw [hE]
      clear hcut hE
      go_wp2_with fail
      go_ret
      refine ⟨by rw [HP.out.2, HE.out]; rfl, ?_, (K1.out.set_ 0 _).set_ 1 _⟩
      rw [HP.out.1, HC.out]
      exact (HB1.out.set_ 0 (.string (bs ((m.sure ++ m.tail).take k)))).set_ 1 (.string (bs []))
/-- the call gives nothing -/
def MN (w : World) (g : Nat) (m' : MSt) (e : Ending) (w' : World) : Prop := e = .returned (.tuple #[]) ∧ MB w' g m' ∧ Only g w w'
set_option maxRecDepth 20000 in
set_option maxHeartbeats 1000000 in
theorem marm_any (w : World) (g : Nat) (m : MSt) (n : Int) (hb : MB w g m) :
    Calls Tryd.prog 49 #[.pointer (some ⟨g, 0, none⟩), .int .i64 n] w (MN w g (m.arm n)) := by
  have HB := Lib.hid hb
  obtain ⟨c0, c1, c2, c3, c4⟩ := hb.cells
  have f3 := hb.frozen 3
  clear hb c0 c1 c2 c4
  by_cases hn : n < 0
  · have d : decide (n < 0) = true := by simpa using hn
    have HP := Lib.hid (show m.arm n = { m with left := -1 } by unfold MSt.arm; rw [if_pos hn])
    clear hn
    go_enter Tryd.func49, Tryd.ntmps49
    go_wp2_with fail
    go_end0
    refine ⟨rfl, ?_, ((Only.refl _ _).set_ 3 _).set_ 3 _⟩
    rw [HP.out]
    exact (HB.out.set_ 3 (.int .i64 n)).set_ 3 (.int .i64 (-1))
  · have d : decide (n < 0) = false := by simpa using hn
    have HP := Lib.hid (show m.arm n = { m with left := n } by unfold MSt.arm; rw [if_neg hn])
    clear hn
    go_enter Tryd.func49, Tryd.ntmps49
    go_wp2_with fail
    go_end0
    refine ⟨rfl, ?_, (Only.refl _ _).set_ 3 _⟩
    rw [HP.out]
    exact HB.out.set_ 3 (.int .i64 n)
theorem mnew_any (w : World) (n : Int) :
    Calls Tryd.prog 29 #[.int .i64 n] w fun e w' => e = .returned (.pointer (some ⟨w.heap.size, 0, none⟩)) ∧ MB w' w.heap.size (MSt.new n) ∧ Below w.heap.size w w' := by
  have hb := Blk.new w 73 (MSt.new n).cells
  have hk := below_alloc1 w (.cells (MSt.new n).cells 73)
  have HB := Lib.hid hb
  have HK := Lib.hid hk
  clear hb hk
  go_enter Tryd.func29, Tryd.ntmps29
  go_wp2_with fail
  go_ret
  exact ⟨rfl, HB.out, HK.out⟩
end Go.Proofs.YtoiknidlincdkaaDoor

namespace Go.Proofs.YtoiknidlincdkaaDoor
open Go.RowKit
attribute [local go_sem] bs_toList bs_size

set_option maxRecDepth 20000 in
set_option maxHeartbeats 3000000 in
theorem mcrash_any (w : World) (g : Nat) (m : MSt) (n : Int) (hm : m.Bd) (hb : MB w g m) :
    Calls Tryd.prog 50 #[.pointer (some ⟨g, 0, none⟩), .int .i64 n] w (MN w g (m.crash n)) := by
  have HB := Lib.hid hb
  obtain ⟨c0, c1, c2, c3, c4⟩ := hb.cells
  have f0 := hb.frozen 0
  have f1 := hb.frozen 1
  have f3 := hb.frozen 3
  have f4 := hb.frozen 4
  have h1 := hm.len
  clear hb hm c2
  obtain ⟨k, hk⟩ : ∃ k, k = min n.toNat m.tail.length := ⟨_, rfl⟩
  have HP := Lib.hid (show m.crash n = { m with sure := m.sure ++ m.tail.take k, tail := [], off := false, left := -1 } by unfold MSt.crash; rw [hk])
  have hkt : k ≤ m.tail.length := by omega
  have hto := fun w => run_str_to (P := Tryd.prog) Tryd.underlying9 m.tail k hkt w
  have hsum := fun w => run_str_add (P := Tryd.prog) w m.sure (m.tail.take k) (by rw [List.length_take]; omega)
  have d : (decide (n < 0) = true ∧ decide ((m.tail.length : Int) < 0) = false ∧ k = 0) ∨ (decide (n < 0) = false ∧ decide ((m.tail.length : Int) < n) = true ∧ k = m.tail.length) ∨ (decide (n < 0) = false ∧ decide ((m.tail.length : Int) < n) = false ∧ n = (k : Int)) := by
    simp only [decide_eq_true_eq, decide_eq_false_iff_not]; omega
  clear hk
  rcases d with ⟨d1, d2, hk⟩ | ⟨d1, d2, hk⟩ | ⟨d1, d2, hk⟩
  · subst hk
    go_enter Tryd.func50, Tryd.ntmps50
    go_wp2_with fail
    go_region
    go_wp2_with fail
    go_end0
    refine ⟨rfl, ?_, (((((Only.refl g w).set_ 0 _).set_ 1 _).set_ 4 _).set_ 3 _).drew⟩
    rw [HP.out, List.take_zero, List.append_nil]
    exact (((HB.out.set_ 0 (.string (bs m.sure))).set_ 1 (.string (bs []))).set_ 4 (.bool false)).set_ 3 (.int .i64 (-1))
  · subst hk
    go_enter Tryd.func50, Tryd.ntmps50
    go_wp2_with fail
    go_region
    go_wp2_with fail
    go_end0
    refine ⟨rfl, ?_, (((((Only.refl g w).set_ 0 _).set_ 1 _).set_ 4 _).set_ 3 _).drew⟩
    rw [HP.out, List.take_length]
    exact (((HB.out.set_ 0 (.string (bs (m.sure ++ m.tail)))).set_ 1 (.string (bs []))).set_ 4 (.bool false)).set_ 3 (.int .i64 (-1))
  · subst hk
    go_enter Tryd.func50, Tryd.ntmps50
    go_wp2_with fail
    go_region
    go_wp2_with fail
    go_end0
    refine ⟨rfl, ?_, (((((Only.refl g w).set_ 0 _).set_ 1 _).set_ 4 _).set_ 3 _).drew⟩
    rw [HP.out]
    exact (((HB.out.set_ 0 (.string (bs (m.sure ++ m.tail.take k)))).set_ 1 (.string (bs []))).set_ 4 (.bool false)).set_ 3 (.int .i64 (-1))
end Go.Proofs.YtoiknidlincdkaaDoor
