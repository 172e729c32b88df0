/-
  TapeW4: the walks of package tape: Cut, Crash, Arm, New.
-/
import Derived.Test.YtehoenojjdgphaaDoorTapeW3
import Derived.StillTailTactics
namespace Go.Proofs.YtehoenojjdgphaaDoor
open Go.RowKit

set_option maxRecDepth 20000 in
set_option maxHeartbeats 1000000 in
theorem cut_any (w : World) (E : Nat → Addr) (B a : Nat) (s : TSt) (n : Int) (he : ErrsOn [0, 6] w E) (ht : Tp w B a s) (hw : B ≤ w.heap.size) :
    Calls Tryd.prog 15 #[.pointer (some ⟨a, 0, none⟩), .int .i64 n] w (TapeR w B a (s.cut n) (errV E (s.cutE n))) := by
  have HT := Lib.hid ht
  obtain ⟨v, hB, hb, ho, hs⟩ := ht
  have e0 := he.cell 0 rfl
  have he6 := Lib.hid (errs_sub he (T := [6]) rfl)
  simp only [errVar, List.getD_cons_zero, List.getD_cons_succ, errAt] at e0
  obtain ⟨c0, c1, c2, c3, c4, c5⟩ := hb.cells
  have HB := Lib.hid hb
  have HO := Lib.hid ho
  obtain ⟨i0, hi, hz0, hz1, hz2⟩ := info_parts byt8Info
  have hlen := hs.len
  obtain ⟨q, c, rfl, g1, g2, _⟩ := owns_rd ho
  unfold maxLen at g2
  clear hb ho hs he c0 c1 c2 c4 c5
  by_cases hf : n < 0 ∨ (s.l.length : Int) < n
  · have hr := Lib.hid (show s.cut n = s ∧ s.cutE n = 1 by unfold TSt.cut TSt.cutE; rw [if_pos hf, if_pos hf]; exact ⟨rfl, rfl⟩)
    have d : (decide (n < 0) = true) ∨ (decide (n < 0) = false ∧ decide ((s.l.length : Int) < n) = true) := by
      simp only [decide_eq_true_eq, decide_eq_false_iff_not]; omega
    clear hf
    rcases d with d1 | ⟨d1, d2⟩
    all_goals
      go_enter Tryd.func15, Tryd.ntmps15
      go_wp2_with fail
      first | go_quiet (fail) | skip
      go_wp2_with fail
      go_ret
      obtain ⟨v0, a1, a2, a3, a4⟩ := HT.out
      exact ⟨by rw [hr.out.2]; rfl, by rw [hr.out.1]; exact ⟨v0, a1, a2, a3, a4⟩, by first | exact Keeps.refl _ _ _ | exact (Keeps.refl _ _ _).drewN _⟩
  · obtain ⟨m, rfl⟩ : ∃ m : Nat, n = (m : Int) := ⟨n.toNat, by omega⟩
    have hm : m ≤ s.l.length := by omega
    have hr := Lib.hid (show s.cut (m : Int) = s.set (s.l.take m) ∧ s.cutE (m : Int) = s.stepE by
      unfold TSt.cut TSt.cutE; rw [if_neg hf, if_neg hf]; exact ⟨rfl, rfl⟩)
    have d1 : decide ((m : Int) < 0) = false := by simp
    have d2 : decide ((s.l.length : Int) < (m : Int)) = false := by simp; omega
    have d2' : decide (s.l.length < m) = false := by simp; omega
    have hto := fun w => run_slice_to (P := Tryd.prog) Tryd.underlying22 hi q s.l.length c m (by omega) w
    clear hf
    go_enter Tryd.func15, Tryd.ntmps15
    go_wp2_with fail
    first | go_quiet (fail) | skip
    go_wp2_with fail
    have hlt : (s.l.take m).length = m := by rw [List.length_take]; omega
    have hby : ∀ w', Only a w w' → Byt w' (.slice q m c) (s.l.take m) := fun w' k => byt_take (owns_byt (k.owns HB.out HO.out tb_ne)) m hm
    have hby2 : ∀ (x w' : World), x.heap = w.heap → x.os = w.os → x.tape = w.tape → x.output = w.output → Only a x w' → Byt w' (.slice q m c) (s.l.take m) := fun x w' h1 h2 h3 h4 k =>
      hby w' ⟨k.os.trans h2, k.tape.trans h3, k.output.trans h4, by rw [k.size, h1], fun i hi => by rw [k.block i hi, h1]⟩
    first
      | refine (set_any w E B a s _ (s.l.take m) he6.out HT.out hw (hby w (Only.refl _ _)) hby (by omega)).mono ?_
      | refine (set_any (w.drewN _) E B a s _ (s.l.take m) (he6.out.below (below_drewN _ _)) HT.out hw (hby w (Only.refl _ _)) (fun w' k => hby2 _ w' rfl rfl rfl rfl k) (by omega)).mono ?_
    rintro e w1 ⟨rfl, ht1, k1⟩
    go_wp2_with fail
    go_ret
    exact ⟨by rw [hr.out.2]; rfl, by rw [hr.out.1]; exact ht1, by first | exact k1 | exact ((Keeps.refl _ _ _).drewN _).trans k1⟩

/-- the call gives nothing, the tape is s' -/
def TapeN (w : World) (B a : Nat) (s' : TSt) (e : Ending) (w' : World) : Prop := e = .returned (.tuple #[]) ∧ Tp w' B a s' ∧ Keeps B tapeTs w w'
set_option maxRecDepth 20000 in
set_option maxHeartbeats 1000000 in
theorem arm_any (w : World) (B a : Nat) (s : TSt) (n : Int) (hn : -9223372036854775808 ≤ n ∧ n ≤ 9223372036854775807) (ht : Tp w B a s) :
    Calls Tryd.prog 16 #[.pointer (some ⟨a, 0, none⟩), .int .i64 n] w (TapeN w B a (s.arm n)) := by
  obtain ⟨v, hB, hb, ho, hs⟩ := ht
  have HB := Lib.hid hb
  have HO := Lib.hid ho
  have HS := Lib.hid (hs.arm hn)
  obtain ⟨c0, c1, c2, c3, c4, c5⟩ := hb.cells
  have f1 := hb.frozen 1
  have f2 := hb.frozen 2
  clear hb ho hs hn
  go_enter Tryd.func16, Tryd.ntmps16
  go_wp2_with fail
  go_end0
  have k3 : Only a w ((w.setCell ⟨a, 1, none⟩ (.bool (decide (0 ≤ n)))).setCell ⟨a, 2, none⟩ (.int .i64 n)) := ((Only.refl _ _).set_ 1 _).set_ 2 _
  exact ⟨rfl, ⟨v, hB, (HB.out.set_ 1 (.bool (decide (0 ≤ n)))).set_ 2 (.int .i64 n), k3.owns HB.out HO.out tb_ne, HS.out⟩, keeps_only hB HB.out k3⟩
set_option maxRecDepth 20000 in
set_option maxHeartbeats 1000000 in
theorem crash_any (w : World) (B a : Nat) (s : TSt) (n : Int) (hn : -9223372036854775808 ≤ n ∧ n ≤ 9223372036854775807) (ht : Tp w B a s) :
    Calls Tryd.prog 11 #[.pointer (some ⟨a, 0, none⟩), .int .i64 n] w (TapeN w B a (s.crash n)) := by
  obtain ⟨v, hB, hb, ho, hs⟩ := ht
  have HB := Lib.hid hb
  have HO := Lib.hid ho
  have HS := Lib.hid (hs.crash n)
  have HK := Lib.hid (s.kept_le hs n)
  obtain ⟨c0, c1, c2, c3, c4, c5⟩ := hb.cells
  have f0 := hb.frozen 0
  have f1 := hb.frozen 1
  have f2 := hb.frozen 2
  have f3 := hb.frozen 3
  have f4 := hb.frozen 4
  obtain ⟨i0, hi, hz0, hz1, hz2⟩ := info_parts byt8Info
  have hlen := hs.len
  have hsure := hs.sure
  obtain ⟨q, c, rfl, g1, g2, _⟩ := owns_rd ho
  unfold maxLen at g2
  clear hb ho hs
  go_enter Tryd.func11, Tryd.ntmps11
  go_wp2_with fail
  go_quiet (fail)
  have hk : (if (s.l.length : Int) - (s.sure : Int) < (if n < 0 then 0 else n) then (s.l.length : Int) - (s.sure : Int) else if n < 0 then 0 else n) = (s.kept n : Int) := by
    unfold TSt.kept; repeat' split
    all_goals omega
  rw [hk]
  clear hk
  generalize (if n < 0 then (0 : Int) else n) = mx
  have HC := Lib.hid (show s.crash n = { s with off := false, armed := false, left := 0, l := s.l.take (s.sure + s.kept n), sure := s.sure + s.kept n } from rfl)
  have hkl := HK.out
  obtain ⟨kk, hkk⟩ : ∃ kk, s.kept n = kk := ⟨_, rfl⟩
  rw [hkk] at hkl HC ⊢
  clear hkk
  have hto := fun w => run_slice_to (P := Tryd.prog) Tryd.underlying22 hi q s.l.length c (s.sure + kk) (by omega) w
  have hto' : ∀ w : World, (Instr.slice 22 (.slice q s.l.length c) none (some (.int .i64 ((s.sure : Int) + (kk : Int)))) none).run Tryd.prog w = .ok (.slice q (s.sure + kk) c) w := fun w => by
    have := hto w
    rwa [show ((s.sure + kk : Nat) : Int) = (s.sure : Int) + (kk : Int) by omega] at this
  clear hto
  go_wp2_with fail
  have hb2 : TB ((w.drewN nq).setCell ⟨a, 4, none⟩ (.int .i64 ((s.sure : Int) + (kk : Int)))) a (.slice q s.l.length c) { s with sure := s.sure + kk } :=
    Blk.set_ (w := w.drewN nq) HB.out 4 (.int .i64 ((s.sure : Int) + (kk : Int)))
  have k2 : Only a w ((w.drewN nq).setCell ⟨a, 4, none⟩ (.int .i64 ((s.sure : Int) + (kk : Int)))) := ((Only.refl a w).drewN nq).set_ 4 _
  clear c0 c1 c2 c3 c4 c5 f0 f1 f2 f3 f4
  generalize (w.drewN nq).setCell ⟨a, 4, none⟩ (.int .i64 ((s.sure : Int) + (kk : Int))) = w2 at *
  obtain ⟨c0, c1, c2, c3, c4, c5⟩ := hb2.cells
  simp only [Int.natCast_add] at c4
  have f0 := hb2.frozen 0
  have f1 := hb2.frozen 1
  have f2 := hb2.frozen 2
  have f3 := hb2.frozen 3
  have HB2 := Lib.hid hb2
  have K2 := Lib.hid k2
  clear hb2 k2
  go_still_tail 12, (by kernel_rfl)
  change wpList _ _ _ _ _ w2.drew
  have HB3 := Lib.hid (show TB w2.drew a (.slice q s.l.length c) { s with sure := s.sure + kk } from HB2.out)
  have K3 := Lib.hid (show Only a w w2.drew from K2.out.drew)
  clear c0 c1 c2 c3 c4 c5 f0 f1 f2 f3 HB2 K2 hto'
  generalize w2.drew = w3 at *
  have c0 := (HB3.out.cell 0).trans rfl
  have c1 := (HB3.out.cell 1).trans rfl
  have c2 := (HB3.out.cell 2).trans rfl
  have c3 := (HB3.out.cell 3).trans rfl
  have f0 := HB3.out.frozen 0
  have f1 := HB3.out.frozen 1
  have f2 := HB3.out.frozen 2
  have f3 := HB3.out.frozen 3
  have h3 := Lib.hid (Blk.set_ (w := w3) HB3.out 3 (.slice q (s.sure + kk) c))
  have k3 := Lib.hid (K3.out.set_ 3 (.slice q (s.sure + kk) c))
  go_wp2_with (refine wpList_store (.tmp 40) (.tmp 38) 40 rfl rfl a 0 _ _ #[.bool false, .bool false, .int .i64 0] rfl rfl h3.out (by kernel_rfl) ?s1 ?s2 ?_)
  case s1 => first | exact ⟨rfl, rfl⟩ | simp [Value.oneCell']
  case s2 => simp [TSt.cells]
  intro w4 hb4 k4
  go_wp2_with fail
  go_end0
  have k5 := k3.out.trans k4
  refine ⟨rfl, ⟨.slice q (s.sure + kk) c, hB, ?_, ?_, HS.out⟩, keeps_only hB HB.out k5⟩
  · rw [HC.out]; exact hb4
  · rw [HC.out]
    show World.ownsRow _ B _ 1 _ (s.l.take (s.sure + kk)).length (bvs (s.l.take (s.sure + kk)))
    have e : (s.l.take (s.sure + kk)).length = s.sure + kk := by rw [List.length_take]; omega
    rw [e, bvs_take]
    exact k5.owns HB.out (owns_shorter HO.out hkl) tb_ne

theorem Tp.lower {w : World} {B B' a : Nat} {s : TSt} (h : Tp w B a s) (hB : B' ≤ B) : Tp w B' a s := by
  obtain ⟨v, h1, h2, h3, h4⟩ := h
  exact ⟨v, Nat.le_trans hB h1, h2, owns_lower h3 hB, h4⟩
theorem Tp.keep {w w' : World} {B B' a : Nat} {Ts : List TypeId} {s : TSt} (h : Tp w B a s) (k : Keeps B' Ts w w') (hT : Ts.contains 42 = false) (hu : Ts.contains 5 = false) : Tp w' B a s := by
  obtain ⟨v, h1, h2, h3, h4⟩ := h
  exact ⟨v, h1, k.blk h2 hT, k.owns h3 hu, h4⟩
theorem Tp.below {w w' : World} {B a : Nat} {s : TSt} (h : Tp w B a s) (k : Below w.heap.size w w') : Tp w' B a s := by
  obtain ⟨v, h1, h2, h3, h4⟩ := h
  exact ⟨v, h1, h2.below k h2.lt, owns_below h3 k, h4⟩
theorem Tp.ok {w : World} {B a : Nat} {s : TSt} (h : Tp w B a s) : s.Ok := h.choose_spec.2.2.2
/-- tape.New -/
def NewT (w : World) (E : Nat → Addr) (n : Int) (e : Ending) (w' : World) : Prop :=
  (TSt.setRoomE n = 0 ∧ e = .returned (.tuple #[.pointer (some ⟨w.heap.size, 0, none⟩), .nilIface]) ∧ Tp w' w.heap.size w.heap.size (TSt.zero.setRoom n) ∧ Below w.heap.size w w') ∨
  (TSt.setRoomE n = 1 ∧ e = .returned (.tuple #[.pointer none, errV E 1]) ∧ Below w.heap.size w w')
set_option maxRecDepth 20000 in
set_option maxHeartbeats 1000000 in
theorem new_any (w : World) (E : Nat → Addr) (n : Int) (he : ErrsOn [0] w E) : Calls Tryd.prog 8 #[.int .i64 n] w (NewT w E n) := by
  have he' := Lib.hid (he.below (below_alloc1 w (.cells (TSt.zero.cells (.slice none 0 0)) 42)))
  have ht : Tp (w.alloc (.cells (TSt.zero.cells (.slice none 0 0)) 42)) w.heap.size w.heap.size TSt.zero :=
    ⟨.slice none 0 0, Nat.le_refl _, Blk.new w _ _, ⟨rfl, .inl ⟨rfl, rfl⟩⟩, TSt.zero_ok⟩
  have HT := Lib.hid ht
  clear ht he
  go_enter Tryd.func8, Tryd.ntmps8
  go_wp2_with fail
  refine (setRoom_any _ E w.heap.size w.heap.size TSt.zero n he'.out HT.out).mono ?_
  rintro e w1 ⟨rfl, ht1, k1⟩
  have K1 := Lib.hid ((below_alloc1 w (.cells (TSt.zero.cells (.slice none 0 0)) 42)).trans k1.below)
  have HT1 := Lib.hid ht1
  clear ht1 k1
  have hc : TSt.setRoomE n = 0 ∨ TSt.setRoomE n = 1 := by unfold TSt.setRoomE; split <;> simp
  rcases hc with hc | hc
  · have HC := Lib.hid hc
    rw [hc, errV_nil]
    clear hc
    go_wp2_with fail
    go_ret2
    exact .inl ⟨HC.out, rfl, HT1.out, K1.out⟩
  · have HC := Lib.hid hc
    rw [hc, errV_suc]
    clear hc
    go_wp2_with fail
    go_ret2
    exact .inr ⟨HC.out, rfl, K1.out⟩
theorem new_ok (w : World) (E : Nat → Addr) (B : Nat) (n : Int) (he : ErrsOn [0] w E) (hn : TSt.setRoomE n = 0) (hB : B ≤ w.heap.size) : Calls Tryd.prog 8 #[.int .i64 n] w fun e w' =>
    e = .returned (.tuple #[.pointer (some ⟨w.heap.size, 0, none⟩), .nilIface]) ∧ Tp w' B w.heap.size (TSt.zero.setRoom n) ∧ Keeps B tapeTs w w' := by
  refine (new_any w E n he).mono ?_
  rintro e w' (⟨_, h2, h3, h4⟩ | ⟨h1, _⟩)
  · exact ⟨h2, h3.lower hB, Keeps.of_below h4 hB⟩
  · rw [hn] at h1; cases h1
end Go.Proofs.YtehoenojjdgphaaDoor
