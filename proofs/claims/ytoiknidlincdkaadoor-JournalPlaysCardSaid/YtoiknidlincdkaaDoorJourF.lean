/-
  JourF: journal.Frame and the document's.
-/
import Derived.Test.YtoiknidlincdkaaDoorJD
namespace Go.Proofs.YtoiknidlincdkaaDoor
open Go.RowKit

def frameE (l : List UInt8) : Nat := if okRow l then 0 else 4
def frameR (l : List UInt8) : List UInt8 := if okRow l then frameJ l else []
/-- what Frame gives -/
def FramedJ (w : World) (E : Nat → Addr) (l : List UInt8) (e : Ending) (w' : World) : Prop :=
  ∃ v, e = .returned (.tuple #[v, errV E (frameE l)]) ∧ w'.ownsRow w.heap.size 5 1 v (frameR l).length (bvs (frameR l)) ∧ Below w.heap.size w w'
theorem frame_bad {w w' : World} {E : Nat → Addr} {l : List UInt8} (h : okRow l = false) (hb : Below w.heap.size w w') : FramedJ w E l (.returned (.tuple #[.slice none 0 0, .iface 117 (.pointer (some (E 3)))])) w' := by
  unfold FramedJ frameE frameR
  rw [h]
  exact ⟨_, rfl, ⟨rfl, .inl ⟨rfl, rfl⟩⟩, hb⟩
theorem cnt_bytes (l : List UInt8) (h : l.length ≤ 200) : [Value.int .u8 ((l.length : Int) / 256), .int .u8 (l.length : Int)] = bvs [UInt8.ofNat (l.length / 256), UInt8.ofNat l.length] := by
  have h1 : (UInt8.ofNat (l.length / 256)).toNat = l.length / 256 := by rw [UInt8.toNat_ofNat']; omega
  have h2 : (UInt8.ofNat l.length).toNat = l.length := by rw [UInt8.toNat_ofNat']; omega
  show _ = [Value.int .u8 ((UInt8.ofNat (l.length / 256)).toNat : Int), .int .u8 ((UInt8.ofNat l.length).toNat : Int)]
  rw [h1, h2]
  rfl
theorem cnt_bytes2 (l : List UInt8) (h : l.length ≤ 200) : [Value.int .u8 ((l.length : Int) / 256), .int .u8 ((l.length : Int) % 256)] = bvs [UInt8.ofNat (l.length / 256), UInt8.ofNat l.length] := by
  rw [← cnt_bytes l h, Int.emod_eq_of_lt (Int.natCast_nonneg _) (by omega)]
set_option maxHeartbeats 1000000 in
theorem frame_any (w : World) (E : Nat → Addr) (v : Value) (l : List UInt8) (ht : HalfTab w) (he : ErrsOn [3] w E) (hv : Byt w v l) :
    Calls Tryd.prog 9 #[v] w (FramedJ w E l) := by
  have HV := Lib.hid hv
  have e3 := he.cell 3 rfl
  simp only [errVar, List.getD_cons_zero, List.getD_cons_succ, errAt] at e3
  obtain ⟨p, cap, rfl, h1, h2, h3⟩ := hv
  unfold maxLen at h2
  clear h3 he
  obtain ⟨i0, hi, hz0, hz1, hz2⟩ := info_parts byt8Info
  by_cases c1 : l.length < 1
  · have d1 : decide ((l.length : Int) < 1) = true := by rw [decide_eq_true_eq]; omega
    have HO := Lib.hid (show okRow l = false by rw [Bool.eq_false_iff]; intro h; have := (okRow_iff l).1 h; omega)
    clear c1
    go_enter Tryd.func9, Tryd.ntmps9
    go_wp2_with fail
    go_quiet (fail)
    go_wp2_with fail
    go_ret2
    exact frame_bad HO.out (below_drewN _ _)
  · have d1 : decide ((l.length : Int) < 1) = false := by rw [decide_eq_false_iff_not]; omega
    by_cases c2 : 200 < l.length
    · have d2 : decide (200 < (l.length : Int)) = true := by rw [decide_eq_true_eq]; omega
      have HO := Lib.hid (show okRow l = false by rw [Bool.eq_false_iff]; intro h; have := (okRow_iff l).1 h; omega)
      clear c1 c2
      go_enter Tryd.func9, Tryd.ntmps9
      go_wp2_with fail
      go_quiet (fail)
      go_wp2_with fail
      go_ret2
      exact frame_bad HO.out (below_drewN _ _)
    · have d2 : decide (200 < (l.length : Int)) = false := by rw [decide_eq_false_iff_not]; omega
      have hle : l.length ≤ 200 := by omega
      have HO := Lib.hid (show okRow l = true from (okRow_iff l).2 ⟨by omega, hle⟩)
      have HC := Lib.hid (cnt_bytes l hle)
      clear c1 c2
      go_enter Tryd.func9, Tryd.ntmps9
      go_wp2_with fail
      refine (seal_any _ l _ (ht.keep (keep_alloc _ _)) (by omega) (HV.out.keep (keep_alloc _ _))).mono ?_
      rintro e w2 ⟨v2, rfl, ho2, hb2⟩
      have hb12 := (below_alloc1 w (.cells #[.int .u8 ((l.length : Int) / 256), .int .u8 (l.length : Int)] 5)).trans (hb2.mono (by simp))
      obtain ⟨p2, k2, rfl, _, _, hr2⟩ := owns_rd ho2
      have hown := owns_below (World.ownsRow_lit (base := w.heap.size) (e := 5) (size := 1) w #[.int .u8 ((l.length : Int) / 256), .int .u8 (l.length : Int)] 2 (Nat.le_refl _) (by unfold maxLen; omega) rfl) hb2
      have hs2 := hb12.size
      have HR := Lib.hid hr2
      have HSL := Lib.hid (sealed_len l)
      clear ho2 hb2 hr2
      go_wp2_with (at_builtin; refine wpList_app (.tmp 20) (.tmp 22) 22 rfl rfl w.heap.size 5 i0 (.int .u8 0) 1 1 Tryd.underlying22 hi hz0 hz1 hz2 rfl (by decide) _ _ _ rfl hown _ _ _ (bvs (sealed l)) rfl ?e0 HR.out bvs_one ?e1 ?e2 hs2 ?_)
      case e0 => (rw [bvs_len]; (try omega))
      case e1 => rw [HSL.out]; unfold maxLen; omega
      case e2 => rw [HSL.out]; omega
      intro v4 w4 ho4 hg4
      have HB4 := Lib.hid (hb12.grown hg4 hs2 (fun j hj => (hown.lt j hj).1))
      have HO4 := Lib.hid ho4
      clear hown hg4 ho4 hb12
      go_wp2_with fail
      go_ret2
      unfold FramedJ frameE frameR
      rw [HO.out]
      refine ⟨_, rfl, ?_, HB4.out⟩
      have e1 : bvs (frameJ l) = [Value.int .u8 ((l.length : Int) / 256), .int .u8 (l.length : Int)] ++ bvs (sealed l) := by rw [HC.out]; rfl
      have e2 : (frameJ l).length = 2 + (sealed l).length := by rw [frameJ_len, HSL.out]; omega
      rw [if_pos rfl, e1, e2]
      exact HO4.out
/-- the document's Frame -/
def FramedR (w : World) (l : List UInt8) (e : Ending) (w' : World) : Prop :=
  ∃ v, e = .returned (.tuple #[v, .bool (okRow l)]) ∧ w'.ownsRow w.heap.size 5 1 v (frameR l).length (bvs (frameR l)) ∧ Below w.heap.size w w'
theorem refframe_bad {w w' : World} {l : List UInt8} (h : okRow l = false) (hb : Below w.heap.size w w') : FramedR w l (.returned (.tuple #[.slice none 0 0, .bool false])) w' := by
  unfold FramedR frameR
  rw [h]
  exact ⟨_, rfl, ⟨rfl, .inl ⟨rfl, rfl⟩⟩, hb⟩
set_option maxRecDepth 20000 in
set_option maxHeartbeats 1000000 in
theorem refframe_any (w : World) (v : Value) (l : List UInt8) (hv : Byt w v l) :
    Calls Tryd.prog 10 #[v] w (FramedR w l) := by
  have HV := Lib.hid hv
  obtain ⟨p, cap, rfl, h1, h2, h3⟩ := hv
  have H3 := Lib.hid h3
  unfold maxLen at h2
  clear h3
  obtain ⟨i0, hi, hz0, hz1, hz2⟩ := info_parts byt8Info
  by_cases c1 : l.length < 1
  · have d1 : decide ((l.length : Int) < 1) = true := by rw [decide_eq_true_eq]; omega
    have HO := Lib.hid (show okRow l = false by rw [Bool.eq_false_iff]; intro h; have := (okRow_iff l).1 h; omega)
    clear c1
    go_enter Tryd.func10, Tryd.ntmps10
    go_wp2_with fail
    go_ret2
    exact refframe_bad HO.out (Below.refl _ _)
  · have d1 : decide ((l.length : Int) < 1) = false := by rw [decide_eq_false_iff_not]; omega
    by_cases c2 : 200 < l.length
    · have d2 : decide (200 < (l.length : Int)) = true := by rw [decide_eq_true_eq]; omega
      have HO := Lib.hid (show okRow l = false by rw [Bool.eq_false_iff]; intro h; have := (okRow_iff l).1 h; omega)
      clear c1 c2
      go_enter Tryd.func10, Tryd.ntmps10
      go_wp2_with fail
      go_ret2
      exact refframe_bad HO.out (Below.refl _ _)
    · have d2 : decide (200 < (l.length : Int)) = false := by rw [decide_eq_false_iff_not]; omega
      have hle : l.length ≤ 200 := by omega
      have HO := Lib.hid (show okRow l = true from (okRow_iff l).2 ⟨by omega, hle⟩)
      have HC := Lib.hid (cnt_bytes2 l hle)
      have ho0 := World.ownsRow_lit (base := w.heap.size) (e := 5) (size := 1) w #[.int .u8 ((l.length : Int) / 256), .int .u8 ((l.length : Int) % 256)] 2 (Nat.le_refl _) (by unfold maxLen; omega) rfl
      have hr0 := Lib.hid (H3.out.keep (keep_alloc w (.cells #[.int .u8 ((l.length : Int) / 256), .int .u8 ((l.length : Int) % 256)] 5)))
      have hs0 := (below_alloc1 w (.cells #[.int .u8 ((l.length : Int) / 256), .int .u8 ((l.length : Int) % 256)] 5)).size
      clear c1 c2
      go_enter Tryd.func10, Tryd.ntmps10
      go_wp2_with (at_builtin; refine wpList_app (.tmp 20) (.tmp 21) 22 rfl rfl w.heap.size 5 i0 (.int .u8 0) 1 1 Tryd.underlying22 hi hz0 hz1 hz2 rfl (by decide) _ _ _ rfl ho0 _ _ _ (bvs l) rfl ?e0 hr0.out bvs_one ?e1 ?e2 hs0 ?_)
      case e0 => (rw [bvs_len]; (try omega))
      case e1 => unfold maxLen; omega
      case e2 => omega
      intro v1 w1 ho1 hg1
      have hb1 := (below_alloc1 w (.cells #[.int .u8 ((l.length : Int) / 256), .int .u8 ((l.length : Int) % 256)] 5)).grown hg1 hs0 (fun j hj => (ho0.lt j hj).1)
      obtain ⟨q1, k1, rfl, _, _, _⟩ := owns_rd ho1
      have HO1 := Lib.hid ho1
      have HB1 := Lib.hid hb1
      clear ho0 hr0 hs0 hg1 ho1 hb1
      go_wp2_with fail
      refine (refsum_any _ l _ (HV.out.below HB1.out)).mono ?_
      rintro e w2 ⟨rfl, rfl⟩
      go_wp2_with fail
      refine (reffour_any (rsum l) _).mono ?_
      rintro e w3 ⟨v3, rfl, ⟨p3, c3, rfl, h31, h32, h33⟩, hb3⟩
      have hb13 := HB1.out.trans (hb3.mono HB1.out.size)
      have ho3 := owns_below HO1.out hb3
      have hs3 := hb13.size
      have HR := Lib.hid h33
      clear h33 hb3
      go_wp2_with (at_builtin; refine wpList_app (.tmp 23) (.tmp 26) 22 rfl rfl w.heap.size 5 i0 (.int .u8 0) 1 1 Tryd.underlying22 hi hz0 hz1 hz2 rfl (by decide) _ _ _ rfl ho3 _ _ _ (bvs (four (rsum l))) rfl ?f0 HR.out bvs_one ?f1 ?f2 hs3 ?_)
      case f0 => (rw [bvs_len]; (try omega))
      case f1 => rw [four_len]; unfold maxLen; omega
      case f2 => rw [four_len]; omega
      intro v4 w4 ho4 hg4
      have HB4 := Lib.hid (hb13.grown hg4 hs3 (fun j hj => (ho3.lt j hj).1))
      have HO4 := Lib.hid ho4
      clear ho3 hg4 ho4 hb13
      go_wp2_with fail
      go_ret2
      unfold FramedR frameR
      rw [HO.out]
      refine ⟨_, rfl, ?_, HB4.out⟩
      have e1 : bvs (frameJ l) = [Value.int .u8 ((l.length : Int) / 256), .int .u8 ((l.length : Int) % 256)] ++ bvs l ++ bvs (four (rsum l)) := by rw [HC.out, List.append_assoc, ← bvs_app]; rfl
      have e2 : (frameJ l).length = 2 + l.length + (four (rsum l)).length := by rw [frameJ_len, four_len]; omega
      rw [if_pos rfl, e1, e2]
      exact HO4.out
end Go.Proofs.YtoiknidlincdkaaDoor
