/-
  TapeDo2: the walk of liaisonlaw06.do: the kinds whose calls stand in a forced order.
-/
import Derived.Test.YtehoenojjdgphaaDoorTapeDo
namespace Go.Proofs.YtehoenojjdgphaaDoor
open Go.RowKit
attribute [local go_sem] bs_toList bs_size
attribute [local irreducible] wpPhi

theorem stepE_le (s : TSt) : s.stepE ≤ 14 := by unfold TSt.stepE; split <;> omega
set_option maxRecDepth 20000 in
set_option maxHeartbeats 4000000 in
theorem do2_any (w : World) (E : Nat → Addr) (B a g : Nat) (s : TSt) (m : MSt) (n : Int) (vd : Value) (d : List UInt8) (hn : -9223372036854775808 ≤ n ∧ n ≤ 9223372036854775807) (hl : d.length ≤ 400)
    (hB : B ≤ w.heap.size) (hE : ∀ w', Below B w w' → Errs w' E) (hd : ∀ w', Below B w w' → Byt w' vd d) (hb : Both w B a g s m) :
    Calls Tryd.prog 21 #[.pointer (some ⟨a, 0, none⟩), .pointer (some ⟨g, 0, none⟩), .agg #[.int .i64 2, .int .i64 n, vd]] w (DoR w B a g s.sync m.sync) := by
  have HE := Lib.hid hE
  have HD := Lib.hid hd
  have HB := Lib.hid hB
  have HG := Lib.hid hb.gg
  obtain ⟨pd, cd, hvd, _⟩ := hd w (Below.refl _ _)
  subst hvd
  have hbx := Blk.new w 50 #[.int .i64 2, .int .i64 n, .slice pd d.length cd]
  have hkx := below_alloc1 w (.cells #[.int .i64 2, .int .i64 n, .slice pd d.length cd] 50)
  have HX := Lib.hid hbx
  have HKX := Lib.hid (Keeps.of_below hkx hB : Keeps B playTs w _)
  have HBX := Lib.hid (Nat.le_trans hB hkx.size)
  have HT := Lib.hid (hb.tt.below hkx)
  have HM := Lib.hid (show MB _ g m from Blk.below hb.mm hkx (Blk.lt hb.mm))
  have HR := Lib.hid hb.rr
  have c0 := (hbx.cell 0).trans rfl
  have c1 := (hbx.cell 1).trans rfl
  have c2 := (hbx.cell 2).trans rfl
  clear hE hd hB hb hkx hbx
  go_enter Tryd.func21, Tryd.ntmps21
  go_wp2_with fail
  generalize w.alloc (.cells #[.int .i64 2, .int .i64 n, .slice pd d.length cd] 50) = wx at *
  refine (sync_any wx E B a s ((HE.out wx HKX.out.below).on [6] rfl) HT.out).mono ?_
  rintro e w1 ⟨rfl, ht1, k1⟩
  have K1 := HKX.out.trans (play_of_tape k1)
  have HM1 := Lib.hid (show MB w1 g m from k1.blk HM.out (by decide))
  have HT1 := Lib.hid ht1
  clear ht1 k1
  go_wp2_with fail
  refine (num_any w1 E (s.stepE) (stepE_le s) (HE.out w1 K1.below)).mono ?_
  rintro e w2 ⟨rfl, hb2⟩
  rw [HR.out.stepE]
  have K2 := K1.call (Nat.le_trans HB.out K1.size) hb2
  have HM2 := Lib.hid (show MB w2 g m from Blk.below HM1.out hb2 (Blk.lt HM1.out))
  have HT2 := Lib.hid (Tp.below HT1.out hb2)
  clear hb2 HT1 HM1
  go_wp2_with fail
  refine (msync_any w2 g m HR.out.bd HM2.out).mono ?_
  rintro e w3 ⟨rfl, hm3, k3⟩
  have HM3 := Lib.hid hm3
  have hms : MStep g m w2 w3 := ⟨k3, HM2.out⟩
  have HT3 := Lib.hid (Tp.mstep HT2.out hms)
  have K3 := K2.trans (hms.keeps HG.out)
  clear hm3 k3 hms
  go_wp2_with fail
  go_ret
  exact ⟨rfl, ⟨HT3.out, HM3.out, HR.out.sync, HG.out⟩, K3⟩
set_option maxRecDepth 20000 in
set_option maxHeartbeats 4000000 in
theorem do7_any (w : World) (E : Nat → Addr) (B a g : Nat) (s : TSt) (m : MSt) (n : Int) (vd : Value) (d : List UInt8) (hn : -9223372036854775808 ≤ n ∧ n ≤ 9223372036854775807) (hl : d.length ≤ 400)
    (hB : B ≤ w.heap.size) (hE : ∀ w', Below B w w' → Errs w' E) (hd : ∀ w', Below B w w' → Byt w' vd d) (hb : Both w B a g s m) :
    Calls Tryd.prog 21 #[.pointer (some ⟨a, 0, none⟩), .pointer (some ⟨g, 0, none⟩), .agg #[.int .i64 7, .int .i64 n, vd]] w (DoR w B a g (s.crash n) (m.crash n)) := by
  have HE := Lib.hid hE
  have HD := Lib.hid hd
  have HB := Lib.hid hB
  have HG := Lib.hid hb.gg
  obtain ⟨pd, cd, hvd, _⟩ := hd w (Below.refl _ _)
  subst hvd
  have hbx := Blk.new w 50 #[.int .i64 7, .int .i64 n, .slice pd d.length cd]
  have hkx := below_alloc1 w (.cells #[.int .i64 7, .int .i64 n, .slice pd d.length cd] 50)
  have HX := Lib.hid hbx
  have HKX := Lib.hid (Keeps.of_below hkx hB : Keeps B playTs w _)
  have HBX := Lib.hid (Nat.le_trans hB hkx.size)
  have HT := Lib.hid (hb.tt.below hkx)
  have HM := Lib.hid (show MB _ g m from Blk.below hb.mm hkx (Blk.lt hb.mm))
  have HR := Lib.hid hb.rr
  have c0 := (hbx.cell 0).trans rfl
  have c1 := (hbx.cell 1).trans rfl
  have c2 := (hbx.cell 2).trans rfl
  clear hE hd hB hb hkx hbx
  go_enter Tryd.func21, Tryd.ntmps21
  go_wp2_with fail
  generalize w.alloc (.cells #[.int .i64 7, .int .i64 n, .slice pd d.length cd] 50) = wx at *
  refine (crash_any wx B a s n hn HT.out).mono ?_
  rintro e w1 ⟨rfl, ht1, k1⟩
  have K1 := HKX.out.trans (play_of_tape k1)
  have HM1 := Lib.hid (show MB w1 g m from k1.blk HM.out (by decide))
  have HT1 := Lib.hid ht1
  have c0' := (((play_of_tape k1).blk HX.out rfl).cell 0).trans rfl
  have c1' := (((play_of_tape k1).blk HX.out rfl).cell 1).trans rfl
  clear ht1 k1 c0 c1 c2
  go_wp2_with fail
  refine (mcrash_any w1 g m n HR.out.bd HM1.out).mono ?_
  rintro e w3 ⟨rfl, hm3, k3⟩
  have HM3 := Lib.hid hm3
  have hms : MStep g m w1 w3 := ⟨k3, HM1.out⟩
  have HT3 := Lib.hid (Tp.mstep HT1.out hms)
  have K3 := K1.trans (hms.keeps HG.out)
  clear hm3 k3 hms
  go_wp2_with fail
  go_ret
  exact ⟨rfl, ⟨HT3.out, HM3.out, HR.out.crash n, HG.out⟩, K3⟩
end Go.Proofs.YtehoenojjdgphaaDoor
