/-
  Goes: what CatchGoes does within Try: it is deferred that it ended, and does.
-/
import Derived.Test.YtliapmjocgohfaaDoorDoes15
import Derived.Test.YtliapmjocgohfaaDoorTryB
namespace Go.Proofs.YtliapmjocgohfaaDoor
open Go.RowKit Go.Extern.Stop Go.Stop Go.Extern

/-- CatchGoes$1$1: one more has ended -/
theorem goes2_any (w : World) (b : Nat) (n : Int) (u : FrameMode) (hbd : 0 ≤ n ∧ n ≤ 1000000000) (hb : Blk w b 3 #[.int .i64 n]) :
    CallsD Tryd.prog 21 #[.pointer (some ⟨b, 0, none⟩)] u w fun e u' w' => u' = u ∧ e = .returned (.tuple #[]) ∧ w' = w.setCell ⟨b, 0, none⟩ (.int .i64 (n + 1)) := by
  have f0 := hb.frozen 0
  have c0 := (hb.cell 0).trans rfl
  have hbd1 := hbd.1
  have hbd2 := hbd.2
  clear hb hbd
  go_enter_d Tryd.func21, Tryd.ntmps21
  go_wp2_with fail
  go_end0
  exact ⟨rfl, rfl⟩
/-- CatchGoes$1 -/
theorem goes1_any (w : World) (E : Nat → Addr) (sy : Addr) (k : Nat) (hk : k ≤ 20) (be bk bc : Nat) (n : Int) (hbd : 0 ≤ n ∧ n ≤ 1000000000) (hbe : Blk w be 3 #[.int .i64 n]) (hbk : Blk w bk 3 #[.int .i64 (k : Int)]) (hbc : Blk w bc 3 #[.int .i64 0]) (hne : be ≠ bc)
    (he : ∀ w', But [be, bc] w w' → Errs15 w' E sy) :
    Calls Tryd.prog 20 #[.pointer (some ⟨be, 0, none⟩), .pointer (some ⟨bk, 0, none⟩), .pointer (some ⟨bc, 0, none⟩)] w fun e w2 =>
      MayG (fun v w2 => v = .bool true ∧ Blk w2 be 3 #[.int .i64 (n + 1)]) (fun _ w2 => Blk w2 be 3 #[.int .i64 (n + 1)]) E e w2 ∧ But [be, bc] w w2 := by
  have hw : ∀ w', But [bc] w w' → But [be, bc] w w' := fun w' h => ⟨h.os, h.tape, h.output, h.size, fun k hk hn => h.block k hk (by simp at hn ⊢; exact hn.2)⟩
  have HD := Lib.hid (does_any w E sy k hk bc 0 (by omega) hbc (fun w' h => he w' (hw w' h)))
  have ck := (hbk.cell 0).trans rfl
  have hmf := @run_makeFunc Tryd.prog
  have HX := Lib.hid hbe
  have HW := Lib.hid hw
  have HE := Lib.hid he
  have HNE := Lib.hid hne
  have HBD := Lib.hid hbd
  clear hbk hbc hbe he hne hk hw hbd
  go_enter_defers Tryd.func20, Tryd.ntmps20
  go_wp2_with fail
  refine HD.out.mono ?_
  rintro e w1 ⟨hbut, hb1, hor⟩
  have HB1 := Lib.hid (hbut.blk HX.out (by simp; exact HNE.out))
  have HB := Lib.hid hbut
  have HF := Lib.hid (show Blk (w1.setCell ⟨be, 0, none⟩ (.int .i64 (n + 1))) be 3 #[.int .i64 (n + 1)] from HB1.out.set_ 0 _)
  have HU := Lib.hid ((HW.out w1 hbut).set_ be 0 (.int .i64 (n + 1)) (by simp))
  rcases hor with ⟨h0, rfl⟩ | ⟨u, m, hm, hu, ht, rfl⟩
  · clear hbut hb1
    go_wp2_with fail
    refine leaves_cons (f := 21) (args := #[.pointer (some ⟨be, 0, none⟩)]) (by simp) (by simp [go_sem]) ?_
    refine (goes2_any w1 be n _ HBD.out HB1.out).mono ?_
    rintro e u' w4 ⟨rfl, rfl, rfl⟩
    simp [Leaves, settle, results, Tryd.results20, go_sem]
    exact ⟨.inl ⟨_, rfl, rfl, HF.out⟩, HU.out⟩
  · have HT := Lib.hid ht
    have HK := Lib.hid hm
    clear hbut hb1 ht hm
    obtain ⟨T, x0, rfl⟩ := hu
    go_wp2_with fail
    refine leaves_cons (f := 21) (args := #[.pointer (some ⟨be, 0, none⟩)]) (by simp) (by simp [go_sem]) ?_
    refine (goes2_any w1 be n _ HBD.out HB1.out).mono ?_
    rintro e u' w4 ⟨rfl, rfl, rfl⟩
    have h14 : m < 14 := by have := kindE_le k; have := HK.out; omega
    have hT := HT.out (w1.setCell ⟨be, 0, none⟩ (.int .i64 (n + 1))) (by simp) (fun j h1 h2 => Below.heap_setCell _ _ _ _ (by have := HX.out.lt; show j ≠ be; omega)) (HE.out _ HU.out)
    simp [Leaves, settle, results, Tryd.results20, go_sem]
    exact ⟨.inr ⟨_, m, h14, HF.out, ⟨_, _, rfl⟩, hT, rfl⟩, HU.out⟩
end Go.Proofs.YtliapmjocgohfaaDoor
