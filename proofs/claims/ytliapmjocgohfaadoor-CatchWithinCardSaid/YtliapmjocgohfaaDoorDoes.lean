/-
  Does: the walk of liaisonlaw02.does, all kinds but 15.
-/
import Derived.Test.YtliapmjocgohfaaDoorCatchA
import Derived.Test.YtliapmjocgohfaaDoorTryN
import Derived.Laws.EntriesVeiled
namespace Go.Proofs.YtliapmjocgohfaaDoor
open Go.RowKit Go.Extern.Stop Go.Stop Go.Extern

/-- the number of an act's error -/
def kindE (k : Nat) : Nat := if k = 0 then 0 else if k ≤ 14 then k else if k ≤ 21 then 13 else 0
theorem kindE_le (k : Nat) : kindE k ≤ 14 := by unfold kindE; split <;> (try split) <;> (try split) <;> omega
theorem kindE_zero (k : Nat) (hk : k ≤ 21) (h : kindE k = 0) : k = 0 := by
  unfold kindE at h
  split at h
  · assumption
  · split at h
    · omega
    · simp_all
/-- what an act of the kind k does: it counts, and maybe panics -/
def ToldK (E : Nat → Addr) (Y : World → Prop) (w w' : World) (u : Value) (n : Nat) : Prop :=
  ∀ w'', w'.heap.size ≤ w''.heap.size → (∀ k, w.heap.size ≤ k → k < w'.heap.size → w''.heap[k]? = w'.heap[k]?) → Y w'' → Tells w'' u E n
def DoesR (E : Nat → Addr) (Y : World → Prop) (c : Nat) (n0 : Int) (m : Nat) (w : World) (e : Ending) (w' : World) : Prop :=
  But [c] w w' ∧ Blk w' c 3 #[.int .i64 (n0 + 1)] ∧
  ((m = 0 ∧ e = .returned (.tuple #[])) ∨ ∃ u n, m = n + 1 ∧ (∃ T x, u = .iface T x) ∧ ToldK E Y w w' u n ∧ e = .panicked [{ v := u, recovered := false }])
theorem but_set (w : World) (c i : Nat) (v : Value) : But [c] w (w.setCell ⟨c, i, none⟩ v) := (But.of_below (Below.refl _ _)).set_ c i v (by simp)
theorem run_boundsSlice {α : Type} (P : Program) (x m : Int) (W : World) (h0 : 0 ≤ x) (h31 : x ≤ 31) :
    (boundsPanic (α := α) .i64 x m .sliceB).run P W = .halt (.panic (.iface P.rt.boundsError (.agg #[.int .i64 x, .int .i64 m, .bool (W.tape W.drawn (.extern "runtime.boundsError.signed" 2) % 2 == 1), .int .u8 (BoundsCode.sliceB.toNat : Int)]))) W.drew := by
  have hw : IntKind.i64.wrap x = x := by
    simp [IntKind.wrap, IntKind.bits, IntKind.signed]
    split <;> omega
  simp [boundsPanic, Question.forced, Question.cut, runtimePanic, goPanic, h0, h31, hw]
theorem run_nilMap {P : Program} {t k v : TypeId} (ht : P.underlying t = some (.map k v)) (x y : Value) (w : World) :
    (Instr.mapUpdate t (.map none) x y).run P w = .halt (.panic (.iface P.rt.plainError (strVal "assignment to entry in nil map"))) w := by
  simp [Instr.mapUpdate, run_underlying ht, runtimePanic, goPanic]
theorem does0 (w : World) (E : Nat → Addr) (Y : World → Prop) (c : Nat) (n0 : Int) (hbd : 0 ≤ n0 ∧ n0 ≤ 1000000000) (hb : Blk w c 3 #[.int .i64 n0]) :
    Calls Tryd.prog 17 #[.int .i64 0, .pointer (some ⟨c, 0, none⟩)] w (DoesR E Y c n0 0 w) := by
  have f0 := hb.frozen 0
  have c0 := (hb.cell 0).trans rfl
  have HB := Lib.hid (show Blk (w.setCell ⟨c, 0, none⟩ (.int .i64 (n0 + 1))) c 3 #[.int .i64 (n0 + 1)] from hb.set_ 0 _)
  have HU := Lib.hid (but_set w c 0 (.int .i64 (n0 + 1)))
  have hbd1 := hbd.1
  have hbd2 := hbd.2
  clear hb hbd
  go_enter Tryd.func17, Tryd.ntmps17
  go_wp2_with fail
  go_end0
  exact ⟨HU.out, HB.out, .inl ⟨rfl, rfl⟩⟩
theorem doesErr (w : World) (E : Nat → Addr) (Y : World → Prop) (c : Nat) (n0 : Int) (k : Nat) (hk : 1 ≤ k ∧ k ≤ 14) (hbd : 0 ≤ n0 ∧ n0 ≤ 1000000000) (hb : Blk w c 3 #[.int .i64 n0]) (he : ∀ w', But [c] w w' → Errs w' E) :
    Calls Tryd.prog 17 #[.int .i64 (k : Int), .pointer (some ⟨c, 0, none⟩)] w (DoesR E Y c n0 k w) := by
  obtain ⟨n, rfl⟩ : ∃ n, k = n + 1 := ⟨k - 1, by omega⟩
  have HE := Lib.hid he
  have d1 : decide (1 ≤ ((n + 1 : Nat) : Int)) = true := by rw [decide_eq_true_eq]; omega
  have d2 : decide (((n + 1 : Nat) : Int) ≤ 14) = true := by rw [decide_eq_true_eq]; omega
  have hn : n < 14 := by omega
  clear hk he
  have f0 := hb.frozen 0
  have c0 := (hb.cell 0).trans rfl
  have HB := Lib.hid (show Blk (w.setCell ⟨c, 0, none⟩ (.int .i64 (n0 + 1))) c 3 #[.int .i64 (n0 + 1)] from hb.set_ 0 _)
  have HU := Lib.hid (but_set w c 0 (.int .i64 (n0 + 1)))
  have hbd1 := hbd.1
  have hbd2 := hbd.2
  clear hb hbd
  have HO := Lib.hid (errorOf_any _ E (n + 1) (by omega) (HE.out _ HU.out))
  have HC := Lib.hid (fun w => check_err w (E n))
  unfold errAt at HC
  rw [errV_suc] at HO
  generalize hk : ((n + 1 : Nat) : Int) = kk at *
  clear hk
  go_enter Tryd.func17, Tryd.ntmps17
  go_wp2_with fail
  refine HO.out.mono ?_
  rintro e w1 ⟨rfl, hb1⟩
  go_wp2_with fail
  refine (HC.out w1).mono ?_
  rintro e w2 ⟨rfl, rfl⟩
  go_wp2_with fail
  exact ⟨rfl, HU.out.trans (But.of_below hb1), Blk.below HB.out hb1 (Blk.lt HB.out), .inr ⟨_, n, rfl, ⟨_, _, rfl⟩, fun _ _ _ _ => told_own E n hn _, rfl⟩⟩
theorem does16 (w : World) (E : Nat → Addr) (Y : World → Prop) (c : Nat) (n0 : Int) (hbd : 0 ≤ n0 ∧ n0 ≤ 1000000000) (hb : Blk w c 3 #[.int .i64 n0]) :
    Calls Tryd.prog 17 #[.int .i64 16, .pointer (some ⟨c, 0, none⟩)] w (DoesR E Y c n0 13 w) := by
  have f0 := hb.frozen 0
  have c0 := (hb.cell 0).trans rfl
  have HB := Lib.hid (show Blk (w.setCell ⟨c, 0, none⟩ (.int .i64 (n0 + 1))) c 3 #[.int .i64 (n0 + 1)] from hb.set_ 0 _)
  have HU := Lib.hid (but_set w c 0 (.int .i64 (n0 + 1)))
  have hbd1 := hbd.1
  have hbd2 := hbd.2
  clear hb hbd
  have h1 := fun w => (Lib.run_indexAt_nil (P := Tryd.prog) w 38 3 0 0 .i64 0 Tryd.underlying38).trans (Lib.run_boundsPanic_index Tryd.prog 0 0 w (by omega) (by omega))
  rw [show Tryd.prog.rt.boundsError = 8 by kernel_rfl] at h1
  go_enter Tryd.func17, Tryd.ntmps17
  go_wp2_with fail
  exact ⟨rfl, HU.out.trans (But.of_below (Below.refl _ _).drew), HB.out, .inr ⟨_, 12, rfl, ⟨_, _, rfl⟩, fun _ _ _ _ => told_alien E _ _ (alienB _) _, rfl⟩⟩
theorem does17 (w : World) (E : Nat → Addr) (Y : World → Prop) (c : Nat) (n0 : Int) (hbd : 0 ≤ n0 ∧ n0 ≤ 1000000000) (hb : Blk w c 3 #[.int .i64 n0]) :
    Calls Tryd.prog 17 #[.int .i64 17, .pointer (some ⟨c, 0, none⟩)] w (DoesR E Y c n0 13 w) := by
  have f0 := hb.frozen 0
  have c0 := (hb.cell 0).trans rfl
  have HB := Lib.hid (show Blk (w.setCell ⟨c, 0, none⟩ (.int .i64 (n0 + 1))) c 3 #[.int .i64 (n0 + 1)] from hb.set_ 0 _)
  have HU := Lib.hid (but_set w c 0 (.int .i64 (n0 + 1)))
  have hbd1 := hbd.1
  have hbd2 := hbd.2
  clear hb hbd
  go_enter Tryd.func17, Tryd.ntmps17
  go_wp2_with fail
  exact ⟨rfl, HU.out, HB.out, .inr ⟨_, 12, rfl, ⟨_, _, rfl⟩, fun _ _ _ _ => told_alien E _ _ (alienS _) _, rfl⟩⟩
theorem does18 (w : World) (E : Nat → Addr) (Y : World → Prop) (c : Nat) (n0 : Int) (hbd : 0 ≤ n0 ∧ n0 ≤ 1000000000) (hb : Blk w c 3 #[.int .i64 n0]) :
    Calls Tryd.prog 17 #[.int .i64 18, .pointer (some ⟨c, 0, none⟩)] w (DoesR E Y c n0 13 w) := by
  have f0 := hb.frozen 0
  have c0 := (hb.cell 0).trans rfl
  have HB := Lib.hid (show Blk (w.setCell ⟨c, 0, none⟩ (.int .i64 (n0 + 1))) c 3 #[.int .i64 (n0 + 1)] from hb.set_ 0 _)
  have HU := Lib.hid (but_set w c 0 (.int .i64 (n0 + 1)))
  have hbd1 := hbd.1
  have hbd2 := hbd.2
  clear hb hbd
  have h1 := fun x y w => run_nilMap (P := Tryd.prog) Tryd.underlying53 x y w
  rw [show Tryd.prog.rt.plainError = 11 by kernel_rfl] at h1
  generalize strVal "assignment to entry in nil map" = sv at *
  go_enter Tryd.func17, Tryd.ntmps17
  go_wp2_with fail
  exact ⟨rfl, HU.out, HB.out, .inr ⟨_, 12, rfl, ⟨_, _, rfl⟩, fun _ _ _ _ => told_alien E _ _ (alienP _) _, rfl⟩⟩
theorem does19 (w : World) (E : Nat → Addr) (Y : World → Prop) (c : Nat) (n0 : Int) (hbd : 0 ≤ n0 ∧ n0 ≤ 1000000000) (hb : Blk w c 3 #[.int .i64 n0]) :
    Calls Tryd.prog 17 #[.int .i64 19, .pointer (some ⟨c, 0, none⟩)] w (DoesR E Y c n0 13 w) := by
  have f0 := hb.frozen 0
  have c0 := (hb.cell 0).trans rfl
  have HB := Lib.hid (show Blk (w.setCell ⟨c, 0, none⟩ (.int .i64 (n0 + 1))) c 3 #[.int .i64 (n0 + 1)] from hb.set_ 0 _)
  have HU := Lib.hid (but_set w c 0 (.int .i64 (n0 + 1)))
  have hbd1 := hbd.1
  have hbd2 := hbd.2
  clear hb hbd
  go_enter Tryd.func17, Tryd.ntmps17
  go_wp2_with fail
  exact ⟨rfl, HU.out, HB.out, .inr ⟨_, 12, rfl, ⟨_, _, rfl⟩, fun _ _ _ _ => told_alien E _ _ (alienS _) _, rfl⟩⟩
theorem does20 (w : World) (E : Nat → Addr) (Y : World → Prop) (c : Nat) (n0 : Int) (hbd : 0 ≤ n0 ∧ n0 ≤ 1000000000) (hb : Blk w c 3 #[.int .i64 n0]) :
    Calls Tryd.prog 17 #[.int .i64 20, .pointer (some ⟨c, 0, none⟩)] w (DoesR E Y c n0 13 w) := by
  have f0 := hb.frozen 0
  have c0 := (hb.cell 0).trans rfl
  have HB := Lib.hid (show Blk (w.setCell ⟨c, 0, none⟩ (.int .i64 (n0 + 1))) c 3 #[.int .i64 (n0 + 1)] from hb.set_ 0 _)
  have HU := Lib.hid (but_set w c 0 (.int .i64 (n0 + 1)))
  have hbd1 := hbd.1
  have hbd2 := hbd.2
  clear hb hbd
  have h1 := fun (α : Type) w => run_boundsSlice (α := α) Tryd.prog 1 0 w (by omega) (by omega)
  rw [show Tryd.prog.rt.boundsError = 8 by kernel_rfl] at h1
  go_enter Tryd.func17, Tryd.ntmps17
  go_wp2_with fail
  exact ⟨rfl, HU.out.trans (But.of_below (Below.refl _ _).drew), HB.out, .inr ⟨_, 12, rfl, ⟨_, _, rfl⟩, fun _ _ _ _ => told_alien E _ _ (alienB _) _, rfl⟩⟩
end Go.Proofs.YtliapmjocgohfaaDoor
