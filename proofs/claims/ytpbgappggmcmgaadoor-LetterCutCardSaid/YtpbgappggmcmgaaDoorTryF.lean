/-
  TryF: catch.Try over rows of fields.
-/
import Derived.Test.YtpbgappggmcmgaaDoorTryC
namespace Go.Proofs.YtpbgappggmcmgaaDoor
open Go.RowKit Go.Extern.Stop Go.Stop Go.Extern

/-- nothing panicked: the deferred closure turns nothing -/
theorem tryF_idle (d x r : Nat) (w : World) (hd : w.cell? ⟨d, 0, none⟩ = some (.bool true)) :
    CallsD Tryd.prog 63 #[.pointer (some ⟨d, 0, none⟩), .pointer (some ⟨x, 0, none⟩), .pointer (some ⟨r, 0, none⟩)] .returning w fun e u' w' => e = .returned (.tuple #[]) ∧ u' = .returning ∧ w' = w := by
  refine callsD_of_wpS Tryd.func63 rfl fun c₀ cs hu => ?_
  apply wpS_seq
  apply wpS_region
  simp [wpOpsS, go_sem, recoverD, hu, Tryd.ntmps63, Exit.thenS]
  refine wpS_of_wp ?_
  have e : (#[Value.pointer (some ⟨d, 0, none⟩), .pointer (some ⟨x, 0, none⟩), .pointer (some ⟨r, 0, none⟩)] ++ ((Array.replicate 8 undef).setIfInBounds 2 Value.nilIface).setIfInBounds 0 Value.nilIface) =
      #[Value.pointer (some ⟨d, 0, none⟩), .pointer (some ⟨x, 0, none⟩), .pointer (some ⟨r, 0, none⟩), .nilIface, undef, .nilIface, undef, undef, undef, undef, undef] := rfl
  rw [e]
  clear e
  go_wp2_with fail
  cases c₀
  simp_all [bodyPostS, results, Tryd.results63, Exit.thenS]
/-- one of package api's errors: it is the result -/
theorem tryF_err (d x r : Nat) (w : World) (E : Nat → Addr) (n : Nat) (older : List PanicEntry) (hn : n < 14) (he : Errs w E) (hd : w.cell? ⟨d, 0, none⟩ = some (.bool false))
    (hx : Blk w x 49 #[.slice none 0 0]) (hr : Blk w r 29 #[.nilIface]) (hxr : x ≠ r) :
    CallsD Tryd.prog 63 #[.pointer (some ⟨d, 0, none⟩), .pointer (some ⟨x, 0, none⟩), .pointer (some ⟨r, 0, none⟩)] (.panicking ({ v := errAt (E n), recovered := false } :: older)) w fun e u' w' =>
      e = .returned (.tuple #[]) ∧ u' = .panicking ({ v := errAt (E n), recovered := true } :: older) ∧ w'.cell? ⟨x, 0, none⟩ = some (.slice none 0 0) ∧ w'.cell? ⟨r, 0, none⟩ = some (errAt (E n)) ∧ But [x, r] w w' := by
  unfold errAt
  have HT := told_any w E n hn he
  unfold errAt at HT
  refine callsD_of_wpS Tryd.func63 rfl fun c₀ cs hu => ?_
  apply wpS_seq
  apply wpS_region
  simp [wpOpsS, go_sem, recoverD, hu, Tryd.ntmps63, Exit.thenS]
  refine wpS_of_wp ?_
  have e : (#[Value.pointer (some ⟨d, 0, none⟩), .pointer (some ⟨x, 0, none⟩), .pointer (some ⟨r, 0, none⟩)] ++ ((Array.replicate 8 undef).setIfInBounds 2 (Value.iface 128 (.pointer (some (E n))))).setIfInBounds 0 (Value.iface 128 (.pointer (some (E n))))) =
      #[Value.pointer (some ⟨d, 0, none⟩), .pointer (some ⟨x, 0, none⟩), .pointer (some ⟨r, 0, none⟩), .iface 128 (.pointer (some (E n))), undef, .iface 128 (.pointer (some (E n))), undef, undef, undef, undef, undef] := rfl
  rw [e]
  have HX := Lib.hid hx
  have HR := Lib.hid hr
  clear e he hx hr
  go_wp2_with fail
  refine HT.mono ?_
  rintro e w1 ⟨rfl, hb1⟩
  have hx1 := HX.out.below hb1 HX.out.lt
  have hr1 := HR.out.below hb1 HR.out.lt
  have HX1 := Lib.hid hx1
  have HR1 := Lib.hid hr1
  have cx := (hx1.cell 0).trans rfl
  have fx := hx1.frozen 0
  have cr := (hr1.cell 0).trans rfl
  have fr := hr1.frozen 0
  have HB1 := Lib.hid hb1
  clear hx1 hr1 hb1 HT
  go_wp2_with fail
  have hA := (((HX1.out.set_ 0 (.slice none 0 0)).cell 0).trans rfl : (w1.setCell ⟨x, 0, none⟩ (.slice none 0 0)).cell? ⟨x, 0, none⟩ = some (.slice none 0 0))
  have hA' : ((w1.setCell ⟨x, 0, none⟩ (.slice none 0 0)).setCell ⟨r, 0, none⟩ (.iface 128 (.pointer (some (E n))))).cell? ⟨x, 0, none⟩ = some (.slice none 0 0) := by
    refine (World.cell?_of_block (Below.heap_setCell _ _ _ _ ?_)).trans hA
    exact hxr
  have hr2 : Blk (w1.setCell ⟨x, 0, none⟩ (.slice none 0 0)) r 29 #[.nilIface] := (Below.heap_setCell _ _ _ _ (fun e => hxr e.symm)).trans HR1.out
  have hB := ((hr2.set_ 0 (.iface 128 (.pointer (some (E n))))).cell 0).trans rfl
  have hC : But [x, r] w ((w1.setCell ⟨x, 0, none⟩ (.slice none 0 0)).setCell ⟨r, 0, none⟩ (.iface 128 (.pointer (some (E n))))) :=
    ((But.of_below HB1.out).set_ x 0 _ (by simp)).set_ r 0 _ (by simp)
  cases c₀
  simp only [bodyPostS, results, Tryd.results63]
  exact ⟨trivial, _, rfl, .tuple #[], by simp, rfl, rfl, hA', hB, hC⟩
/-- what a call within Try may do: it gives a value, or panics with one of package api's errors -/
def May (R : Value → World → Prop) (S : Nat → Prop) (E : Nat → Addr) (e : Ending) (w' : World) : Prop :=
  (∃ v, e = .returned v ∧ R v w') ∨ (∃ n, n < 14 ∧ S n ∧ e = .panicked [{ v := errAt (E n), recovered := false }])
/-- what Try gives -/
def TryR (R : World → Value → World → Prop) (S : Nat → Prop) (E : Nat → Addr) (z : Value) (w : World) (e : Ending) (w' : World) : Prop :=
  Below w.heap.size w w' ∧
  ((∃ v w1 w2, e = .returned (.tuple #[v, .nilIface]) ∧ w1.heap.size = w.heap.size + 3 ∧ Below w.heap.size w w1 ∧ Below w1.heap.size w1 w2 ∧ R w1 v w2 ∧ But [w.heap.size, w.heap.size + 1, w.heap.size + 2] w2 w') ∨
   (∃ n, n < 14 ∧ S n ∧ e = .returned (.tuple #[z, errAt (E n)])))
theorem tryF_any (w : World) (E : Nat → Addr) (f : FuncId) (caps : Array Value) (R : World → Value → World → Prop) (S : Nat → Prop) (he : Errs w E) (hRs : ∀ w1 v w2, R w1 v w2 → ∃ p n c, v = .slice p n c) (hcf : ∀ w, (callFunc f caps).run Tryd.prog w = .ok (.enter f caps) w)
    (hdo : ∀ w1, Below w.heap.size w w1 → w1.heap.size = w.heap.size + 3 → Calls Tryd.prog f caps w1 fun e w2 => May (R w1) S E e w2 ∧ Below w1.heap.size w1 w2) :
    Calls Tryd.prog 54 #[.func (.func f) #[] caps] w (TryR R S E (.slice none 0 0) w) := by
  have hmf := @run_makeFunc Tryd.prog
  have HE := Lib.hid he
  have HD := Lib.hid hdo
  have HRS := Lib.hid hRs
  clear he hdo hRs
  go_enter_defers Tryd.func54, Tryd.ntmps54
  go_wp2_with fail
  have hb1 : Below w.heap.size w (((w.alloc (.cells #[.slice none 0 0] 49)).alloc (.cells #[.nilIface] 29)).alloc (.cells #[.bool false] 4)) := below_alloc (below_alloc (below_alloc1 w _) _) _
  refine (HD.out _ hb1 (by simp)).mono ?_
  rintro e w2 ⟨hm, hb2⟩
  have x1 := (((Blk.new w 49 #[.slice none 0 0]).alloc (.cells #[.nilIface] 29)).alloc (.cells #[.bool false] 4)).below hb2 (by simp; omega)
  have r1 := ((Blk.new (w.alloc (.cells #[.slice none 0 0] 49)) 29 #[.nilIface]).alloc (.cells #[.bool false] 4)).below hb2 (by simp)
  have d1 := (Blk.new ((w.alloc (.cells #[.slice none 0 0] 49)).alloc (.cells #[.nilIface] 29)) 4 #[.bool false]).below hb2 (by simp)
  have hs1 : (((w.alloc (.cells #[.slice none 0 0] 49)).alloc (.cells #[.nilIface] 29)).alloc (.cells #[.bool false] 4)).heap.size = w.heap.size + 3 := by simp
  simp only [World.size_alloc] at r1 d1
  have X1 := Lib.hid x1
  have R1 := Lib.hid r1
  have D1 := Lib.hid d1
  have B1 := Lib.hid hb1
  have B2 := Lib.hid hb2
  have S1 := Lib.hid hs1
  rcases hm with ⟨v, rfl, hR⟩ | ⟨n, hn, hS, rfl⟩
  · obtain ⟨p, k, c, rfl⟩ := HRS.out _ _ _ hR
    have HR := Lib.hid hR
    have cx := (x1.cell 0).trans rfl
    have fx := x1.frozen 0
    have cr := (r1.cell 0).trans rfl
    have fr := r1.frozen 0
    have cd := (d1.cell 0).trans rfl
    have fd := d1.frozen 0
    clear x1 r1 d1 hb1 hb2 hs1 hR
    generalize (((w.alloc (.cells #[.slice none 0 0] 49)).alloc (.cells #[.nilIface] 29)).alloc (.cells #[.bool false] 4)) = w1 at *
    go_wp2_with fail
    clear cx fx cr fr cd fd
    have a1 : Blk (w2.setCell ⟨w.heap.size, 0, none⟩ (.slice p k c)) w.heap.size 49 #[.slice p k c] := X1.out.set_ 0 _
    have b1 := (R1.out.far (b := w.heap.size) (by omega) 0 (.slice p k c))
    have e1 : Blk ((w2.setCell ⟨w.heap.size, 0, none⟩ (.slice p k c)).setCell ⟨w.heap.size + 1 + 1, 0, none⟩ (.bool true)) (w.heap.size + 1 + 1) 4 #[.bool true] := (D1.out.far (b := w.heap.size) (by omega) 0 (.slice p k c)).set_ 0 (.bool true)
    have a2 := a1.far (b := w.heap.size + 1 + 1) (by omega) 0 (.bool true)
    have b2 := b1.far (b := w.heap.size + 1 + 1) (by omega) 0 (.bool true)
    have a3 : Blk (((w2.setCell ⟨w.heap.size, 0, none⟩ (.slice p k c)).setCell ⟨w.heap.size + 1 + 1, 0, none⟩ (.bool true)).setCell ⟨w.heap.size, 0, none⟩ (.slice p k c)) w.heap.size 49 #[.slice p k c] := a2.set_ 0 _
    have b3 := b2.far (b := w.heap.size) (by omega) 0 (.slice p k c)
    have e3 := e1.far (b := w.heap.size) (by omega) 0 (.slice p k c)
    have a4 := a3.far (b := w.heap.size + 1) (by omega) 0 .nilIface
    have b4 : Blk ((((w2.setCell ⟨w.heap.size, 0, none⟩ (.slice p k c)).setCell ⟨w.heap.size + 1 + 1, 0, none⟩ (.bool true)).setCell ⟨w.heap.size, 0, none⟩ (.slice p k c)).setCell ⟨w.heap.size + 1, 0, none⟩ .nilIface) (w.heap.size + 1) 29 #[.nilIface] := b3.set_ 0 _
    have e4 := e3.far (b := w.heap.size + 1) (by omega) 0 .nilIface
    have hBut : But [w.heap.size, w.heap.size + 1, w.heap.size + 2] w2 ((((w2.setCell ⟨w.heap.size, 0, none⟩ (.slice p k c)).setCell ⟨w.heap.size + 1 + 1, 0, none⟩ (.bool true)).setCell ⟨w.heap.size, 0, none⟩ (.slice p k c)).setCell ⟨w.heap.size + 1, 0, none⟩ .nilIface) :=
      ((((But.of_below (Below.refl _ _)).set_ _ 0 _ (by simp)).set_ _ 0 _ (by simp)).set_ _ 0 _ (by simp)).set_ _ 0 _ (by simp)
    clear a1 a2 a3 b1 b2 b3 e1 e3
    generalize ((((w2.setCell ⟨w.heap.size, 0, none⟩ (.slice p k c)).setCell ⟨w.heap.size + 1 + 1, 0, none⟩ (.bool true)).setCell ⟨w.heap.size, 0, none⟩ (.slice p k c)).setCell ⟨w.heap.size + 1, 0, none⟩ .nilIface) = w3 at *
    refine leaves_cons (f := 63) (args := #[.pointer (some ⟨w.heap.size + 1 + 1, 0, none⟩), .pointer (some ⟨w.heap.size, 0, none⟩), .pointer (some ⟨w.heap.size + 1, 0, none⟩)]) (by simp) (by simp [go_sem]) ?_
    refine (tryF_idle _ _ _ w3 ((e4.cell 0).trans rfl)).mono ?_
    rintro e u' w4 ⟨rfl, rfl, rfl⟩
    have ca := (a4.cell 0).trans rfl
    have cb := (b4.cell 0).trans rfl
    have hfin : TryR R S E (.slice none 0 0) w (.returned (.tuple #[.slice p k c, .nilIface])) w4 := by
      refine ⟨?_, .inl ⟨_, w1, w2, rfl, S1.out, B1.out, B2.out, HR.out, hBut⟩⟩
      have hb := B1.out.trans (B2.out.mono (by rw [S1.out]; omega))
      exact ⟨hBut.os.trans hb.os, hBut.tape.trans hb.tape, hBut.output.trans hb.output, Nat.le_trans hb.size hBut.size, fun j hj => (hBut.block j (by have := hb.size; omega) (by simp; omega)).trans (hb.block j hj)⟩
    have HF := Lib.hid hfin
    clear hfin
    simp [Leaves, settle, results, Tryd.results54, go_sem, ca, cb]
    exact HF.out
  · have cd := (d1.cell 0).trans rfl
    clear x1 r1 d1 hb1 hb2 hs1
    generalize (((w.alloc (.cells #[.slice none 0 0] 49)).alloc (.cells #[.nilIface] 29)).alloc (.cells #[.bool false] 4)) = w1 at *
    go_wp2_with fail
    have hb := B1.out.trans (B2.out.mono (by rw [S1.out]; omega))
    refine leaves_cons (f := 63) (args := #[.pointer (some ⟨w.heap.size + 1 + 1, 0, none⟩), .pointer (some ⟨w.heap.size, 0, none⟩), .pointer (some ⟨w.heap.size + 1, 0, none⟩)]) (by simp) (by simp [go_sem]) ?_
    refine (tryF_err _ _ _ w2 E n [] hn (HE.out.below hb) cd X1.out R1.out (by omega)).mono ?_
    rintro e u' w4 ⟨rfl, rfl, ca, cb, hBut⟩
    have hfin : TryR R S E (.slice none 0 0) w (.returned (.tuple #[.slice none 0 0, errAt (E n)])) w4 := by
      refine ⟨?_, .inr ⟨n, hn, hS, rfl⟩⟩
      exact ⟨hBut.os.trans hb.os, hBut.tape.trans hb.tape, hBut.output.trans hb.output, Nat.le_trans hb.size hBut.size, fun j hj => (hBut.block j (by have := hb.size; omega) (by simp; omega)).trans (hb.block j hj)⟩
    have HF := Lib.hid hfin
    clear hfin
    unfold errAt at cb HF
    simp [Leaves, settle, results, Tryd.results54, go_sem, ca, cb]
    exact HF.out
end Go.Proofs.YtpbgappggmcmgaaDoor
