/-
  TryYY: catch.Try over [][]uint8.
-/
import Derived.Test.YtjklcbdlfmmllaaDoorYA
namespace Go.Proofs.YtjklcbdlfmmllaaDoor
open Go.RowKit Go.Extern.Stop Go.Stop Go.Extern

/-- nothing panicked: the deferred closure turns nothing -/
theorem tryYY_idle (d x r : Nat) (w : World) (hd : w.cell? ⟨d, 0, none⟩ = some (.bool true)) :
    CallsD Tryd.prog 42 #[.pointer (some ⟨d, 0, none⟩), .pointer (some ⟨x, 0, none⟩), .pointer (some ⟨r, 0, none⟩)] .returning w fun e u' w' => e = .returned (.tuple #[]) ∧ u' = .returning ∧ w' = w := by
  refine callsD_of_wpS Tryd.func42 rfl fun c₀ cs hu => ?_
  apply wpS_seq
  apply wpS_region
  simp [wpOpsS, go_sem, recoverD, hu, Tryd.ntmps42, Exit.thenS]
  refine wpS_of_wp ?_
  have e : (#[Value.pointer (some ⟨d, 0, none⟩), .pointer (some ⟨x, 0, none⟩), .pointer (some ⟨r, 0, none⟩)] ++ ((Array.replicate 8 undef).setIfInBounds 2 Value.nilIface).setIfInBounds 0 Value.nilIface) =
      #[Value.pointer (some ⟨d, 0, none⟩), .pointer (some ⟨x, 0, none⟩), .pointer (some ⟨r, 0, none⟩), .nilIface, undef, .nilIface, undef, undef, undef, undef, undef] := rfl
  rw [e]
  clear e
  go_wp2_with fail
  cases c₀
  simp_all [bodyPostS, results, Tryd.results42, Exit.thenS]
/-- what panicked is the result, told -/
theorem tryYY_err (d x r : Nat) (w : World) (E : Nat → Addr) (u : Value) (n : Nat) (older : List PanicEntry) (hu0 : ∃ T x, u = .iface T x) (ht : Tells w u E n) (he : Errs w E) (hd : w.cell? ⟨d, 0, none⟩ = some (.bool false))
    (hx : Blk w x 24 #[.slice none 0 0]) (hr : Blk w r 26 #[.nilIface]) (hxr : x ≠ r) :
    CallsD Tryd.prog 42 #[.pointer (some ⟨d, 0, none⟩), .pointer (some ⟨x, 0, none⟩), .pointer (some ⟨r, 0, none⟩)] (.panicking ({ v := u, recovered := false } :: older)) w fun e u' w' =>
      e = .returned (.tuple #[]) ∧ u' = .panicking ({ v := u, recovered := true } :: older) ∧ w'.cell? ⟨x, 0, none⟩ = some (.slice none 0 0) ∧ w'.cell? ⟨r, 0, none⟩ = some (errAt (E n)) ∧ But [x, r] w w' := by
  have HT := ht w (Below.refl _ _) he
  unfold errAt at HT ⊢
  obtain ⟨T, x0, rfl⟩ := hu0
  clear ht
  refine callsD_of_wpS Tryd.func42 rfl fun c₀ cs hu => ?_
  apply wpS_seq
  apply wpS_region
  simp [wpOpsS, go_sem, recoverD, hu, Tryd.ntmps42, Exit.thenS]
  refine wpS_of_wp ?_
  have e : (#[Value.pointer (some ⟨d, 0, none⟩), .pointer (some ⟨x, 0, none⟩), .pointer (some ⟨r, 0, none⟩)] ++ ((Array.replicate 8 undef).setIfInBounds 2 (Value.iface T x0)).setIfInBounds 0 (Value.iface T x0)) =
      #[Value.pointer (some ⟨d, 0, none⟩), .pointer (some ⟨x, 0, none⟩), .pointer (some ⟨r, 0, none⟩), .iface T x0, undef, .iface T x0, undef, undef, undef, undef, undef] := rfl
  rw [e]
  have HX := Lib.hid hx
  have HR := Lib.hid hr
  clear e he hx hr
  go_wp2_with fail
  refine HT.mono ?_
  rintro e w1 ⟨rfl, hb1⟩
  have hx1 := HX.out.below hb1 HX.out.lt
  have hr1 := HR.out.below hb1 HR.out.lt
  have HX1 := Lib.hid hx1
  have HR1 := Lib.hid hr1
  have cx := (hx1.cell 0).trans rfl
  have fx := hx1.frozen 0
  have cr := (hr1.cell 0).trans rfl
  have fr := hr1.frozen 0
  have HB1 := Lib.hid hb1
  clear hx1 hr1 hb1 HT
  go_wp2_with fail
  have hA := (((HX1.out.set_ 0 (.slice none 0 0)).cell 0).trans rfl : (w1.setCell ⟨x, 0, none⟩ (.slice none 0 0)).cell? ⟨x, 0, none⟩ = some (.slice none 0 0))
  have hA' : ((w1.setCell ⟨x, 0, none⟩ (.slice none 0 0)).setCell ⟨r, 0, none⟩ (.iface 143 (.pointer (some (E n))))).cell? ⟨x, 0, none⟩ = some (.slice none 0 0) := by
    refine (World.cell?_of_block (Below.heap_setCell _ _ _ _ ?_)).trans hA
    exact hxr
  have hr2 : Blk (w1.setCell ⟨x, 0, none⟩ (.slice none 0 0)) r 26 #[.nilIface] := (Below.heap_setCell _ _ _ _ (fun e => hxr e.symm)).trans HR1.out
  have hB := ((hr2.set_ 0 (.iface 143 (.pointer (some (E n))))).cell 0).trans rfl
  have hC : But [x, r] w ((w1.setCell ⟨x, 0, none⟩ (.slice none 0 0)).setCell ⟨r, 0, none⟩ (.iface 143 (.pointer (some (E n))))) :=
    ((But.of_below HB1.out).set_ x 0 _ (by simp)).set_ r 0 _ (by simp)
  cases c₀
  simp only [bodyPostS, results, Tryd.results42]
  exact ⟨trivial, _, rfl, .tuple #[], by simp, rfl, rfl, hA', hB, hC⟩
theorem tryYY_any (w : World) (E : Nat → Addr) (f : FuncId) (caps : Array Value) (S : List Nat) (R : World → Value → World → Prop) (Q : Nat → World → World → Prop) (hSl : ∀ s ∈ S, s < w.heap.size) (he : ∀ w', But S w w' → Errs w' E) (hRs : ∀ w1 v w2, R w1 v w2 → ∃ (p : Option Addr) (n c : Nat), v = .slice p n c) (hcf : ∀ w, (callFunc f caps).run Tryd.prog w = .ok (.enter f caps) w)
    (hdo : ∀ w1, Below w.heap.size w w1 → w1.heap.size = w.heap.size + 3 → Calls Tryd.prog f caps w1 fun e w2 => MayG (R w1) (fun n w2 => Q n w1 w2) E e w2 ∧ But S w1 w2) :
    Calls Tryd.prog 15 #[.func (.func f) #[] caps] w (TryG S R Q E (.slice none 0 0) w) := by
  have hmf := @run_makeFunc Tryd.prog
  have HE := Lib.hid he
  have HD := Lib.hid hdo
  have HRS := Lib.hid hRs
  have hno : ∀ k, w.heap.size ≤ k → S.contains k = false := fun k hk => by
    rw [Bool.eq_false_iff]
    intro hc
    have := hSl k (List.contains_iff_mem.1 hc)
    omega
  have HNO := Lib.hid hno
  clear he hdo hRs hSl hno
  go_enter_defers Tryd.func15, Tryd.ntmps15
  go_wp2_with fail
  have hb1 : Below w.heap.size w (((w.alloc (.cells #[.slice none 0 0] 24)).alloc (.cells #[.nilIface] 26)).alloc (.cells #[.bool false] 4)) := below_alloc (below_alloc (below_alloc1 w _) _) _
  refine (HD.out _ hb1 (by simp)).mono ?_
  rintro e w2 ⟨hm, hb2⟩
  have x1 := hb2.blk (((Blk.new w 24 #[.slice none 0 0]).alloc (.cells #[.nilIface] 26)).alloc (.cells #[.bool false] 4)) (HNO.out _ (Nat.le_refl _))
  have r1 := hb2.blk ((Blk.new (w.alloc (.cells #[.slice none 0 0] 24)) 26 #[.nilIface]).alloc (.cells #[.bool false] 4)) (HNO.out _ (by simp))
  have d1 := hb2.blk (Blk.new ((w.alloc (.cells #[.slice none 0 0] 24)).alloc (.cells #[.nilIface] 26)) 4 #[.bool false]) (HNO.out _ (by simp; omega))
  have hs1 : (((w.alloc (.cells #[.slice none 0 0] 24)).alloc (.cells #[.nilIface] 26)).alloc (.cells #[.bool false] 4)).heap.size = w.heap.size + 3 := by simp
  simp only [World.size_alloc] at r1 d1
  have X1 := Lib.hid x1
  have R1 := Lib.hid r1
  have D1 := Lib.hid d1
  have B1 := Lib.hid hb1
  have B2 := Lib.hid hb2
  have S1 := Lib.hid hs1
  rcases hm with ⟨v, rfl, hR⟩ | ⟨u, n, hn, hS, ⟨T, x0, rfl⟩, htells, rfl⟩
  · obtain ⟨p, n, c, rfl⟩ := HRS.out _ _ _ hR
    have HR := Lib.hid hR
    have cx := (x1.cell 0).trans rfl
    have fx := x1.frozen 0
    have cr := (r1.cell 0).trans rfl
    have fr := r1.frozen 0
    have cd := (d1.cell 0).trans rfl
    have fd := d1.frozen 0
    clear x1 r1 d1 hb1 hb2 hs1 hR
    generalize (((w.alloc (.cells #[.slice none 0 0] 24)).alloc (.cells #[.nilIface] 26)).alloc (.cells #[.bool false] 4)) = w1 at *
    go_wp2_with fail
    clear cx fx cr fr cd fd
    have a1 : Blk (w2.setCell ⟨w.heap.size, 0, none⟩ (.slice p n c)) w.heap.size 24 #[.slice p n c] := X1.out.set_ 0 _
    have b1 := (R1.out.far (b := w.heap.size) (by omega) 0 (.slice p n c))
    have e1 : Blk ((w2.setCell ⟨w.heap.size, 0, none⟩ (.slice p n c)).setCell ⟨w.heap.size + 1 + 1, 0, none⟩ (.bool true)) (w.heap.size + 1 + 1) 4 #[.bool true] := (D1.out.far (b := w.heap.size) (by omega) 0 (.slice p n c)).set_ 0 (.bool true)
    have a2 := a1.far (b := w.heap.size + 1 + 1) (by omega) 0 (.bool true)
    have b2 := b1.far (b := w.heap.size + 1 + 1) (by omega) 0 (.bool true)
    have a3 : Blk (((w2.setCell ⟨w.heap.size, 0, none⟩ (.slice p n c)).setCell ⟨w.heap.size + 1 + 1, 0, none⟩ (.bool true)).setCell ⟨w.heap.size, 0, none⟩ (.slice p n c)) w.heap.size 24 #[.slice p n c] := a2.set_ 0 _
    have b3 := b2.far (b := w.heap.size) (by omega) 0 (.slice p n c)
    have e3 := e1.far (b := w.heap.size) (by omega) 0 (.slice p n c)
    have a4 := a3.far (b := w.heap.size + 1) (by omega) 0 .nilIface
    have b4 : Blk ((((w2.setCell ⟨w.heap.size, 0, none⟩ (.slice p n c)).setCell ⟨w.heap.size + 1 + 1, 0, none⟩ (.bool true)).setCell ⟨w.heap.size, 0, none⟩ (.slice p n c)).setCell ⟨w.heap.size + 1, 0, none⟩ .nilIface) (w.heap.size + 1) 26 #[.nilIface] := b3.set_ 0 _
    have e4 := e3.far (b := w.heap.size + 1) (by omega) 0 .nilIface
    have hBut : But [w.heap.size, w.heap.size + 1, w.heap.size + 2] w2 ((((w2.setCell ⟨w.heap.size, 0, none⟩ (.slice p n c)).setCell ⟨w.heap.size + 1 + 1, 0, none⟩ (.bool true)).setCell ⟨w.heap.size, 0, none⟩ (.slice p n c)).setCell ⟨w.heap.size + 1, 0, none⟩ .nilIface) :=
      ((((But.of_below (Below.refl _ _)).set_ _ 0 _ (by simp)).set_ _ 0 _ (by simp)).set_ _ 0 _ (by simp)).set_ _ 0 _ (by simp)
    clear a1 a2 a3 b1 b2 b3 e1 e3
    generalize ((((w2.setCell ⟨w.heap.size, 0, none⟩ (.slice p n c)).setCell ⟨w.heap.size + 1 + 1, 0, none⟩ (.bool true)).setCell ⟨w.heap.size, 0, none⟩ (.slice p n c)).setCell ⟨w.heap.size + 1, 0, none⟩ .nilIface) = w3 at *
    refine leaves_cons (f := 42) (args := #[.pointer (some ⟨w.heap.size + 1 + 1, 0, none⟩), .pointer (some ⟨w.heap.size, 0, none⟩), .pointer (some ⟨w.heap.size + 1, 0, none⟩)]) (by simp) (by simp [go_sem]) ?_
    refine (tryYY_idle _ _ _ w3 ((e4.cell 0).trans rfl)).mono ?_
    rintro e u' w4 ⟨rfl, rfl, rfl⟩
    have ca := (a4.cell 0).trans rfl
    have cb := (b4.cell 0).trans rfl
    have hfin : TryG S R Q E (.slice none 0 0) w (.returned (.tuple #[.slice p n c, .nilIface])) w4 := by
      exact ⟨But.out ((But.of_below B1.out).trans B2.out) hBut (Nat.le_refl _), w1, w2, S1.out, B1.out, B2.out, hBut, .inl ⟨_, rfl, HR.out⟩⟩
    have HF := Lib.hid hfin
    clear hfin
    simp [Leaves, settle, results, Tryd.results15, go_sem, ca, cb]
    exact HF.out
  · have cd := (d1.cell 0).trans rfl
    clear x1 r1 d1 hb1 hb2 hs1
    generalize (((w.alloc (.cells #[.slice none 0 0] 24)).alloc (.cells #[.nilIface] 26)).alloc (.cells #[.bool false] 4)) = w1 at *
    go_wp2_with fail
    have hb := (But.of_below B1.out).trans B2.out
    refine leaves_cons (f := 42) (args := #[.pointer (some ⟨w.heap.size + 1 + 1, 0, none⟩), .pointer (some ⟨w.heap.size, 0, none⟩), .pointer (some ⟨w.heap.size + 1, 0, none⟩)]) (by simp) (by simp [go_sem]) ?_
    refine (tryYY_err _ _ _ w2 E (.iface T x0) n [] ⟨T, x0, rfl⟩ htells (HE.out w2 hb) cd X1.out R1.out (by omega)).mono ?_
    rintro e u' w4 ⟨rfl, rfl, ca, cb, hBut⟩
    have hfin : TryG S R Q E (.slice none 0 0) w (.returned (.tuple #[.slice none 0 0, errAt (E n)])) w4 := by
      exact ⟨But.out hb (But.wide hBut) (Nat.le_refl _), w1, w2, S1.out, B1.out, B2.out, But.wide hBut, .inr ⟨n, hn, hS, rfl⟩⟩
    have HF := Lib.hid hfin
    clear hfin
    unfold errAt at cb HF
    simp [Leaves, settle, results, Tryd.results15, go_sem, ca, cb]
    exact HF.out
end Go.Proofs.YtjklcbdlfmmllaaDoor
