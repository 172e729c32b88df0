/-
  TryF: catch.Try over rows of fields.
  Reader: the walks of package fields' reader: take and field.
  SplitW: the walks of fields.Split and of its closure.
  OutAdd: a field behind a row of fields. No program.
  SplitLaw: what is split is a right row, and its bytes are the same. No program.
  CutLaw: rows of fields that are joined, joined behind one another, cut short. No program.
  LetterP: numbers by tag as rows of fields, and back. No program.
  EncP: what the walks of Encode share: Must over bytes, a field behind a row, an owned row beside blocks that turned.
  TryY: catch.Try over []uint8.
  CutNum: an int as an unsigned number; what is left of division; a beginning of bytes.
-/
import Derived.Test.YtjklcbdlfmmllaaGreatDoorYA
import Derived.Test.YtjklcbdlfmmllaaGreatDoorYC
import Derived.Deep.LoopGhost
import Derived.IntWalk
namespace Go.Proofs.YtjklcbdlfmmllaaGreatDoor
open Go.RowKit Go.Extern.Stop Go.Stop Go.Extern

/-- nothing panicked: the deferred closure turns nothing -/
theorem tryF_idle (d x r : Nat) (w : World) (hd : w.cell? ⟨d, 0, none⟩ = some (.bool true)) :
    CallsD Tryz.prog 76 #[.pointer (some ⟨d, 0, none⟩), .pointer (some ⟨x, 0, none⟩), .pointer (some ⟨r, 0, none⟩)] .returning w fun e u' w' => e = .returned (.tuple #[]) ∧ u' = .returning ∧ w' = w := by
  refine callsD_of_wpS Tryz.func76 rfl fun c₀ cs hu => ?_
  apply wpS_seq
  apply wpS_region
  simp [wpOpsS, go_sem, recoverD, hu, Tryz.ntmps76, Exit.thenS]
  refine wpS_of_wp ?_
  have e : (#[Value.pointer (some ⟨d, 0, none⟩), .pointer (some ⟨x, 0, none⟩), .pointer (some ⟨r, 0, none⟩)] ++ ((Array.replicate 8 undef).setIfInBounds 2 Value.nilIface).setIfInBounds 0 Value.nilIface) =
      #[Value.pointer (some ⟨d, 0, none⟩), .pointer (some ⟨x, 0, none⟩), .pointer (some ⟨r, 0, none⟩), .nilIface, undef, .nilIface, undef, undef, undef, undef, undef] := rfl
  rw [e]
  clear e
  go_wp2_with fail
  cases c₀
  simp_all [bodyPostS, results, Tryz.results76]
/-- one of package api's errors: it is the result -/
theorem tryF_err (d x r : Nat) (w : World) (E : Nat → Addr) (n : Nat) (older : List PanicEntry) (hn : n < 14) (he : Errs w E) (hd : w.cell? ⟨d, 0, none⟩ = some (.bool false))
    (hx : Blk w x 47 #[.slice none 0 0]) (hr : Blk w r 31 #[.nilIface]) (hxr : x ≠ r) :
    CallsD Tryz.prog 76 #[.pointer (some ⟨d, 0, none⟩), .pointer (some ⟨x, 0, none⟩), .pointer (some ⟨r, 0, none⟩)] (.panicking ({ v := errAt (E n), recovered := false } :: older)) w fun e u' w' =>
      e = .returned (.tuple #[]) ∧ u' = .panicking ({ v := errAt (E n), recovered := true } :: older) ∧ w'.cell? ⟨x, 0, none⟩ = some (.slice none 0 0) ∧ w'.cell? ⟨r, 0, none⟩ = some (errAt (E n)) ∧ But [x, r] w w' := by
  unfold errAt
  have HT := told_any w E n hn he
  unfold errAt at HT
  refine callsD_of_wpS Tryz.func76 rfl fun c₀ cs hu => ?_
  apply wpS_seq
  apply wpS_region
  simp [wpOpsS, go_sem, recoverD, hu, Tryz.ntmps76, Exit.thenS]
  refine wpS_of_wp ?_
  have e : (#[Value.pointer (some ⟨d, 0, none⟩), .pointer (some ⟨x, 0, none⟩), .pointer (some ⟨r, 0, none⟩)] ++ ((Array.replicate 8 undef).setIfInBounds 2 (Value.iface 146 (.pointer (some (E n))))).setIfInBounds 0 (Value.iface 146 (.pointer (some (E n))))) =
      #[Value.pointer (some ⟨d, 0, none⟩), .pointer (some ⟨x, 0, none⟩), .pointer (some ⟨r, 0, none⟩), .iface 146 (.pointer (some (E n))), undef, .iface 146 (.pointer (some (E n))), undef, undef, undef, undef, undef] := rfl
  rw [e]
  have HX := Lib.hid hx
  have HR := Lib.hid hr
  clear e he hx hr
  go_wp2_with fail
  refine HT.mono ?_
  rintro e w1 ⟨rfl, hb1⟩
  have hx1 := HX.out.below hb1 HX.out.lt
  have hr1 := HR.out.below hb1 HR.out.lt
  have HX1 := Lib.hid hx1
  have HR1 := Lib.hid hr1
  have cx := (hx1.cell 0).trans rfl
  have fx := hx1.frozen 0
  have cr := (hr1.cell 0).trans rfl
  have fr := hr1.frozen 0
  have HB1 := Lib.hid hb1
  clear hx1 hr1 hb1 HT
  go_wp2_with fail
  have hA := (((HX1.out.set_ 0 (.slice none 0 0)).cell 0).trans rfl : (w1.setCell ⟨x, 0, none⟩ (.slice none 0 0)).cell? ⟨x, 0, none⟩ = some (.slice none 0 0))
  have hA' : ((w1.setCell ⟨x, 0, none⟩ (.slice none 0 0)).setCell ⟨r, 0, none⟩ (.iface 146 (.pointer (some (E n))))).cell? ⟨x, 0, none⟩ = some (.slice none 0 0) := by
    refine (World.cell?_of_block (Below.heap_setCell _ _ _ _ ?_)).trans hA
    exact hxr
  have hr2 : Blk (w1.setCell ⟨x, 0, none⟩ (.slice none 0 0)) r 31 #[.nilIface] := (Below.heap_setCell _ _ _ _ (fun e => hxr e.symm)).trans HR1.out
  have hB := ((hr2.set_ 0 (.iface 146 (.pointer (some (E n))))).cell 0).trans rfl
  have hC : But [x, r] w ((w1.setCell ⟨x, 0, none⟩ (.slice none 0 0)).setCell ⟨r, 0, none⟩ (.iface 146 (.pointer (some (E n))))) :=
    ((But.of_below HB1.out).set_ x 0 _ (by simp)).set_ r 0 _ (by simp)
  cases c₀
  simp only [bodyPostS, results, Tryz.results76]
  exact ⟨trivial, _, rfl, .tuple #[], by simp, rfl, rfl, hA', hB, hC⟩
/-- what a call within Try may do: it gives a value, or panics with one of package api's errors -/
def May (R : Value → World → Prop) (S : Nat → Prop) (E : Nat → Addr) (e : Ending) (w' : World) : Prop :=
  (∃ v, e = .returned v ∧ R v w') ∨ (∃ n, n < 14 ∧ S n ∧ e = .panicked [{ v := errAt (E n), recovered := false }])
/-- what Try gives -/
def TryR (R : World → Value → World → Prop) (S : Nat → Prop) (E : Nat → Addr) (z : Value) (w : World) (e : Ending) (w' : World) : Prop :=
  Below w.heap.size w w' ∧
  ((∃ v w1 w2, e = .returned (.tuple #[v, .nilIface]) ∧ w1.heap.size = w.heap.size + 3 ∧ Below w.heap.size w w1 ∧ Below w1.heap.size w1 w2 ∧ R w1 v w2 ∧ But [w.heap.size, w.heap.size + 1, w.heap.size + 2] w2 w') ∨
   (∃ n, n < 14 ∧ S n ∧ e = .returned (.tuple #[z, errAt (E n)])))
theorem tryF_any (w : World) (E : Nat → Addr) (f : FuncId) (caps : Array Value) (R : World → Value → World → Prop) (S : Nat → Prop) (he : Errs w E) (hRs : ∀ w1 v w2, R w1 v w2 → ∃ p n c, v = .slice p n c) (hcf : ∀ w, (callFunc f caps).run Tryz.prog w = .ok (.enter f caps) w)
    (hdo : ∀ w1, Below w.heap.size w w1 → w1.heap.size = w.heap.size + 3 → Calls Tryz.prog f caps w1 fun e w2 => May (R w1) S E e w2 ∧ Below w1.heap.size w1 w2) :
    Calls Tryz.prog 61 #[.func (.func f) #[] caps] w (TryR R S E (.slice none 0 0) w) := by
  have hmf := @run_makeFunc Tryz.prog
  have HE := Lib.hid he
  have HD := Lib.hid hdo
  have HRS := Lib.hid hRs
  clear he hdo hRs
  go_enter_defers Tryz.func61, Tryz.ntmps61
  go_wp2_with fail
  have hb1 : Below w.heap.size w (((w.alloc (.cells #[.slice none 0 0] 47)).alloc (.cells #[.nilIface] 31)).alloc (.cells #[.bool false] 4)) := below_alloc (below_alloc (below_alloc1 w _) _) _
  refine (HD.out _ hb1 (by simp)).mono ?_
  rintro e w2 ⟨hm, hb2⟩
  have x1 := (((Blk.new w 47 #[.slice none 0 0]).alloc (.cells #[.nilIface] 31)).alloc (.cells #[.bool false] 4)).below hb2 (by simp; omega)
  have r1 := ((Blk.new (w.alloc (.cells #[.slice none 0 0] 47)) 31 #[.nilIface]).alloc (.cells #[.bool false] 4)).below hb2 (by simp)
  have d1 := (Blk.new ((w.alloc (.cells #[.slice none 0 0] 47)).alloc (.cells #[.nilIface] 31)) 4 #[.bool false]).below hb2 (by simp)
  have hs1 : (((w.alloc (.cells #[.slice none 0 0] 47)).alloc (.cells #[.nilIface] 31)).alloc (.cells #[.bool false] 4)).heap.size = w.heap.size + 3 := by simp
  simp only [World.size_alloc] at r1 d1
  have X1 := Lib.hid x1
  have R1 := Lib.hid r1
  have D1 := Lib.hid d1
  have B1 := Lib.hid hb1
  have B2 := Lib.hid hb2
  have S1 := Lib.hid hs1
  rcases hm with ⟨v, rfl, hR⟩ | ⟨n, hn, hS, rfl⟩
  · obtain ⟨p, k, c, rfl⟩ := HRS.out _ _ _ hR
    have HR := Lib.hid hR
    have cx := (x1.cell 0).trans rfl
    have fx := x1.frozen 0
    have cr := (r1.cell 0).trans rfl
    have fr := r1.frozen 0
    have cd := (d1.cell 0).trans rfl
    have fd := d1.frozen 0
    clear x1 r1 d1 hb1 hb2 hs1 hR
    generalize (((w.alloc (.cells #[.slice none 0 0] 47)).alloc (.cells #[.nilIface] 31)).alloc (.cells #[.bool false] 4)) = w1 at *
    go_wp2_with fail
    clear cx fx cr fr cd fd
    have a1 : Blk (w2.setCell ⟨w.heap.size, 0, none⟩ (.slice p k c)) w.heap.size 47 #[.slice p k c] := X1.out.set_ 0 _
    have b1 := (R1.out.far (b := w.heap.size) (by omega) 0 (.slice p k c))
    have e1 : Blk ((w2.setCell ⟨w.heap.size, 0, none⟩ (.slice p k c)).setCell ⟨w.heap.size + 1 + 1, 0, none⟩ (.bool true)) (w.heap.size + 1 + 1) 4 #[.bool true] := (D1.out.far (b := w.heap.size) (by omega) 0 (.slice p k c)).set_ 0 (.bool true)
    have a2 := a1.far (b := w.heap.size + 1 + 1) (by omega) 0 (.bool true)
    have b2 := b1.far (b := w.heap.size + 1 + 1) (by omega) 0 (.bool true)
    have a3 : Blk (((w2.setCell ⟨w.heap.size, 0, none⟩ (.slice p k c)).setCell ⟨w.heap.size + 1 + 1, 0, none⟩ (.bool true)).setCell ⟨w.heap.size, 0, none⟩ (.slice p k c)) w.heap.size 47 #[.slice p k c] := a2.set_ 0 _
    have b3 := b2.far (b := w.heap.size) (by omega) 0 (.slice p k c)
    have e3 := e1.far (b := w.heap.size) (by omega) 0 (.slice p k c)
    have a4 := a3.far (b := w.heap.size + 1) (by omega) 0 .nilIface
    have b4 : Blk ((((w2.setCell ⟨w.heap.size, 0, none⟩ (.slice p k c)).setCell ⟨w.heap.size + 1 + 1, 0, none⟩ (.bool true)).setCell ⟨w.heap.size, 0, none⟩ (.slice p k c)).setCell ⟨w.heap.size + 1, 0, none⟩ .nilIface) (w.heap.size + 1) 31 #[.nilIface] := b3.set_ 0 _
    have e4 := e3.far (b := w.heap.size + 1) (by omega) 0 .nilIface
    have hBut : But [w.heap.size, w.heap.size + 1, w.heap.size + 2] w2 ((((w2.setCell ⟨w.heap.size, 0, none⟩ (.slice p k c)).setCell ⟨w.heap.size + 1 + 1, 0, none⟩ (.bool true)).setCell ⟨w.heap.size, 0, none⟩ (.slice p k c)).setCell ⟨w.heap.size + 1, 0, none⟩ .nilIface) :=
      ((((But.of_below (Below.refl _ _)).set_ _ 0 _ (by simp)).set_ _ 0 _ (by simp)).set_ _ 0 _ (by simp)).set_ _ 0 _ (by simp)
    clear a1 a2 a3 b1 b2 b3 e1 e3
    generalize ((((w2.setCell ⟨w.heap.size, 0, none⟩ (.slice p k c)).setCell ⟨w.heap.size + 1 + 1, 0, none⟩ (.bool true)).setCell ⟨w.heap.size, 0, none⟩ (.slice p k c)).setCell ⟨w.heap.size + 1, 0, none⟩ .nilIface) = w3 at *
    refine leaves_cons (f := 76) (args := #[.pointer (some ⟨w.heap.size + 1 + 1, 0, none⟩), .pointer (some ⟨w.heap.size, 0, none⟩), .pointer (some ⟨w.heap.size + 1, 0, none⟩)]) (by simp) (by simp [go_sem]) ?_
    refine (tryF_idle _ _ _ w3 ((e4.cell 0).trans rfl)).mono ?_
    rintro e u' w4 ⟨rfl, rfl, rfl⟩
    have ca := (a4.cell 0).trans rfl
    have cb := (b4.cell 0).trans rfl
    have hfin : TryR R S E (.slice none 0 0) w (.returned (.tuple #[.slice p k c, .nilIface])) w4 := by
      refine ⟨?_, .inl ⟨_, w1, w2, rfl, S1.out, B1.out, B2.out, HR.out, hBut⟩⟩
      have hb := B1.out.trans (B2.out.mono (by rw [S1.out]; omega))
      exact ⟨hBut.os.trans hb.os, hBut.tape.trans hb.tape, hBut.output.trans hb.output, Nat.le_trans hb.size hBut.size, fun j hj => (hBut.block j (by have := hb.size; omega) (by simp; omega)).trans (hb.block j hj)⟩
    have HF := Lib.hid hfin
    clear hfin
    simp [Leaves, settle, results, Tryz.results61, go_sem, ca, cb]
    exact HF.out
  · have cd := (d1.cell 0).trans rfl
    clear x1 r1 d1 hb1 hb2 hs1
    generalize (((w.alloc (.cells #[.slice none 0 0] 47)).alloc (.cells #[.nilIface] 31)).alloc (.cells #[.bool false] 4)) = w1 at *
    go_wp2_with fail
    have hb := B1.out.trans (B2.out.mono (by rw [S1.out]; omega))
    refine leaves_cons (f := 76) (args := #[.pointer (some ⟨w.heap.size + 1 + 1, 0, none⟩), .pointer (some ⟨w.heap.size, 0, none⟩), .pointer (some ⟨w.heap.size + 1, 0, none⟩)]) (by simp) (by simp [go_sem]) ?_
    refine (tryF_err _ _ _ w2 E n [] hn (HE.out.below hb) cd X1.out R1.out (by omega)).mono ?_
    rintro e u' w4 ⟨rfl, rfl, ca, cb, hBut⟩
    have hfin : TryR R S E (.slice none 0 0) w (.returned (.tuple #[.slice none 0 0, errAt (E n)])) w4 := by
      refine ⟨?_, .inr ⟨n, hn, hS, rfl⟩⟩
      exact ⟨hBut.os.trans hb.os, hBut.tape.trans hb.tape, hBut.output.trans hb.output, Nat.le_trans hb.size hBut.size, fun j hj => (hBut.block j (by have := hb.size; omega) (by simp; omega)).trans (hb.block j hj)⟩
    have HF := Lib.hid hfin
    clear hfin
    unfold errAt at cb HF
    simp [Leaves, settle, results, Tryz.results61, go_sem, ca, cb]
    exact HF.out
end Go.Proofs.YtjklcbdlfmmllaaGreatDoor

namespace Go.Proofs.YtjklcbdlfmmllaaGreatDoor
open Go.RowKit

theorem run_slice_full {P : Program} {t e : TypeId} {i : TypeInfo} (ht : P.underlying t = some (.slice e)) (hi : P.info? e = some i) (p : Option Addr) (n cap k : Nat) (hk : k ≤ cap) (w : World) :
    (Instr.slice t (.slice p n cap) none (some (.int .i64 (k : Int))) (some (.int .i64 (k : Int)))).run P w = .ok (.slice p k k) w := by
  have h1 : (0 : Int) ≤ (k : Int) ∧ (k : Int) ≤ (cap : Int) := by omega
  simp [Instr.slice, run_underlying ht, Instr.sliceBounds, run_sliceBound, sizeOf, typeInfo, hi, hk]
  intro _
  cases p <;> simp [Addr.add]
/-- block g is a reader of the slice v -/
def RB (w : World) (g : Nat) (v : Value) (last cnt : Int) : Prop := Blk w g 106 #[v, .int .i64 last, .int .i64 cnt]
def TakeR (w : World) (g : Nat) (p : Option Addr) (len c n : Nat) (last cnt : Int) (e : Ending) (w' : World) : Prop :=
  e = .returned (.slice p n n) ∧ RB w' g (.slice (cutp p n c 1) (len - n) (c - n)) last cnt ∧ Only g w w'
set_option maxRecDepth 20000 in
set_option maxHeartbeats 1000000 in
theorem take_any (w : World) (g : Nat) (p : Option Addr) (len c n : Nat) (last cnt : Int) (hb : RB w g (.slice p len c) last cnt) (hn : n ≤ len) (hc : len ≤ c) (hm : c ≤ maxLen) :
    Calls Tryz.prog 77 #[.pointer (some ⟨g, 0, none⟩), .int .i64 (n : Int)] w (TakeR w g p len c n last cnt) := by
  have HB := Lib.hid hb
  have c0 := (hb.cell 0).trans rfl
  have f0 := hb.frozen 0
  obtain ⟨i0, hi, hz0, hz1, hz2⟩ := info_parts byt8Info
  have d1 : decide ((len : Int) < (n : Int)) = false := by simp; omega
  have d1' : decide (len < n) = false := by simp; omega
  have hfull := fun w => run_slice_full (P := Tryz.prog) Tryz.underlying29 hi p len c n (by omega) w
  have hfrom := fun w => run_slice_from (P := Tryz.prog) Tryz.underlying29 hi p len c n hn w
  rw [hz1] at hfrom
  unfold maxLen at hm
  clear hb
  go_enter Tryz.func77, Tryz.ntmps77
  go_wp2_with fail
  first | go_quiet (fail) | skip
  go_wp2_with fail
  go_ret
  exact ⟨rfl, HB.out.set_ 0 _, (Only.refl _ _).set_ 0 _⟩
def Short (w : World) (E : Nat → Addr) (n : Nat) (e : Ending) (w' : World) : Prop := e = .panicked [{ v := errAt (E n), recovered := false }] ∧ w = w'
set_option maxRecDepth 20000 in
set_option maxHeartbeats 1000000 in
theorem take_short (w : World) (E : Nat → Addr) (g : Nat) (p : Option Addr) (len c : Nat) (n : Int) (last cnt : Int) (he : ErrsOn [1] w E) (hb : RB w g (.slice p len c) last cnt) (hn : (len : Int) < n) :
    Calls Tryz.prog 77 #[.pointer (some ⟨g, 0, none⟩), .int .i64 n] w (Short w E 1) := by
  have e1 := he.cell 1 rfl
  simp only [errVar, List.getD_cons_zero, List.getD_cons_succ, errAt] at e1
  have c0 := (hb.cell 0).trans rfl
  have d1 := decide_eq_true hn
  clear hb he hn
  go_enter Tryz.func77, Tryz.ntmps77
  go_wp2_with fail
  exact ⟨rfl, rfl, rfl⟩

/-! ### field -/
theorem RB.below {w w' : World} {g B : Nat} {v : Value} {last cnt : Int} (h : RB w g v last cnt) (hb : Below w.heap.size w w') : RB w' g v last cnt := Blk.below h hb h.lt
theorem byt_full {w : World} {p : Option Addr} {cap n : Nat} {l : List UInt8} (h : Byt w (.slice p l.length cap) l) (hn : n ≤ l.length) : Byt w (.slice p n n) (l.take n) := by
  obtain ⟨p', cap', he, h1, h2, h3⟩ := h
  cases he
  exact ⟨p, n, by rw [List.length_take, Nat.min_eq_left hn], by rw [List.length_take]; omega, by unfold maxLen at *; omega, by rw [bvs_take]; exact h3.take n⟩
/-- the error's number (less one) of a field's bytes -/
def tagOf (b : List UInt8) : Int := (b.getD 0 0).toNat
def sizeOfF (b : List UInt8) : Nat := 256 * (b.getD 1 0).toNat + (b.getD 2 0).toNat
def fieldBad (last : Int) (cnt : Nat) (b : List UInt8) : Option Nat :=
  if b.length < 3 then some 1 else if tagOf b ≤ last ∨ 200 < sizeOfF b ∨ 16 ≤ cnt then some 3 else if b.length - 3 < sizeOfF b then some 1 else none
def dataOf (b : List UInt8) : List UInt8 := (b.drop 3).take (sizeOfF b)
def restOf (b : List UInt8) : List UInt8 := (b.drop 3).drop (sizeOfF b)
def rdTs : List TypeId := [106]
/-- what field gives, W: the world of the bytes -/
def FieldR (W w : World) (E : Nat → Addr) (g : Nat) (last : Int) (cnt : Nat) (b : List UInt8) (e : Ending) (w' : World) : Prop :=
  Keeps W.heap.size rdTs w w' ∧
  match fieldBad last cnt b with
  | some n => e = .panicked [{ v := errAt (E n), recovered := false }]
  | none => ∃ vd p' c', e = .returned (.agg #[.int .i64 (tagOf b), vd]) ∧ w'.ownsRow W.heap.size 5 1 vd (dataOf b).length (bvs (dataOf b)) ∧
      RB w' g (.slice p' (restOf b).length c') (tagOf b) ((cnt + 1 : Nat) : Int) ∧ Byt W (.slice p' (restOf b).length c') (restOf b)
set_option maxRecDepth 20000 in
set_option maxHeartbeats 2000000 in
theorem field_any (W w : World) (E : Nat → Addr) (g : Nat) (p : Option Addr) (c : Nat) (last : Int) (cnt : Nat) (b : List UInt8) (he : ErrsOn [1, 3] W E) (hW : Below W.heap.size W w) (hg : W.heap.size ≤ g)
    (hy : Byt W (.slice p b.length c) b) (hb : RB w g (.slice p b.length c) last (cnt : Int)) (hcnt : cnt ≤ 16) (hlast : -1 ≤ last ∧ last ≤ 255) :
    Calls Tryz.prog 63 #[.pointer (some ⟨g, 0, none⟩)] w (FieldR W w E g last cnt b) := by
  have HE := Lib.hid he
  have HY := Lib.hid hy
  obtain ⟨q0, q1, hq, k1, k2, k3⟩ := hy
  cases hq
  have hw1 := below_alloc1 w (.cells #[.int .i64 0, .slice none 0 0] 54)
  have HB := Lib.hid (RB.below (B := 0) hb hw1)
  have hW1 := hW.trans (hw1.mono hW.size)
  have K0 := Lib.hid (show Keeps W.heap.size rdTs w (w.alloc (.cells #[.int .i64 0, .slice none 0 0] 54)) from Keeps.of_below hw1 hW.size)
  have hglt : g < w.heap.size := hb.lt
  have K1 := Keeps.refl W.heap.size rdTs (w.alloc (.cells #[.int .i64 0, .slice none 0 0] 54))
  have N1 := Lib.hid (Blk.new w 54 #[.int .i64 0, .slice none 0 0])
  clear he k3 hw1 hb
  by_cases h3 : b.length < 3
  · have hfb := Lib.hid (show fieldBad last cnt b = some 1 by unfold fieldBad; rw [if_pos h3])
    go_enter Tryz.func63, Tryz.ntmps63
    go_wp2_with fail
    refine (take_short _ E g p b.length c 3 last cnt (errs_sub (HE.out.below hW1) rfl) HB.out (by omega)).mono ?_
    rintro e w2 ⟨rfl, rfl⟩
    go_wp2_with fail
    refine ⟨rfl, K0.out, ?_⟩
    rw [hfb.out]
  · have hlen : 3 ≤ b.length := by omega
    have hh := byt_full HY.out hlen
    obtain ⟨x0, x1, x2, m, hbm⟩ : ∃ x0 x1 x2 m, b = x0 :: x1 :: x2 :: m := by
      match b, hlen with
      | x0 :: x1 :: x2 :: m, _ => exact ⟨x0, x1, x2, m, rfl⟩
    go_enter Tryz.func63, Tryz.ntmps63
    go_wp2_with fail
    refine (take_any _ g p b.length c 3 last cnt HB.out hlen k1 k2).mono ?_
    rintro e w2 ⟨rfl, hb2, ho2⟩
    have K2 := K1.only hg HB.out rfl ho2
    have hW2 := hW1.trans (ho2.below hg)
    have HB2 := Lib.hid hb2
    clear hb2 ho2
    have hrd : Rd W p (bvs [x0, x1, x2]) := by
      obtain ⟨_, _, he, _, _, h⟩ := hh
      injection he with e1 e2 e3
      subst e1
      rw [hbm] at h
      exact h
    obtain ⟨bb, off, rfl, hcell⟩ := hrd.has (by simp [bvs])
    have c0 : w2.cell? ⟨bb, off, none⟩ = some (.int .u8 (x0.toNat : Int)) := Below.keeps hW2 _ _ (hcell 0 _ rfl)
    have c1 : w2.cell? ⟨bb, off + 1, none⟩ = some (.int .u8 (x1.toNat : Int)) := Below.keeps hW2 _ _ (hcell 1 _ rfl)
    have c2 : w2.cell? ⟨bb, off + 2, none⟩ = some (.int .u8 (x2.toNat : Int)) := Below.keeps hW2 _ _ (hcell 2 _ rfl)
    have y0 := x0.toNat_lt
    have y1 := x1.toNat_lt
    have y2 := x2.toNat_lt
    have hor := or_byte x1.toNat x2.toNat y2 (by omega) (by omega)
    have ht : tagOf b = (x0.toNat : Int) := by rw [hbm]; rfl
    have hs : sizeOfF b = 256 * x1.toNat + x2.toNat := by rw [hbm]; rfl
    have HT := Lib.hid ht
    have HS := Lib.hid hs
    clear hcell hh hrd ht hs hbm
    generalize x0.toNat = n0 at *
    generalize x1.toNat = n1 at *
    generalize x2.toNat = n2 at *
    go_wp2_with fail
    go_quiet (fail)
    rw [show (256 * (n1 : Int) + (n2 : Int)) = ((256 * n1 + n2 : Nat) : Int) by omega]
    generalize 256 * n1 + n2 = sz at *
    have K3 := Lib.hid (K2.drewN nq)
    have hW3 := Lib.hid (hW2.trans (below_drewN _ nq |>.mono hW2.size))
    have HB3 := Lib.hid (show RB (w2.drewN nq) g _ last (cnt : Int) from HB2.out)
    clear c0 c1 c2 hor K2 hW2 HB2
    generalize w2.drewN nq = w3 at *
    have r1 := (HB3.out.cell 1).trans rfl
    have r2 := (HB3.out.cell 2).trans rfl
    by_cases hbad : (n0 : Int) ≤ last ∨ 200 < sz ∨ 16 ≤ cnt
    · have hfb := Lib.hid (show fieldBad last cnt b = some 3 by
        unfold fieldBad; rw [if_neg h3, if_pos]
        rw [HT.out, HS.out]; exact hbad)
      have e3 := (HE.out.below hW3.out).cell 3 rfl
      simp only [errVar, List.getD_cons_zero, List.getD_cons_succ, errAt] at e3
      have hways : (decide ((n0 : Int) ≤ last) = true) ∨ (decide ((n0 : Int) ≤ last) = false ∧ decide ((200 : Int) < (sz : Int)) = true ∧ decide (200 < sz) = true) ∨
          (decide ((n0 : Int) ≤ last) = false ∧ decide ((200 : Int) < (sz : Int)) = false ∧ decide (200 < sz) = false ∧ decide ((16 : Int) ≤ (cnt : Int)) = true ∧ decide (16 ≤ cnt) = true) := by
        simp only [decide_eq_true_eq, decide_eq_false_iff_not]; omega
      clear hbad
      rcases hways with a1 | ⟨a1, a2, a3⟩ | ⟨a1, a2, a3, a4, a5⟩
      all_goals
        go_wp2_with fail
        refine ⟨rfl, ?_⟩
        unfold FieldR
        rw [hfb.out]
        exact ⟨K0.out.trans K3.out, rfl⟩
    · have a1 : decide ((n0 : Int) ≤ last) = false := by simp; omega
      have a2 : decide ((200 : Int) < (sz : Int)) = false := by simp; omega
      have a3 : decide (200 < sz) = false := by simp; omega
      have a4 : decide ((16 : Int) ≤ (cnt : Int)) = false := by simp; omega
      have a5 : decide (16 ≤ cnt) = false := by simp; omega
      have g1 := HB3.out.frozen 1
      have g2 := HB3.out.frozen 2
      go_wp2_with fail
      have hrb := Blk.set_ (Blk.set_ HB3.out 1 (.int .i64 (n0 : Int))) 2 (.int .i64 ((cnt : Int) + 1))
      have hro : Only g w3 ((w3.setCell ⟨g, 1, none⟩ (.int .i64 (n0 : Int))).setCell ⟨g, 2, none⟩ (.int .i64 ((cnt : Int) + 1))) := ((Only.refl _ _).set_ 1 _).set_ 2 _
      have K4 := Lib.hid (K3.out.only hg HB3.out rfl hro)
      have hW4 := Lib.hid (hW3.out.trans (hro.below hg))
      have HB4 := Lib.hid (show RB ((w3.setCell ⟨g, 1, none⟩ (.int .i64 (n0 : Int))).setCell ⟨g, 2, none⟩ (.int .i64 ((cnt : Int) + 1))) g (.slice (cutp (some ⟨bb, off, none⟩) 3 c 1) (b.length - 3) (c - 3)) (n0 : Int) ((cnt : Int) + 1) from hrb)
      clear hrb hro r1 r2 g1 g2 a1 a2 a3 a4 a5 HB3
      generalize (w3.setCell ⟨g, 1, none⟩ (.int .i64 (n0 : Int))).setCell ⟨g, 2, none⟩ (.int .i64 ((cnt : Int) + 1)) = w4 at *
      have hyd := byt_drop HY.out 3 hlen
      by_cases hsz : b.length - 3 < sz
      · have hfb := Lib.hid (show fieldBad last cnt b = some 1 by
          unfold fieldBad; rw [if_neg h3, HT.out, HS.out, if_neg hbad, if_pos hsz])
        refine (take_short w4 E g _ _ _ (sz : Int) _ _ (errs_sub (HE.out.below hW4.out) rfl) HB4.out (by omega)).mono ?_
        rintro e w5 ⟨rfl, rfl⟩
        go_wp2_with fail
        refine ⟨rfl, ?_⟩
        unfold FieldR
        rw [hfb.out]
        exact ⟨K0.out.trans K4.out, rfl⟩
      · have hfb := Lib.hid (show fieldBad last cnt b = none by
          unfold fieldBad; rw [if_neg h3, HT.out, HS.out, if_neg hbad, if_neg hsz])
        have hdl : (b.drop 3).length = b.length - 3 := List.length_drop
        have hyr : Byt W (.slice (cutp (cutp (some ⟨bb, off, none⟩) 3 c 1) sz (c - 3) 1) (b.length - 3 - sz) (c - 3 - sz)) ((b.drop 3).drop sz) := by
          have := byt_drop (l := b.drop 3) (by rw [hdl]; exact hyd) sz (by omega)
          rwa [hdl] at this
        have hyt : Byt W (.slice (cutp (some ⟨bb, off, none⟩) 3 c 1) sz sz) ((b.drop 3).take sz) := by
          exact byt_full (by rw [hdl]; exact hyd) (by omega)
        have hRest := Lib.hid hyr
        have hData := Lib.hid hyt
        have hlr : (restOf b).length = b.length - 3 - sz := by unfold restOf; rw [List.length_drop, hdl, HS.out]
        have HLR := Lib.hid hlr
        have hs2 : sz ≤ 200 := by omega
        have hld : ((b.drop 3).take sz).length = sz := by rw [List.length_take, hdl]; omega
        have HLD := Lib.hid (show dataOf b = (b.drop 3).take sz by unfold dataOf; rw [HS.out])
        clear hyr hyt hyd hbad hlr
        generalize (b.drop 3).take sz = dd at *
        refine (take_any w4 g _ (b.length - 3) (c - 3) sz _ _ HB4.out (by omega) (by omega) (by unfold maxLen at *; omega)).mono ?_
        rintro e w5 ⟨rfl, hb5, ho5⟩
        have K5 := Lib.hid (K4.out.only hg HB4.out rfl ho5)
        have hW5 := Lib.hid (hW4.out.trans (ho5.below hg))
        have HB5 := Lib.hid hb5
        clear ho5 hb5
        go_wp2_with fail
        refine (clone_any _ dd w5 (by omega) (by have := hData.out.below hW5.out; exact this)).mono ?_
        rintro e w6 ⟨vd, rfl, hod, hb6⟩
        have K6 := Lib.hid (K5.out.call hW5.out.size hb6)
        have hW6 := Lib.hid (hW5.out.trans (hb6.mono hW5.out.size))
        have HB6 := Lib.hid (RB.below (B := 0) HB5.out hb6)
        have HOD := Lib.hid (owns_lower hod hW5.out.size)
        obtain ⟨pd, cd, rfl, _, _, _⟩ := owns_rd hod
        clear hod hb6
        have N6 := Lib.hid (K6.out.blk N1.out rfl)
        have HL := Lib.hid hld
        clear hld
        go_wp2_with (refine wpList_store (.tmp 2) (.tmp 56) 54 rfl rfl w.heap.size 0 _ _ #[.int .i64 (n0 : Int), .slice pd dd.length cd] rfl rfl N6.out (by kernel_rfl) ?s1 ?s2 ?_)
        case s1 => first | exact ⟨rfl, rfl⟩ | simp [Value.oneCell']
        case s2 => simp
        intro w7 hn7 ko7
        have h7 : Blk w7 w.heap.size 54 #[.int .i64 (n0 : Int), .slice pd dd.length cd] := hn7
        have q0 := (h7.cell 0).trans rfl
        have q1 := (h7.cell 1).trans rfl
        have hwN : W.heap.size ≤ w.heap.size := by omega
        go_wp2_with fail
        refine bodyPost_ret (v := .agg #[.int .i64 (n0 : Int), .slice pd dd.length cd]) (by simp [results, Tryz.results63, go_sem, q0, q1]) rfl ?_
        unfold FieldR
        rw [hfb.out]
        refine ⟨(K0.out.trans K6.out).new hwN (Nat.le_refl _) ko7, ?_⟩
        refine ⟨.slice pd dd.length cd, cutp (cutp (some ⟨bb, off, none⟩) 3 c 1) sz (c - 3) 1, c - 3 - sz, by rw [HT.out], ?_, ?_, ?_⟩
        · rw [HLD.out]; exact ko7.owns N6.out HOD.out (by decide)
        · rw [HLR.out, HT.out, show ((cnt + 1 : Nat) : Int) = (cnt : Int) + 1 from by omega]
          exact ko7.blk HB6.out (by omega)
        · have := hRest.out
          rw [HLR.out]
          unfold restOf
          rw [HS.out]
          exact this
end Go.Proofs.YtjklcbdlfmmllaaGreatDoor

namespace Go.Proofs.YtjklcbdlfmmllaaGreatDoor
open Go.RowKit

theorem rest_lt {last : Int} {cnt : Nat} {b : List UInt8} (h : fieldBad last cnt b = none) : (restOf b).length < b.length := by
  unfold fieldBad at h
  split at h
  · cases h
  · unfold restOf
    simp only [List.length_drop]
    omega
def splitF (last : Int) (cnt : Nat) (b : List UInt8) : List (Int × List UInt8) × Option Nat :=
  if b = [] then ([], none) else
    match h : fieldBad last cnt b with
    | some n => ([], some n)
    | none => ((tagOf b, dataOf b) :: (splitF (tagOf b) (cnt + 1) (restOf b)).1, (splitF (tagOf b) (cnt + 1) (restOf b)).2)
termination_by b.length
decreasing_by all_goals exact rest_lt h
theorem splitF_nil (last : Int) (cnt : Nat) : splitF last cnt [] = ([], none) := by rw [splitF]; simp
theorem splitF_bad {last : Int} {cnt n : Nat} {b : List UInt8} (h0 : b ≠ []) (h : fieldBad last cnt b = some n) : splitF last cnt b = ([], some n) := by
  rw [splitF, if_neg h0]
  split
  · rename_i m hm; rw [h] at hm; cases hm; rfl
  · rename_i hm; rw [h] at hm; cases hm
theorem splitF_ok {last : Int} {cnt : Nat} {b : List UInt8} (h0 : b ≠ []) (h : fieldBad last cnt b = none) :
    splitF last cnt b = ((tagOf b, dataOf b) :: (splitF (tagOf b) (cnt + 1) (restOf b)).1, (splitF (tagOf b) (cnt + 1) (restOf b)).2) := by
  rw [splitF, if_neg h0]
  split
  · rename_i m hm; rw [h] at hm; cases hm
  · rfl
theorem fieldBad_lt {last : Int} {cnt n : Nat} {b : List UInt8} (h : fieldBad last cnt b = some n) : n < 14 := by
  unfold fieldBad at h
  repeat' split at h
  all_goals simp at h
  all_goals omega
theorem tagOf_bd (b : List UInt8) : 0 ≤ tagOf b ∧ tagOf b ≤ 255 := by
  unfold tagOf
  have := (b.getD 0 0).toNat_lt
  omega
theorem cnt_lt {last : Int} {cnt : Nat} {b : List UInt8} (h : fieldBad last cnt b = none) : cnt < 16 := by
  unfold fieldBad at h
  split at h
  · cases h
  · split at h
    · cases h
    · omega

/-- the row v of fields fs, whose data are rows of the call's own -/
def OutF (w : World) (B : Nat) (v : Value) (fs : List (Int × List UInt8)) : Prop :=
  ∃ us, us.length = fs.length ∧ w.ownsRow B 54 2 v fs.length (fcells fs us) ∧ ∀ (i : Nat) (f : Int × List UInt8), fs[i]? = some f → ∃ u, us[i]? = some u ∧ w.ownsRow B 5 1 u f.2.length (bvs f.2)
theorem fcells_app : ∀ (fs gs : List (Int × List UInt8)) (us vs : List Value), us.length = fs.length → fcells (fs ++ gs) (us ++ vs) = fcells fs us ++ fcells gs vs
  | [], _, [], _, _ => rfl
  | f :: fs, gs, u :: us, vs, h => by
    have := fcells_app fs gs us vs (by simpa using h)
    simp [fcells, this]
  | [], _, _ :: _, _, h => by simp at h
  | _ :: _, _, [], _, h => by simp at h
theorem OutF.keep {w w' : World} {B B' : Nat} {Ts : List TypeId} {v : Value} {fs : List (Int × List UInt8)} (h : OutF w B v fs) (k : Keeps B' Ts w w') (h1 : Ts.contains 54 = false) (h2 : Ts.contains 5 = false) : OutF w' B v fs := by
  obtain ⟨us, a, b, c⟩ := h
  exact ⟨us, a, k.owns b h1, fun i f hf => by obtain ⟨u, hu, ho⟩ := c i f hf; exact ⟨u, hu, k.owns ho h2⟩⟩
theorem OutF.below {w w' : World} {B : Nat} {v : Value} {fs : List (Int × List UInt8)} (h : OutF w B v fs) (k : Below w.heap.size w w') : OutF w' B v fs :=
  h.keep (Ts := []) (Keeps.of_below (B := 0) k (Nat.zero_le _)) rfl rfl
theorem OutF.lower {w : World} {B B' : Nat} {v : Value} {fs : List (Int × List UInt8)} (h : OutF w B v fs) (hB : B' ≤ B) : OutF w B' v fs := by
  obtain ⟨us, a, b, c⟩ := h
  exact ⟨us, a, owns_lower b hB, fun i f hf => by obtain ⟨u, hu, ho⟩ := c i f hf; exact ⟨u, hu, owns_lower ho hB⟩⟩
theorem OutF.fld {w : World} {B : Nat} {v : Value} {fs : List (Int × List UInt8)} (h : OutF w B v fs) : FldL w v fs := by
  obtain ⟨us, a, b, c⟩ := h
  obtain ⟨p, cap, hv, h1, h2, h3⟩ := owns_rd b
  exact ⟨p, cap, us, hv, h1, h2, a, h3, fun i f hf => by obtain ⟨u, hu, ho⟩ := c i f hf; exact ⟨u, hu, owns_byt ho⟩⟩
/-- a row of another type beside one that grows -/
theorem grown_owns {w w' : World} {base base' size size' n n' : Nat} {e e' : TypeId} {v v' : Value} {xs xs' : List Value} (hg : w.grownBy w' v.ownBlock) (ho : w.ownsRow base e size v n xs) (h : w.ownsRow base' e' size' v' n' xs') (hne : e ≠ e') : w'.ownsRow base' e' size' v' n' xs' := by
  refine ⟨h.1, ?_⟩
  rcases h.2 with h2 | ⟨g, cap, cur, hv, hb, hh, r⟩
  · exact .inl h2
  · refine .inr ⟨g, cap, cur, hv, hb, ?_, r⟩
    refine (hg.block g (Array.getElem?_eq_some_iff.1 hh).1 fun heq => ?_).trans hh
    rcases ho.2 with ⟨rfl, _⟩ | ⟨g', cap', cur', rfl, _, hh', _⟩
    · simp [Value.ownBlock] at heq
    · have e1 : g = g' := by simpa [Value.ownBlock] using heq
      subst e1
      exact Blk.ne_ (t := e) (cs := cur') hh' (show Blk w g e' cur from hh) hne rfl
theorem fldInfo : (Tryz.prog.info? 54).map (fun i => (i.zero, i.size, i.bytes)) = some (some (.agg #[.int .i64 0, .slice none 0 0]), 2, 32) := by kernel_rfl

def Split1R (w1 : World) (b : List UInt8) (v : Value) (w2 : World) : Prop := (splitF 0 0 b).2 = none ∧ OutF w2 w1.heap.size v (splitF 0 0 b).1
set_option maxRecDepth 20000 in
set_option maxHeartbeats 2000000 in
theorem split1_any (W : World) (E : Nat → Addr) (bx : Nat) (v : Value) (b : List UInt8) (he : ErrsOn [1, 3] W E) (hc : W.cell? ⟨bx, 0, none⟩ = some v) (hy : Byt W v b) :
    Calls Tryz.prog 62 #[.pointer (some ⟨bx, 0, none⟩)] W fun e w2 => May (Split1R W b) (fun n => (splitF 0 0 b).2 = some n) E e w2 ∧ Below W.heap.size W w2 := by
  have HE := Lib.hid he
  have HY := Lib.hid hy
  obtain ⟨p, c, rfl, k1, k2, k3⟩ := hy
  obtain ⟨i0, hi, hz0, hz1, hz2⟩ := info_parts fldInfo
  clear he k3
  go_enter Tryz.func62, Tryz.ntmps62
  go_wp2_with fail
  have hb0 := below_alloc1 W (.cells #[.slice p b.length c, .int .i64 0, .int .i64 0] 106)
  have hrb0 : RB (W.alloc (.cells #[.slice p b.length c, .int .i64 0, .int .i64 0] 106)) W.heap.size (.slice p b.length c) 0 ((0 : Nat) : Int) := Blk.new W _ _
  generalize W.alloc (.cells #[.slice p b.length c, .int .i64 0, .int .i64 0] 106) = w0 at *
  go_loopg [3] b.length (fun gk out wr => ∃ (fs : List (Int × List UInt8)) (rest : List UInt8) (last : Int) (p' : Option Addr) (c' : Nat), rest.length ≤ gk ∧ fs.length ≤ 16 ∧ (0 ≤ last ∧ last ≤ 255) ∧
    splitF 0 0 b = (fs ++ (splitF last fs.length rest).1, (splitF last fs.length rest).2) ∧ OutF wr W.heap.size out fs ∧ RB wr W.heap.size (.slice p' rest.length c') last ((fs.length : Nat) : Int) ∧ Byt W (.slice p' rest.length c') rest ∧ Below W.heap.size W wr)
  case atStart => exact ⟨[], b, 0, p, c, Nat.le_refl _, by simp, by decide, rfl, ⟨[], rfl, ⟨rfl, .inl ⟨rfl, rfl⟩⟩, by simp⟩, hrb0, HY.out, hb0⟩
  case round =>
    obtain ⟨fs, rest, last, p', c', hgk, hfl, hlast, heq, hout, hrb, hyr, hbw⟩ := hrel
    have HEQ := Lib.hid heq
    have HRB := Lib.hid hrb
    have HO := Lib.hid hout
    have HYR := Lib.hid hyr
    have r0 := (hrb.cell 0).trans rfl
    obtain ⟨_, _, hq, k1', k2', _⟩ := hyr
    cases hq
    unfold maxLen at k2'
    clear heq hrb hout hrb0 hb0
    by_cases hnil : rest = []
    · have HN := Lib.hid hnil
      have d0 : decide ((0 : Int) < (rest.length : Int)) = false := by simp [hnil]
      have d0' : decide (0 < rest.length) = false := by simp [hnil]
      clear hnil
      go_wp2_with fail
      go_ret
      refine ⟨.inl ⟨_, rfl, ?_⟩, hbw⟩
      have h := HEQ.out
      rw [HN.out, splitF_nil, List.append_nil] at h
      exact ⟨by rw [h], by rw [h]; exact HO.out⟩
    · have hpos : 0 < rest.length := List.length_pos_iff.2 hnil
      have HN := Lib.hid hnil
      have d0 : decide ((0 : Int) < (rest.length : Int)) = true := by simp; omega
      have d0' : decide (0 < rest.length) = true := by simp; omega
      clear hnil
      go_wp2_with fail
      refine (field_any W wr E W.heap.size p' c' last fs.length rest HE.out hbw (Nat.le_refl _) HYR.out HRB.out hfl ⟨by omega, hlast.2⟩).mono ?_
      rintro e w2 ⟨K2, hm⟩
      have hbw2 := hbw.trans K2.below
      have hO2 := HO.out.keep K2 rfl rfl
      cases hfb : fieldBad last fs.length rest with
      | some n =>
        rw [hfb] at hm
        obtain rfl := hm
        have hsp := splitF_bad HN.out hfb
        have HF := Lib.hid (show n < 14 ∧ (splitF 0 0 b).2 = some n from ⟨fieldBad_lt hfb, by rw [HEQ.out, hsp]⟩)
        clear hsp hfb
        go_wp2_with fail
        exact ⟨rfl, .inr ⟨n, HF.out.1, HF.out.2, rfl⟩, hbw2⟩
      | none =>
        rw [hfb] at hm
        obtain ⟨vd, p2, c2, rfl, hod, hrb2, hyr2⟩ := hm
        have hsp := splitF_ok HN.out hfb
        have hlt := rest_lt hfb
        have hc16 := cnt_lt hfb
        have htb := tagOf_bd rest
        have HH := Lib.hid (show splitF 0 0 b = ((fs ++ [(tagOf rest, dataOf rest)]) ++ (splitF (tagOf rest) (fs.length + 1) (restOf rest)).1, (splitF (tagOf rest) (fs.length + 1) (restOf rest)).2) by
          rw [HEQ.out, hsp]; simp)
        obtain ⟨us, hus, hown, hel⟩ := hO2
        obtain ⟨pd, cd, rfl, _, _, _⟩ := owns_rd hod
        have HOD := Lib.hid hod
        have HEL := Lib.hid hel
        have HRB2 := Lib.hid hrb2
        have HYR2 := Lib.hid hyr2
        clear hsp hfb hod hel hrb2 hyr2
        have hown1 := owns_below hown (below_alloc1 w2 (.cells #[.int .i64 (tagOf rest), .slice pd (dataOf rest).length cd] 54))
        have hs2 := (below_alloc hbw2 (.cells #[.int .i64 (tagOf rest), .slice pd (dataOf rest).length cd] 54)).size
        go_wp2_with (at_builtin; refine wpList_app (.tmp 13) (.tmp 16) 47 rfl rfl W.heap.size 54 i0 (.agg #[.int .i64 0, .slice none 0 0]) 2 32 Tryz.underlying47 hi hz0 hz1 hz2 rfl (by decide) _ _ _ rfl hown1 _ _ _ [.int .i64 (tagOf rest), .slice pd (dataOf rest).length cd] rfl rfl (rd_at _ #[_, _] _ _ _ rfl) ?b1 ?b2 ?b3 hs2 ?_)
        case b1 => first | exact ⟨rfl, rfl⟩ | simp [Value.oneCell']
        case b2 => unfold maxLen; omega
        case b3 => omega
        intro v3 w3 ho3 hg3
        have hal := below_alloc1 w2 (.cells #[.int .i64 (tagOf rest), .slice pd (dataOf rest).length cd] 54)
        have hbw3 := (below_alloc hbw2 (.cells #[.int .i64 (tagOf rest), .slice pd (dataOf rest).length cd] 54)).grown hg3 hs2 (fun j hj => (hown1.lt j hj).1)
        have HRB3 := Lib.hid (show RB w3 W.heap.size (.slice p2 (restOf rest).length c2) (tagOf rest) ((fs.length + 1 : Nat) : Int) from grown_blk hg3 hown1 (Blk.below HRB2.out hal (Blk.lt HRB2.out)) (by decide))
        have HO3 := Lib.hid (show OutF w3 W.heap.size v3 (fs ++ [(tagOf rest, dataOf rest)]) from by
          refine ⟨us ++ [.slice pd (dataOf rest).length cd], by simp [hus], ?_, fun i f hf => ?_⟩
          · rw [fcells_app _ _ _ _ hus, List.length_append]
            exact ho3
          · by_cases hi : i < fs.length
            · rw [List.getElem?_append_left hi] at hf
              obtain ⟨u, hu, ho⟩ := HEL.out i f hf
              exact ⟨u, by rw [List.getElem?_append_left (by omega)]; exact hu, grown_owns hg3 hown1 (owns_below ho hal) (by decide)⟩
            · rw [List.getElem?_append_right (by omega)] at hf
              have hi0 : i - fs.length = 0 := by
                have := (List.getElem?_eq_some_iff.1 hf).1
                simp at this; omega
              rw [hi0] at hf
              obtain rfl : (tagOf rest, dataOf rest) = f := by simpa using hf
              exact ⟨_, by rw [List.getElem?_append_right (by omega), hus, hi0]; rfl, grown_owns hg3 hown1 (owns_below HOD.out hal) (by decide)⟩)
        clear hown hown1 ho3 hg3 hal
        go_wp2_with fail
        go_roundg (restOf rest).length
        case measure => omega
        case rel => exact ⟨fs ++ [(tagOf rest, dataOf rest)], restOf rest, tagOf rest, p2, c2, Nat.le_refl _, by simp; omega, htb, by rw [List.length_append]; exact HH.out, HO3.out, by rw [List.length_append]; exact HRB3.out, HYR2.out, hbw3⟩
/-- fields.Split -/
def splitE (b : List UInt8) : Nat := match (splitF 0 0 b).2 with | none => 0 | some n => n + 1
def splitL (b : List UInt8) : List (Int × List UInt8) := match (splitF 0 0 b).2 with | none => (splitF 0 0 b).1 | some _ => []
def SplitR (w : World) (E : Nat → Addr) (b : List UInt8) (e : Ending) (w' : World) : Prop :=
  ∃ v, e = .returned (.tuple #[v, errV E (splitE b)]) ∧ FldL w' v (splitL b) ∧ Below w.heap.size w w'
set_option maxRecDepth 20000 in
set_option maxHeartbeats 2000000 in
theorem split_any (w : World) (E : Nat → Addr) (v : Value) (b : List UInt8) (he : Errs w E) (hy : Byt w v b) :
    Calls Tryz.prog 33 #[v] w (SplitR w E b) := by
  have HE := Lib.hid he
  have HY := Lib.hid hy
  have hmf := @run_makeFunc Tryz.prog
  obtain ⟨p, c, rfl, k1, k2, k3⟩ := hy
  clear he k3
  go_enter Tryz.func33, Tryz.ntmps33
  go_wp2_with fail
  have hb1 := below_alloc1 w (.cells #[.slice p b.length c] 29)
  have hc1 : (w.alloc (.cells #[.slice p b.length c] 29)).cell? ⟨w.heap.size, 0, none⟩ = some (.slice p b.length c) := (Blk.new w _ _).cell 0
  refine (tryF_any _ E 62 #[.pointer (some ⟨w.heap.size, 0, none⟩)] (fun w1 => Split1R w1 b) (fun n => (splitF 0 0 b).2 = some n) (HE.out.below hb1) ?_ (fun w => by kernel_rfl) ?_).mono ?_
  · rintro w1 v w2 ⟨_, h⟩
    obtain ⟨p, c, us, rfl, _⟩ := h.fld
    exact ⟨_, _, _, rfl⟩
  · intro w1 hbw _
    exact split1_any w1 E w.heap.size _ b (((HE.out.below hb1).below hbw).on [1, 3] rfl) (Below.keeps hbw _ _ hc1) ((HY.out.below hb1).below hbw)
  · rintro e w2 ⟨hb2, ⟨v, w1, w2', rfl, hs1, hbw1, hbw2, ⟨hn, hO⟩, hBut⟩ | ⟨n, hn, hS, rfl⟩⟩
    · have hB2 := Lib.hid (hb1.trans (hb2.mono hb1.size))
      simp only [World.size_alloc] at hs1
      have hF : FldL w2 v (splitF 0 0 b).1 := by
        have hO' : OutF w2 (w1.heap.size) v (splitF 0 0 b).1 := by
          have keep : ∀ {size n : Nat} {e : TypeId} {u : Value} {xs : List Value}, w2'.ownsRow w1.heap.size e size u n xs → w2.ownsRow w1.heap.size e size u n xs := by
            intro size n e u xs h
            refine ⟨h.1, ?_⟩
            rcases h.2 with h2 | ⟨g, cap, cur, hv, hg, hh, r⟩
            · exact .inl h2
            · exact .inr ⟨g, cap, cur, hv, hg, (hBut.block g (Array.getElem?_eq_some_iff.1 hh).1 (by simp; omega)).trans hh, r⟩
          obtain ⟨us, a, b', c'⟩ := hO
          exact ⟨us, a, keep b', fun i f hf => by obtain ⟨u, hu, ho⟩ := c' i f hf; exact ⟨u, hu, keep ho⟩⟩
        exact hO'.fld
      have HF := Lib.hid hF
      have HN := Lib.hid (show splitE b = 0 ∧ splitL b = (splitF 0 0 b).1 by unfold splitE splitL; rw [hn]; exact ⟨rfl, rfl⟩)
      clear hF hO hBut hb1 hc1 hb2 hbw1 hbw2 hn hs1
      obtain ⟨p3, c3, us, rfl, _⟩ := id HF.out
      go_wp2_with fail
      go_ret2
      exact ⟨_, by rw [HN.out.1]; rfl, by rw [HN.out.2]; exact HF.out, hB2.out⟩
    · have hB2 := Lib.hid (hb1.trans (hb2.mono hb1.size))
      have HN := Lib.hid (show splitE b = n + 1 ∧ splitL b = [] by unfold splitE splitL; rw [hS]; exact ⟨rfl, rfl⟩)
      clear hb1 hc1 hb2 hS
      unfold errAt
      go_wp2_with fail
      go_ret2
      exact ⟨.slice none 0 0, by rw [HN.out.1]; rfl, by rw [HN.out.2]; exact ⟨none, 0, [], rfl, Nat.le_refl _, by unfold maxLen; omega, rfl, .inl rfl, by simp⟩, hB2.out⟩
end Go.Proofs.YtjklcbdlfmmllaaGreatDoor

namespace Go.Proofs.YtjklcbdlfmmllaaGreatDoor
open Go.RowKit

theorem OutF.add {w2 w3 : World} {B : Nat} {v v3 : Value} {fs : List (Int × List UInt8)} {us : List Value} {f : Int × List UInt8} {u : Value} (hus : us.length = fs.length)
    (ho3 : w3.ownsRow B 54 2 v3 (fs.length + 1) (fcells fs us ++ [.int .i64 f.1, u])) (hown : w2.ownsRow B 54 2 v fs.length (fcells fs us)) (hg3 : w2.grownBy w3 v.ownBlock)
    (hel : ∀ (i : Nat) (f : Int × List UInt8), fs[i]? = some f → ∃ u, us[i]? = some u ∧ w2.ownsRow B 5 1 u f.2.length (bvs f.2)) (hu : w2.ownsRow B 5 1 u f.2.length (bvs f.2)) : OutF w3 B v3 (fs ++ [f]) := by
  refine ⟨us ++ [u], by simp [hus], ?_, fun i f' hf => ?_⟩
  · rw [fcells_app _ _ _ _ hus, List.length_append]
    exact ho3
  · by_cases hi : i < fs.length
    · rw [List.getElem?_append_left hi] at hf
      obtain ⟨u', hu', ho⟩ := hel i f' hf
      exact ⟨u', by rw [List.getElem?_append_left (by omega)]; exact hu', grown_owns hg3 hown ho (by decide)⟩
    · rw [List.getElem?_append_right (by omega)] at hf
      have hi0 : i - fs.length = 0 := by
        have := (List.getElem?_eq_some_iff.1 hf).1
        simp at this; omega
      rw [hi0] at hf
      obtain rfl : f = f' := by simpa using hf
      exact ⟨_, by rw [List.getElem?_append_right (by omega), hus, hi0]; rfl, grown_owns hg3 hown hu (by decide)⟩
/-- a row that was there before the fresh block alone grew -/
theorem grown_new {w w' : World} {B size n : Nat} {e : TypeId} {v : Value} {xs : List Value} {o : Obj} (hg : (w.alloc o).grownBy w' (some w.heap.size)) (h : w.ownsRow B e size v n xs) : w'.ownsRow B e size v n xs := by
  refine ⟨h.1, ?_⟩
  rcases h.2 with h2 | ⟨g, cap, cur, hv, hB, hh, r⟩
  · exact .inl h2
  · have hlt : g < w.heap.size := (Array.getElem?_eq_some_iff.1 hh).1
    refine .inr ⟨g, cap, cur, hv, hB, (hg.block g (by rw [World.size_alloc]; omega) (fun e => ?_)).trans ((Below.heap_alloc w o g hlt).trans hh), r⟩
    injection e with e
    omega
end Go.Proofs.YtjklcbdlfmmllaaGreatDoor

namespace Go.Proofs.YtjklcbdlfmmllaaGreatDoor
open Go.RowKit

theorem splitF_right (b : List UInt8) : ∀ (last : Int) (cnt : Nat), cnt ≤ 16 → (splitF last cnt b).2 = none →
    rowOk last (splitF last cnt b).1 = true ∧ cnt + (splitF last cnt b).1.length ≤ 16 ∧ joinL (splitF last cnt b).1 = b := by
  induction hn : b.length using Nat.strongRecOn generalizing b with
  | _ n ih =>
    intro last cnt hc h
    by_cases hb : b = []
    · subst hb
      rw [splitF_nil] at *
      exact ⟨rfl, by simpa using hc, rfl⟩
    · cases hf : fieldBad last cnt b with
      | some m => rw [splitF_bad hb hf] at h; cases h
      | none =>
        rw [splitF_ok hb hf] at h ⊢
        have h16 := cnt_lt hf
        obtain ⟨i1, i2, i3⟩ := ih (restOf b).length (by rw [← hn]; exact rest_lt hf) (restOf b) rfl (tagOf b) (cnt + 1) (by omega) h
        have hbd := tagOf_bd b
        match b, hb, hf, i1, i2, i3, hbd with
        | x0 :: x1 :: x2 :: r, _, hf, i1, i2, i3, hbd =>
          have hsz : sizeOfF (x0 :: x1 :: x2 :: r) = 256 * x1.toNat + x2.toNat := rfl
          have ht : tagOf (x0 :: x1 :: x2 :: r) = (x0.toNat : Int) := rfl
          have hd : dataOf (x0 :: x1 :: x2 :: r) = r.take (256 * x1.toNat + x2.toNat) := by unfold dataOf; rw [hsz]; rfl
          have hr : restOf (x0 :: x1 :: x2 :: r) = r.drop (256 * x1.toNat + x2.toNat) := by unfold restOf; rw [hsz]; rfl
          unfold fieldBad at hf
          rw [hsz, ht] at hf
          simp only [List.length_cons] at hf
          split at hf
          · cases hf
          · split at hf
            · cases hf
            · split at hf
              · cases hf
              · rename_i q1 q2 q3
                have y0 := x0.toNat_lt
                have y1 := x1.toNat_lt
                have y2 := x2.toNat_lt
                have hlen : (r.take (256 * x1.toNat + x2.toNat)).length = 256 * x1.toNat + x2.toNat := by rw [List.length_take]; omega
                refine ⟨?_, ?_, ?_⟩
                · simp only [rowOk, i1, Bool.and_true, fieldOk, Bool.and_eq_true, decide_eq_true_eq]
                  rw [hd, hlen, ht]
                  omega
                · simp only [List.length_cons]; omega
                · have e : ∀ (f : Int × List UInt8) fs, joinL (f :: fs) = fieldB f ++ joinL fs := fun _ _ => rfl
                  rw [e, i3, hr, ht, hd]
                  unfold fieldB
                  simp only [hlen]
                  have e0 : UInt8.ofNat ((x0.toNat : Int) % 256).toNat = x0 := by
                    apply UInt8.toNat_inj.1; simp; omega
                  have e1 : UInt8.ofNat ((256 * x1.toNat + x2.toNat) / 256) = x1 := by
                    apply UInt8.toNat_inj.1; simp; omega
                  have e2 : UInt8.ofNat (256 * x1.toNat + x2.toNat) = x2 := by
                    apply UInt8.toNat_inj.1; simp
                  rw [e0, e1, e2]
                  simp
        | [_], _, hf, _, _, _, _ => simp [fieldBad] at hf
        | [_, _], _, hf, _, _, _, _ => simp [fieldBad] at hf
theorem split_law (b : List UInt8) (h : splitE b = 0) : joinE (splitL b) = 0 ∧ joinR (splitL b) = b := by
  unfold splitE at h
  split at h
  · rename_i h2
    obtain ⟨a1, a2, a3⟩ := splitF_right b 0 0 (by omega) h2
    have hL : splitL b = (splitF 0 0 b).1 := by unfold splitL; rw [h2]
    have hR : rightRow (splitL b) = true := by unfold rightRow; rw [hL, a1]; simp; omega
    unfold joinE joinR
    rw [hR, hL]
    exact ⟨rfl, a3⟩
  · omega
theorem splitE_le (b : List UInt8) : splitE b ≤ 14 := by
  unfold splitE
  split
  · omega
  · rename_i n h
    have : ∀ (m : Nat) (b : List UInt8), b.length ≤ m → ∀ (last : Int) (cnt n : Nat), (splitF last cnt b).2 = some n → n < 14 := by
      intro m
      induction m with
      | zero =>
        intro b hb last cnt n h
        obtain rfl : b = [] := List.length_eq_zero_iff.1 (by omega)
        rw [splitF_nil] at h; cases h
      | succ m ih =>
        intro b hb last cnt n h
        by_cases h0 : b = []
        · subst h0; rw [splitF_nil] at h; cases h
        · cases hf : fieldBad last cnt b with
          | some k => rw [splitF_bad h0 hf] at h; cases h; exact fieldBad_lt hf
          | none =>
            rw [splitF_ok h0 hf] at h
            have := rest_lt hf
            exact ih (restOf b) (by omega) _ _ n h
    have := this b.length b (Nat.le_refl _) 0 0 n h
    omega

end Go.Proofs.YtjklcbdlfmmllaaGreatDoor

namespace Go.Proofs.YtjklcbdlfmmllaaGreatDoor
open Go.RowKit

/-- a field's bytes ahead of others -/
theorem splitF_one (last : Int) (cnt : Nat) (f : Int × List UInt8) (r : List UInt8) (hok : fieldOk last f = true) (h0 : 0 ≤ last) (hc : cnt < 16) :
    splitF last cnt (fieldB f ++ r) = (f :: (splitF f.1 (cnt + 1) r).1, (splitF f.1 (cnt + 1) r).2) := by
  obtain ⟨t, d⟩ := f
  simp only [fieldOk, Bool.and_eq_true, decide_eq_true_eq] at hok
  obtain ⟨⟨h1, h2⟩, h3⟩ := hok
  have hb : fieldB (t, d) ++ r = UInt8.ofNat (t % 256).toNat :: UInt8.ofNat (d.length / 256) :: UInt8.ofNat d.length :: (d ++ r) := rfl
  rw [hb]
  have hs : sizeOfF (UInt8.ofNat (t % 256).toNat :: UInt8.ofNat (d.length / 256) :: UInt8.ofNat d.length :: (d ++ r)) = d.length := by
    show 256 * (UInt8.ofNat (d.length / 256)).toNat + (UInt8.ofNat d.length).toNat = _
    simp; omega
  have ht : tagOf (UInt8.ofNat (t % 256).toNat :: UInt8.ofNat (d.length / 256) :: UInt8.ofNat d.length :: (d ++ r)) = t := by
    show ((UInt8.ofNat (t % 256).toNat).toNat : Int) = t
    simp; omega
  have hd : dataOf (UInt8.ofNat (t % 256).toNat :: UInt8.ofNat (d.length / 256) :: UInt8.ofNat d.length :: (d ++ r)) = d := by
    unfold dataOf; rw [hs]
    show (d ++ r).take d.length = d
    simp
  have hr : restOf (UInt8.ofNat (t % 256).toNat :: UInt8.ofNat (d.length / 256) :: UInt8.ofNat d.length :: (d ++ r)) = r := by
    unfold restOf; rw [hs]
    show (d ++ r).drop d.length = r
    simp
  rw [splitF_ok (by simp) (by
    unfold fieldBad
    rw [hs, ht, if_neg (by simp), if_neg (by omega), if_neg (by simp)])]
  rw [ht, hd, hr]
theorem splitF_app (fs : List (Int × List UInt8)) : ∀ (last : Int) (cnt : Nat) (r : List UInt8), rowOk last fs = true → 0 ≤ last → cnt + fs.length ≤ 16 →
    splitF last cnt (joinL fs ++ r) = (fs ++ (splitF (lastOf last fs) (cnt + fs.length) r).1, (splitF (lastOf last fs) (cnt + fs.length) r).2) := by
  induction fs with
  | nil => intro last cnt r _ _ _; simp [joinL, lastOf]
  | cons f fs ih =>
    intro last cnt r hok h0 hc
    simp only [rowOk, Bool.and_eq_true] at hok
    simp only [List.length_cons] at hc ⊢
    have e : joinL (f :: fs) ++ r = fieldB f ++ (joinL fs ++ r) := by show (fieldB f ++ joinL fs) ++ r = _; rw [List.append_assoc]
    have hf := hok.1
    simp only [fieldOk, Bool.and_eq_true, decide_eq_true_eq] at hf
    rw [e, splitF_one last cnt f _ hok.1 h0 (by omega), ih f.1 (cnt + 1) r hok.2 (by omega) (by omega)]
    have el : lastOf last (f :: fs) = lastOf f.1 fs := rfl
    rw [el, show cnt + 1 + fs.length = cnt + (fs.length + 1) by omega]
    simp
theorem splitF_row (fs : List (Int × List UInt8)) (last : Int) (cnt : Nat) (hok : rowOk last fs = true) (h0 : 0 ≤ last) (hc : cnt + fs.length ≤ 16) : splitF last cnt (joinL fs) = (fs, none) := by
  have := splitF_app fs last cnt [] hok h0 hc
  simpa [splitF_nil] using this
/-- more fields than there may be -/
theorem splitF_over (fs : List (Int × List UInt8)) : ∀ (last : Int) (cnt : Nat), rowOk last fs = true → 0 ≤ last → cnt ≤ 16 → 16 < cnt + fs.length → (splitF last cnt (joinL fs)).2 ≠ none := by
  induction fs with
  | nil => intro last cnt _ _ h1 h2; simp at h2; omega
  | cons f fs ih =>
    intro last cnt hok h0 h1 h2
    simp only [rowOk, Bool.and_eq_true] at hok
    simp only [List.length_cons] at h2
    have hf := hok.1
    simp only [fieldOk, Bool.and_eq_true, decide_eq_true_eq] at hf
    have e : joinL (f :: fs) = fieldB f ++ joinL fs := rfl
    rw [e]
    by_cases hc : cnt < 16
    · rw [splitF_one last cnt f _ hok.1 h0 hc]
      exact ih f.1 (cnt + 1) hok.2 (by omega) (by omega) (by omega)
    · intro h
      have hne : fieldB f ++ joinL fs ≠ [] := by simp [fieldB]
      cases hb : fieldBad last cnt (fieldB f ++ joinL fs) with
      | some n => rw [splitF_bad hne hb] at h; cases h
      | none => have := cnt_lt hb; omega
/-- a tag that does not go on -/
theorem splitF_back (f : Int × List UInt8) (fs : List (Int × List UInt8)) (last : Int) (cnt : Nat) (h0 : 0 < f.1) (h255 : f.1 ≤ 255) (h : f.1 ≤ last) : (splitF last cnt (joinL (f :: fs))).2 ≠ none := by
  intro h2
  have e : joinL (f :: fs) = fieldB f ++ joinL fs := rfl
  rw [e] at h2
  have hne : fieldB f ++ joinL fs ≠ [] := by simp [fieldB]
  have ht : tagOf (fieldB f ++ joinL fs) = f.1 := by
    show ((UInt8.ofNat (f.1 % 256).toNat).toNat : Int) = f.1
    simp; omega
  cases hb : fieldBad last cnt (fieldB f ++ joinL fs) with
  | some n => rw [splitF_bad hne hb] at h2; cases h2
  | none =>
    unfold fieldBad at hb
    rw [ht] at hb
    split at hb
    · cases hb
    · split at hb
      · cases hb
      · omega
/-- a row that is cut short has fewer fields, where it is one -/
theorem splitF_cut (fs : List (Int × List UInt8)) : ∀ (last : Int) (cnt k : Nat), rowOk last fs = true → 0 ≤ last → cnt + fs.length ≤ 16 → k < (joinL fs).length →
    (splitF last cnt ((joinL fs).take k)).2 = none → (splitF last cnt ((joinL fs).take k)).1.length < fs.length := by
  induction fs with
  | nil => intro last cnt k _ _ _ hk; simp [joinL] at hk
  | cons f fs ih =>
    intro last cnt k hok h0 hc hk h
    simp only [rowOk, Bool.and_eq_true] at hok
    simp only [List.length_cons] at hc ⊢
    have hf := hok.1
    obtain ⟨t, d⟩ := f
    simp only [fieldOk, Bool.and_eq_true, decide_eq_true_eq] at hf
    have e : joinL ((t, d) :: fs) = fieldB (t, d) ++ joinL fs := rfl
    have hfl : (fieldB (t, d)).length = d.length + 3 := rfl
    rw [e] at h hk ⊢
    rw [List.length_append, hfl] at hk
    by_cases hk0 : k = 0
    · subst hk0; rw [List.take_zero, splitF_nil]; simp
    · by_cases hks : k < d.length + 3
      · exfalso
        rw [List.take_append_of_le_length (by omega)] at h
        have hne : (fieldB (t, d)).take k ≠ [] := by
          intro he
          have := congrArg List.length he
          rw [List.length_take, hfl] at this
          simp at this; omega
        cases hb : fieldBad last cnt ((fieldB (t, d)).take k) with
        | some n => rw [splitF_bad hne hb] at h; cases h
        | none =>
          unfold fieldBad at hb
          have hl : ((fieldB (t, d)).take k).length = k := by rw [List.length_take, hfl]; omega
          rw [hl] at hb
          split at hb
          · cases hb
          · rename_i h3
            obtain ⟨j, rfl⟩ : ∃ j, k = j + 3 := ⟨k - 3, by omega⟩
            have hs : sizeOfF ((fieldB (t, d)).take (j + 3)) = d.length := by
              show 256 * (UInt8.ofNat (d.length / 256)).toNat + (UInt8.ofNat d.length).toNat = _
              simp; omega
            rw [hs] at hb
            split at hb
            · cases hb
            · split at hb
              · cases hb
              · omega
      · have ek : (fieldB (t, d) ++ joinL fs).take k = fieldB (t, d) ++ (joinL fs).take (k - (d.length + 3)) := by
          rw [List.take_append, List.take_of_length_le (by rw [hfl]; omega), hfl]
        rw [ek, splitF_one last cnt (t, d) _ hok.1 h0 (by omega)] at h ⊢
        simp only [List.length_cons]
        have := ih t (cnt + 1) (k - (d.length + 3)) hok.2 (by omega) (by omega) (by omega) h
        omega
theorem right_parts {fs : List (Int × List UInt8)} (h : rightRow fs = true) : fs.length ≤ 16 ∧ rowOk 0 fs = true := by
  unfold rightRow at h
  simpa using h
theorem rowOk_lastOf : ∀ (fs : List (Int × List UInt8)) (last : Int), 0 ≤ last → rowOk last fs = true → 0 ≤ lastOf last fs
  | [], last, h, _ => h
  | f :: fs, last, h0, h => by
    simp only [rowOk, fieldOk, Bool.and_eq_true, decide_eq_true_eq] at h
    exact rowOk_lastOf fs f.1 (by omega) h.2
/-- do the tags go on? -/
def goesOn (a b : List (Int × List UInt8)) : Bool := match b with | [] => true | f :: _ => a.isEmpty || decide (lastOf 0 a < f.1)
theorem split_both (a b : List (Int × List UInt8)) (ha : rightRow a = true) (hb : rightRow b = true) :
    (splitE (joinL a ++ joinL b) = 0 ↔ (goesOn a b = true ∧ a.length + b.length ≤ 16)) ∧ (splitE (joinL a ++ joinL b) = 0 → splitL (joinL a ++ joinL b) = a ++ b) := by
  obtain ⟨a1, a2⟩ := right_parts ha
  obtain ⟨b1, b2⟩ := right_parts hb
  have hl := rowOk_lastOf a 0 (by omega) a2
  have h1 := splitF_app a 0 0 (joinL b) a2 (by omega) (by omega)
  rw [Nat.zero_add] at h1
  have key : (splitF (lastOf 0 a) a.length (joinL b)).2 = none ↔ (goesOn a b = true ∧ a.length + b.length ≤ 16) := by
    cases b with
    | nil => simp [joinL, splitF_nil, goesOn, a1]
    | cons f fs =>
      have b3 := b2
      simp only [rowOk, fieldOk, Bool.and_eq_true, decide_eq_true_eq] at b3
      have hgo : goesOn a (f :: fs) = true ↔ lastOf 0 a < f.1 := by
        simp only [goesOn, Bool.or_eq_true, decide_eq_true_eq, List.isEmpty_iff]
        constructor
        · rintro (rfl | h)
          · exact b3.1.1.1
          · exact h
        · exact .inr
      rw [hgo]
      by_cases hlt : lastOf 0 a < f.1
      · have hok : rowOk (lastOf 0 a) (f :: fs) = true := by
          simp only [rowOk, fieldOk, Bool.and_eq_true, decide_eq_true_eq]
          exact ⟨⟨⟨hlt, b3.1.1.2⟩, b3.1.2⟩, b3.2⟩
        by_cases hc : a.length + (f :: fs).length ≤ 16
        · rw [splitF_row (f :: fs) _ _ hok hl hc]
          exact ⟨fun _ => ⟨hlt, hc⟩, fun _ => rfl⟩
        · exact ⟨fun h => absurd h (splitF_over (f :: fs) _ _ hok hl a1 (by omega)), fun h => absurd h.2 hc⟩
      · exact ⟨fun h => absurd h (splitF_back f fs _ _ b3.1.1.1 b3.1.1.2 (by omega)), fun h => absurd h.1 hlt⟩
  have hE : splitE (joinL a ++ joinL b) = 0 ↔ (splitF (lastOf 0 a) a.length (joinL b)).2 = none := by
    unfold splitE; rw [h1]
    cases (splitF (lastOf 0 a) a.length (joinL b)).2 <;> simp
  refine ⟨hE.trans key, fun h => ?_⟩
  have h2 := hE.1 h
  obtain ⟨_, _, h5⟩ := splitF_right (joinL b) (lastOf 0 a) a.length a1 h2
  unfold splitL
  rw [h1, h2]
  simp only
  congr 1
  have h3 := key.1 h2
  cases b with
  | nil => simp [joinL, splitF_nil]
  | cons f fs =>
    have b3 := b2
    simp only [rowOk, fieldOk, Bool.and_eq_true, decide_eq_true_eq] at b3
    have hlt : lastOf 0 a < f.1 := by
      have := h3.1
      simp only [goesOn, Bool.or_eq_true, decide_eq_true_eq, List.isEmpty_iff] at this
      rcases this with rfl | h
      · exact b3.1.1.1
      · exact h
    rw [splitF_row (f :: fs) _ _ (by
      simp only [rowOk, fieldOk, Bool.and_eq_true, decide_eq_true_eq]
      exact ⟨⟨⟨hlt, b3.1.1.2⟩, b3.1.2⟩, b3.2⟩) hl h3.2]
theorem split_joined (fs : List (Int × List UInt8)) (h : rightRow fs = true) : splitE (joinL fs) = 0 ∧ splitL (joinL fs) = fs := by
  obtain ⟨a1, a2⟩ := right_parts h
  unfold splitE splitL
  rw [splitF_row fs 0 0 a2 (by omega) (by omega)]
  exact ⟨rfl, rfl⟩
theorem split_short (fs : List (Int × List UInt8)) (h : rightRow fs = true) (k : Nat) (hk : k < (joinL fs).length) : splitE ((joinL fs).take k) ≠ 0 ∨ (splitL ((joinL fs).take k)).length < fs.length := by
  obtain ⟨a1, a2⟩ := right_parts h
  by_cases hn : (splitF 0 0 ((joinL fs).take k)).2 = none
  · right
    have := splitF_cut fs 0 0 k a2 (by omega) (by omega) hk hn
    unfold splitL; rw [hn]; exact this
  · left
    unfold splitE
    cases hx : (splitF 0 0 ((joinL fs).take k)).2 with
    | none => exact absurd hx hn
    | some n => simp
end Go.Proofs.YtjklcbdlfmmllaaGreatDoor

namespace Go.Proofs.YtjklcbdlfmmllaaGreatDoor
open Go.RowKit

/-- the fields of numbers, tags from i + 1 on -/
def tagRow : Nat → List Int → List (Int × List UInt8)
  | _, [] => []
  | i, x :: l => (if x = 0 then [] else [((i : Int) + 1, numB x.toNat)]) ++ tagRow (i + 1) l
theorem tagRow_app : ∀ (l m : List Int) (i : Nat), tagRow i (l ++ m) = tagRow i l ++ tagRow (i + l.length) m
  | [], m, i => by simp [tagRow]
  | x :: l, m, i => by
    have := tagRow_app l m (i + 1)
    simp only [List.cons_append, tagRow, this, List.length_cons, List.append_assoc]
    rw [show i + 1 + l.length = i + (l.length + 1) by omega]
theorem tagRow_take (l : List Int) (k : Nat) (hk : k < l.length) :
    tagRow 0 (l.take (k + 1)) = tagRow 0 (l.take k) ++ (if l[k] = 0 then [] else [((k : Int) + 1, numB l[k].toNat)]) := by
  rw [List.take_succ_eq_append_getElem hk, tagRow_app]
  simp [tagRow, Nat.min_eq_left (Nat.le_of_lt hk)]
theorem tagRow_len : ∀ (l : List Int) (i : Nat), (tagRow i l).length ≤ l.length
  | [], _ => by simp [tagRow]
  | x :: l, i => by
    have := tagRow_len l (i + 1)
    simp only [tagRow]
    split <;> simp <;> omega
/-- numbers that a field may hold -/
def numsOk (l : List Int) : Prop := ∀ x ∈ l, 0 ≤ x ∧ x ≤ 9223372036854775807
theorem numB_len8 {x : Int} (h : x ≤ 9223372036854775807) : (numB x.toNat).length ≤ 8 := by
  refine numB_len 8 ?_
  have : (256 : Nat) ^ 8 = 18446744073709551616 := rfl
  omega
theorem tagRow_ok : ∀ (l : List Int) (i : Nat) (last : Int), numsOk l → 0 ≤ last → last ≤ i → i + l.length ≤ 255 → rowOk last (tagRow i l) = true
  | [], _, _, _, _, _, _ => rfl
  | x :: l, i, last, h, h0, hi, hl => by
    have hx := h x (List.mem_cons_self ..)
    have hr : numsOk l := fun y hy => h y (List.mem_cons_of_mem _ hy)
    simp only [List.length_cons] at hl
    simp only [tagRow]
    split
    · exact tagRow_ok l (i + 1) last hr h0 (by omega) (by omega)
    · simp only [List.cons_append, List.nil_append, rowOk, Bool.and_eq_true, fieldOk, decide_eq_true_eq]
      have := numB_len8 hx.2
      exact ⟨⟨⟨by omega, by omega⟩, by omega⟩, tagRow_ok l (i + 1) _ hr (by omega) (by omega) (by omega)⟩
theorem tagRow_right (l : List Int) (h : numsOk l) (hl : l.length ≤ 16) : rightRow (tagRow 0 l) = true := by
  unfold rightRow
  rw [tagRow_ok l 0 0 h (Int.le_refl _) (Int.le_refl _) (by omega), Bool.and_true, decide_eq_true_eq]
  exact Nat.le_trans (tagRow_len l 0) hl
/-- what a field does to numbers; none: it isn't one -/
def putF (l : List Int) (f : Int × List UInt8) : Option (List Int) :=
  if (l.length : Int) < f.1 ∨ f.2 = [] ∨ toNumE f.2 ≠ 0 then none else some (l.set (f.1 - 1).toNat (toNumF f.2 : Int))
def putsF : List Int → List (Int × List UInt8) → Option (List Int)
  | l, [] => some l
  | l, f :: fs => (putF l f).bind fun l => putsF l fs
theorem putsF_app : ∀ (fs gs : List (Int × List UInt8)) (l : List Int), putsF l (fs ++ gs) = (putsF l fs).bind fun l => putsF l gs
  | [], _, _ => rfl
  | f :: fs, gs, l => by
    simp only [List.cons_append, putsF]
    cases putF l f with
    | none => rfl
    | some m => exact putsF_app fs gs m
theorem putF_len {l m : List Int} {f : Int × List UInt8} (h : putF l f = some m) : m.length = l.length := by
  unfold putF at h
  split at h
  · cases h
  · cases h; simp
theorem putsF_len : ∀ (fs : List (Int × List UInt8)) {l m : List Int}, putsF l fs = some m → m.length = l.length
  | [], _, _, h => by cases h; rfl
  | f :: fs, l, m, h => by
    simp only [putsF] at h
    cases hp : putF l f with
    | none => rw [hp] at h; cases h
    | some x => rw [hp] at h; exact (putsF_len fs h).trans (putF_len hp)
theorem putsF_take (l : List Int) (fs : List (Int × List UInt8)) (k : Nat) (hk : k < fs.length) : putsF l (fs.take (k + 1)) = (putsF l (fs.take k)).bind fun m => putF m fs[k] := by
  rw [List.take_succ_eq_append_getElem hk, putsF_app]
  congr 1
  funext m
  simp only [putsF]
  cases putF m fs[k] <;> rfl
theorem toNum_numB {n : Nat} (h : n ≤ 9223372036854775807) : toNumE (numB n) = 0 ∧ toNumF (numB n) = n := by
  have hv := valB_numB n
  have hh := numB_head n
  have h8 : (numB n).length ≤ 8 := numB_len 8 (by have : (256 : Nat) ^ 8 = 18446744073709551616 := rfl; omega)
  have hE : toNumE (numB n) = 0 := by
    unfold toNumE
    rw [if_neg hh, hv, if_neg (by omega)]
  exact ⟨hE, by unfold toNumF; rw [if_pos hE, hv]⟩
theorem numB_ne {n : Nat} (h : n ≠ 0) : numB n ≠ [] := by rw [numB_pos h]; simp
/-- the fields of numbers are read back -/
theorem puts_tagRow : ∀ (l pre : List Int), numsOk l → putsF (pre ++ List.replicate l.length 0) (tagRow pre.length l) = some (pre ++ l)
  | [], pre, _ => by simp [tagRow, putsF]
  | x :: l, pre, h => by
    have hx := h x (List.mem_cons_self ..)
    have hr : numsOk l := fun y hy => h y (List.mem_cons_of_mem _ hy)
    have ih := puts_tagRow l (pre ++ [x]) hr
    rw [List.length_append, List.length_singleton] at ih
    simp only [tagRow, List.length_cons, List.replicate_succ]
    split
    · rename_i h0
      subst h0
      simpa using ih
    · rename_i h0
      have hn := toNum_numB (n := x.toNat) (by omega)
      have hne := numB_ne (n := x.toNat) (by omega)
      simp only [List.cons_append, List.nil_append, putsF]
      have hp : putF (pre ++ 0 :: List.replicate l.length 0) ((pre.length : Int) + 1, numB x.toNat) = some (pre ++ x :: List.replicate l.length 0) := by
        unfold putF
        rw [if_neg]
        · have e1 : ((pre.length : Int) + 1 - 1).toNat = pre.length := by omega
          have e2 : ((x.toNat : Nat) : Int) = x := by omega
          simp only [hn.2, e1, e2]
          rw [List.set_append_right _ _ (Nat.le_refl _)]
          simp
        · simp only [not_or, List.length_append, List.length_cons, List.length_replicate]
          exact ⟨by omega, hne, by simp [hn.1]⟩
      rw [hp]
      simpa using ih
theorem puts_zero (l : List Int) (h : numsOk l) : putsF (List.replicate l.length 0) (tagRow 0 l) = some l := by
  have := puts_tagRow l [] h
  simpa using this
/-- what is read is numbers, and they are the row's -/
theorem tagRow_puts : ∀ (fs : List (Int × List UInt8)) (pre : List Int) (n : Nat) (m : List Int), rowOk (pre.length : Int) fs = true → putsF (pre ++ List.replicate n 0) fs = some m →
    ∃ l, m = pre ++ l ∧ l.length = n ∧ tagRow pre.length l = fs ∧ numsOk l
  | [], pre, n, m, _, h => by
    cases h
    refine ⟨List.replicate n 0, rfl, by simp, ?_, ?_⟩
    · have : ∀ (n i : Nat), tagRow i (List.replicate n 0) = [] := by
        intro n
        induction n with
        | zero => intro i; rfl
        | succ n ih => intro i; simp [List.replicate_succ, tagRow, ih]
      exact this _ _
    · intro x hx
      rw [List.mem_replicate] at hx
      omega
  | f :: fs, pre, n, m, ho, h => by
    simp only [putsF] at h
    simp only [rowOk, Bool.and_eq_true, fieldOk, decide_eq_true_eq] at ho
    obtain ⟨⟨⟨h1, h2⟩, h3⟩, h4⟩ := ho
    cases hp : putF (pre ++ List.replicate n 0) f with
    | none => rw [hp] at h; cases h
    | some m1 =>
      rw [hp] at h
      unfold putF at hp
      split at hp
      · cases hp
      · rename_i hc
        simp only [not_or, List.length_append, List.length_replicate, Decidable.not_not] at hc
        obtain ⟨hc1, hc2, hc3⟩ := hc
        obtain ⟨j, hj⟩ : ∃ j : Nat, f.1 = (pre.length : Int) + j + 1 := ⟨(f.1 - (pre.length : Int) - 1).toNat, by omega⟩
        have hjn : j < n := by omega
        simp only [Option.some.injEq] at hp
        have e0 : (f.1 - 1).toNat = pre.length + j := by omega
        rw [e0, List.set_append_right _ _ (by omega), show pre.length + j - pre.length = j by omega] at hp
        have e1 : (List.replicate n (0 : Int)).set j (toNumF f.2 : Int) = List.replicate j 0 ++ (toNumF f.2 : Int) :: List.replicate (n - j - 1) 0 := by
          apply List.ext_getElem
          · simp; omega
          · intro i g1 g2
            rw [List.getElem_set]
            split
            · subst_vars; simp
            · rw [List.getElem_append]
              split
              · simp
              · rename_i q1 q2
                simp only [List.length_replicate] at q2
                rw [List.getElem_cons]
                simp only [List.length_replicate]
                rw [dif_neg (by omega)]
                simp
        rw [e1] at hp
        have e2 : m1 = (pre ++ (List.replicate j 0 ++ [(toNumF f.2 : Int)])) ++ List.replicate (n - j - 1) 0 := by rw [← hp]; simp
        rw [e2] at h
        have hlen : (((pre ++ (List.replicate j 0 ++ [(toNumF f.2 : Int)])).length : Nat) : Int) = f.1 := by simp; omega
        obtain ⟨l, hm, hl, ht, hok⟩ := tagRow_puts fs _ (n - j - 1) m (by rw [hlen]; exact h4) h
        refine ⟨List.replicate j 0 ++ (toNumF f.2 : Int) :: l, by rw [hm]; simp, by simp; omega, ?_, ?_⟩
        · have hz : ∀ (n i : Nat), tagRow i (List.replicate n 0) = [] := by
            intro n
            induction n with
            | zero => intro i; rfl
            | succ n ih => intro i; simp [List.replicate_succ, tagRow, ih]
          rw [tagRow_app, hz, List.nil_append, List.length_replicate]
          have hF : toNumF f.2 = valB f.2 := by unfold toNumF; rw [if_pos hc3]
          have hhd : f.2.head? ≠ some 0 := by
            intro hh
            unfold toNumE at hc3
            rw [if_pos hh] at hc3
            cases hc3
          have hb := numB_valB f.2 hhd
          have hv0 : valB f.2 ≠ 0 := by
            intro h0
            rw [h0, numB_zero] at hb
            exact hc2 hb.symm
          simp only [tagRow]
          rw [if_neg (by omega)]
          have e3 : ((pre.length + j : Nat) : Int) + 1 = f.1 := by omega
          rw [e3, show ((toNumF f.2 : Nat) : Int).toNat = toNumF f.2 by omega, hF, hb]
          have e4 : pre.length + j + 1 = (pre ++ (List.replicate j 0 ++ [(toNumF f.2 : Int)])).length := by simp; omega
          rw [e4, ht]
          rfl
        · intro x hx
          rw [List.mem_append, List.mem_cons, List.mem_replicate] at hx
          rcases hx with ⟨_, rfl⟩ | rfl | hx
          · omega
          · refine ⟨by omega, ?_⟩
            unfold toNumF
            rw [if_pos hc3]
            unfold toNumE at hc3
            split at hc3
            · cases hc3
            · split at hc3
              · cases hc3
              · rename_i q
                by_cases h8 : f.2.length = 8
                · omega
                · have := valB_7 f.2 (by omega)
                  omega
          · exact hok x hx
theorem tagRow_inj {l m : List Int} (hl : numsOk l) (hm : numsOk m) (he : l.length = m.length) (h : tagRow 0 l = tagRow 0 m) : l = m := by
  have a := puts_zero l hl
  have b := puts_zero m hm
  rw [h, he, b] at a
  exact (Option.some.inj a).symm
end Go.Proofs.YtjklcbdlfmmllaaGreatDoor

namespace Go.Proofs.YtjklcbdlfmmllaaGreatDoor
open Go.RowKit Go.Extern.Stop Go.Stop Go.Extern

theorem mustB_any (w : World) (p : Option Addr) (n c : Nat) : Calls Tryz.prog 19 #[.slice p n c, .nilIface] w fun e w' => e = .returned (.slice p n c) ∧ w = w' := by
  go_enter Tryz.func19, Tryz.ntmps19
  go_wp2_with fail
  refine (check_nil w).mono ?_
  rintro e w' ⟨rfl, rfl⟩
  go_wp2_with fail
  go_ret
  exact ⟨rfl, rfl⟩
theorem But.owns {S : List Nat} {w w' : World} {base size n : Nat} {e : TypeId} {v : Value} {xs : List Value} (h : But S w w') (hS : ∀ s ∈ S, s < base) (ho : w.ownsRow base e size v n xs) : w'.ownsRow base e size v n xs := by
  refine ⟨ho.1, ?_⟩
  rcases ho.2 with h2 | ⟨g, cap, cur, hv, hg, hh, r⟩
  · exact .inl h2
  · refine .inr ⟨g, cap, cur, hv, hg, (h.block g (Array.getElem?_eq_some_iff.1 hh).1 ?_).trans hh, r⟩
    rw [Bool.eq_false_iff]
    intro hc
    have := hS g (List.contains_iff_mem.1 hc)
    omega
end Go.Proofs.YtjklcbdlfmmllaaGreatDoor

namespace Go.Proofs.YtjklcbdlfmmllaaGreatDoor
open Go.RowKit Go.Extern.Stop Go.Stop Go.Extern

/-- nothing panicked: the deferred closure turns nothing -/
theorem tryY_idle (d x r : Nat) (w : World) (hd : w.cell? ⟨d, 0, none⟩ = some (.bool true)) :
    CallsD Tryz.prog 44 #[.pointer (some ⟨d, 0, none⟩), .pointer (some ⟨x, 0, none⟩), .pointer (some ⟨r, 0, none⟩)] .returning w fun e u' w' => e = .returned (.tuple #[]) ∧ u' = .returning ∧ w' = w := by
  refine callsD_of_wpS Tryz.func44 rfl fun c₀ cs hu => ?_
  apply wpS_seq
  apply wpS_region
  simp [wpOpsS, go_sem, recoverD, hu, Tryz.ntmps44, Exit.thenS]
  refine wpS_of_wp ?_
  have e : (#[Value.pointer (some ⟨d, 0, none⟩), .pointer (some ⟨x, 0, none⟩), .pointer (some ⟨r, 0, none⟩)] ++ ((Array.replicate 8 undef).setIfInBounds 2 Value.nilIface).setIfInBounds 0 Value.nilIface) =
      #[Value.pointer (some ⟨d, 0, none⟩), .pointer (some ⟨x, 0, none⟩), .pointer (some ⟨r, 0, none⟩), .nilIface, undef, .nilIface, undef, undef, undef, undef, undef] := rfl
  rw [e]
  clear e
  go_wp2_with fail
  cases c₀
  simp_all [bodyPostS, results, Tryz.results44]
/-- what panicked is the result, told -/
theorem tryY_err (d x r : Nat) (w : World) (E : Nat → Addr) (u : Value) (n : Nat) (older : List PanicEntry) (hu0 : ∃ T x, u = .iface T x) (ht : Tells w u E n) (he : Errs w E) (hd : w.cell? ⟨d, 0, none⟩ = some (.bool false))
    (hx : Blk w x 29 #[.slice none 0 0]) (hr : Blk w r 31 #[.nilIface]) (hxr : x ≠ r) :
    CallsD Tryz.prog 44 #[.pointer (some ⟨d, 0, none⟩), .pointer (some ⟨x, 0, none⟩), .pointer (some ⟨r, 0, none⟩)] (.panicking ({ v := u, recovered := false } :: older)) w fun e u' w' =>
      e = .returned (.tuple #[]) ∧ u' = .panicking ({ v := u, recovered := true } :: older) ∧ w'.cell? ⟨x, 0, none⟩ = some (.slice none 0 0) ∧ w'.cell? ⟨r, 0, none⟩ = some (errAt (E n)) ∧ But [x, r] w w' := by
  have HT := ht w (Below.refl _ _) he
  unfold errAt at HT ⊢
  obtain ⟨T, x0, rfl⟩ := hu0
  clear ht
  refine callsD_of_wpS Tryz.func44 rfl fun c₀ cs hu => ?_
  apply wpS_seq
  apply wpS_region
  simp [wpOpsS, go_sem, recoverD, hu, Tryz.ntmps44, Exit.thenS]
  refine wpS_of_wp ?_
  have e : (#[Value.pointer (some ⟨d, 0, none⟩), .pointer (some ⟨x, 0, none⟩), .pointer (some ⟨r, 0, none⟩)] ++ ((Array.replicate 8 undef).setIfInBounds 2 (Value.iface T x0)).setIfInBounds 0 (Value.iface T x0)) =
      #[Value.pointer (some ⟨d, 0, none⟩), .pointer (some ⟨x, 0, none⟩), .pointer (some ⟨r, 0, none⟩), .iface T x0, undef, .iface T x0, undef, undef, undef, undef, undef] := rfl
  rw [e]
  have HX := Lib.hid hx
  have HR := Lib.hid hr
  clear e he hx hr
  go_wp2_with fail
  refine HT.mono ?_
  rintro e w1 ⟨rfl, hb1⟩
  have hx1 := HX.out.below hb1 HX.out.lt
  have hr1 := HR.out.below hb1 HR.out.lt
  have HX1 := Lib.hid hx1
  have HR1 := Lib.hid hr1
  have cx := (hx1.cell 0).trans rfl
  have fx := hx1.frozen 0
  have cr := (hr1.cell 0).trans rfl
  have fr := hr1.frozen 0
  have HB1 := Lib.hid hb1
  clear hx1 hr1 hb1 HT
  go_wp2_with fail
  have hA := (((HX1.out.set_ 0 (.slice none 0 0)).cell 0).trans rfl : (w1.setCell ⟨x, 0, none⟩ (.slice none 0 0)).cell? ⟨x, 0, none⟩ = some (.slice none 0 0))
  have hA' : ((w1.setCell ⟨x, 0, none⟩ (.slice none 0 0)).setCell ⟨r, 0, none⟩ (.iface 146 (.pointer (some (E n))))).cell? ⟨x, 0, none⟩ = some (.slice none 0 0) := by
    refine (World.cell?_of_block (Below.heap_setCell _ _ _ _ ?_)).trans hA
    exact hxr
  have hr2 : Blk (w1.setCell ⟨x, 0, none⟩ (.slice none 0 0)) r 31 #[.nilIface] := (Below.heap_setCell _ _ _ _ (fun e => hxr e.symm)).trans HR1.out
  have hB := ((hr2.set_ 0 (.iface 146 (.pointer (some (E n))))).cell 0).trans rfl
  have hC : But [x, r] w ((w1.setCell ⟨x, 0, none⟩ (.slice none 0 0)).setCell ⟨r, 0, none⟩ (.iface 146 (.pointer (some (E n))))) :=
    ((But.of_below HB1.out).set_ x 0 _ (by simp)).set_ r 0 _ (by simp)
  cases c₀
  simp only [bodyPostS, results, Tryz.results44]
  exact ⟨trivial, _, rfl, .tuple #[], by simp, rfl, rfl, hA', hB, hC⟩
theorem tryY_any (w : World) (E : Nat → Addr) (f : FuncId) (caps : Array Value) (S : List Nat) (R : World → Value → World → Prop) (Q : Nat → World → World → Prop) (hSl : ∀ s ∈ S, s < w.heap.size) (he : ∀ w', But S w w' → Errs w' E) (hRs : ∀ w1 v w2, R w1 v w2 → ∃ (p : Option Addr) (n c : Nat), v = .slice p n c) (hcf : ∀ w, (callFunc f caps).run Tryz.prog w = .ok (.enter f caps) w)
    (hdo : ∀ w1, Below w.heap.size w w1 → w1.heap.size = w.heap.size + 3 → Calls Tryz.prog f caps w1 fun e w2 => MayG (R w1) (fun n w2 => Q n w1 w2) E e w2 ∧ But S w1 w2) :
    Calls Tryz.prog 16 #[.func (.func f) #[] caps] w (TryG S R Q E (.slice none 0 0) w) := by
  have hmf := @run_makeFunc Tryz.prog
  have HE := Lib.hid he
  have HD := Lib.hid hdo
  have HRS := Lib.hid hRs
  have hno : ∀ k, w.heap.size ≤ k → S.contains k = false := fun k hk => by
    rw [Bool.eq_false_iff]
    intro hc
    have := hSl k (List.contains_iff_mem.1 hc)
    omega
  have HNO := Lib.hid hno
  clear he hdo hRs hSl hno
  go_enter_defers Tryz.func16, Tryz.ntmps16
  go_wp2_with fail
  have hb1 : Below w.heap.size w (((w.alloc (.cells #[.slice none 0 0] 29)).alloc (.cells #[.nilIface] 31)).alloc (.cells #[.bool false] 4)) := below_alloc (below_alloc (below_alloc1 w _) _) _
  refine (HD.out _ hb1 (by simp)).mono ?_
  rintro e w2 ⟨hm, hb2⟩
  have x1 := hb2.blk (((Blk.new w 29 #[.slice none 0 0]).alloc (.cells #[.nilIface] 31)).alloc (.cells #[.bool false] 4)) (HNO.out _ (Nat.le_refl _))
  have r1 := hb2.blk ((Blk.new (w.alloc (.cells #[.slice none 0 0] 29)) 31 #[.nilIface]).alloc (.cells #[.bool false] 4)) (HNO.out _ (by simp))
  have d1 := hb2.blk (Blk.new ((w.alloc (.cells #[.slice none 0 0] 29)).alloc (.cells #[.nilIface] 31)) 4 #[.bool false]) (HNO.out _ (by simp; omega))
  have hs1 : (((w.alloc (.cells #[.slice none 0 0] 29)).alloc (.cells #[.nilIface] 31)).alloc (.cells #[.bool false] 4)).heap.size = w.heap.size + 3 := by simp
  simp only [World.size_alloc] at r1 d1
  have X1 := Lib.hid x1
  have R1 := Lib.hid r1
  have D1 := Lib.hid d1
  have B1 := Lib.hid hb1
  have B2 := Lib.hid hb2
  have S1 := Lib.hid hs1
  rcases hm with ⟨v, rfl, hR⟩ | ⟨u, n, hn, hS, ⟨T, x0, rfl⟩, htells, rfl⟩
  · obtain ⟨p, n, c, rfl⟩ := HRS.out _ _ _ hR
    have HR := Lib.hid hR
    have cx := (x1.cell 0).trans rfl
    have fx := x1.frozen 0
    have cr := (r1.cell 0).trans rfl
    have fr := r1.frozen 0
    have cd := (d1.cell 0).trans rfl
    have fd := d1.frozen 0
    clear x1 r1 d1 hb1 hb2 hs1 hR
    generalize (((w.alloc (.cells #[.slice none 0 0] 29)).alloc (.cells #[.nilIface] 31)).alloc (.cells #[.bool false] 4)) = w1 at *
    go_wp2_with fail
    clear cx fx cr fr cd fd
    have a1 : Blk (w2.setCell ⟨w.heap.size, 0, none⟩ (.slice p n c)) w.heap.size 29 #[.slice p n c] := X1.out.set_ 0 _
    have b1 := (R1.out.far (b := w.heap.size) (by omega) 0 (.slice p n c))
    have e1 : Blk ((w2.setCell ⟨w.heap.size, 0, none⟩ (.slice p n c)).setCell ⟨w.heap.size + 1 + 1, 0, none⟩ (.bool true)) (w.heap.size + 1 + 1) 4 #[.bool true] := (D1.out.far (b := w.heap.size) (by omega) 0 (.slice p n c)).set_ 0 (.bool true)
    have a2 := a1.far (b := w.heap.size + 1 + 1) (by omega) 0 (.bool true)
    have b2 := b1.far (b := w.heap.size + 1 + 1) (by omega) 0 (.bool true)
    have a3 : Blk (((w2.setCell ⟨w.heap.size, 0, none⟩ (.slice p n c)).setCell ⟨w.heap.size + 1 + 1, 0, none⟩ (.bool true)).setCell ⟨w.heap.size, 0, none⟩ (.slice p n c)) w.heap.size 29 #[.slice p n c] := a2.set_ 0 _
    have b3 := b2.far (b := w.heap.size) (by omega) 0 (.slice p n c)
    have e3 := e1.far (b := w.heap.size) (by omega) 0 (.slice p n c)
    have a4 := a3.far (b := w.heap.size + 1) (by omega) 0 .nilIface
    have b4 : Blk ((((w2.setCell ⟨w.heap.size, 0, none⟩ (.slice p n c)).setCell ⟨w.heap.size + 1 + 1, 0, none⟩ (.bool true)).setCell ⟨w.heap.size, 0, none⟩ (.slice p n c)).setCell ⟨w.heap.size + 1, 0, none⟩ .nilIface) (w.heap.size + 1) 31 #[.nilIface] := b3.set_ 0 _
    have e4 := e3.far (b := w.heap.size + 1) (by omega) 0 .nilIface
    have hBut : But [w.heap.size, w.heap.size + 1, w.heap.size + 2] w2 ((((w2.setCell ⟨w.heap.size, 0, none⟩ (.slice p n c)).setCell ⟨w.heap.size + 1 + 1, 0, none⟩ (.bool true)).setCell ⟨w.heap.size, 0, none⟩ (.slice p n c)).setCell ⟨w.heap.size + 1, 0, none⟩ .nilIface) :=
      ((((But.of_below (Below.refl _ _)).set_ _ 0 _ (by simp)).set_ _ 0 _ (by simp)).set_ _ 0 _ (by simp)).set_ _ 0 _ (by simp)
    clear a1 a2 a3 b1 b2 b3 e1 e3
    generalize ((((w2.setCell ⟨w.heap.size, 0, none⟩ (.slice p n c)).setCell ⟨w.heap.size + 1 + 1, 0, none⟩ (.bool true)).setCell ⟨w.heap.size, 0, none⟩ (.slice p n c)).setCell ⟨w.heap.size + 1, 0, none⟩ .nilIface) = w3 at *
    refine leaves_cons (f := 44) (args := #[.pointer (some ⟨w.heap.size + 1 + 1, 0, none⟩), .pointer (some ⟨w.heap.size, 0, none⟩), .pointer (some ⟨w.heap.size + 1, 0, none⟩)]) (by simp) (by simp [go_sem]) ?_
    refine (tryY_idle _ _ _ w3 ((e4.cell 0).trans rfl)).mono ?_
    rintro e u' w4 ⟨rfl, rfl, rfl⟩
    have ca := (a4.cell 0).trans rfl
    have cb := (b4.cell 0).trans rfl
    have hfin : TryG S R Q E (.slice none 0 0) w (.returned (.tuple #[.slice p n c, .nilIface])) w4 := by
      exact ⟨But.out ((But.of_below B1.out).trans B2.out) hBut (Nat.le_refl _), w1, w2, S1.out, B1.out, B2.out, hBut, .inl ⟨_, rfl, HR.out⟩⟩
    have HF := Lib.hid hfin
    clear hfin
    simp [Leaves, settle, results, Tryz.results16, go_sem, ca, cb]
    exact HF.out
  · have cd := (d1.cell 0).trans rfl
    clear x1 r1 d1 hb1 hb2 hs1
    generalize (((w.alloc (.cells #[.slice none 0 0] 29)).alloc (.cells #[.nilIface] 31)).alloc (.cells #[.bool false] 4)) = w1 at *
    go_wp2_with fail
    have hb := (But.of_below B1.out).trans B2.out
    refine leaves_cons (f := 44) (args := #[.pointer (some ⟨w.heap.size + 1 + 1, 0, none⟩), .pointer (some ⟨w.heap.size, 0, none⟩), .pointer (some ⟨w.heap.size + 1, 0, none⟩)]) (by simp) (by simp [go_sem]) ?_
    refine (tryY_err _ _ _ w2 E (.iface T x0) n [] ⟨T, x0, rfl⟩ htells (HE.out w2 hb) cd X1.out R1.out (by omega)).mono ?_
    rintro e u' w4 ⟨rfl, rfl, ca, cb, hBut⟩
    have hfin : TryG S R Q E (.slice none 0 0) w (.returned (.tuple #[.slice none 0 0, errAt (E n)])) w4 := by
      exact ⟨But.out hb (But.wide hBut) (Nat.le_refl _), w1, w2, S1.out, B1.out, B2.out, But.wide hBut, .inr ⟨n, hn, hS, rfl⟩⟩
    have HF := Lib.hid hfin
    clear hfin
    unfold errAt at cb HF
    simp [Leaves, settle, results, Tryz.results16, go_sem, ca, cb]
    exact HF.out
end Go.Proofs.YtjklcbdlfmmllaaGreatDoor

namespace Go.Proofs.YtjklcbdlfmmllaaGreatDoor
open Go.RowKit

/-- an int as an unsigned number -/
def u64n (x : Int) : Nat := (x % 18446744073709551616).toNat
theorem u64n_lt (x : Int) : u64n x < 18446744073709551616 := by unfold u64n; omega
theorem u64_conv (x : Int) (w : World) : (convert 3 92 (.int .i64 x)).run Tryz.prog w = .ok (.int .u64 (u64n x : Int)) w := by
  have e : (convert 3 92 (.int .i64 x)).run Tryz.prog w = .ok (.int .u64 (IntKind.u64.wrap x)) w := by
    simp [convert, run_underlying Tryz.underlying3, run_underlying Tryz.underlying92, Conv.intToInt]
  rw [e]
  have : IntKind.u64.wrap x = (u64n x : Int) := by
    unfold u64n
    simp only [IntKind.wrap, IntKind.bits, IntKind.signed]
    simp
    omega
  rw [this]
theorem byt_take' {w : World} {p : Option Addr} {n cap : Nat} {l : List UInt8} (h : Byt w (.slice p n cap) l) (k : Nat) (hk : k ≤ n) : Byt w (.slice p k cap) (l.take k) := by
  obtain ⟨_, _, e, _⟩ := id h
  cases e
  exact byt_take h k hk
theorem last_k (x : Int) (nx : Nat) (h0 : 0 < nx) (h1 : nx ≤ 4000) : ∃ k : Nat, k < nx ∧ wrap64 ((u64n x : Int) % (nx : Int)) = (k : Int) := by
  have hk : u64n x % nx < nx := Nat.mod_lt _ h0
  refine ⟨u64n x % nx, hk, ?_⟩
  rw [show ((u64n x : Int) % (nx : Int)) = ((u64n x % nx : Nat) : Int) by simp]
  generalize u64n x % nx = k at *
  unfold wrap64
  omega
end Go.Proofs.YtjklcbdlfmmllaaGreatDoor
