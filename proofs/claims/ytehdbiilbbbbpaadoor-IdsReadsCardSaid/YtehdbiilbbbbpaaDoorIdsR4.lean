/-
  IdsR4: package ids: ToReg within Try; ToNode, ToAct, ToReg, ToPart.
-/
import Derived.Test.YtehdbiilbbbbpaaDoorIdsR3
import Derived.Test.YtehdbiilbbbbpaaDoorTryN
import Derived.Test.YtehdbiilbbbbpaaDoorTryAct
import Derived.Test.YtehdbiilbbbbpaaDoorTryFound
import Derived.Test.YtehdbiilbbbbpaaDoorTryArr2
namespace Go.Proofs.YtehdbiilbbbbpaaDoor
open Go.RowKit Go.Extern.Stop Go.Stop Go.Extern

theorem toRegT_some {s : List UInt8} {c : List UInt8 × List UInt8} (h : cutT 47 s = some c) : toRegT s = (afterT 97 c.1).bind fun t => (twoT 46 t).bind fun p => (digX c.2).bind fun r => (limX p.1 3).bind fun _ => (limX p.2 999999).bind fun _ => (limX r 5).bind fun _ => .ok (p.1, p.2, r) := by
  unfold toRegT; rw [h]
theorem toRegT_none {s : List UInt8} (h : cutT 47 s = none) : toRegT s = .error 3 := by unfold toRegT; rw [h]
theorem toReg1_any (s : List UInt8) (hs : s.length ≤ 1000000) (b : Nat) (w : World) (E : Nat → Addr) (he : Errs w E) (hb : Blk w b 9 #[.string (bs s)]) :
    Calls Tryd.prog 41 #[.pointer (some ⟨b, 0, none⟩)] w (ExR E (toRegT s) (fun p => .agg #[.int .i64 (p.1 : Int), .int .i64 (p.2.1 : Int), .int .i64 (p.2.2 : Int)]) w) := by
  have hb0 := below_alloc1 w (.cells #[.int .i64 0, .int .i64 0, .int .i64 0] 68)
  have c0 := ((hb.alloc (.cells #[.int .i64 0, .int .i64 0, .int .i64 0] 68)).cell 0).trans rfl
  have HE := Lib.hid he
  have B0 := Lib.hid hb0
  have N0 := Lib.hid (Blk.new w 68 #[.int .i64 0, .int .i64 0, .int .i64 0])
  clear hb he hb0
  cases hc : cutT 47 s with
  | none =>
    have HX := Lib.hid (toRegT_none hc)
    have HC := Lib.hid (fun w => cut_any 47 s hs w)
    rw [hc] at HC
    unfold cutV at HC
    clear hc
    go_enter Tryd.func41, Tryd.ntmps41
    go_wp2_with fail
    generalize w.alloc (.cells #[.int .i64 0, .int .i64 0, .int .i64 0] 68) = w0 at *
    refine (HC.out w0).mono ?_
    rintro e w1 ⟨rfl, hb⟩
    have HB := Lib.hid (B0.out.trans (hb.mono B0.out.size))
    have cE := (HE.out.below HB.out).cell 3 (by omega)
    simp only [errVar, errAt, List.getD_cons_zero, List.getD_cons_succ] at cE
    clear hb c0
    go_wp2_with fail
    exact ⟨rfl, HB.out, .inr ⟨3, HX.out, by omega, rfl⟩⟩
  | some c =>
    have HX := Lib.hid (toRegT_some hc)
    have HC := Lib.hid (fun w => cut_any 47 s hs w)
    rw [hc] at HC
    unfold cutV at HC
    have hlen := cutT_len hc
    clear hc
    go_enter Tryd.func41, Tryd.ntmps41
    go_wp2_with fail
    generalize w.alloc (.cells #[.int .i64 0, .int .i64 0, .int .i64 0] 68) = w0 at *
    refine (HC.out w0).mono ?_
    rintro e w1 ⟨rfl, hb⟩
    have B1 := Lib.hid (B0.out.trans (hb.mono B0.out.size))
    have N1 := Lib.hid (N0.out.below hb N0.out.lt)
    clear hb c0
    go_wp2_with fail
    refine (after_any 97 c.1 w1 E (HE.out.below B1.out)).mono ?_
    rintro e w2 ⟨hb, ⟨t, ha, rfl⟩ | ⟨n, ha, hn, rfl⟩⟩
    case inr =>
      have HB := Lib.hid (B1.out.trans (hb.mono B1.out.size))
      have HA := Lib.hid ha
      have HN := Lib.hid hn
      clear hb ha hn
      unfold panE errAt
      go_wp2_with fail
      exact ⟨rfl, HB.out, .inr ⟨n, (HX.out.trans (bind_error HA.out) : _), HN.out, rfl⟩⟩
    have B2 := Lib.hid (B1.out.trans (hb.mono B1.out.size))
    have N2 := Lib.hid (N1.out.below hb N1.out.lt)
    have H1 := Lib.hid ha
    have hl := afterT_len ha
    clear hb ha
    go_wp2_with fail
    refine (two_any 46 t (by omega) w2 E (HE.out.below B2.out)).mono ?_
    rintro e w3 ⟨hb, ⟨m, ha, rfl⟩ | ⟨n, ha, hn, rfl⟩⟩
    case inr =>
      have HB := Lib.hid (B2.out.trans (hb.mono B2.out.size))
      have HA := Lib.hid ha
      have HN := Lib.hid hn
      clear hb ha hn
      unfold panE errAt
      go_wp2_with fail
      exact ⟨rfl, HB.out, .inr ⟨n, (HX.out.trans ((bind_ok H1.out).trans (bind_error HA.out)) : _), HN.out, rfl⟩⟩
    have B3 := Lib.hid (B2.out.trans (hb.mono B2.out.size))
    have N3 := Lib.hid (N2.out.below hb N2.out.lt)
    have H2 := Lib.hid ha
    clear hb ha hl
    go_wp2_with fail
    refine (digits_any c.2 (by omega) w3 E (HE.out.below B3.out)).mono ?_
    rintro e w4 ⟨hb, ⟨r, ha, rfl⟩ | ⟨n, ha, hn, rfl⟩⟩
    case inr =>
      have HB := Lib.hid (B3.out.trans (hb.mono B3.out.size))
      have HA := Lib.hid ha
      have HN := Lib.hid hn
      clear hb ha hn
      unfold panE errAt
      go_wp2_with fail
      exact ⟨rfl, HB.out, .inr ⟨n, (HX.out.trans ((bind_ok H1.out).trans ((bind_ok H2.out).trans (bind_error HA.out))) : _), HN.out, rfl⟩⟩
    have B4 := Lib.hid (B3.out.trans (hb.mono B3.out.size))
    have N4 := Lib.hid (N3.out.below hb N3.out.lt)
    have H3 := Lib.hid ha
    clear hb ha
    go_wp2_with fail
    refine (upTo_any m.1 3 w4 E (HE.out.below B4.out)).mono ?_
    rintro e w9 ⟨rfl, ⟨hle, rfl⟩ | ⟨hle, rfl⟩⟩
    case inr =>
      have HA := Lib.hid (limX_error hle)
      clear hle
      unfold panE errAt
      go_wp2_with fail
      exact ⟨rfl, B4.out, .inr ⟨0, (HX.out.trans ((bind_ok H1.out).trans ((bind_ok H2.out).trans ((bind_ok H3.out).trans (bind_error HA.out)))) : _), by omega, rfl⟩⟩
    have H4 := Lib.hid (limX_ok hle)
    clear hle
    go_wp2_with fail
    refine (upTo_any m.2 999999 w4 E (HE.out.below B4.out)).mono ?_
    rintro e w9 ⟨rfl, ⟨hle, rfl⟩ | ⟨hle, rfl⟩⟩
    case inr =>
      have HA := Lib.hid (limX_error hle)
      clear hle
      unfold panE errAt
      go_wp2_with fail
      exact ⟨rfl, B4.out, .inr ⟨0, (HX.out.trans ((bind_ok H1.out).trans ((bind_ok H2.out).trans ((bind_ok H3.out).trans ((bind_ok H4.out).trans (bind_error HA.out))))) : _), by omega, rfl⟩⟩
    have H5 := Lib.hid (limX_ok hle)
    clear hle
    go_wp2_with fail
    refine (upTo_any r 5 w4 E (HE.out.below B4.out)).mono ?_
    rintro e w9 ⟨rfl, ⟨hle, rfl⟩ | ⟨hle, rfl⟩⟩
    case inr =>
      have HA := Lib.hid (limX_error hle)
      clear hle
      unfold panE errAt
      go_wp2_with fail
      exact ⟨rfl, B4.out, .inr ⟨0, (HX.out.trans ((bind_ok H1.out).trans ((bind_ok H2.out).trans ((bind_ok H3.out).trans ((bind_ok H4.out).trans ((bind_ok H5.out).trans (bind_error HA.out)))))) : _), by omega, rfl⟩⟩
    have H6 := Lib.hid (limX_ok hle)
    clear hle
    go_wp2_with (refine wpList_store (.tmp 1) (.tmp 35) 68 rfl rfl w.heap.size 0 _ _ #[.int .i64 (m.1 : Int), .int .i64 (m.2 : Int), .int .i64 (r : Int)] rfl rfl N4.out (by kernel_rfl) (by simp [Value.oneCell']) (by simp) ?_)
    intro w7 hn7 ko7
    have h7 : Blk w7 w.heap.size 68 #[.int .i64 (m.1 : Int), .int .i64 (m.2 : Int), .int .i64 (r : Int)] := hn7
    have q0 := (h7.cell 0).trans rfl
    have q1 := (h7.cell 1).trans rfl
    have q2 := (h7.cell 2).trans rfl
    go_wp2_with fail
    refine bodyPost_ret (v := .agg #[.int .i64 (m.1 : Int), .int .i64 (m.2 : Int), .int .i64 (r : Int)]) (by simp [results, Tryd.results41, go_sem, q0, q1, q2]) rfl ?_
    exact ⟨B4.out.trans (ko7.below (Nat.le_refl _)), .inl ⟨(m.1, m.2, r), HX.out.trans ((bind_ok H1.out).trans ((bind_ok H2.out).trans ((bind_ok H3.out).trans ((bind_ok H4.out).trans ((bind_ok H5.out).trans (bind_ok H6.out)))))), rfl⟩⟩
/-- the error's place: 0: none -/
def xbad {α : Type} (x : Except Nat α) : Nat := match x with | .ok _ => 0 | .error n => n + 1
/-- what it gives, or nought -/
def xval {α : Type} (x : Except Nat α) (z : α) : α := match x with | .ok a => a | .error _ => z
def TryX {α : Type} (E : Nat → Addr) (x : Except Nat α) (V : α → Value) (z : α) (w : World) (e : Ending) (w' : World) : Prop :=
  Below w.heap.size w w' ∧ e = .returned (.tuple #[V (xval x z), errV E (xbad x)]) ∧ xbad x ≤ 14
theorem tryX_of {α : Type} {E : Nat → Addr} {x : Except Nat α} {V : α → Value} {z : α} {w w' : World} {e : Ending}
    (h : TryG [] (fun _ v _ => ∃ a, x = .ok a ∧ v = V a) (fun n _ _ => x = .error n) E (V z) w e w') : TryX E x V z w e w' := by
  obtain ⟨h1, h2⟩ := TryG.v (R := fun v _ => ∃ a, x = .ok a ∧ v = V a) (Q := fun n => x = .error n) (fun _ _ _ _ h => h) h
  refine ⟨h1, ?_⟩
  rcases h2 with ⟨v, rfl, a, rfl, rfl⟩ | ⟨n, hn, rfl, rfl⟩
  · exact ⟨rfl, Nat.zero_le _⟩
  · exact ⟨rfl, hn⟩
theorem exR_may {α : Type} {E : Nat → Addr} {x : Except Nat α} {V : α → Value} {w w' : World} {e : Ending} (h : ExR E x V w e w') : MayG (fun v _ => ∃ a, x = .ok a ∧ v = V a) (fun n _ => x = .error n) E e w' ∧ But [] w w' := by
  refine PanR.may (R := fun v _ => ∃ a, x = .ok a ∧ v = V a) (Q := fun n => x = .error n) ⟨h.1, ?_⟩
  rcases h.2 with ⟨a, hx, rfl⟩ | ⟨n, hx, hn, rfl⟩
  · exact .inl ⟨_, rfl, a, hx, rfl⟩
  · exact .inr ⟨n, hn, hx, rfl⟩
theorem toNode_any (s : List UInt8) (hs : s.length ≤ 1000000) (w : World) (E : Nat → Addr) (he : Errs w E) :
    Calls Tryd.prog 19 #[.string (bs s)] w (TryX E (toNodeT s) (fun n => .int .i64 (n : Int)) 0 w) := by
  have hmf := @run_makeFunc Tryd.prog
  have hb1 := below_alloc1 w (.cells #[.string (bs s)] 9)
  have B1 := Lib.hid hb1
  have N1 := Lib.hid (Blk.new w 9 #[.string (bs s)])
  have HE := Lib.hid (fun w' (h : Below w.heap.size w w') => he.below h)
  clear hb1 he
  go_enter Tryd.func19, Tryd.ntmps19
  go_wp2_with fail
  generalize w.alloc (.cells #[.string (bs s)] 9) = w1 at *
  refine (tryN_any w1 E _ _ [] (fun _ v _ => ∃ a, toNodeT s = .ok a ∧ v = .int .i64 (a : Int)) (fun n _ _ => toNodeT s = .error n) (by simp) (fun w' h => HE.out w' (B1.out.trans (h.nil_below.mono B1.out.size))) (fun _ v _ h => by obtain ⟨a, _, rfl⟩ := h; exact ⟨_, rfl⟩) (fun w => by simp [go_sem])
    (fun w2 hb _ => (toNode1_any s hs w.heap.size w2 E (HE.out w2 (B1.out.trans (hb.mono B1.out.size))) (N1.out.below hb N1.out.lt)).mono (fun e w3 h => exR_may h))).mono ?_
  intro e w2 h
  obtain ⟨hb2, rfl, hx⟩ := tryX_of (V := fun n : Nat => .int .i64 (n : Int)) (z := 0) h
  have B2 := Lib.hid (B1.out.trans (hb2.mono B1.out.size))
  have HX := Lib.hid hx
  clear hb2 h hx
  go_wp2_with fail
  go_ret2
  exact ⟨B2.out, rfl, HX.out⟩
theorem toAct_any (s : List UInt8) (hs : s.length ≤ 1000000) (w : World) (E : Nat → Addr) (he : Errs w E) :
    Calls Tryd.prog 20 #[.string (bs s)] w (TryX E (toActT s) (fun p => .agg #[.int .i64 (p.1 : Int), .int .i64 (p.2 : Int)]) (0, 0) w) := by
  have hmf := @run_makeFunc Tryd.prog
  have hb1 := below_alloc (below_alloc1 w (.cells #[.string (bs s)] 9)) (.cells #[.int .i64 0, .int .i64 0] 23)
  have B1 := Lib.hid hb1
  have N1 := Lib.hid ((Blk.new w 9 #[.string (bs s)]).alloc (.cells #[.int .i64 0, .int .i64 0] 23))
  have M1 := Lib.hid (show Blk ((w.alloc (.cells #[.string (bs s)] 9)).alloc (.cells #[.int .i64 0, .int .i64 0] 23)) (w.heap.size + 1) 23 #[.int .i64 0, .int .i64 0] from by
    have := Blk.new (w.alloc (.cells #[.string (bs s)] 9)) 23 #[.int .i64 0, .int .i64 0]
    rwa [World.size_alloc] at this)
  have HE := Lib.hid (fun w' (h : Below w.heap.size w w') => he.below h)
  clear hb1 he
  go_enter Tryd.func20, Tryd.ntmps20
  go_wp2_with fail
  generalize (w.alloc (.cells #[.string (bs s)] 9)).alloc (.cells #[.int .i64 0, .int .i64 0] 23) = w1 at *
  refine (tryAct_any w1 E _ _ [] (fun _ v _ => ∃ a : Nat × Nat, toActT s = .ok a ∧ v = .agg #[.int .i64 (a.1 : Int), .int .i64 (a.2 : Int)]) (fun n _ _ => toActT s = .error n) (by simp) (fun w' h => HE.out w' (B1.out.trans (h.nil_below.mono B1.out.size))) (fun _ v _ h => by obtain ⟨a, _, rfl⟩ := h; exact ⟨_, _, rfl, rfl, rfl⟩) (fun w => by simp [go_sem])
    (fun w2 hb _ => (toAct1_any s hs w.heap.size w2 E (HE.out w2 (B1.out.trans (hb.mono B1.out.size))) (N1.out.below hb N1.out.lt)).mono (fun e w3 h => exR_may h))).mono ?_
  intro e w2 h
  obtain ⟨hb2, rfl, hx⟩ := tryX_of (V := fun p : Nat × Nat => .agg #[.int .i64 (p.1 : Int), .int .i64 (p.2 : Int)]) (z := (0, 0)) h
  have B2 := Lib.hid (B1.out.trans (hb2.mono B1.out.size))
  have HX := Lib.hid hx
  have M2 := Lib.hid (M1.out.below hb2 M1.out.lt)
  clear hb2 h hx
  generalize hv : xval (toActT s) (0, 0) = v at *
  generalize he : errV E (xbad (toActT s)) = ev at *
  have HV := Lib.hid hv
  have HEV := Lib.hid he
  clear hv he
  go_wp2_with (refine wpList_store (.tmp 2) (.tmp 6) 23 rfl rfl (w.heap.size + 1) 0 _ _ #[.int .i64 (v.1 : Int), .int .i64 (v.2 : Int)] rfl rfl M2.out (by kernel_rfl) (by simp [Value.oneCell']) (by simp) ?_)
  intro w7 hn7 ko7
  have h7 : Blk w7 (w.heap.size + 1) 23 #[.int .i64 (v.1 : Int), .int .i64 (v.2 : Int)] := hn7
  have q0 := (h7.cell 0).trans rfl
  have q1 := (h7.cell 1).trans rfl
  go_wp2_with fail
  refine bodyPost_ret (v := .tuple #[.agg #[.int .i64 (v.1 : Int), .int .i64 (v.2 : Int)], ev]) (by simp [results, Tryd.results20, go_sem, q0, q1]) rfl ?_
  exact ⟨B2.out.trans (ko7.below (Nat.le_succ _)), by rw [HV.out, HEV.out], HX.out⟩
end Go.Proofs.YtehdbiilbbbbpaaDoor
