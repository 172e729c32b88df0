/-
  IdsR5: package ids: ToReg, ToPart.
-/
import Derived.Test.YtehdbiilbbbbpaaDoorIdsR4
namespace Go.Proofs.YtehdbiilbbbbpaaDoor
open Go.RowKit Go.Extern.Stop Go.Stop Go.Extern

theorem toReg_any (s : List UInt8) (hs : s.length ≤ 1000000) (w : World) (E : Nat → Addr) (he : Errs w E) :
    Calls Tryd.prog 21 #[.string (bs s)] w fun e w' => Below w.heap.size w w' ∧ e = .returned (.tuple #[.agg #[.int .i64 ((xval (toRegT s) (0, 0, 0)).1 : Int), .int .i64 ((xval (toRegT s) (0, 0, 0)).2.1 : Int)], .int .i64 ((xval (toRegT s) (0, 0, 0)).2.2 : Int), errV E (xbad (toRegT s))]) ∧ xbad (toRegT s) ≤ 14 := by
  have hmf := @run_makeFunc Tryd.prog
  have hb1 := below_alloc (below_alloc1 w (.cells #[.string (bs s)] 9)) (.cells #[.int .i64 0, .int .i64 0] 23)
  have B1 := Lib.hid hb1
  have N1 := Lib.hid ((Blk.new w 9 #[.string (bs s)]).alloc (.cells #[.int .i64 0, .int .i64 0] 23))
  have M1 := Lib.hid (show Blk ((w.alloc (.cells #[.string (bs s)] 9)).alloc (.cells #[.int .i64 0, .int .i64 0] 23)) (w.heap.size + 1) 23 #[.int .i64 0, .int .i64 0] from by
    have := Blk.new (w.alloc (.cells #[.string (bs s)] 9)) 23 #[.int .i64 0, .int .i64 0]
    rwa [World.size_alloc] at this)
  have HE := Lib.hid (fun w' (h : Below w.heap.size w w') => he.below h)
  clear hb1 he
  go_enter Tryd.func21, Tryd.ntmps21
  go_wp2_with fail
  generalize (w.alloc (.cells #[.string (bs s)] 9)).alloc (.cells #[.int .i64 0, .int .i64 0] 23) = w1 at *
  refine (tryFound_any w1 E _ _ [] (fun _ v _ => ∃ a : Nat × Nat × Nat, toRegT s = .ok a ∧ v = .agg #[.int .i64 (a.1 : Int), .int .i64 (a.2.1 : Int), .int .i64 (a.2.2 : Int)]) (fun n _ _ => toRegT s = .error n) (by simp) (fun w' h => HE.out w' (B1.out.trans (h.nil_below.mono B1.out.size))) (fun _ v _ h => by obtain ⟨a, _, rfl⟩ := h; exact ⟨_, _, _, rfl, rfl, rfl, rfl⟩) (fun w => by simp [go_sem])
    (fun w2 hb _ => (toReg1_any s hs w.heap.size w2 E (HE.out w2 (B1.out.trans (hb.mono B1.out.size))) (N1.out.below hb N1.out.lt)).mono (fun e w3 h => exR_may h))).mono ?_
  intro e w2 h
  obtain ⟨hb2, rfl, hx⟩ := tryX_of (V := fun p : Nat × Nat × Nat => .agg #[.int .i64 (p.1 : Int), .int .i64 (p.2.1 : Int), .int .i64 (p.2.2 : Int)]) (z := (0, 0, 0)) h
  have B2 := Lib.hid (B1.out.trans (hb2.mono B1.out.size))
  have HX := Lib.hid hx
  have M2 := Lib.hid (M1.out.below hb2 M1.out.lt)
  clear hb2 h hx
  generalize hv : xval (toRegT s) (0, 0, 0) = v at *
  generalize he : errV E (xbad (toRegT s)) = ev at *
  have HV := Lib.hid hv
  have HEV := Lib.hid he
  have N2 := Lib.hid (Blk.new w2 68 #[.int .i64 0, .int .i64 0, .int .i64 0])
  have M3 := Lib.hid (M2.out.alloc (.cells #[.int .i64 0, .int .i64 0, .int .i64 0] 68))
  have B3 := Lib.hid (below_alloc B2.out (.cells #[.int .i64 0, .int .i64 0, .int .i64 0] 68))
  have hlt := M2.out.lt
  clear hv he
  go_wp2_with (refine wpList_store (.tmp 5) (.tmp 10) 68 rfl rfl w2.heap.size 0 _ _ #[.int .i64 (v.1 : Int), .int .i64 (v.2.1 : Int), .int .i64 (v.2.2 : Int)] rfl rfl N2.out (by kernel_rfl) (by simp [Value.oneCell']) (by simp) ?_)
  intro w3 hn3 ko3
  have F3 := Lib.hid (show Blk w3 w2.heap.size 68 #[.int .i64 (v.1 : Int), .int .i64 (v.2.1 : Int), .int .i64 (v.2.2 : Int)] from hn3)
  have A3 := Lib.hid (ko3.blk M3.out (by omega))
  have B4 := Lib.hid (B3.out.trans (ko3.below B2.out.size))
  clear hn3 ko3
  go_wp2_with fail
  have c0 := (F3.out.cell 0).trans rfl
  have c1 := (F3.out.cell 1).trans rfl
  have c2 := (F3.out.cell 2).trans rfl
  have a0 := (A3.out.cell 0).trans rfl
  have a1 := (A3.out.cell 1).trans rfl
  have f0 := A3.out.frozen 0
  have f1 := A3.out.frozen 1
  go_region
  clear c0 c1 c2 a0 a1 f0 f1
  have h7 : Blk ((w3.setCell ⟨w.heap.size + 1, 0, none⟩ (.int .i64 (v.1 : Int))).setCell ⟨w.heap.size + 1, 1, none⟩ (.int .i64 (v.2.1 : Int))).drew (w.heap.size + 1) 23 #[.int .i64 (v.1 : Int), .int .i64 (v.2.1 : Int)] := (A3.out.set_ 0 _).set_ 1 _
  have B7 := Lib.hid (Below.drew (Below.setCell (Below.setCell B4.out (p := ⟨w.heap.size + 1, 0, none⟩) (Nat.le_succ _) (.int .i64 (v.1 : Int))) (p := ⟨w.heap.size + 1, 1, none⟩) (Nat.le_succ _) (.int .i64 (v.2.1 : Int))))
  generalize ((w3.setCell ⟨w.heap.size + 1, 0, none⟩ (.int .i64 (v.1 : Int))).setCell ⟨w.heap.size + 1, 1, none⟩ (.int .i64 (v.2.1 : Int))).drew = w7 at *
  have q0 := (h7.cell 0).trans rfl
  have q1 := (h7.cell 1).trans rfl
  go_wp2_with fail
  refine bodyPost_ret (v := .tuple #[.agg #[.int .i64 (v.1 : Int), .int .i64 (v.2.1 : Int)], .int .i64 (v.2.2 : Int), ev]) (by simp [results, Tryd.results21, go_sem, q0, q1]) rfl ?_
  exact ⟨B7.out, by rw [HV.out, HEV.out], HX.out⟩
theorem toPart_any (s : List UInt8) (hs : s.length ≤ 1000000) (w : World) (E : Nat → Addr) (he : Errs w E) :
    Calls Tryd.prog 22 #[.string (bs s)] w fun e w' => Below w.heap.size w w' ∧ e = .returned (.tuple #[.int .i64 ((xval (toPartT s) (0, 0)).1 : Int), .int .i64 ((xval (toPartT s) (0, 0)).2 : Int), errV E (xbad (toPartT s))]) ∧ xbad (toPartT s) ≤ 14 := by
  have hmf := @run_makeFunc Tryd.prog
  have hb1 := below_alloc1 w (.cells #[.string (bs s)] 9)
  have B1 := Lib.hid hb1
  have N1 := Lib.hid (Blk.new w 9 #[.string (bs s)])
  have HE := Lib.hid (fun w' (h : Below w.heap.size w w') => he.below h)
  clear hb1 he
  go_enter Tryd.func22, Tryd.ntmps22
  go_wp2_with fail
  generalize w.alloc (.cells #[.string (bs s)] 9) = w1 at *
  refine (tryArr2_any w1 E _ _ [] (fun _ v _ => ∃ a : Nat × Nat, toPartT s = .ok a ∧ v = .agg #[.int .i64 (a.1 : Int), .int .i64 (a.2 : Int)]) (fun n _ _ => toPartT s = .error n) (by simp) (fun w' h => HE.out w' (B1.out.trans (h.nil_below.mono B1.out.size))) (fun _ v _ h => by obtain ⟨a, _, rfl⟩ := h; exact ⟨_, _, rfl, rfl, rfl⟩) (fun w => by simp [go_sem])
    (fun w2 hb _ => (toPart1_any s hs w.heap.size w2 E (HE.out w2 (B1.out.trans (hb.mono B1.out.size))) (N1.out.below hb N1.out.lt)).mono (fun e w3 h => exR_may h))).mono ?_
  intro e w2 h
  obtain ⟨hb2, rfl, hx⟩ := tryX_of (V := fun p : Nat × Nat => .agg #[.int .i64 (p.1 : Int), .int .i64 (p.2 : Int)]) (z := (0, 0)) h
  have B2 := Lib.hid (B1.out.trans (hb2.mono B1.out.size))
  have HX := Lib.hid hx
  clear hb2 h hx
  generalize hv : xval (toPartT s) (0, 0) = v at *
  generalize he : errV E (xbad (toPartT s)) = ev at *
  have HV := Lib.hid hv
  have HEV := Lib.hid he
  have N2 := Lib.hid (Blk.new w2 24 #[.int .i64 0, .int .i64 0])
  have B3 := Lib.hid (below_alloc B2.out (.cells #[.int .i64 0, .int .i64 0] 24))
  clear hv he
  go_wp2_with (refine wpList_store (.tmp 5) (.tmp 10) 24 rfl rfl w2.heap.size 0 _ _ #[.int .i64 (v.1 : Int), .int .i64 (v.2 : Int)] rfl rfl N2.out (by kernel_rfl) (by simp [Value.oneCell']) (by simp) ?_)
  intro w3 hn3 ko3
  have F3 := Lib.hid (show Blk w3 w2.heap.size 24 #[.int .i64 (v.1 : Int), .int .i64 (v.2 : Int)] from hn3)
  have B4 := Lib.hid (B3.out.trans (ko3.below B2.out.size))
  clear hn3 ko3
  go_wp2_with fail
  refine wp_phi (fun w' => Below w.heap.size w w' ∧ Blk w' w2.heap.size 24 #[.int .i64 (v.1 : Int), .int .i64 (v.2 : Int)]) [] [] (by kernel_rfl) (by kernel_rfl) ?_ ?_ ⟨B4.out.drew, F3.out⟩ ?_
  · rintro w1' w2' ⟨h1, h2⟩ hb
    exact ⟨h1.trans (hb.mono h1.size), h2.below hb h2.lt⟩
  · intro p hp; cases hp
  repeat (first | (refine phi_skipK rfl (fun K hK => ?_); simp only [Act.put, List.setIfInBounds_toArray, List.set_cons_succ, List.set_cons_zero]; (try simp only [List.cons_append]); (try simp only [List.nil_append]); apply hK; clear hK K) | (refine phi_pureK rfl rfl (fun K hK => ?_); apply Exists.intro; constructor; (focus (rintro w' ⟨h1, h2⟩; (have c0 := (h2.cell 0).trans rfl; have c1 := (h2.cell 1).trans rfl); first | (go_simp; done) | (go_simp; (try go_bits); (try go_simp); rfl) | go_simp)); simp only [Act.put, List.setIfInBounds_toArray, List.set_cons_succ, List.set_cons_zero]; (try simp only [List.cons_append]); (try simp only [List.nil_append]); apply hK; clear hK K))
  refine phi_done ?_
  rintro w4 ⟨h1, h2⟩ _
  have B5 := Lib.hid h1
  clear h1 h2
  refine wpList_nil ?_
  go_wp2_with fail
  go_ret3
  exact ⟨B5.out, by rw [HV.out, HEV.out]; rfl, HX.out⟩
end Go.Proofs.YtehdbiilbbbbpaaDoor
