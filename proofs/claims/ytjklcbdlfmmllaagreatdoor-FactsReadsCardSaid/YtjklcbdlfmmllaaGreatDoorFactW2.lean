/-
  FactW2: a fact with its kind's fields alone: kind 2.
-/
import Derived.Test.YtjklcbdlfmmllaaGreatDoorFactW
namespace Go.Proofs.YtjklcbdlfmmllaaGreatDoor
open Go.RowKit Go.Extern.Stop Go.Stop Go.Extern Ieee
attribute [local go_sem] flt_def fgt_def feq_def fne_def
attribute [local go_sem] run_store_flt

set_option maxRecDepth 20000 in
set_option maxHeartbeats 8000000 in
theorem plain2_any (n s r nd p q o d pa st hw dc : Int) (x : Nat) (hn : -9223372036854775808 ≤ n) (hs : -9223372036854775808 ≤ s) (hx : x < 18446744073709551616) (w : World) (E : Nat → Addr) (h : IdsG w E) :
    Calls Tryz.prog 23 #[fctV ⟨2, n, s, r, nd, p, q, o, d, pa, st, hw, dc, x⟩] w fun e w' => e = .returned (.tuple #[fctV (plainP ⟨2, n, s, r, nd, p, q, o, d, pa, st, hw, dc, x⟩), .bool (plainO ⟨2, n, s, r, nd, p, q, o, d, pa, st, hw, dc, x⟩)]) ∧ Below w.heap.size w w' := by
  have HG := Lib.hid (fun w' (hb : Below w.heap.size w w') => h.below hb)
  have HID0 := Lib.hid (fun w' h => right_any w' E n s hn hs h)
  unfold actV at HID0
  have HID : RowKit.Hid (∀ w' : World, IdsG w' E → Calls Tryz.prog 51 #[.agg #[.int .i64 n, .int .i64 s]] w' fun e w'' => e = .returned (.bool (actB n s)) ∧ Below w'.heap.size w' w'') := Lib.hid HID0.out
  have HSC := Lib.hid (fun w' h => sright_any n s o d x hn hs hx w' E h)
  have HWI := Lib.hid within_any
  have HRG := Lib.hid isreg_any
  have HPA := Lib.hid ispart_any
  have HST := Lib.hid isstate_any
  clear HID0 hn hs hx h
  have HPV := Lib.hid (show plainP ⟨2, n, s, r, nd, p, q, o, d, pa, st, hw, dc, x⟩ = ⟨2, n, s, r, nd, p, q, 0, 0, 0, 0, 0, 0, 0⟩ from rfl)
  have HOV := Lib.hid (show plainO ⟨2, n, s, r, nd, p, q, o, d, pa, st, hw, dc, x⟩ = (actB n s && inR r 0 5 && inR nd 0 3 && inR p 0 7 && inR q 1 2) from rfl)
  cases hvA : actB n s
  · rw [hvA] at HOV
    have HVA := Lib.hid hvA
    clear hvA
    have B := Lib.hid (below_alloc (below_alloc1 w (.cells #[.int .i64 2, .int .i64 n, .int .i64 s, .int .i64 r, .int .i64 nd, .int .i64 p, .int .i64 q, .int .i64 o, .int .i64 d, .int .i64 pa, .int .i64 st, .int .i64 hw, .int .i64 dc, .float .f64 x] 26)) (.cells #[.int .i64 0, .int .i64 0, .int .i64 0, .int .i64 0, .int .i64 0, .int .i64 0, .int .i64 0, .int .i64 0, .int .i64 0, .int .i64 0, .int .i64 0, .int .i64 0, .int .i64 0, .float .f64 0] 26))
    have N := Lib.hid ((Blk.new w 26 #[.int .i64 2, .int .i64 n, .int .i64 s, .int .i64 r, .int .i64 nd, .int .i64 p, .int .i64 q, .int .i64 o, .int .i64 d, .int .i64 pa, .int .i64 st, .int .i64 hw, .int .i64 dc, .float .f64 x]).alloc (.cells #[.int .i64 0, .int .i64 0, .int .i64 0, .int .i64 0, .int .i64 0, .int .i64 0, .int .i64 0, .int .i64 0, .int .i64 0, .int .i64 0, .int .i64 0, .int .i64 0, .int .i64 0, .float .f64 0] 26))
    have M := Lib.hid (show Blk ((w.alloc (.cells #[.int .i64 2, .int .i64 n, .int .i64 s, .int .i64 r, .int .i64 nd, .int .i64 p, .int .i64 q, .int .i64 o, .int .i64 d, .int .i64 pa, .int .i64 st, .int .i64 hw, .int .i64 dc, .float .f64 x] 26)).alloc (.cells #[.int .i64 0, .int .i64 0, .int .i64 0, .int .i64 0, .int .i64 0, .int .i64 0, .int .i64 0, .int .i64 0, .int .i64 0, .int .i64 0, .int .i64 0, .int .i64 0, .int .i64 0, .float .f64 0] 26)) (w.heap.size + 1) 26 #[.int .i64 0, .int .i64 0, .int .i64 0, .int .i64 0, .int .i64 0, .int .i64 0, .int .i64 0, .int .i64 0, .int .i64 0, .int .i64 0, .int .i64 0, .int .i64 0, .int .i64 0, .float .f64 0] from by
      have := Blk.new (w.alloc (.cells #[.int .i64 2, .int .i64 n, .int .i64 s, .int .i64 r, .int .i64 nd, .int .i64 p, .int .i64 q, .int .i64 o, .int .i64 d, .int .i64 pa, .int .i64 st, .int .i64 hw, .int .i64 dc, .float .f64 x] 26)) 26 #[.int .i64 0, .int .i64 0, .int .i64 0, .int .i64 0, .int .i64 0, .int .i64 0, .int .i64 0, .int .i64 0, .int .i64 0, .int .i64 0, .int .i64 0, .int .i64 0, .int .i64 0, .float .f64 0]
      rwa [World.size_alloc] at this)
    have n0 := (N.out.cell 0).trans rfl
    have n1 := (N.out.cell 1).trans rfl
    have n2 := (N.out.cell 2).trans rfl
    have n3 := (N.out.cell 3).trans rfl
    have n4 := (N.out.cell 4).trans rfl
    have n5 := (N.out.cell 5).trans rfl
    have n6 := (N.out.cell 6).trans rfl
    have n7 := (N.out.cell 7).trans rfl
    have n8 := (N.out.cell 8).trans rfl
    have n9 := (N.out.cell 9).trans rfl
    have n10 := (N.out.cell 10).trans rfl
    have n11 := (N.out.cell 11).trans rfl
    have n12 := (N.out.cell 12).trans rfl
    have n13 := (N.out.cell 13).trans rfl
    unfold fctV fctA
    simp only
    go_enter Tryz.func23, Tryz.ntmps23
    go_wp2_with fail
    refine (HID.out _ (HG.out _ B.out)).mono ?_
    rintro e w' ⟨rfl, hb⟩
    rw [HVA.out]
    have B' := Lib.hid (B.out.trans (hb.mono B.out.size))
    have N' := Lib.hid (N.out.below hb N.out.lt)
    have M' := Lib.hid (M.out.below hb M.out.lt)
    clear hb B N M n0 n1 n2 n3 n4 n5 n6 n7 n8 n9 n10 n11 n12 n13
    have n0 := (N'.out.cell 0).trans rfl
    have n1 := (N'.out.cell 1).trans rfl
    have n2 := (N'.out.cell 2).trans rfl
    have n3 := (N'.out.cell 3).trans rfl
    have n4 := (N'.out.cell 4).trans rfl
    have n5 := (N'.out.cell 5).trans rfl
    have n6 := (N'.out.cell 6).trans rfl
    have n7 := (N'.out.cell 7).trans rfl
    have n8 := (N'.out.cell 8).trans rfl
    have n9 := (N'.out.cell 9).trans rfl
    have n10 := (N'.out.cell 10).trans rfl
    have n11 := (N'.out.cell 11).trans rfl
    have n12 := (N'.out.cell 12).trans rfl
    have n13 := (N'.out.cell 13).trans rfl
    have B := Lib.hid B'.out
    have N := Lib.hid N'.out
    have M := Lib.hid M'.out
    clear B' N' M'
    go_wp2_with (refine wpList_store (.tmp 2) (.tmp 76) 26 rfl rfl (w.heap.size + 1) 0 _ _ #[.int .i64 2, .int .i64 n, .int .i64 s, .int .i64 r, .int .i64 nd, .int .i64 p, .int .i64 q, .int .i64 0, .int .i64 0, .int .i64 0, .int .i64 0, .int .i64 0, .int .i64 0, .float .f64 0] rfl rfl M.out (by kernel_rfl) (by simp [Value.oneCell']) (by simp) ?_)
    intro w7 hn7 ko7
    have h7 : Blk w7 (w.heap.size + 1) 26 #[.int .i64 2, .int .i64 n, .int .i64 s, .int .i64 r, .int .i64 nd, .int .i64 p, .int .i64 q, .int .i64 0, .int .i64 0, .int .i64 0, .int .i64 0, .int .i64 0, .int .i64 0, .float .f64 0] := hn7
    have q0 := (h7.cell 0).trans rfl
    have q1 := (h7.cell 1).trans rfl
    have q2 := (h7.cell 2).trans rfl
    have q3 := (h7.cell 3).trans rfl
    have q4 := (h7.cell 4).trans rfl
    have q5 := (h7.cell 5).trans rfl
    have q6 := (h7.cell 6).trans rfl
    have q7 := (h7.cell 7).trans rfl
    have q8 := (h7.cell 8).trans rfl
    have q9 := (h7.cell 9).trans rfl
    have q10 := (h7.cell 10).trans rfl
    have q11 := (h7.cell 11).trans rfl
    have q12 := (h7.cell 12).trans rfl
    have q13 := (h7.cell 13).trans rfl
    go_wp2_with fail
    refine bodyPost_ret (v := .tuple #[.agg #[.int .i64 2, .int .i64 n, .int .i64 s, .int .i64 r, .int .i64 nd, .int .i64 p, .int .i64 q, .int .i64 0, .int .i64 0, .int .i64 0, .int .i64 0, .int .i64 0, .int .i64 0, .float .f64 0], .bool false]) (by simp [results, Tryz.results23, go_sem, q0, q1, q2, q3, q4, q5, q6, q7, q8, q9, q10, q11, q12, q13]) rfl ?_
    exact ⟨by rw [HPV.out, HOV.out] <;> rfl, B.out.trans (ko7.below (Nat.le_succ _))⟩
  · rw [hvA] at HOV
    have HVA := Lib.hid hvA
    clear hvA
    cases hvR : inR r 0 5
    · rw [hvR] at HOV
      have HVR := Lib.hid hvR
      clear hvR
      have B := Lib.hid (below_alloc (below_alloc1 w (.cells #[.int .i64 2, .int .i64 n, .int .i64 s, .int .i64 r, .int .i64 nd, .int .i64 p, .int .i64 q, .int .i64 o, .int .i64 d, .int .i64 pa, .int .i64 st, .int .i64 hw, .int .i64 dc, .float .f64 x] 26)) (.cells #[.int .i64 0, .int .i64 0, .int .i64 0, .int .i64 0, .int .i64 0, .int .i64 0, .int .i64 0, .int .i64 0, .int .i64 0, .int .i64 0, .int .i64 0, .int .i64 0, .int .i64 0, .float .f64 0] 26))
      have N := Lib.hid ((Blk.new w 26 #[.int .i64 2, .int .i64 n, .int .i64 s, .int .i64 r, .int .i64 nd, .int .i64 p, .int .i64 q, .int .i64 o, .int .i64 d, .int .i64 pa, .int .i64 st, .int .i64 hw, .int .i64 dc, .float .f64 x]).alloc (.cells #[.int .i64 0, .int .i64 0, .int .i64 0, .int .i64 0, .int .i64 0, .int .i64 0, .int .i64 0, .int .i64 0, .int .i64 0, .int .i64 0, .int .i64 0, .int .i64 0, .int .i64 0, .float .f64 0] 26))
      have M := Lib.hid (show Blk ((w.alloc (.cells #[.int .i64 2, .int .i64 n, .int .i64 s, .int .i64 r, .int .i64 nd, .int .i64 p, .int .i64 q, .int .i64 o, .int .i64 d, .int .i64 pa, .int .i64 st, .int .i64 hw, .int .i64 dc, .float .f64 x] 26)).alloc (.cells #[.int .i64 0, .int .i64 0, .int .i64 0, .int .i64 0, .int .i64 0, .int .i64 0, .int .i64 0, .int .i64 0, .int .i64 0, .int .i64 0, .int .i64 0, .int .i64 0, .int .i64 0, .float .f64 0] 26)) (w.heap.size + 1) 26 #[.int .i64 0, .int .i64 0, .int .i64 0, .int .i64 0, .int .i64 0, .int .i64 0, .int .i64 0, .int .i64 0, .int .i64 0, .int .i64 0, .int .i64 0, .int .i64 0, .int .i64 0, .float .f64 0] from by
        have := Blk.new (w.alloc (.cells #[.int .i64 2, .int .i64 n, .int .i64 s, .int .i64 r, .int .i64 nd, .int .i64 p, .int .i64 q, .int .i64 o, .int .i64 d, .int .i64 pa, .int .i64 st, .int .i64 hw, .int .i64 dc, .float .f64 x] 26)) 26 #[.int .i64 0, .int .i64 0, .int .i64 0, .int .i64 0, .int .i64 0, .int .i64 0, .int .i64 0, .int .i64 0, .int .i64 0, .int .i64 0, .int .i64 0, .int .i64 0, .int .i64 0, .float .f64 0]
        rwa [World.size_alloc] at this)
      have n0 := (N.out.cell 0).trans rfl
      have n1 := (N.out.cell 1).trans rfl
      have n2 := (N.out.cell 2).trans rfl
      have n3 := (N.out.cell 3).trans rfl
      have n4 := (N.out.cell 4).trans rfl
      have n5 := (N.out.cell 5).trans rfl
      have n6 := (N.out.cell 6).trans rfl
      have n7 := (N.out.cell 7).trans rfl
      have n8 := (N.out.cell 8).trans rfl
      have n9 := (N.out.cell 9).trans rfl
      have n10 := (N.out.cell 10).trans rfl
      have n11 := (N.out.cell 11).trans rfl
      have n12 := (N.out.cell 12).trans rfl
      have n13 := (N.out.cell 13).trans rfl
      unfold fctV fctA
      simp only
      go_enter Tryz.func23, Tryz.ntmps23
      go_wp2_with fail
      refine (HID.out _ (HG.out _ B.out)).mono ?_
      rintro e w' ⟨rfl, hb⟩
      rw [HVA.out]
      have B' := Lib.hid (B.out.trans (hb.mono B.out.size))
      have N' := Lib.hid (N.out.below hb N.out.lt)
      have M' := Lib.hid (M.out.below hb M.out.lt)
      clear hb B N M n0 n1 n2 n3 n4 n5 n6 n7 n8 n9 n10 n11 n12 n13
      have n0 := (N'.out.cell 0).trans rfl
      have n1 := (N'.out.cell 1).trans rfl
      have n2 := (N'.out.cell 2).trans rfl
      have n3 := (N'.out.cell 3).trans rfl
      have n4 := (N'.out.cell 4).trans rfl
      have n5 := (N'.out.cell 5).trans rfl
      have n6 := (N'.out.cell 6).trans rfl
      have n7 := (N'.out.cell 7).trans rfl
      have n8 := (N'.out.cell 8).trans rfl
      have n9 := (N'.out.cell 9).trans rfl
      have n10 := (N'.out.cell 10).trans rfl
      have n11 := (N'.out.cell 11).trans rfl
      have n12 := (N'.out.cell 12).trans rfl
      have n13 := (N'.out.cell 13).trans rfl
      have B := Lib.hid B'.out
      have N := Lib.hid N'.out
      have M := Lib.hid M'.out
      clear B' N' M'
      go_wp2_with fail
      refine (HRG.out _ _).mono ?_
      rintro e w' ⟨rfl, hb⟩
      rw [HVR.out]
      have B' := Lib.hid (B.out.trans (hb.mono B.out.size))
      have N' := Lib.hid (N.out.below hb N.out.lt)
      have M' := Lib.hid (M.out.below hb M.out.lt)
      clear hb B N M n0 n1 n2 n3 n4 n5 n6 n7 n8 n9 n10 n11 n12 n13
      have n0 := (N'.out.cell 0).trans rfl
      have n1 := (N'.out.cell 1).trans rfl
      have n2 := (N'.out.cell 2).trans rfl
      have n3 := (N'.out.cell 3).trans rfl
      have n4 := (N'.out.cell 4).trans rfl
      have n5 := (N'.out.cell 5).trans rfl
      have n6 := (N'.out.cell 6).trans rfl
      have n7 := (N'.out.cell 7).trans rfl
      have n8 := (N'.out.cell 8).trans rfl
      have n9 := (N'.out.cell 9).trans rfl
      have n10 := (N'.out.cell 10).trans rfl
      have n11 := (N'.out.cell 11).trans rfl
      have n12 := (N'.out.cell 12).trans rfl
      have n13 := (N'.out.cell 13).trans rfl
      have B := Lib.hid B'.out
      have N := Lib.hid N'.out
      have M := Lib.hid M'.out
      clear B' N' M'
      go_wp2_with (refine wpList_store (.tmp 2) (.tmp 76) 26 rfl rfl (w.heap.size + 1) 0 _ _ #[.int .i64 2, .int .i64 n, .int .i64 s, .int .i64 r, .int .i64 nd, .int .i64 p, .int .i64 q, .int .i64 0, .int .i64 0, .int .i64 0, .int .i64 0, .int .i64 0, .int .i64 0, .float .f64 0] rfl rfl M.out (by kernel_rfl) (by simp [Value.oneCell']) (by simp) ?_)
      intro w7 hn7 ko7
      have h7 : Blk w7 (w.heap.size + 1) 26 #[.int .i64 2, .int .i64 n, .int .i64 s, .int .i64 r, .int .i64 nd, .int .i64 p, .int .i64 q, .int .i64 0, .int .i64 0, .int .i64 0, .int .i64 0, .int .i64 0, .int .i64 0, .float .f64 0] := hn7
      have q0 := (h7.cell 0).trans rfl
      have q1 := (h7.cell 1).trans rfl
      have q2 := (h7.cell 2).trans rfl
      have q3 := (h7.cell 3).trans rfl
      have q4 := (h7.cell 4).trans rfl
      have q5 := (h7.cell 5).trans rfl
      have q6 := (h7.cell 6).trans rfl
      have q7 := (h7.cell 7).trans rfl
      have q8 := (h7.cell 8).trans rfl
      have q9 := (h7.cell 9).trans rfl
      have q10 := (h7.cell 10).trans rfl
      have q11 := (h7.cell 11).trans rfl
      have q12 := (h7.cell 12).trans rfl
      have q13 := (h7.cell 13).trans rfl
      go_wp2_with fail
      refine bodyPost_ret (v := .tuple #[.agg #[.int .i64 2, .int .i64 n, .int .i64 s, .int .i64 r, .int .i64 nd, .int .i64 p, .int .i64 q, .int .i64 0, .int .i64 0, .int .i64 0, .int .i64 0, .int .i64 0, .int .i64 0, .float .f64 0], .bool false]) (by simp [results, Tryz.results23, go_sem, q0, q1, q2, q3, q4, q5, q6, q7, q8, q9, q10, q11, q12, q13]) rfl ?_
      exact ⟨by rw [HPV.out, HOV.out] <;> rfl, B.out.trans (ko7.below (Nat.le_succ _))⟩
    · rw [hvR] at HOV
      have HVR := Lib.hid hvR
      clear hvR
      cases hvND : inR nd 0 3
      · rw [hvND] at HOV
        have HVND := Lib.hid hvND
        clear hvND
        have B := Lib.hid (below_alloc (below_alloc1 w (.cells #[.int .i64 2, .int .i64 n, .int .i64 s, .int .i64 r, .int .i64 nd, .int .i64 p, .int .i64 q, .int .i64 o, .int .i64 d, .int .i64 pa, .int .i64 st, .int .i64 hw, .int .i64 dc, .float .f64 x] 26)) (.cells #[.int .i64 0, .int .i64 0, .int .i64 0, .int .i64 0, .int .i64 0, .int .i64 0, .int .i64 0, .int .i64 0, .int .i64 0, .int .i64 0, .int .i64 0, .int .i64 0, .int .i64 0, .float .f64 0] 26))
        have N := Lib.hid ((Blk.new w 26 #[.int .i64 2, .int .i64 n, .int .i64 s, .int .i64 r, .int .i64 nd, .int .i64 p, .int .i64 q, .int .i64 o, .int .i64 d, .int .i64 pa, .int .i64 st, .int .i64 hw, .int .i64 dc, .float .f64 x]).alloc (.cells #[.int .i64 0, .int .i64 0, .int .i64 0, .int .i64 0, .int .i64 0, .int .i64 0, .int .i64 0, .int .i64 0, .int .i64 0, .int .i64 0, .int .i64 0, .int .i64 0, .int .i64 0, .float .f64 0] 26))
        have M := Lib.hid (show Blk ((w.alloc (.cells #[.int .i64 2, .int .i64 n, .int .i64 s, .int .i64 r, .int .i64 nd, .int .i64 p, .int .i64 q, .int .i64 o, .int .i64 d, .int .i64 pa, .int .i64 st, .int .i64 hw, .int .i64 dc, .float .f64 x] 26)).alloc (.cells #[.int .i64 0, .int .i64 0, .int .i64 0, .int .i64 0, .int .i64 0, .int .i64 0, .int .i64 0, .int .i64 0, .int .i64 0, .int .i64 0, .int .i64 0, .int .i64 0, .int .i64 0, .float .f64 0] 26)) (w.heap.size + 1) 26 #[.int .i64 0, .int .i64 0, .int .i64 0, .int .i64 0, .int .i64 0, .int .i64 0, .int .i64 0, .int .i64 0, .int .i64 0, .int .i64 0, .int .i64 0, .int .i64 0, .int .i64 0, .float .f64 0] from by
          have := Blk.new (w.alloc (.cells #[.int .i64 2, .int .i64 n, .int .i64 s, .int .i64 r, .int .i64 nd, .int .i64 p, .int .i64 q, .int .i64 o, .int .i64 d, .int .i64 pa, .int .i64 st, .int .i64 hw, .int .i64 dc, .float .f64 x] 26)) 26 #[.int .i64 0, .int .i64 0, .int .i64 0, .int .i64 0, .int .i64 0, .int .i64 0, .int .i64 0, .int .i64 0, .int .i64 0, .int .i64 0, .int .i64 0, .int .i64 0, .int .i64 0, .float .f64 0]
          rwa [World.size_alloc] at this)
        have n0 := (N.out.cell 0).trans rfl
        have n1 := (N.out.cell 1).trans rfl
        have n2 := (N.out.cell 2).trans rfl
        have n3 := (N.out.cell 3).trans rfl
        have n4 := (N.out.cell 4).trans rfl
        have n5 := (N.out.cell 5).trans rfl
        have n6 := (N.out.cell 6).trans rfl
        have n7 := (N.out.cell 7).trans rfl
        have n8 := (N.out.cell 8).trans rfl
        have n9 := (N.out.cell 9).trans rfl
        have n10 := (N.out.cell 10).trans rfl
        have n11 := (N.out.cell 11).trans rfl
        have n12 := (N.out.cell 12).trans rfl
        have n13 := (N.out.cell 13).trans rfl
        unfold fctV fctA
        simp only
        go_enter Tryz.func23, Tryz.ntmps23
        go_wp2_with fail
        refine (HID.out _ (HG.out _ B.out)).mono ?_
        rintro e w' ⟨rfl, hb⟩
        rw [HVA.out]
        have B' := Lib.hid (B.out.trans (hb.mono B.out.size))
        have N' := Lib.hid (N.out.below hb N.out.lt)
        have M' := Lib.hid (M.out.below hb M.out.lt)
        clear hb B N M n0 n1 n2 n3 n4 n5 n6 n7 n8 n9 n10 n11 n12 n13
        have n0 := (N'.out.cell 0).trans rfl
        have n1 := (N'.out.cell 1).trans rfl
        have n2 := (N'.out.cell 2).trans rfl
        have n3 := (N'.out.cell 3).trans rfl
        have n4 := (N'.out.cell 4).trans rfl
        have n5 := (N'.out.cell 5).trans rfl
        have n6 := (N'.out.cell 6).trans rfl
        have n7 := (N'.out.cell 7).trans rfl
        have n8 := (N'.out.cell 8).trans rfl
        have n9 := (N'.out.cell 9).trans rfl
        have n10 := (N'.out.cell 10).trans rfl
        have n11 := (N'.out.cell 11).trans rfl
        have n12 := (N'.out.cell 12).trans rfl
        have n13 := (N'.out.cell 13).trans rfl
        have B := Lib.hid B'.out
        have N := Lib.hid N'.out
        have M := Lib.hid M'.out
        clear B' N' M'
        go_wp2_with fail
        refine (HRG.out _ _).mono ?_
        rintro e w' ⟨rfl, hb⟩
        rw [HVR.out]
        have B' := Lib.hid (B.out.trans (hb.mono B.out.size))
        have N' := Lib.hid (N.out.below hb N.out.lt)
        have M' := Lib.hid (M.out.below hb M.out.lt)
        clear hb B N M n0 n1 n2 n3 n4 n5 n6 n7 n8 n9 n10 n11 n12 n13
        have n0 := (N'.out.cell 0).trans rfl
        have n1 := (N'.out.cell 1).trans rfl
        have n2 := (N'.out.cell 2).trans rfl
        have n3 := (N'.out.cell 3).trans rfl
        have n4 := (N'.out.cell 4).trans rfl
        have n5 := (N'.out.cell 5).trans rfl
        have n6 := (N'.out.cell 6).trans rfl
        have n7 := (N'.out.cell 7).trans rfl
        have n8 := (N'.out.cell 8).trans rfl
        have n9 := (N'.out.cell 9).trans rfl
        have n10 := (N'.out.cell 10).trans rfl
        have n11 := (N'.out.cell 11).trans rfl
        have n12 := (N'.out.cell 12).trans rfl
        have n13 := (N'.out.cell 13).trans rfl
        have B := Lib.hid B'.out
        have N := Lib.hid N'.out
        have M := Lib.hid M'.out
        clear B' N' M'
        go_wp2_with fail
        refine (HWI.out _ _ _ _).mono ?_
        rintro e w' ⟨rfl, hb⟩
        rw [HVND.out]
        have B' := Lib.hid (B.out.trans (hb.mono B.out.size))
        have N' := Lib.hid (N.out.below hb N.out.lt)
        have M' := Lib.hid (M.out.below hb M.out.lt)
        clear hb B N M n0 n1 n2 n3 n4 n5 n6 n7 n8 n9 n10 n11 n12 n13
        have n0 := (N'.out.cell 0).trans rfl
        have n1 := (N'.out.cell 1).trans rfl
        have n2 := (N'.out.cell 2).trans rfl
        have n3 := (N'.out.cell 3).trans rfl
        have n4 := (N'.out.cell 4).trans rfl
        have n5 := (N'.out.cell 5).trans rfl
        have n6 := (N'.out.cell 6).trans rfl
        have n7 := (N'.out.cell 7).trans rfl
        have n8 := (N'.out.cell 8).trans rfl
        have n9 := (N'.out.cell 9).trans rfl
        have n10 := (N'.out.cell 10).trans rfl
        have n11 := (N'.out.cell 11).trans rfl
        have n12 := (N'.out.cell 12).trans rfl
        have n13 := (N'.out.cell 13).trans rfl
        have B := Lib.hid B'.out
        have N := Lib.hid N'.out
        have M := Lib.hid M'.out
        clear B' N' M'
        go_wp2_with (refine wpList_store (.tmp 2) (.tmp 76) 26 rfl rfl (w.heap.size + 1) 0 _ _ #[.int .i64 2, .int .i64 n, .int .i64 s, .int .i64 r, .int .i64 nd, .int .i64 p, .int .i64 q, .int .i64 0, .int .i64 0, .int .i64 0, .int .i64 0, .int .i64 0, .int .i64 0, .float .f64 0] rfl rfl M.out (by kernel_rfl) (by simp [Value.oneCell']) (by simp) ?_)
        intro w7 hn7 ko7
        have h7 : Blk w7 (w.heap.size + 1) 26 #[.int .i64 2, .int .i64 n, .int .i64 s, .int .i64 r, .int .i64 nd, .int .i64 p, .int .i64 q, .int .i64 0, .int .i64 0, .int .i64 0, .int .i64 0, .int .i64 0, .int .i64 0, .float .f64 0] := hn7
        have q0 := (h7.cell 0).trans rfl
        have q1 := (h7.cell 1).trans rfl
        have q2 := (h7.cell 2).trans rfl
        have q3 := (h7.cell 3).trans rfl
        have q4 := (h7.cell 4).trans rfl
        have q5 := (h7.cell 5).trans rfl
        have q6 := (h7.cell 6).trans rfl
        have q7 := (h7.cell 7).trans rfl
        have q8 := (h7.cell 8).trans rfl
        have q9 := (h7.cell 9).trans rfl
        have q10 := (h7.cell 10).trans rfl
        have q11 := (h7.cell 11).trans rfl
        have q12 := (h7.cell 12).trans rfl
        have q13 := (h7.cell 13).trans rfl
        go_wp2_with fail
        refine bodyPost_ret (v := .tuple #[.agg #[.int .i64 2, .int .i64 n, .int .i64 s, .int .i64 r, .int .i64 nd, .int .i64 p, .int .i64 q, .int .i64 0, .int .i64 0, .int .i64 0, .int .i64 0, .int .i64 0, .int .i64 0, .float .f64 0], .bool false]) (by simp [results, Tryz.results23, go_sem, q0, q1, q2, q3, q4, q5, q6, q7, q8, q9, q10, q11, q12, q13]) rfl ?_
        exact ⟨by rw [HPV.out, HOV.out] <;> rfl, B.out.trans (ko7.below (Nat.le_succ _))⟩
      · rw [hvND] at HOV
        have HVND := Lib.hid hvND
        clear hvND
        cases hvP : inR p 0 7
        · rw [hvP] at HOV
          have HVP := Lib.hid hvP
          clear hvP
          have B := Lib.hid (below_alloc (below_alloc1 w (.cells #[.int .i64 2, .int .i64 n, .int .i64 s, .int .i64 r, .int .i64 nd, .int .i64 p, .int .i64 q, .int .i64 o, .int .i64 d, .int .i64 pa, .int .i64 st, .int .i64 hw, .int .i64 dc, .float .f64 x] 26)) (.cells #[.int .i64 0, .int .i64 0, .int .i64 0, .int .i64 0, .int .i64 0, .int .i64 0, .int .i64 0, .int .i64 0, .int .i64 0, .int .i64 0, .int .i64 0, .int .i64 0, .int .i64 0, .float .f64 0] 26))
          have N := Lib.hid ((Blk.new w 26 #[.int .i64 2, .int .i64 n, .int .i64 s, .int .i64 r, .int .i64 nd, .int .i64 p, .int .i64 q, .int .i64 o, .int .i64 d, .int .i64 pa, .int .i64 st, .int .i64 hw, .int .i64 dc, .float .f64 x]).alloc (.cells #[.int .i64 0, .int .i64 0, .int .i64 0, .int .i64 0, .int .i64 0, .int .i64 0, .int .i64 0, .int .i64 0, .int .i64 0, .int .i64 0, .int .i64 0, .int .i64 0, .int .i64 0, .float .f64 0] 26))
          have M := Lib.hid (show Blk ((w.alloc (.cells #[.int .i64 2, .int .i64 n, .int .i64 s, .int .i64 r, .int .i64 nd, .int .i64 p, .int .i64 q, .int .i64 o, .int .i64 d, .int .i64 pa, .int .i64 st, .int .i64 hw, .int .i64 dc, .float .f64 x] 26)).alloc (.cells #[.int .i64 0, .int .i64 0, .int .i64 0, .int .i64 0, .int .i64 0, .int .i64 0, .int .i64 0, .int .i64 0, .int .i64 0, .int .i64 0, .int .i64 0, .int .i64 0, .int .i64 0, .float .f64 0] 26)) (w.heap.size + 1) 26 #[.int .i64 0, .int .i64 0, .int .i64 0, .int .i64 0, .int .i64 0, .int .i64 0, .int .i64 0, .int .i64 0, .int .i64 0, .int .i64 0, .int .i64 0, .int .i64 0, .int .i64 0, .float .f64 0] from by
            have := Blk.new (w.alloc (.cells #[.int .i64 2, .int .i64 n, .int .i64 s, .int .i64 r, .int .i64 nd, .int .i64 p, .int .i64 q, .int .i64 o, .int .i64 d, .int .i64 pa, .int .i64 st, .int .i64 hw, .int .i64 dc, .float .f64 x] 26)) 26 #[.int .i64 0, .int .i64 0, .int .i64 0, .int .i64 0, .int .i64 0, .int .i64 0, .int .i64 0, .int .i64 0, .int .i64 0, .int .i64 0, .int .i64 0, .int .i64 0, .int .i64 0, .float .f64 0]
            rwa [World.size_alloc] at this)
          have n0 := (N.out.cell 0).trans rfl
          have n1 := (N.out.cell 1).trans rfl
          have n2 := (N.out.cell 2).trans rfl
          have n3 := (N.out.cell 3).trans rfl
          have n4 := (N.out.cell 4).trans rfl
          have n5 := (N.out.cell 5).trans rfl
          have n6 := (N.out.cell 6).trans rfl
          have n7 := (N.out.cell 7).trans rfl
          have n8 := (N.out.cell 8).trans rfl
          have n9 := (N.out.cell 9).trans rfl
          have n10 := (N.out.cell 10).trans rfl
          have n11 := (N.out.cell 11).trans rfl
          have n12 := (N.out.cell 12).trans rfl
          have n13 := (N.out.cell 13).trans rfl
          unfold fctV fctA
          simp only
          go_enter Tryz.func23, Tryz.ntmps23
          go_wp2_with fail
          refine (HID.out _ (HG.out _ B.out)).mono ?_
          rintro e w' ⟨rfl, hb⟩
          rw [HVA.out]
          have B' := Lib.hid (B.out.trans (hb.mono B.out.size))
          have N' := Lib.hid (N.out.below hb N.out.lt)
          have M' := Lib.hid (M.out.below hb M.out.lt)
          clear hb B N M n0 n1 n2 n3 n4 n5 n6 n7 n8 n9 n10 n11 n12 n13
          have n0 := (N'.out.cell 0).trans rfl
          have n1 := (N'.out.cell 1).trans rfl
          have n2 := (N'.out.cell 2).trans rfl
          have n3 := (N'.out.cell 3).trans rfl
          have n4 := (N'.out.cell 4).trans rfl
          have n5 := (N'.out.cell 5).trans rfl
          have n6 := (N'.out.cell 6).trans rfl
          have n7 := (N'.out.cell 7).trans rfl
          have n8 := (N'.out.cell 8).trans rfl
          have n9 := (N'.out.cell 9).trans rfl
          have n10 := (N'.out.cell 10).trans rfl
          have n11 := (N'.out.cell 11).trans rfl
          have n12 := (N'.out.cell 12).trans rfl
          have n13 := (N'.out.cell 13).trans rfl
          have B := Lib.hid B'.out
          have N := Lib.hid N'.out
          have M := Lib.hid M'.out
          clear B' N' M'
          go_wp2_with fail
          refine (HRG.out _ _).mono ?_
          rintro e w' ⟨rfl, hb⟩
          rw [HVR.out]
          have B' := Lib.hid (B.out.trans (hb.mono B.out.size))
          have N' := Lib.hid (N.out.below hb N.out.lt)
          have M' := Lib.hid (M.out.below hb M.out.lt)
          clear hb B N M n0 n1 n2 n3 n4 n5 n6 n7 n8 n9 n10 n11 n12 n13
          have n0 := (N'.out.cell 0).trans rfl
          have n1 := (N'.out.cell 1).trans rfl
          have n2 := (N'.out.cell 2).trans rfl
          have n3 := (N'.out.cell 3).trans rfl
          have n4 := (N'.out.cell 4).trans rfl
          have n5 := (N'.out.cell 5).trans rfl
          have n6 := (N'.out.cell 6).trans rfl
          have n7 := (N'.out.cell 7).trans rfl
          have n8 := (N'.out.cell 8).trans rfl
          have n9 := (N'.out.cell 9).trans rfl
          have n10 := (N'.out.cell 10).trans rfl
          have n11 := (N'.out.cell 11).trans rfl
          have n12 := (N'.out.cell 12).trans rfl
          have n13 := (N'.out.cell 13).trans rfl
          have B := Lib.hid B'.out
          have N := Lib.hid N'.out
          have M := Lib.hid M'.out
          clear B' N' M'
          go_wp2_with fail
          refine (HWI.out _ _ _ _).mono ?_
          rintro e w' ⟨rfl, hb⟩
          rw [HVND.out]
          have B' := Lib.hid (B.out.trans (hb.mono B.out.size))
          have N' := Lib.hid (N.out.below hb N.out.lt)
          have M' := Lib.hid (M.out.below hb M.out.lt)
          clear hb B N M n0 n1 n2 n3 n4 n5 n6 n7 n8 n9 n10 n11 n12 n13
          have n0 := (N'.out.cell 0).trans rfl
          have n1 := (N'.out.cell 1).trans rfl
          have n2 := (N'.out.cell 2).trans rfl
          have n3 := (N'.out.cell 3).trans rfl
          have n4 := (N'.out.cell 4).trans rfl
          have n5 := (N'.out.cell 5).trans rfl
          have n6 := (N'.out.cell 6).trans rfl
          have n7 := (N'.out.cell 7).trans rfl
          have n8 := (N'.out.cell 8).trans rfl
          have n9 := (N'.out.cell 9).trans rfl
          have n10 := (N'.out.cell 10).trans rfl
          have n11 := (N'.out.cell 11).trans rfl
          have n12 := (N'.out.cell 12).trans rfl
          have n13 := (N'.out.cell 13).trans rfl
          have B := Lib.hid B'.out
          have N := Lib.hid N'.out
          have M := Lib.hid M'.out
          clear B' N' M'
          go_wp2_with fail
          refine (HPA.out _ _).mono ?_
          rintro e w' ⟨rfl, hb⟩
          rw [HVP.out]
          have B' := Lib.hid (B.out.trans (hb.mono B.out.size))
          have N' := Lib.hid (N.out.below hb N.out.lt)
          have M' := Lib.hid (M.out.below hb M.out.lt)
          clear hb B N M n0 n1 n2 n3 n4 n5 n6 n7 n8 n9 n10 n11 n12 n13
          have n0 := (N'.out.cell 0).trans rfl
          have n1 := (N'.out.cell 1).trans rfl
          have n2 := (N'.out.cell 2).trans rfl
          have n3 := (N'.out.cell 3).trans rfl
          have n4 := (N'.out.cell 4).trans rfl
          have n5 := (N'.out.cell 5).trans rfl
          have n6 := (N'.out.cell 6).trans rfl
          have n7 := (N'.out.cell 7).trans rfl
          have n8 := (N'.out.cell 8).trans rfl
          have n9 := (N'.out.cell 9).trans rfl
          have n10 := (N'.out.cell 10).trans rfl
          have n11 := (N'.out.cell 11).trans rfl
          have n12 := (N'.out.cell 12).trans rfl
          have n13 := (N'.out.cell 13).trans rfl
          have B := Lib.hid B'.out
          have N := Lib.hid N'.out
          have M := Lib.hid M'.out
          clear B' N' M'
          go_wp2_with (refine wpList_store (.tmp 2) (.tmp 76) 26 rfl rfl (w.heap.size + 1) 0 _ _ #[.int .i64 2, .int .i64 n, .int .i64 s, .int .i64 r, .int .i64 nd, .int .i64 p, .int .i64 q, .int .i64 0, .int .i64 0, .int .i64 0, .int .i64 0, .int .i64 0, .int .i64 0, .float .f64 0] rfl rfl M.out (by kernel_rfl) (by simp [Value.oneCell']) (by simp) ?_)
          intro w7 hn7 ko7
          have h7 : Blk w7 (w.heap.size + 1) 26 #[.int .i64 2, .int .i64 n, .int .i64 s, .int .i64 r, .int .i64 nd, .int .i64 p, .int .i64 q, .int .i64 0, .int .i64 0, .int .i64 0, .int .i64 0, .int .i64 0, .int .i64 0, .float .f64 0] := hn7
          have q0 := (h7.cell 0).trans rfl
          have q1 := (h7.cell 1).trans rfl
          have q2 := (h7.cell 2).trans rfl
          have q3 := (h7.cell 3).trans rfl
          have q4 := (h7.cell 4).trans rfl
          have q5 := (h7.cell 5).trans rfl
          have q6 := (h7.cell 6).trans rfl
          have q7 := (h7.cell 7).trans rfl
          have q8 := (h7.cell 8).trans rfl
          have q9 := (h7.cell 9).trans rfl
          have q10 := (h7.cell 10).trans rfl
          have q11 := (h7.cell 11).trans rfl
          have q12 := (h7.cell 12).trans rfl
          have q13 := (h7.cell 13).trans rfl
          go_wp2_with fail
          refine bodyPost_ret (v := .tuple #[.agg #[.int .i64 2, .int .i64 n, .int .i64 s, .int .i64 r, .int .i64 nd, .int .i64 p, .int .i64 q, .int .i64 0, .int .i64 0, .int .i64 0, .int .i64 0, .int .i64 0, .int .i64 0, .float .f64 0], .bool false]) (by simp [results, Tryz.results23, go_sem, q0, q1, q2, q3, q4, q5, q6, q7, q8, q9, q10, q11, q12, q13]) rfl ?_
          exact ⟨by rw [HPV.out, HOV.out] <;> rfl, B.out.trans (ko7.below (Nat.le_succ _))⟩
        · rw [hvP] at HOV
          have HVP := Lib.hid hvP
          clear hvP
          cases hvQ : inR q 1 2
          · rw [hvQ] at HOV
            have HVQ := Lib.hid hvQ
            clear hvQ
            have B := Lib.hid (below_alloc (below_alloc1 w (.cells #[.int .i64 2, .int .i64 n, .int .i64 s, .int .i64 r, .int .i64 nd, .int .i64 p, .int .i64 q, .int .i64 o, .int .i64 d, .int .i64 pa, .int .i64 st, .int .i64 hw, .int .i64 dc, .float .f64 x] 26)) (.cells #[.int .i64 0, .int .i64 0, .int .i64 0, .int .i64 0, .int .i64 0, .int .i64 0, .int .i64 0, .int .i64 0, .int .i64 0, .int .i64 0, .int .i64 0, .int .i64 0, .int .i64 0, .float .f64 0] 26))
            have N := Lib.hid ((Blk.new w 26 #[.int .i64 2, .int .i64 n, .int .i64 s, .int .i64 r, .int .i64 nd, .int .i64 p, .int .i64 q, .int .i64 o, .int .i64 d, .int .i64 pa, .int .i64 st, .int .i64 hw, .int .i64 dc, .float .f64 x]).alloc (.cells #[.int .i64 0, .int .i64 0, .int .i64 0, .int .i64 0, .int .i64 0, .int .i64 0, .int .i64 0, .int .i64 0, .int .i64 0, .int .i64 0, .int .i64 0, .int .i64 0, .int .i64 0, .float .f64 0] 26))
            have M := Lib.hid (show Blk ((w.alloc (.cells #[.int .i64 2, .int .i64 n, .int .i64 s, .int .i64 r, .int .i64 nd, .int .i64 p, .int .i64 q, .int .i64 o, .int .i64 d, .int .i64 pa, .int .i64 st, .int .i64 hw, .int .i64 dc, .float .f64 x] 26)).alloc (.cells #[.int .i64 0, .int .i64 0, .int .i64 0, .int .i64 0, .int .i64 0, .int .i64 0, .int .i64 0, .int .i64 0, .int .i64 0, .int .i64 0, .int .i64 0, .int .i64 0, .int .i64 0, .float .f64 0] 26)) (w.heap.size + 1) 26 #[.int .i64 0, .int .i64 0, .int .i64 0, .int .i64 0, .int .i64 0, .int .i64 0, .int .i64 0, .int .i64 0, .int .i64 0, .int .i64 0, .int .i64 0, .int .i64 0, .int .i64 0, .float .f64 0] from by
              have := Blk.new (w.alloc (.cells #[.int .i64 2, .int .i64 n, .int .i64 s, .int .i64 r, .int .i64 nd, .int .i64 p, .int .i64 q, .int .i64 o, .int .i64 d, .int .i64 pa, .int .i64 st, .int .i64 hw, .int .i64 dc, .float .f64 x] 26)) 26 #[.int .i64 0, .int .i64 0, .int .i64 0, .int .i64 0, .int .i64 0, .int .i64 0, .int .i64 0, .int .i64 0, .int .i64 0, .int .i64 0, .int .i64 0, .int .i64 0, .int .i64 0, .float .f64 0]
              rwa [World.size_alloc] at this)
            have n0 := (N.out.cell 0).trans rfl
            have n1 := (N.out.cell 1).trans rfl
            have n2 := (N.out.cell 2).trans rfl
            have n3 := (N.out.cell 3).trans rfl
            have n4 := (N.out.cell 4).trans rfl
            have n5 := (N.out.cell 5).trans rfl
            have n6 := (N.out.cell 6).trans rfl
            have n7 := (N.out.cell 7).trans rfl
            have n8 := (N.out.cell 8).trans rfl
            have n9 := (N.out.cell 9).trans rfl
            have n10 := (N.out.cell 10).trans rfl
            have n11 := (N.out.cell 11).trans rfl
            have n12 := (N.out.cell 12).trans rfl
            have n13 := (N.out.cell 13).trans rfl
            unfold fctV fctA
            simp only
            go_enter Tryz.func23, Tryz.ntmps23
            go_wp2_with fail
            refine (HID.out _ (HG.out _ B.out)).mono ?_
            rintro e w' ⟨rfl, hb⟩
            rw [HVA.out]
            have B' := Lib.hid (B.out.trans (hb.mono B.out.size))
            have N' := Lib.hid (N.out.below hb N.out.lt)
            have M' := Lib.hid (M.out.below hb M.out.lt)
            clear hb B N M n0 n1 n2 n3 n4 n5 n6 n7 n8 n9 n10 n11 n12 n13
            have n0 := (N'.out.cell 0).trans rfl
            have n1 := (N'.out.cell 1).trans rfl
            have n2 := (N'.out.cell 2).trans rfl
            have n3 := (N'.out.cell 3).trans rfl
            have n4 := (N'.out.cell 4).trans rfl
            have n5 := (N'.out.cell 5).trans rfl
            have n6 := (N'.out.cell 6).trans rfl
            have n7 := (N'.out.cell 7).trans rfl
            have n8 := (N'.out.cell 8).trans rfl
            have n9 := (N'.out.cell 9).trans rfl
            have n10 := (N'.out.cell 10).trans rfl
            have n11 := (N'.out.cell 11).trans rfl
            have n12 := (N'.out.cell 12).trans rfl
            have n13 := (N'.out.cell 13).trans rfl
            have B := Lib.hid B'.out
            have N := Lib.hid N'.out
            have M := Lib.hid M'.out
            clear B' N' M'
            go_wp2_with fail
            refine (HRG.out _ _).mono ?_
            rintro e w' ⟨rfl, hb⟩
            rw [HVR.out]
            have B' := Lib.hid (B.out.trans (hb.mono B.out.size))
            have N' := Lib.hid (N.out.below hb N.out.lt)
            have M' := Lib.hid (M.out.below hb M.out.lt)
            clear hb B N M n0 n1 n2 n3 n4 n5 n6 n7 n8 n9 n10 n11 n12 n13
            have n0 := (N'.out.cell 0).trans rfl
            have n1 := (N'.out.cell 1).trans rfl
            have n2 := (N'.out.cell 2).trans rfl
            have n3 := (N'.out.cell 3).trans rfl
            have n4 := (N'.out.cell 4).trans rfl
            have n5 := (N'.out.cell 5).trans rfl
            have n6 := (N'.out.cell 6).trans rfl
            have n7 := (N'.out.cell 7).trans rfl
            have n8 := (N'.out.cell 8).trans rfl
            have n9 := (N'.out.cell 9).trans rfl
            have n10 := (N'.out.cell 10).trans rfl
            have n11 := (N'.out.cell 11).trans rfl
            have n12 := (N'.out.cell 12).trans rfl
            have n13 := (N'.out.cell 13).trans rfl
            have B := Lib.hid B'.out
            have N := Lib.hid N'.out
            have M := Lib.hid M'.out
            clear B' N' M'
            go_wp2_with fail
            refine (HWI.out _ _ _ _).mono ?_
            rintro e w' ⟨rfl, hb⟩
            rw [HVND.out]
            have B' := Lib.hid (B.out.trans (hb.mono B.out.size))
            have N' := Lib.hid (N.out.below hb N.out.lt)
            have M' := Lib.hid (M.out.below hb M.out.lt)
            clear hb B N M n0 n1 n2 n3 n4 n5 n6 n7 n8 n9 n10 n11 n12 n13
            have n0 := (N'.out.cell 0).trans rfl
            have n1 := (N'.out.cell 1).trans rfl
            have n2 := (N'.out.cell 2).trans rfl
            have n3 := (N'.out.cell 3).trans rfl
            have n4 := (N'.out.cell 4).trans rfl
            have n5 := (N'.out.cell 5).trans rfl
            have n6 := (N'.out.cell 6).trans rfl
            have n7 := (N'.out.cell 7).trans rfl
            have n8 := (N'.out.cell 8).trans rfl
            have n9 := (N'.out.cell 9).trans rfl
            have n10 := (N'.out.cell 10).trans rfl
            have n11 := (N'.out.cell 11).trans rfl
            have n12 := (N'.out.cell 12).trans rfl
            have n13 := (N'.out.cell 13).trans rfl
            have B := Lib.hid B'.out
            have N := Lib.hid N'.out
            have M := Lib.hid M'.out
            clear B' N' M'
            go_wp2_with fail
            refine (HPA.out _ _).mono ?_
            rintro e w' ⟨rfl, hb⟩
            rw [HVP.out]
            have B' := Lib.hid (B.out.trans (hb.mono B.out.size))
            have N' := Lib.hid (N.out.below hb N.out.lt)
            have M' := Lib.hid (M.out.below hb M.out.lt)
            clear hb B N M n0 n1 n2 n3 n4 n5 n6 n7 n8 n9 n10 n11 n12 n13
            have n0 := (N'.out.cell 0).trans rfl
            have n1 := (N'.out.cell 1).trans rfl
            have n2 := (N'.out.cell 2).trans rfl
            have n3 := (N'.out.cell 3).trans rfl
            have n4 := (N'.out.cell 4).trans rfl
            have n5 := (N'.out.cell 5).trans rfl
            have n6 := (N'.out.cell 6).trans rfl
            have n7 := (N'.out.cell 7).trans rfl
            have n8 := (N'.out.cell 8).trans rfl
            have n9 := (N'.out.cell 9).trans rfl
            have n10 := (N'.out.cell 10).trans rfl
            have n11 := (N'.out.cell 11).trans rfl
            have n12 := (N'.out.cell 12).trans rfl
            have n13 := (N'.out.cell 13).trans rfl
            have B := Lib.hid B'.out
            have N := Lib.hid N'.out
            have M := Lib.hid M'.out
            clear B' N' M'
            go_wp2_with fail
            refine (HWI.out _ _ _ _).mono ?_
            rintro e w' ⟨rfl, hb⟩
            rw [HVQ.out]
            have B' := Lib.hid (B.out.trans (hb.mono B.out.size))
            have N' := Lib.hid (N.out.below hb N.out.lt)
            have M' := Lib.hid (M.out.below hb M.out.lt)
            clear hb B N M n0 n1 n2 n3 n4 n5 n6 n7 n8 n9 n10 n11 n12 n13
            have n0 := (N'.out.cell 0).trans rfl
            have n1 := (N'.out.cell 1).trans rfl
            have n2 := (N'.out.cell 2).trans rfl
            have n3 := (N'.out.cell 3).trans rfl
            have n4 := (N'.out.cell 4).trans rfl
            have n5 := (N'.out.cell 5).trans rfl
            have n6 := (N'.out.cell 6).trans rfl
            have n7 := (N'.out.cell 7).trans rfl
            have n8 := (N'.out.cell 8).trans rfl
            have n9 := (N'.out.cell 9).trans rfl
            have n10 := (N'.out.cell 10).trans rfl
            have n11 := (N'.out.cell 11).trans rfl
            have n12 := (N'.out.cell 12).trans rfl
            have n13 := (N'.out.cell 13).trans rfl
            have B := Lib.hid B'.out
            have N := Lib.hid N'.out
            have M := Lib.hid M'.out
            clear B' N' M'
            go_wp2_with (refine wpList_store (.tmp 2) (.tmp 76) 26 rfl rfl (w.heap.size + 1) 0 _ _ #[.int .i64 2, .int .i64 n, .int .i64 s, .int .i64 r, .int .i64 nd, .int .i64 p, .int .i64 q, .int .i64 0, .int .i64 0, .int .i64 0, .int .i64 0, .int .i64 0, .int .i64 0, .float .f64 0] rfl rfl M.out (by kernel_rfl) (by simp [Value.oneCell']) (by simp) ?_)
            intro w7 hn7 ko7
            have h7 : Blk w7 (w.heap.size + 1) 26 #[.int .i64 2, .int .i64 n, .int .i64 s, .int .i64 r, .int .i64 nd, .int .i64 p, .int .i64 q, .int .i64 0, .int .i64 0, .int .i64 0, .int .i64 0, .int .i64 0, .int .i64 0, .float .f64 0] := hn7
            have q0 := (h7.cell 0).trans rfl
            have q1 := (h7.cell 1).trans rfl
            have q2 := (h7.cell 2).trans rfl
            have q3 := (h7.cell 3).trans rfl
            have q4 := (h7.cell 4).trans rfl
            have q5 := (h7.cell 5).trans rfl
            have q6 := (h7.cell 6).trans rfl
            have q7 := (h7.cell 7).trans rfl
            have q8 := (h7.cell 8).trans rfl
            have q9 := (h7.cell 9).trans rfl
            have q10 := (h7.cell 10).trans rfl
            have q11 := (h7.cell 11).trans rfl
            have q12 := (h7.cell 12).trans rfl
            have q13 := (h7.cell 13).trans rfl
            go_wp2_with fail
            refine bodyPost_ret (v := .tuple #[.agg #[.int .i64 2, .int .i64 n, .int .i64 s, .int .i64 r, .int .i64 nd, .int .i64 p, .int .i64 q, .int .i64 0, .int .i64 0, .int .i64 0, .int .i64 0, .int .i64 0, .int .i64 0, .float .f64 0], .bool false]) (by simp [results, Tryz.results23, go_sem, q0, q1, q2, q3, q4, q5, q6, q7, q8, q9, q10, q11, q12, q13]) rfl ?_
            exact ⟨by rw [HPV.out, HOV.out] <;> rfl, B.out.trans (ko7.below (Nat.le_succ _))⟩
          · rw [hvQ] at HOV
            have HVQ := Lib.hid hvQ
            clear hvQ
            have B := Lib.hid (below_alloc (below_alloc1 w (.cells #[.int .i64 2, .int .i64 n, .int .i64 s, .int .i64 r, .int .i64 nd, .int .i64 p, .int .i64 q, .int .i64 o, .int .i64 d, .int .i64 pa, .int .i64 st, .int .i64 hw, .int .i64 dc, .float .f64 x] 26)) (.cells #[.int .i64 0, .int .i64 0, .int .i64 0, .int .i64 0, .int .i64 0, .int .i64 0, .int .i64 0, .int .i64 0, .int .i64 0, .int .i64 0, .int .i64 0, .int .i64 0, .int .i64 0, .float .f64 0] 26))
            have N := Lib.hid ((Blk.new w 26 #[.int .i64 2, .int .i64 n, .int .i64 s, .int .i64 r, .int .i64 nd, .int .i64 p, .int .i64 q, .int .i64 o, .int .i64 d, .int .i64 pa, .int .i64 st, .int .i64 hw, .int .i64 dc, .float .f64 x]).alloc (.cells #[.int .i64 0, .int .i64 0, .int .i64 0, .int .i64 0, .int .i64 0, .int .i64 0, .int .i64 0, .int .i64 0, .int .i64 0, .int .i64 0, .int .i64 0, .int .i64 0, .int .i64 0, .float .f64 0] 26))
            have M := Lib.hid (show Blk ((w.alloc (.cells #[.int .i64 2, .int .i64 n, .int .i64 s, .int .i64 r, .int .i64 nd, .int .i64 p, .int .i64 q, .int .i64 o, .int .i64 d, .int .i64 pa, .int .i64 st, .int .i64 hw, .int .i64 dc, .float .f64 x] 26)).alloc (.cells #[.int .i64 0, .int .i64 0, .int .i64 0, .int .i64 0, .int .i64 0, .int .i64 0, .int .i64 0, .int .i64 0, .int .i64 0, .int .i64 0, .int .i64 0, .int .i64 0, .int .i64 0, .float .f64 0] 26)) (w.heap.size + 1) 26 #[.int .i64 0, .int .i64 0, .int .i64 0, .int .i64 0, .int .i64 0, .int .i64 0, .int .i64 0, .int .i64 0, .int .i64 0, .int .i64 0, .int .i64 0, .int .i64 0, .int .i64 0, .float .f64 0] from by
              have := Blk.new (w.alloc (.cells #[.int .i64 2, .int .i64 n, .int .i64 s, .int .i64 r, .int .i64 nd, .int .i64 p, .int .i64 q, .int .i64 o, .int .i64 d, .int .i64 pa, .int .i64 st, .int .i64 hw, .int .i64 dc, .float .f64 x] 26)) 26 #[.int .i64 0, .int .i64 0, .int .i64 0, .int .i64 0, .int .i64 0, .int .i64 0, .int .i64 0, .int .i64 0, .int .i64 0, .int .i64 0, .int .i64 0, .int .i64 0, .int .i64 0, .float .f64 0]
              rwa [World.size_alloc] at this)
            have n0 := (N.out.cell 0).trans rfl
            have n1 := (N.out.cell 1).trans rfl
            have n2 := (N.out.cell 2).trans rfl
            have n3 := (N.out.cell 3).trans rfl
            have n4 := (N.out.cell 4).trans rfl
            have n5 := (N.out.cell 5).trans rfl
            have n6 := (N.out.cell 6).trans rfl
            have n7 := (N.out.cell 7).trans rfl
            have n8 := (N.out.cell 8).trans rfl
            have n9 := (N.out.cell 9).trans rfl
            have n10 := (N.out.cell 10).trans rfl
            have n11 := (N.out.cell 11).trans rfl
            have n12 := (N.out.cell 12).trans rfl
            have n13 := (N.out.cell 13).trans rfl
            unfold fctV fctA
            simp only
            go_enter Tryz.func23, Tryz.ntmps23
            go_wp2_with fail
            refine (HID.out _ (HG.out _ B.out)).mono ?_
            rintro e w' ⟨rfl, hb⟩
            rw [HVA.out]
            have B' := Lib.hid (B.out.trans (hb.mono B.out.size))
            have N' := Lib.hid (N.out.below hb N.out.lt)
            have M' := Lib.hid (M.out.below hb M.out.lt)
            clear hb B N M n0 n1 n2 n3 n4 n5 n6 n7 n8 n9 n10 n11 n12 n13
            have n0 := (N'.out.cell 0).trans rfl
            have n1 := (N'.out.cell 1).trans rfl
            have n2 := (N'.out.cell 2).trans rfl
            have n3 := (N'.out.cell 3).trans rfl
            have n4 := (N'.out.cell 4).trans rfl
            have n5 := (N'.out.cell 5).trans rfl
            have n6 := (N'.out.cell 6).trans rfl
            have n7 := (N'.out.cell 7).trans rfl
            have n8 := (N'.out.cell 8).trans rfl
            have n9 := (N'.out.cell 9).trans rfl
            have n10 := (N'.out.cell 10).trans rfl
            have n11 := (N'.out.cell 11).trans rfl
            have n12 := (N'.out.cell 12).trans rfl
            have n13 := (N'.out.cell 13).trans rfl
            have B := Lib.hid B'.out
            have N := Lib.hid N'.out
            have M := Lib.hid M'.out
            clear B' N' M'
            go_wp2_with fail
            refine (HRG.out _ _).mono ?_
            rintro e w' ⟨rfl, hb⟩
            rw [HVR.out]
            have B' := Lib.hid (B.out.trans (hb.mono B.out.size))
            have N' := Lib.hid (N.out.below hb N.out.lt)
            have M' := Lib.hid (M.out.below hb M.out.lt)
            clear hb B N M n0 n1 n2 n3 n4 n5 n6 n7 n8 n9 n10 n11 n12 n13
            have n0 := (N'.out.cell 0).trans rfl
            have n1 := (N'.out.cell 1).trans rfl
            have n2 := (N'.out.cell 2).trans rfl
            have n3 := (N'.out.cell 3).trans rfl
            have n4 := (N'.out.cell 4).trans rfl
            have n5 := (N'.out.cell 5).trans rfl
            have n6 := (N'.out.cell 6).trans rfl
            have n7 := (N'.out.cell 7).trans rfl
            have n8 := (N'.out.cell 8).trans rfl
            have n9 := (N'.out.cell 9).trans rfl
            have n10 := (N'.out.cell 10).trans rfl
            have n11 := (N'.out.cell 11).trans rfl
            have n12 := (N'.out.cell 12).trans rfl
            have n13 := (N'.out.cell 13).trans rfl
            have B := Lib.hid B'.out
            have N := Lib.hid N'.out
            have M := Lib.hid M'.out
            clear B' N' M'
            go_wp2_with fail
            refine (HWI.out _ _ _ _).mono ?_
            rintro e w' ⟨rfl, hb⟩
            rw [HVND.out]
            have B' := Lib.hid (B.out.trans (hb.mono B.out.size))
            have N' := Lib.hid (N.out.below hb N.out.lt)
            have M' := Lib.hid (M.out.below hb M.out.lt)
            clear hb B N M n0 n1 n2 n3 n4 n5 n6 n7 n8 n9 n10 n11 n12 n13
            have n0 := (N'.out.cell 0).trans rfl
            have n1 := (N'.out.cell 1).trans rfl
            have n2 := (N'.out.cell 2).trans rfl
            have n3 := (N'.out.cell 3).trans rfl
            have n4 := (N'.out.cell 4).trans rfl
            have n5 := (N'.out.cell 5).trans rfl
            have n6 := (N'.out.cell 6).trans rfl
            have n7 := (N'.out.cell 7).trans rfl
            have n8 := (N'.out.cell 8).trans rfl
            have n9 := (N'.out.cell 9).trans rfl
            have n10 := (N'.out.cell 10).trans rfl
            have n11 := (N'.out.cell 11).trans rfl
            have n12 := (N'.out.cell 12).trans rfl
            have n13 := (N'.out.cell 13).trans rfl
            have B := Lib.hid B'.out
            have N := Lib.hid N'.out
            have M := Lib.hid M'.out
            clear B' N' M'
            go_wp2_with fail
            refine (HPA.out _ _).mono ?_
            rintro e w' ⟨rfl, hb⟩
            rw [HVP.out]
            have B' := Lib.hid (B.out.trans (hb.mono B.out.size))
            have N' := Lib.hid (N.out.below hb N.out.lt)
            have M' := Lib.hid (M.out.below hb M.out.lt)
            clear hb B N M n0 n1 n2 n3 n4 n5 n6 n7 n8 n9 n10 n11 n12 n13
            have n0 := (N'.out.cell 0).trans rfl
            have n1 := (N'.out.cell 1).trans rfl
            have n2 := (N'.out.cell 2).trans rfl
            have n3 := (N'.out.cell 3).trans rfl
            have n4 := (N'.out.cell 4).trans rfl
            have n5 := (N'.out.cell 5).trans rfl
            have n6 := (N'.out.cell 6).trans rfl
            have n7 := (N'.out.cell 7).trans rfl
            have n8 := (N'.out.cell 8).trans rfl
            have n9 := (N'.out.cell 9).trans rfl
            have n10 := (N'.out.cell 10).trans rfl
            have n11 := (N'.out.cell 11).trans rfl
            have n12 := (N'.out.cell 12).trans rfl
            have n13 := (N'.out.cell 13).trans rfl
            have B := Lib.hid B'.out
            have N := Lib.hid N'.out
            have M := Lib.hid M'.out
            clear B' N' M'
            go_wp2_with fail
            refine (HWI.out _ _ _ _).mono ?_
            rintro e w' ⟨rfl, hb⟩
            rw [HVQ.out]
            have B' := Lib.hid (B.out.trans (hb.mono B.out.size))
            have N' := Lib.hid (N.out.below hb N.out.lt)
            have M' := Lib.hid (M.out.below hb M.out.lt)
            clear hb B N M n0 n1 n2 n3 n4 n5 n6 n7 n8 n9 n10 n11 n12 n13
            have n0 := (N'.out.cell 0).trans rfl
            have n1 := (N'.out.cell 1).trans rfl
            have n2 := (N'.out.cell 2).trans rfl
            have n3 := (N'.out.cell 3).trans rfl
            have n4 := (N'.out.cell 4).trans rfl
            have n5 := (N'.out.cell 5).trans rfl
            have n6 := (N'.out.cell 6).trans rfl
            have n7 := (N'.out.cell 7).trans rfl
            have n8 := (N'.out.cell 8).trans rfl
            have n9 := (N'.out.cell 9).trans rfl
            have n10 := (N'.out.cell 10).trans rfl
            have n11 := (N'.out.cell 11).trans rfl
            have n12 := (N'.out.cell 12).trans rfl
            have n13 := (N'.out.cell 13).trans rfl
            have B := Lib.hid B'.out
            have N := Lib.hid N'.out
            have M := Lib.hid M'.out
            clear B' N' M'
            go_wp2_with (refine wpList_store (.tmp 2) (.tmp 76) 26 rfl rfl (w.heap.size + 1) 0 _ _ #[.int .i64 2, .int .i64 n, .int .i64 s, .int .i64 r, .int .i64 nd, .int .i64 p, .int .i64 q, .int .i64 0, .int .i64 0, .int .i64 0, .int .i64 0, .int .i64 0, .int .i64 0, .float .f64 0] rfl rfl M.out (by kernel_rfl) (by simp [Value.oneCell']) (by simp) ?_)
            intro w7 hn7 ko7
            have h7 : Blk w7 (w.heap.size + 1) 26 #[.int .i64 2, .int .i64 n, .int .i64 s, .int .i64 r, .int .i64 nd, .int .i64 p, .int .i64 q, .int .i64 0, .int .i64 0, .int .i64 0, .int .i64 0, .int .i64 0, .int .i64 0, .float .f64 0] := hn7
            have q0 := (h7.cell 0).trans rfl
            have q1 := (h7.cell 1).trans rfl
            have q2 := (h7.cell 2).trans rfl
            have q3 := (h7.cell 3).trans rfl
            have q4 := (h7.cell 4).trans rfl
            have q5 := (h7.cell 5).trans rfl
            have q6 := (h7.cell 6).trans rfl
            have q7 := (h7.cell 7).trans rfl
            have q8 := (h7.cell 8).trans rfl
            have q9 := (h7.cell 9).trans rfl
            have q10 := (h7.cell 10).trans rfl
            have q11 := (h7.cell 11).trans rfl
            have q12 := (h7.cell 12).trans rfl
            have q13 := (h7.cell 13).trans rfl
            go_wp2_with fail
            refine bodyPost_ret (v := .tuple #[.agg #[.int .i64 2, .int .i64 n, .int .i64 s, .int .i64 r, .int .i64 nd, .int .i64 p, .int .i64 q, .int .i64 0, .int .i64 0, .int .i64 0, .int .i64 0, .int .i64 0, .int .i64 0, .float .f64 0], .bool true]) (by simp [results, Tryz.results23, go_sem, q0, q1, q2, q3, q4, q5, q6, q7, q8, q9, q10, q11, q12, q13]) rfl ?_
            exact ⟨by rw [HPV.out, HOV.out] <;> rfl, B.out.trans (ko7.below (Nat.le_succ _))⟩
end Go.Proofs.YtjklcbdlfmmllaaGreatDoor
