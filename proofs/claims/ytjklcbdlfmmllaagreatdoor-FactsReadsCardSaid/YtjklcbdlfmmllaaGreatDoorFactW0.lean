/-
  FactW0: a fact with its kind's fields alone.
-/
import Derived.Test.YtjklcbdlfmmllaaGreatDoorFactW1
import Derived.Test.YtjklcbdlfmmllaaGreatDoorFactW2
import Derived.Test.YtjklcbdlfmmllaaGreatDoorFactW3
import Derived.Test.YtjklcbdlfmmllaaGreatDoorFactW4
import Derived.Test.YtjklcbdlfmmllaaGreatDoorFactW5
import Derived.Test.YtjklcbdlfmmllaaGreatDoorFactW6
import Derived.Test.YtjklcbdlfmmllaaGreatDoorFactW7
import Derived.Test.YtjklcbdlfmmllaaGreatDoorFactW8
namespace Go.Proofs.YtjklcbdlfmmllaaGreatDoor
open Go.RowKit Go.Extern.Stop Go.Stop Go.Extern Ieee
attribute [local go_sem] flt_def fgt_def feq_def fne_def
attribute [local go_sem] run_store_flt

set_option maxRecDepth 20000 in
set_option maxHeartbeats 8000000 in
theorem plain0_any (k n s r nd p q o d pa st hw dc : Int) (x : Nat) (hn : -9223372036854775808 ≤ n) (hs : -9223372036854775808 ≤ s) (hx : x < 18446744073709551616) (hk1 : ¬ k = 1) (hk2 : ¬ k = 2) (hk3 : ¬ k = 3) (hk4 : ¬ k = 4) (hk5 : ¬ k = 5) (hk6 : ¬ k = 6) (hk7 : ¬ k = 7) (hk8 : ¬ k = 8) (w : World) (E : Nat → Addr) (h : IdsG w E) :
    Calls Tryz.prog 23 #[fctV ⟨k, n, s, r, nd, p, q, o, d, pa, st, hw, dc, x⟩] w fun e w' => e = .returned (.tuple #[fctV (plainP ⟨k, n, s, r, nd, p, q, o, d, pa, st, hw, dc, x⟩), .bool (plainO ⟨k, n, s, r, nd, p, q, o, d, pa, st, hw, dc, x⟩)]) ∧ Below w.heap.size w w' := by
  have HG := Lib.hid (fun w' (hb : Below w.heap.size w w') => h.below hb)
  have HID0 := Lib.hid (fun w' h => right_any w' E n s hn hs h)
  unfold actV at HID0
  have HID : RowKit.Hid (∀ w' : World, IdsG w' E → Calls Tryz.prog 51 #[.agg #[.int .i64 n, .int .i64 s]] w' fun e w'' => e = .returned (.bool (actB n s)) ∧ Below w'.heap.size w' w'') := Lib.hid HID0.out
  have HSC := Lib.hid (fun w' h => sright_any n s o d x hn hs hx w' E h)
  have HWI := Lib.hid within_any
  have HRG := Lib.hid isreg_any
  have HPA := Lib.hid ispart_any
  have HST := Lib.hid isstate_any
  clear HID0 hn hs hx h
  have HPV := Lib.hid (show plainP ⟨k, n, s, r, nd, p, q, o, d, pa, st, hw, dc, x⟩ = fct0 by unfold plainP; simp only [hk1, hk2, hk3, hk4, hk5, hk6, hk7, hk8, if_false])
  have HOV := Lib.hid (show plainO ⟨k, n, s, r, nd, p, q, o, d, pa, st, hw, dc, x⟩ = false by unfold plainO; simp only [hk1, hk2, hk3, hk4, hk5, hk6, hk7, hk8, if_false])
  have d1 : (k == 1) = false := by simpa using hk1
  have d2 : (k == 2) = false := by simpa using hk2
  have d3 : (k == 3) = false := by simpa using hk3
  have d4 : (k == 4) = false := by simpa using hk4
  have d5 : (k == 5) = false := by simpa using hk5
  have d6 : (k == 6) = false := by simpa using hk6
  have d7 : (k == 7) = false := by simpa using hk7
  have d8 : (k == 8) = false := by simpa using hk8
  clear hk1 hk2 hk3 hk4 hk5 hk6 hk7 hk8
  have B := Lib.hid (below_alloc (below_alloc1 w (.cells #[.int .i64 k, .int .i64 n, .int .i64 s, .int .i64 r, .int .i64 nd, .int .i64 p, .int .i64 q, .int .i64 o, .int .i64 d, .int .i64 pa, .int .i64 st, .int .i64 hw, .int .i64 dc, .float .f64 x] 26)) (.cells #[.int .i64 0, .int .i64 0, .int .i64 0, .int .i64 0, .int .i64 0, .int .i64 0, .int .i64 0, .int .i64 0, .int .i64 0, .int .i64 0, .int .i64 0, .int .i64 0, .int .i64 0, .float .f64 0] 26))
  have N := Lib.hid ((Blk.new w 26 #[.int .i64 k, .int .i64 n, .int .i64 s, .int .i64 r, .int .i64 nd, .int .i64 p, .int .i64 q, .int .i64 o, .int .i64 d, .int .i64 pa, .int .i64 st, .int .i64 hw, .int .i64 dc, .float .f64 x]).alloc (.cells #[.int .i64 0, .int .i64 0, .int .i64 0, .int .i64 0, .int .i64 0, .int .i64 0, .int .i64 0, .int .i64 0, .int .i64 0, .int .i64 0, .int .i64 0, .int .i64 0, .int .i64 0, .float .f64 0] 26))
  have M := Lib.hid (show Blk ((w.alloc (.cells #[.int .i64 k, .int .i64 n, .int .i64 s, .int .i64 r, .int .i64 nd, .int .i64 p, .int .i64 q, .int .i64 o, .int .i64 d, .int .i64 pa, .int .i64 st, .int .i64 hw, .int .i64 dc, .float .f64 x] 26)).alloc (.cells #[.int .i64 0, .int .i64 0, .int .i64 0, .int .i64 0, .int .i64 0, .int .i64 0, .int .i64 0, .int .i64 0, .int .i64 0, .int .i64 0, .int .i64 0, .int .i64 0, .int .i64 0, .float .f64 0] 26)) (w.heap.size + 1) 26 #[.int .i64 0, .int .i64 0, .int .i64 0, .int .i64 0, .int .i64 0, .int .i64 0, .int .i64 0, .int .i64 0, .int .i64 0, .int .i64 0, .int .i64 0, .int .i64 0, .int .i64 0, .float .f64 0] from by
    have := Blk.new (w.alloc (.cells #[.int .i64 k, .int .i64 n, .int .i64 s, .int .i64 r, .int .i64 nd, .int .i64 p, .int .i64 q, .int .i64 o, .int .i64 d, .int .i64 pa, .int .i64 st, .int .i64 hw, .int .i64 dc, .float .f64 x] 26)) 26 #[.int .i64 0, .int .i64 0, .int .i64 0, .int .i64 0, .int .i64 0, .int .i64 0, .int .i64 0, .int .i64 0, .int .i64 0, .int .i64 0, .int .i64 0, .int .i64 0, .int .i64 0, .float .f64 0]
    rwa [World.size_alloc] at this)
  have n0 := (N.out.cell 0).trans rfl
  have n1 := (N.out.cell 1).trans rfl
  have n2 := (N.out.cell 2).trans rfl
  have n3 := (N.out.cell 3).trans rfl
  have n4 := (N.out.cell 4).trans rfl
  have n5 := (N.out.cell 5).trans rfl
  have n6 := (N.out.cell 6).trans rfl
  have n7 := (N.out.cell 7).trans rfl
  have n8 := (N.out.cell 8).trans rfl
  have n9 := (N.out.cell 9).trans rfl
  have n10 := (N.out.cell 10).trans rfl
  have n11 := (N.out.cell 11).trans rfl
  have n12 := (N.out.cell 12).trans rfl
  have n13 := (N.out.cell 13).trans rfl
  unfold fctV fctA
  simp only
  go_enter Tryz.func23, Tryz.ntmps23
  go_wp2_with (refine wpList_store (.tmp 2) (.tmp 195) 26 rfl rfl (w.heap.size + 1) 0 _ _ #[.int .i64 0, .int .i64 0, .int .i64 0, .int .i64 0, .int .i64 0, .int .i64 0, .int .i64 0, .int .i64 0, .int .i64 0, .int .i64 0, .int .i64 0, .int .i64 0, .int .i64 0, .float .f64 0] rfl rfl M.out (by kernel_rfl) (by simp [Value.oneCell']) (by simp) ?_)
  intro w7 hn7 ko7
  have h7 : Blk w7 (w.heap.size + 1) 26 #[.int .i64 0, .int .i64 0, .int .i64 0, .int .i64 0, .int .i64 0, .int .i64 0, .int .i64 0, .int .i64 0, .int .i64 0, .int .i64 0, .int .i64 0, .int .i64 0, .int .i64 0, .float .f64 0] := hn7
  have q0 := (h7.cell 0).trans rfl
  have q1 := (h7.cell 1).trans rfl
  have q2 := (h7.cell 2).trans rfl
  have q3 := (h7.cell 3).trans rfl
  have q4 := (h7.cell 4).trans rfl
  have q5 := (h7.cell 5).trans rfl
  have q6 := (h7.cell 6).trans rfl
  have q7 := (h7.cell 7).trans rfl
  have q8 := (h7.cell 8).trans rfl
  have q9 := (h7.cell 9).trans rfl
  have q10 := (h7.cell 10).trans rfl
  have q11 := (h7.cell 11).trans rfl
  have q12 := (h7.cell 12).trans rfl
  have q13 := (h7.cell 13).trans rfl
  go_wp2_with fail
  refine bodyPost_ret (v := .tuple #[.agg #[.int .i64 0, .int .i64 0, .int .i64 0, .int .i64 0, .int .i64 0, .int .i64 0, .int .i64 0, .int .i64 0, .int .i64 0, .int .i64 0, .int .i64 0, .int .i64 0, .int .i64 0, .float .f64 0], .bool false]) (by simp [results, Tryz.results23, go_sem, q0, q1, q2, q3, q4, q5, q6, q7, q8, q9, q10, q11, q12, q13]) rfl ?_
  exact ⟨by rw [HPV.out, HOV.out] <;> rfl, B.out.trans (ko7.below (Nat.le_succ _))⟩
theorem factplain_any (f : Fct) (hf : f.wf) (w : World) (E : Nat → Addr) (h : IdsG w E) :
    Calls Tryz.prog 23 #[fctV f] w fun e w' => e = .returned (.tuple #[fctV (plainP f), .bool (plainO f)]) ∧ Below w.heap.size w w' := by
  have hn := (hf.1 f.n (by unfold Fct.l; simp)).1
  have hs := (hf.1 f.s (by unfold Fct.l; simp)).1
  have hx := hf.2
  clear hf
  obtain ⟨k, n, s, r, nd, p, q, o, d, pa, st, hw, dc, x⟩ := f
  simp only at hn hs hx
  by_cases hk1 : k = 1
  · subst hk1
    exact plain1_any n s r nd p q o d pa st hw dc x hn hs hx w E h
  by_cases hk2 : k = 2
  · subst hk2
    exact plain2_any n s r nd p q o d pa st hw dc x hn hs hx w E h
  by_cases hk3 : k = 3
  · subst hk3
    exact plain3_any n s r nd p q o d pa st hw dc x hn hs hx w E h
  by_cases hk4 : k = 4
  · subst hk4
    exact plain4_any n s r nd p q o d pa st hw dc x hn hs hx w E h
  by_cases hk5 : k = 5
  · subst hk5
    exact plain5_any n s r nd p q o d pa st hw dc x hn hs hx w E h
  by_cases hk6 : k = 6
  · subst hk6
    exact plain6_any n s r nd p q o d pa st hw dc x hn hs hx w E h
  by_cases hk7 : k = 7
  · subst hk7
    exact plain7_any n s r nd p q o d pa st hw dc x hn hs hx w E h
  by_cases hk8 : k = 8
  · subst hk8
    exact plain8_any n s r nd p q o d pa st hw dc x hn hs hx w E h
  exact plain0_any k n s r nd p q o d pa st hw dc x hn hs hx hk1 hk2 hk3 hk4 hk5 hk6 hk7 hk8 w E h
end Go.Proofs.YtjklcbdlfmmllaaGreatDoor
