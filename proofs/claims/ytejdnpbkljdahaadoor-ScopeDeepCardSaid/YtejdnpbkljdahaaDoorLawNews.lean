/-
  LawNews: the walk of ScopeNews.
-/
import Derived.Test.YtejdnpbkljdahaaDoorScopeL
import Derived.Test.YtejdnpbkljdahaaDoorScopeN2
import Derived.Test.YtejdnpbkljdahaaDoorScopeS
import Derived.Test.YtejdnpbkljdahaaDoorScopeC2
namespace Go.Proofs.YtejdnpbkljdahaaDoor
open Go.RowKit Go.Extern.Stop Go.Stop Go.Extern Ieee
attribute [local go_sem] flt_def fgt_def feq_def fne_def
attribute [local go_sem] run_store_flt

theorem sameC_refl (c : Ctx) : sameC c c = true := by unfold sameC; simp
theorem newE_le (n s o : Int) (now lasts : Nat) : newE n s o now lasts ≤ 14 := by unfold newE; split <;> (try split) <;> omega
theorem new_x (n s o : Int) (now lasts : Nat) : (newC n s o now lasts).x ≤ infR := by
  unfold newC
  split
  · rename_i h
    unfold newE at h
    split at h
    · split at h
      · exact addN_le _ _
      · cases h
    · cases h
  · exact Nat.zero_le _
theorem new_ok {n s o : Int} {now lasts : Nat} (h : newE n s o now lasts = 0) : newC n s o now lasts = ⟨n, s, o, 0, addN (plainN now) (plainN lasts)⟩ ∧ actB n s = true ∧ isOut o = true := by
  refine ⟨by unfold newC; exact if_pos h, ?_⟩
  unfold newE at h
  split at h
  · rename_i h1
    split at h
    · rename_i h2
      simp only [Bool.and_eq_true] at h2
      exact ⟨h1, h2.2⟩
    · cases h
  · cases h
theorem new_right {n s o : Int} {now lasts : Nat} (h : newE n s o now lasts = 0) : rightC (newC n s o now lasts) = true := by
  obtain ⟨h1, h2, h3⟩ := new_ok h
  have hx := new_x n s o now lasts
  unfold rightC
  rw [show okF (newC n s o now lasts).x = true from decide_eq_true hx, h1]
  show (true && actB n s && isOut o && (decide ((0 : Int) ≤ 0) && decide ((0 : Int) ≤ 3))) = true
  rw [h2, h3]
  rfl
set_option maxRecDepth 20000 in
set_option maxHeartbeats 4000000 in
theorem news_law (n s o : Int) (x y : Nat) (hn : -9223372036854775808 ≤ n) (hs : -9223372036854775808 ≤ s) (hx : x < 18446744073709551616) (hy : y < 18446744073709551616) (w : World) (E : Nat → Addr) (h : IdsG w E) :
    Calls Tryd.prog 3 #[.agg #[.int .i64 n, .int .i64 s], .int .i64 o, .agg #[.float .f64 x, .float .f64 y]] w fun e w' => e = .returned (.bool true) ∧ Below w.heap.size w w' := by
  have HG := Lib.hid (fun w' (hb : Below w.heap.size w w') => h.below hb)
  have HAL := Lib.hid (fun w' h => alive9_any w' E h)
  have HN := Lib.hid (fun w' h => snew_any n s o x y hn hs hx hy w' E h)
  have HM := Lib.hid (fun w' => rnew_any n s o x y hx hy w')
  have hle := newE_le n s o x y
  have HU := Lib.hid (fun w' h => num_any w' E (newE n s o x y) hle h)
  have hi := new_x n s o x y
  have hi' : (newC n s o x y).x < 18446744073709551616 := by unfold infR at hi; omega
  have HRR := Lib.hid (@new_right n s o x y)
  have HOK := Lib.hid (@new_ok n s o x y)
  have hrf := sameC_refl (newC n s o x y)
  unfold ctxV ctxA at HN HM
  have HSM := Lib.hid (fun w' => rsame_any (newC n s o x y).n (newC n s o x y).s (newC n s o x y).o (newC n s o x y).d (newC n s o x y).n (newC n s o x y).s (newC n s o x y).o (newC n s o x y).d (newC n s o x y).x (newC n s o x y).x hi' hi' w')
  have HRI := Lib.hid (fun h0 w' h => sright_any (newC n s o x y).n (newC n s o x y).s (newC n s o x y).o (newC n s o x y).d (newC n s o x y).x (by rw [(HOK.out h0).1]; exact hn) (by rw [(HOK.out h0).1]; exact hs) hi' w' E h)
  change sameC ⟨(newC n s o x y).n, (newC n s o x y).s, (newC n s o x y).o, (newC n s o x y).d, (newC n s o x y).x⟩ ⟨(newC n s o x y).n, (newC n s o x y).s, (newC n s o x y).o, (newC n s o x y).d, (newC n s o x y).x⟩ = true at hrf
  rw [hrf] at HSM
  have HRR' : newE n s o x y = 0 → rightC ⟨(newC n s o x y).n, (newC n s o x y).s, (newC n s o x y).o, (newC n s o x y).d, (newC n s o x y).x⟩ = true := HRR.out
  clear HOK hrf HRR hi hle
  generalize newC n s o x y = c at *
  generalize hq : newE n s o x y = q at *
  clear hq
  obtain ⟨z1, z2, z3, z4, z5⟩ := c
  simp only at HN HM HSM HRI HRR' hi'
  clear hi' hn hs hx hy h
  have hb1 := below_alloc (below_alloc1 w (.cells #[.int .i64 n, .int .i64 s] 23)) (.cells #[.float .f64 x, .float .f64 y] 26)
  have B := Lib.hid hb1
  have N := Lib.hid ((Blk.new w 23 #[.int .i64 n, .int .i64 s]).alloc (.cells #[.float .f64 x, .float .f64 y] 26))
  have T := Lib.hid (show Blk ((w.alloc (.cells #[.int .i64 n, .int .i64 s] 23)).alloc (.cells #[.float .f64 x, .float .f64 y] 26)) (w.heap.size + 1) 26 #[.float .f64 x, .float .f64 y] from by
    have := Blk.new (w.alloc (.cells #[.int .i64 n, .int .i64 s] 23)) 26 #[.float .f64 x, .float .f64 y]
    rwa [World.size_alloc] at this)
  have n0 := (N.out.cell 0).trans rfl
  have n1 := (N.out.cell 1).trans rfl
  have t0 := (T.out.cell 0).trans rfl
  have t1 := (T.out.cell 1).trans rfl
  clear hb1
  by_cases hq : q = 0
  · subst hq
    have hr := HRR' rfl
    have HRJ := Lib.hid (HRI.out rfl)
    rw [hr] at HRJ
    clear HRI
    rw [errV_zero] at HN HU
    clear hr HRR'
    go_enter Tryd.func3, Tryd.ntmps3
    go_wp2_with fail
    refine (HAL.out _ (HG.out _ B.out)).mono ?_
    rintro e w' ⟨rfl, hb⟩
    have B' := Lib.hid (B.out.trans (hb.mono B.out.size))
    have N' := Lib.hid (N.out.below hb N.out.lt)
    have T' := Lib.hid (T.out.below hb T.out.lt)
    clear hb B N T n0 n1 t0 t1
    have n0 := (N'.out.cell 0).trans rfl
    have n1 := (N'.out.cell 1).trans rfl
    have t0 := (T'.out.cell 0).trans rfl
    have t1 := (T'.out.cell 1).trans rfl
    have B := Lib.hid B'.out
    have N := Lib.hid N'.out
    have T := Lib.hid T'.out
    clear B' N' T'
    go_wp2_with fail
    refine (HN.out _ (HG.out _ B.out)).mono ?_
    rintro e w' ⟨hb, rfl⟩
    have B' := Lib.hid (B.out.trans (hb.mono B.out.size))
    have N' := Lib.hid (N.out.below hb N.out.lt)
    have T' := Lib.hid (T.out.below hb T.out.lt)
    clear hb B N T n0 n1 t0 t1
    have n0 := (N'.out.cell 0).trans rfl
    have n1 := (N'.out.cell 1).trans rfl
    have t0 := (T'.out.cell 0).trans rfl
    have t1 := (T'.out.cell 1).trans rfl
    have B := Lib.hid B'.out
    have N := Lib.hid N'.out
    have T := Lib.hid T'.out
    clear B' N' T'
    have M := Lib.hid (Blk.new w' 29 #[.int .i64 0, .int .i64 0, .int .i64 0, .int .i64 0, .float .f64 0])
    have N' := Lib.hid (N.out.alloc (.cells #[.int .i64 0, .int .i64 0, .int .i64 0, .int .i64 0, .float .f64 0] 29))
    have T' := Lib.hid (T.out.alloc (.cells #[.int .i64 0, .int .i64 0, .int .i64 0, .int .i64 0, .float .f64 0] 29))
    have B' := Lib.hid (below_alloc B.out (.cells #[.int .i64 0, .int .i64 0, .int .i64 0, .int .i64 0, .float .f64 0] 29))
    go_wp2_with (refine wpList_store (.tmp 7) (.tmp 21) 29 rfl rfl w'.heap.size 0 _ _ #[.int .i64 z1, .int .i64 z2, .int .i64 z3, .int .i64 z4, .float .f64 z5] rfl rfl M.out (by kernel_rfl) (by simp [Value.oneCell']) (by simp) ?_)
    intro w7 hn7 ko7
    have h7 : Blk w7 w'.heap.size 29 #[.int .i64 z1, .int .i64 z2, .int .i64 z3, .int .i64 z4, .float .f64 z5] := hn7
    have B7 := Lib.hid (B'.out.trans (ko7.below B.out.size))
    have N7 := Lib.hid (ko7.blk N'.out (Nat.ne_of_lt N.out.lt))
    have T7 := Lib.hid (ko7.blk T'.out (Nat.ne_of_lt T.out.lt))
    have H7 := Lib.hid h7
    clear hn7 ko7 h7 M B' B N' T' N T n0 n1 t0 t1
    generalize w'.heap.size = gc at *
    have n0 := (N7.out.cell 0).trans rfl
    have n1 := (N7.out.cell 1).trans rfl
    have t0 := (T7.out.cell 0).trans rfl
    have t1 := (T7.out.cell 1).trans rfl
    have c0 := (H7.out.cell 0).trans rfl
    have c1 := (H7.out.cell 1).trans rfl
    have c2 := (H7.out.cell 2).trans rfl
    have c3 := (H7.out.cell 3).trans rfl
    have c4 := (H7.out.cell 4).trans rfl
    have B := Lib.hid B7.out
    have N := Lib.hid N7.out
    have T := Lib.hid T7.out
    have C := Lib.hid H7.out
    clear B7 H7 N7 T7
    go_wp2_with fail
    refine (HM.out _).mono ?_
    rintro e w' ⟨hb, rfl⟩
    have B' := Lib.hid (B.out.trans (hb.mono B.out.size))
    have N' := Lib.hid (N.out.below hb N.out.lt)
    have T' := Lib.hid (T.out.below hb T.out.lt)
    have C' := Lib.hid (C.out.below hb C.out.lt)
    clear hb B N T C n0 n1 t0 t1 c0 c1 c2 c3 c4
    have n0 := (N'.out.cell 0).trans rfl
    have n1 := (N'.out.cell 1).trans rfl
    have t0 := (T'.out.cell 0).trans rfl
    have t1 := (T'.out.cell 1).trans rfl
    have c0 := (C'.out.cell 0).trans rfl
    have c1 := (C'.out.cell 1).trans rfl
    have c2 := (C'.out.cell 2).trans rfl
    have c3 := (C'.out.cell 3).trans rfl
    have c4 := (C'.out.cell 4).trans rfl
    have B := Lib.hid B'.out
    have N := Lib.hid N'.out
    have T := Lib.hid T'.out
    have C := Lib.hid C'.out
    clear B' N' T' C'
    have M := Lib.hid (Blk.new w' 29 #[.int .i64 0, .int .i64 0, .int .i64 0, .int .i64 0, .float .f64 0])
    have N' := Lib.hid (N.out.alloc (.cells #[.int .i64 0, .int .i64 0, .int .i64 0, .int .i64 0, .float .f64 0] 29))
    have T' := Lib.hid (T.out.alloc (.cells #[.int .i64 0, .int .i64 0, .int .i64 0, .int .i64 0, .float .f64 0] 29))
    have C' := Lib.hid (C.out.alloc (.cells #[.int .i64 0, .int .i64 0, .int .i64 0, .int .i64 0, .float .f64 0] 29))
    have B' := Lib.hid (below_alloc B.out (.cells #[.int .i64 0, .int .i64 0, .int .i64 0, .int .i64 0, .float .f64 0] 29))
    go_wp2_with (refine wpList_store (.tmp 9) (.tmp 31) 29 rfl rfl w'.heap.size 0 _ _ #[.int .i64 z1, .int .i64 z2, .int .i64 z3, .int .i64 z4, .float .f64 z5] rfl rfl M.out (by kernel_rfl) (by simp [Value.oneCell']) (by simp) ?_)
    intro w7 hn7 ko7
    have h7 : Blk w7 w'.heap.size 29 #[.int .i64 z1, .int .i64 z2, .int .i64 z3, .int .i64 z4, .float .f64 z5] := hn7
    have B7 := Lib.hid (B'.out.trans (ko7.below B.out.size))
    have N7 := Lib.hid (ko7.blk N'.out (Nat.ne_of_lt N.out.lt))
    have T7 := Lib.hid (ko7.blk T'.out (Nat.ne_of_lt T.out.lt))
    have C7 := Lib.hid (ko7.blk C'.out (Nat.ne_of_lt C.out.lt))
    have H7 := Lib.hid h7
    clear hn7 ko7 h7 M B' B N' T' C' N T C n0 n1 t0 t1 c0 c1 c2 c3 c4
    generalize w'.heap.size = gd at *
    have n0 := (N7.out.cell 0).trans rfl
    have n1 := (N7.out.cell 1).trans rfl
    have t0 := (T7.out.cell 0).trans rfl
    have t1 := (T7.out.cell 1).trans rfl
    have c0 := (C7.out.cell 0).trans rfl
    have c1 := (C7.out.cell 1).trans rfl
    have c2 := (C7.out.cell 2).trans rfl
    have c3 := (C7.out.cell 3).trans rfl
    have c4 := (C7.out.cell 4).trans rfl
    have d0 := (H7.out.cell 0).trans rfl
    have d1 := (H7.out.cell 1).trans rfl
    have d2 := (H7.out.cell 2).trans rfl
    have d3 := (H7.out.cell 3).trans rfl
    have d4 := (H7.out.cell 4).trans rfl
    have B := Lib.hid B7.out
    have N := Lib.hid N7.out
    have T := Lib.hid T7.out
    have C := Lib.hid C7.out
    have D := Lib.hid H7.out
    clear B7 H7 N7 T7 C7
    go_wp2_with fail
    refine (HSM.out _).mono ?_
    rintro e w' ⟨rfl, hb⟩
    have B' := Lib.hid (B.out.trans (hb.mono B.out.size))
    have N' := Lib.hid (N.out.below hb N.out.lt)
    have T' := Lib.hid (T.out.below hb T.out.lt)
    have C' := Lib.hid (C.out.below hb C.out.lt)
    have D' := Lib.hid (D.out.below hb D.out.lt)
    clear hb B N T C D n0 n1 t0 t1 c0 c1 c2 c3 c4 d0 d1 d2 d3 d4
    have n0 := (N'.out.cell 0).trans rfl
    have n1 := (N'.out.cell 1).trans rfl
    have t0 := (T'.out.cell 0).trans rfl
    have t1 := (T'.out.cell 1).trans rfl
    have c0 := (C'.out.cell 0).trans rfl
    have c1 := (C'.out.cell 1).trans rfl
    have c2 := (C'.out.cell 2).trans rfl
    have c3 := (C'.out.cell 3).trans rfl
    have c4 := (C'.out.cell 4).trans rfl
    have d0 := (D'.out.cell 0).trans rfl
    have d1 := (D'.out.cell 1).trans rfl
    have d2 := (D'.out.cell 2).trans rfl
    have d3 := (D'.out.cell 3).trans rfl
    have d4 := (D'.out.cell 4).trans rfl
    have B := Lib.hid B'.out
    have N := Lib.hid N'.out
    have T := Lib.hid T'.out
    have C := Lib.hid C'.out
    have D := Lib.hid D'.out
    clear B' N' T' C' D'
    go_wp2_with fail
    refine (HU.out _ (HG.out _ B.out).errs).mono ?_
    rintro e w' ⟨rfl, hb⟩
    have B' := Lib.hid (B.out.trans (hb.mono B.out.size))
    have N' := Lib.hid (N.out.below hb N.out.lt)
    have T' := Lib.hid (T.out.below hb T.out.lt)
    have C' := Lib.hid (C.out.below hb C.out.lt)
    have D' := Lib.hid (D.out.below hb D.out.lt)
    clear hb B N T C D n0 n1 t0 t1 c0 c1 c2 c3 c4 d0 d1 d2 d3 d4
    have n0 := (N'.out.cell 0).trans rfl
    have n1 := (N'.out.cell 1).trans rfl
    have t0 := (T'.out.cell 0).trans rfl
    have t1 := (T'.out.cell 1).trans rfl
    have c0 := (C'.out.cell 0).trans rfl
    have c1 := (C'.out.cell 1).trans rfl
    have c2 := (C'.out.cell 2).trans rfl
    have c3 := (C'.out.cell 3).trans rfl
    have c4 := (C'.out.cell 4).trans rfl
    have d0 := (D'.out.cell 0).trans rfl
    have d1 := (D'.out.cell 1).trans rfl
    have d2 := (D'.out.cell 2).trans rfl
    have d3 := (D'.out.cell 3).trans rfl
    have d4 := (D'.out.cell 4).trans rfl
    have B := Lib.hid B'.out
    have N := Lib.hid N'.out
    have T := Lib.hid T'.out
    have C := Lib.hid C'.out
    have D := Lib.hid D'.out
    clear B' N' T' C' D'
    go_wp2_with fail
    refine (HRJ.out _ (HG.out _ B.out)).mono ?_
    rintro e w' ⟨rfl, hb⟩
    have B' := Lib.hid (B.out.trans (hb.mono B.out.size))
    have N' := Lib.hid (N.out.below hb N.out.lt)
    have T' := Lib.hid (T.out.below hb T.out.lt)
    have C' := Lib.hid (C.out.below hb C.out.lt)
    have D' := Lib.hid (D.out.below hb D.out.lt)
    clear hb B N T C D n0 n1 t0 t1 c0 c1 c2 c3 c4 d0 d1 d2 d3 d4
    have n0 := (N'.out.cell 0).trans rfl
    have n1 := (N'.out.cell 1).trans rfl
    have t0 := (T'.out.cell 0).trans rfl
    have t1 := (T'.out.cell 1).trans rfl
    have c0 := (C'.out.cell 0).trans rfl
    have c1 := (C'.out.cell 1).trans rfl
    have c2 := (C'.out.cell 2).trans rfl
    have c3 := (C'.out.cell 3).trans rfl
    have c4 := (C'.out.cell 4).trans rfl
    have d0 := (D'.out.cell 0).trans rfl
    have d1 := (D'.out.cell 1).trans rfl
    have d2 := (D'.out.cell 2).trans rfl
    have d3 := (D'.out.cell 3).trans rfl
    have d4 := (D'.out.cell 4).trans rfl
    have B := Lib.hid B'.out
    have N := Lib.hid N'.out
    have T := Lib.hid T'.out
    have C := Lib.hid C'.out
    have D := Lib.hid D'.out
    clear B' N' T' C' D'
    go_wp2_with fail
    go_ret
    exact ⟨rfl, B.out⟩
  · have k1 : ((q : Int) == 0) = false := by simp; omega
    have k2 : ((q : Int) != 0) = true := by simp; omega
    clear HRR' HRI hq
    generalize errV E q = ev at *
    go_enter Tryd.func3, Tryd.ntmps3
    go_wp2_with fail
    refine (HAL.out _ (HG.out _ B.out)).mono ?_
    rintro e w' ⟨rfl, hb⟩
    have B' := Lib.hid (B.out.trans (hb.mono B.out.size))
    have N' := Lib.hid (N.out.below hb N.out.lt)
    have T' := Lib.hid (T.out.below hb T.out.lt)
    clear hb B N T n0 n1 t0 t1
    have n0 := (N'.out.cell 0).trans rfl
    have n1 := (N'.out.cell 1).trans rfl
    have t0 := (T'.out.cell 0).trans rfl
    have t1 := (T'.out.cell 1).trans rfl
    have B := Lib.hid B'.out
    have N := Lib.hid N'.out
    have T := Lib.hid T'.out
    clear B' N' T'
    go_wp2_with fail
    refine (HN.out _ (HG.out _ B.out)).mono ?_
    rintro e w' ⟨hb, rfl⟩
    have B' := Lib.hid (B.out.trans (hb.mono B.out.size))
    have N' := Lib.hid (N.out.below hb N.out.lt)
    have T' := Lib.hid (T.out.below hb T.out.lt)
    clear hb B N T n0 n1 t0 t1
    have n0 := (N'.out.cell 0).trans rfl
    have n1 := (N'.out.cell 1).trans rfl
    have t0 := (T'.out.cell 0).trans rfl
    have t1 := (T'.out.cell 1).trans rfl
    have B := Lib.hid B'.out
    have N := Lib.hid N'.out
    have T := Lib.hid T'.out
    clear B' N' T'
    have M := Lib.hid (Blk.new w' 29 #[.int .i64 0, .int .i64 0, .int .i64 0, .int .i64 0, .float .f64 0])
    have N' := Lib.hid (N.out.alloc (.cells #[.int .i64 0, .int .i64 0, .int .i64 0, .int .i64 0, .float .f64 0] 29))
    have T' := Lib.hid (T.out.alloc (.cells #[.int .i64 0, .int .i64 0, .int .i64 0, .int .i64 0, .float .f64 0] 29))
    have B' := Lib.hid (below_alloc B.out (.cells #[.int .i64 0, .int .i64 0, .int .i64 0, .int .i64 0, .float .f64 0] 29))
    go_wp2_with (refine wpList_store (.tmp 7) (.tmp 21) 29 rfl rfl w'.heap.size 0 _ _ #[.int .i64 z1, .int .i64 z2, .int .i64 z3, .int .i64 z4, .float .f64 z5] rfl rfl M.out (by kernel_rfl) (by simp [Value.oneCell']) (by simp) ?_)
    intro w7 hn7 ko7
    have h7 : Blk w7 w'.heap.size 29 #[.int .i64 z1, .int .i64 z2, .int .i64 z3, .int .i64 z4, .float .f64 z5] := hn7
    have B7 := Lib.hid (B'.out.trans (ko7.below B.out.size))
    have N7 := Lib.hid (ko7.blk N'.out (Nat.ne_of_lt N.out.lt))
    have T7 := Lib.hid (ko7.blk T'.out (Nat.ne_of_lt T.out.lt))
    have H7 := Lib.hid h7
    clear hn7 ko7 h7 M B' B N' T' N T n0 n1 t0 t1
    generalize w'.heap.size = gc at *
    have n0 := (N7.out.cell 0).trans rfl
    have n1 := (N7.out.cell 1).trans rfl
    have t0 := (T7.out.cell 0).trans rfl
    have t1 := (T7.out.cell 1).trans rfl
    have c0 := (H7.out.cell 0).trans rfl
    have c1 := (H7.out.cell 1).trans rfl
    have c2 := (H7.out.cell 2).trans rfl
    have c3 := (H7.out.cell 3).trans rfl
    have c4 := (H7.out.cell 4).trans rfl
    have B := Lib.hid B7.out
    have N := Lib.hid N7.out
    have T := Lib.hid T7.out
    have C := Lib.hid H7.out
    clear B7 H7 N7 T7
    go_wp2_with fail
    refine (HM.out _).mono ?_
    rintro e w' ⟨hb, rfl⟩
    have B' := Lib.hid (B.out.trans (hb.mono B.out.size))
    have N' := Lib.hid (N.out.below hb N.out.lt)
    have T' := Lib.hid (T.out.below hb T.out.lt)
    have C' := Lib.hid (C.out.below hb C.out.lt)
    clear hb B N T C n0 n1 t0 t1 c0 c1 c2 c3 c4
    have n0 := (N'.out.cell 0).trans rfl
    have n1 := (N'.out.cell 1).trans rfl
    have t0 := (T'.out.cell 0).trans rfl
    have t1 := (T'.out.cell 1).trans rfl
    have c0 := (C'.out.cell 0).trans rfl
    have c1 := (C'.out.cell 1).trans rfl
    have c2 := (C'.out.cell 2).trans rfl
    have c3 := (C'.out.cell 3).trans rfl
    have c4 := (C'.out.cell 4).trans rfl
    have B := Lib.hid B'.out
    have N := Lib.hid N'.out
    have T := Lib.hid T'.out
    have C := Lib.hid C'.out
    clear B' N' T' C'
    have M := Lib.hid (Blk.new w' 29 #[.int .i64 0, .int .i64 0, .int .i64 0, .int .i64 0, .float .f64 0])
    have N' := Lib.hid (N.out.alloc (.cells #[.int .i64 0, .int .i64 0, .int .i64 0, .int .i64 0, .float .f64 0] 29))
    have T' := Lib.hid (T.out.alloc (.cells #[.int .i64 0, .int .i64 0, .int .i64 0, .int .i64 0, .float .f64 0] 29))
    have C' := Lib.hid (C.out.alloc (.cells #[.int .i64 0, .int .i64 0, .int .i64 0, .int .i64 0, .float .f64 0] 29))
    have B' := Lib.hid (below_alloc B.out (.cells #[.int .i64 0, .int .i64 0, .int .i64 0, .int .i64 0, .float .f64 0] 29))
    go_wp2_with (refine wpList_store (.tmp 9) (.tmp 31) 29 rfl rfl w'.heap.size 0 _ _ #[.int .i64 z1, .int .i64 z2, .int .i64 z3, .int .i64 z4, .float .f64 z5] rfl rfl M.out (by kernel_rfl) (by simp [Value.oneCell']) (by simp) ?_)
    intro w7 hn7 ko7
    have h7 : Blk w7 w'.heap.size 29 #[.int .i64 z1, .int .i64 z2, .int .i64 z3, .int .i64 z4, .float .f64 z5] := hn7
    have B7 := Lib.hid (B'.out.trans (ko7.below B.out.size))
    have N7 := Lib.hid (ko7.blk N'.out (Nat.ne_of_lt N.out.lt))
    have T7 := Lib.hid (ko7.blk T'.out (Nat.ne_of_lt T.out.lt))
    have C7 := Lib.hid (ko7.blk C'.out (Nat.ne_of_lt C.out.lt))
    have H7 := Lib.hid h7
    clear hn7 ko7 h7 M B' B N' T' C' N T C n0 n1 t0 t1 c0 c1 c2 c3 c4
    generalize w'.heap.size = gd at *
    have n0 := (N7.out.cell 0).trans rfl
    have n1 := (N7.out.cell 1).trans rfl
    have t0 := (T7.out.cell 0).trans rfl
    have t1 := (T7.out.cell 1).trans rfl
    have c0 := (C7.out.cell 0).trans rfl
    have c1 := (C7.out.cell 1).trans rfl
    have c2 := (C7.out.cell 2).trans rfl
    have c3 := (C7.out.cell 3).trans rfl
    have c4 := (C7.out.cell 4).trans rfl
    have d0 := (H7.out.cell 0).trans rfl
    have d1 := (H7.out.cell 1).trans rfl
    have d2 := (H7.out.cell 2).trans rfl
    have d3 := (H7.out.cell 3).trans rfl
    have d4 := (H7.out.cell 4).trans rfl
    have B := Lib.hid B7.out
    have N := Lib.hid N7.out
    have T := Lib.hid T7.out
    have C := Lib.hid C7.out
    have D := Lib.hid H7.out
    clear B7 H7 N7 T7 C7
    go_wp2_with fail
    refine (HSM.out _).mono ?_
    rintro e w' ⟨rfl, hb⟩
    have B' := Lib.hid (B.out.trans (hb.mono B.out.size))
    have N' := Lib.hid (N.out.below hb N.out.lt)
    have T' := Lib.hid (T.out.below hb T.out.lt)
    have C' := Lib.hid (C.out.below hb C.out.lt)
    have D' := Lib.hid (D.out.below hb D.out.lt)
    clear hb B N T C D n0 n1 t0 t1 c0 c1 c2 c3 c4 d0 d1 d2 d3 d4
    have n0 := (N'.out.cell 0).trans rfl
    have n1 := (N'.out.cell 1).trans rfl
    have t0 := (T'.out.cell 0).trans rfl
    have t1 := (T'.out.cell 1).trans rfl
    have c0 := (C'.out.cell 0).trans rfl
    have c1 := (C'.out.cell 1).trans rfl
    have c2 := (C'.out.cell 2).trans rfl
    have c3 := (C'.out.cell 3).trans rfl
    have c4 := (C'.out.cell 4).trans rfl
    have d0 := (D'.out.cell 0).trans rfl
    have d1 := (D'.out.cell 1).trans rfl
    have d2 := (D'.out.cell 2).trans rfl
    have d3 := (D'.out.cell 3).trans rfl
    have d4 := (D'.out.cell 4).trans rfl
    have B := Lib.hid B'.out
    have N := Lib.hid N'.out
    have T := Lib.hid T'.out
    have C := Lib.hid C'.out
    have D := Lib.hid D'.out
    clear B' N' T' C' D'
    go_wp2_with fail
    refine (HU.out _ (HG.out _ B.out).errs).mono ?_
    rintro e w' ⟨rfl, hb⟩
    have B' := Lib.hid (B.out.trans (hb.mono B.out.size))
    have N' := Lib.hid (N.out.below hb N.out.lt)
    have T' := Lib.hid (T.out.below hb T.out.lt)
    have C' := Lib.hid (C.out.below hb C.out.lt)
    have D' := Lib.hid (D.out.below hb D.out.lt)
    clear hb B N T C D n0 n1 t0 t1 c0 c1 c2 c3 c4 d0 d1 d2 d3 d4
    have n0 := (N'.out.cell 0).trans rfl
    have n1 := (N'.out.cell 1).trans rfl
    have t0 := (T'.out.cell 0).trans rfl
    have t1 := (T'.out.cell 1).trans rfl
    have c0 := (C'.out.cell 0).trans rfl
    have c1 := (C'.out.cell 1).trans rfl
    have c2 := (C'.out.cell 2).trans rfl
    have c3 := (C'.out.cell 3).trans rfl
    have c4 := (C'.out.cell 4).trans rfl
    have d0 := (D'.out.cell 0).trans rfl
    have d1 := (D'.out.cell 1).trans rfl
    have d2 := (D'.out.cell 2).trans rfl
    have d3 := (D'.out.cell 3).trans rfl
    have d4 := (D'.out.cell 4).trans rfl
    have B := Lib.hid B'.out
    have N := Lib.hid N'.out
    have T := Lib.hid T'.out
    have C := Lib.hid C'.out
    have D := Lib.hid D'.out
    clear B' N' T' C' D'
    go_wp2_with fail
    go_ret
    exact ⟨rfl, B.out⟩
end Go.Proofs.YtejdnpbkljdahaaDoor
