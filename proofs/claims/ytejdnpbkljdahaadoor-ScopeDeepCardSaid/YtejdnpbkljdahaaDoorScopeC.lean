/-
  ScopeC: the child of a context: the document's.
-/
import Derived.Test.YtejdnpbkljdahaaDoorScopeW2
import Derived.Test.YtejdnpbkljdahaaDoorScopeN
namespace Go.Proofs.YtejdnpbkljdahaaDoor
open Go.RowKit Go.Extern.Stop Go.Stop Go.Extern Ieee
attribute [local go_sem] flt_def fgt_def feq_def fne_def
attribute [local go_sem] run_store_flt

theorem right_d {c : Ctx} (h : rightC c = true) : 0 ≤ c.d ∧ c.d ≤ 3 := by
  unfold rightC at h
  simp only [Bool.and_eq_true, decide_eq_true_eq] at h
  exact h.2
set_option maxRecDepth 20000 in
set_option maxHeartbeats 4000000 in
theorem rchild_any (n s o d : Int) (x : Nat) (a b p : Int) (hx : x < 18446744073709551616) (w : World) :
    Calls Tryd.prog 16 #[.agg #[.int .i64 n, .int .i64 s, .int .i64 o, .int .i64 d, .float .f64 x], .agg #[.int .i64 a, .int .i64 b], .int .i64 p] w fun e w' => Below w.heap.size w w' ∧ e = .returned (.tuple #[ctxV (childC ⟨n, s, o, d, x⟩ a b p), .int .i64 (childE ⟨n, s, o, d, x⟩ a b p : Int)]) := by
  have HR := Lib.hid (fun w' => rright_any n s o d x hx w')
  have HA := Lib.hid (fun w' => refright_any a b w')
  unfold actV at HA
  clear hx
  have hb1 := below_alloc (below_alloc (below_alloc1 w (.cells #[.int .i64 n, .int .i64 s, .int .i64 o, .int .i64 d, .float .f64 x] 29)) (.cells #[.int .i64 a, .int .i64 b] 23)) (.cells #[.int .i64 0, .int .i64 0, .int .i64 0, .int .i64 0, .float .f64 0] 29)
  have B := Lib.hid hb1
  have N := Lib.hid (((Blk.new w 29 #[.int .i64 n, .int .i64 s, .int .i64 o, .int .i64 d, .float .f64 x]).alloc (.cells #[.int .i64 a, .int .i64 b] 23)).alloc (.cells #[.int .i64 0, .int .i64 0, .int .i64 0, .int .i64 0, .float .f64 0] 29))
  have A := Lib.hid (show Blk (((w.alloc (.cells #[.int .i64 n, .int .i64 s, .int .i64 o, .int .i64 d, .float .f64 x] 29)).alloc (.cells #[.int .i64 a, .int .i64 b] 23)).alloc (.cells #[.int .i64 0, .int .i64 0, .int .i64 0, .int .i64 0, .float .f64 0] 29)) (w.heap.size + 1) 23 #[.int .i64 a, .int .i64 b] from by
    have := (Blk.new (w.alloc (.cells #[.int .i64 n, .int .i64 s, .int .i64 o, .int .i64 d, .float .f64 x] 29)) 23 #[.int .i64 a, .int .i64 b]).alloc (.cells #[.int .i64 0, .int .i64 0, .int .i64 0, .int .i64 0, .float .f64 0] 29)
    rwa [World.size_alloc] at this)
  have M := Lib.hid (show Blk (((w.alloc (.cells #[.int .i64 n, .int .i64 s, .int .i64 o, .int .i64 d, .float .f64 x] 29)).alloc (.cells #[.int .i64 a, .int .i64 b] 23)).alloc (.cells #[.int .i64 0, .int .i64 0, .int .i64 0, .int .i64 0, .float .f64 0] 29)) (w.heap.size + 1 + 1) 29 #[.int .i64 0, .int .i64 0, .int .i64 0, .int .i64 0, .float .f64 0] from by
    have := Blk.new ((w.alloc (.cells #[.int .i64 n, .int .i64 s, .int .i64 o, .int .i64 d, .float .f64 x] 29)).alloc (.cells #[.int .i64 a, .int .i64 b] 23)) 29 #[.int .i64 0, .int .i64 0, .int .i64 0, .int .i64 0, .float .f64 0]
    rwa [World.size_alloc, World.size_alloc] at this)
  have n0 := (N.out.cell 0).trans rfl
  have n1 := (N.out.cell 1).trans rfl
  have n2 := (N.out.cell 2).trans rfl
  have n3 := (N.out.cell 3).trans rfl
  have n4 := (N.out.cell 4).trans rfl
  have a0 := (A.out.cell 0).trans rfl
  have a1 := (A.out.cell 1).trans rfl
  clear hb1
  cases hr : rightC ⟨n, s, o, d, x⟩
  · rw [hr] at HR
    have HE := Lib.hid (show childE ⟨n, s, o, d, x⟩ a b p = 4 by unfold childE; rw [hr]; rfl)
    have HC := Lib.hid (show childC ⟨n, s, o, d, x⟩ a b p = ctx0 by unfold childC; rw [HE.out]; exact if_neg (by decide))
    clear hr HA
    go_enter Tryd.func16, Tryd.ntmps16
    go_wp2_with fail
    refine (HR.out _).mono ?_
    rintro e w' ⟨rfl, hb⟩
    have B' := Lib.hid (B.out.trans (hb.mono B.out.size))
    have N' := Lib.hid (N.out.below hb N.out.lt)
    have A' := Lib.hid (A.out.below hb A.out.lt)
    have M' := Lib.hid (M.out.below hb M.out.lt)
    clear n0 n1 n2 n3 n4 a0 a1 hb B N A M
    have n0 := (N'.out.cell 0).trans rfl
    have n1 := (N'.out.cell 1).trans rfl
    have n2 := (N'.out.cell 2).trans rfl
    have n3 := (N'.out.cell 3).trans rfl
    have n4 := (N'.out.cell 4).trans rfl
    have a0 := (A'.out.cell 0).trans rfl
    have a1 := (A'.out.cell 1).trans rfl
    have B := Lib.hid B'.out
    have N := Lib.hid N'.out
    have A := Lib.hid A'.out
    have M := Lib.hid M'.out
    clear B' N' A' M'
    go_wp2_with (refine wpList_store (.tmp 6) (.tmp 11) 29 rfl rfl (w.heap.size + 1 + 1) 0 _ _ #[.int .i64 0, .int .i64 0, .int .i64 0, .int .i64 0, .float .f64 0] rfl rfl M.out (by kernel_rfl) (by simp [Value.oneCell']) (by simp) ?_)
    intro w7 hn7 ko7
    have h7 : Blk w7 (w.heap.size + 1 + 1) 29 #[.int .i64 0, .int .i64 0, .int .i64 0, .int .i64 0, .float .f64 0] := hn7
    have q0 := (h7.cell 0).trans rfl
    have q1 := (h7.cell 1).trans rfl
    have q2 := (h7.cell 2).trans rfl
    have q3 := (h7.cell 3).trans rfl
    have q4 := (h7.cell 4).trans rfl
    go_wp2_with fail
    refine bodyPost_ret (v := .tuple #[.agg #[.int .i64 0, .int .i64 0, .int .i64 0, .int .i64 0, .float .f64 0], .int .i64 4]) (by simp [results, Tryd.results16, go_sem, q0, q1, q2, q3, q4]) rfl ?_
    exact ⟨B.out.trans (ko7.below (by omega)), by rw [HC.out, HE.out]; rfl⟩
  · rw [hr] at HR
    obtain ⟨hd0, hd3⟩ : 0 ≤ d ∧ d ≤ 3 := right_d hr
    cases ha : (actT a b).isSome
    · rw [ha] at HA
      have HE := Lib.hid (show childE ⟨n, s, o, d, x⟩ a b p = 1 by unfold childE actB; rw [hr, ha]; rfl)
      have HC := Lib.hid (show childC ⟨n, s, o, d, x⟩ a b p = ctx0 by unfold childC; rw [HE.out]; exact if_neg (by decide))
      clear hr ha hd0 hd3
      go_enter Tryd.func16, Tryd.ntmps16
      go_wp2_with fail
      refine (HR.out _).mono ?_
      rintro e w' ⟨rfl, hb⟩
      have B' := Lib.hid (B.out.trans (hb.mono B.out.size))
      have N' := Lib.hid (N.out.below hb N.out.lt)
      have A' := Lib.hid (A.out.below hb A.out.lt)
      have M' := Lib.hid (M.out.below hb M.out.lt)
      clear n0 n1 n2 n3 n4 a0 a1 hb B N A M
      have n0 := (N'.out.cell 0).trans rfl
      have n1 := (N'.out.cell 1).trans rfl
      have n2 := (N'.out.cell 2).trans rfl
      have n3 := (N'.out.cell 3).trans rfl
      have n4 := (N'.out.cell 4).trans rfl
      have a0 := (A'.out.cell 0).trans rfl
      have a1 := (A'.out.cell 1).trans rfl
      have B := Lib.hid B'.out
      have N := Lib.hid N'.out
      have A := Lib.hid A'.out
      have M := Lib.hid M'.out
      clear B' N' A' M'
      go_wp2_with fail
      refine (HA.out _).mono ?_
      rintro e w' ⟨rfl, hb⟩
      have B' := Lib.hid (B.out.trans (hb.mono B.out.size))
      have N' := Lib.hid (N.out.below hb N.out.lt)
      have A' := Lib.hid (A.out.below hb A.out.lt)
      have M' := Lib.hid (M.out.below hb M.out.lt)
      clear n0 n1 n2 n3 n4 a0 a1 hb B N A M
      have n0 := (N'.out.cell 0).trans rfl
      have n1 := (N'.out.cell 1).trans rfl
      have n2 := (N'.out.cell 2).trans rfl
      have n3 := (N'.out.cell 3).trans rfl
      have n4 := (N'.out.cell 4).trans rfl
      have a0 := (A'.out.cell 0).trans rfl
      have a1 := (A'.out.cell 1).trans rfl
      have B := Lib.hid B'.out
      have N := Lib.hid N'.out
      have A := Lib.hid A'.out
      have M := Lib.hid M'.out
      clear B' N' A' M'
      go_wp2_with (refine wpList_store (.tmp 6) (.tmp 15) 29 rfl rfl (w.heap.size + 1 + 1) 0 _ _ #[.int .i64 0, .int .i64 0, .int .i64 0, .int .i64 0, .float .f64 0] rfl rfl M.out (by kernel_rfl) (by simp [Value.oneCell']) (by simp) ?_)
      intro w7 hn7 ko7
      have h7 : Blk w7 (w.heap.size + 1 + 1) 29 #[.int .i64 0, .int .i64 0, .int .i64 0, .int .i64 0, .float .f64 0] := hn7
      have q0 := (h7.cell 0).trans rfl
      have q1 := (h7.cell 1).trans rfl
      have q2 := (h7.cell 2).trans rfl
      have q3 := (h7.cell 3).trans rfl
      have q4 := (h7.cell 4).trans rfl
      go_wp2_with fail
      refine bodyPost_ret (v := .tuple #[.agg #[.int .i64 0, .int .i64 0, .int .i64 0, .int .i64 0, .float .f64 0], .int .i64 1]) (by simp [results, Tryd.results16, go_sem, q0, q1, q2, q3, q4]) rfl ?_
      exact ⟨B.out.trans (ko7.below (by omega)), by rw [HC.out, HE.out]; rfl⟩
    · rw [ha] at HA
      by_cases h1 : p = 1
      · subst h1
        have ho : isOut 1 = true := rfl
        have HE0 : childE ⟨n, s, o, d, x⟩ a b 1 = if d = 3 then 11 else 0 := by unfold childE actB; rw [hr, ha, ho]; rfl
        by_cases h3 : d = 3
        · have hg : decide (2 < d) = true := decide_eq_true (by omega)
          have HE := Lib.hid (show childE ⟨n, s, o, d, x⟩ a b 1 = 11 by rw [HE0, if_pos h3])
          have HC := Lib.hid (show childC ⟨n, s, o, d, x⟩ a b 1 = ctx0 by unfold childC; rw [HE.out]; exact if_neg (by decide))
          clear HE0 hr ha ho h3 hd0 hd3
          go_enter Tryd.func16, Tryd.ntmps16
          go_wp2_with fail
          refine (HR.out _).mono ?_
          rintro e w' ⟨rfl, hb⟩
          have B' := Lib.hid (B.out.trans (hb.mono B.out.size))
          have N' := Lib.hid (N.out.below hb N.out.lt)
          have A' := Lib.hid (A.out.below hb A.out.lt)
          have M' := Lib.hid (M.out.below hb M.out.lt)
          clear n0 n1 n2 n3 n4 a0 a1 hb B N A M
          have n0 := (N'.out.cell 0).trans rfl
          have n1 := (N'.out.cell 1).trans rfl
          have n2 := (N'.out.cell 2).trans rfl
          have n3 := (N'.out.cell 3).trans rfl
          have n4 := (N'.out.cell 4).trans rfl
          have a0 := (A'.out.cell 0).trans rfl
          have a1 := (A'.out.cell 1).trans rfl
          have B := Lib.hid B'.out
          have N := Lib.hid N'.out
          have A := Lib.hid A'.out
          have M := Lib.hid M'.out
          clear B' N' A' M'
          go_wp2_with fail
          refine (HA.out _).mono ?_
          rintro e w' ⟨rfl, hb⟩
          have B' := Lib.hid (B.out.trans (hb.mono B.out.size))
          have N' := Lib.hid (N.out.below hb N.out.lt)
          have A' := Lib.hid (A.out.below hb A.out.lt)
          have M' := Lib.hid (M.out.below hb M.out.lt)
          clear n0 n1 n2 n3 n4 a0 a1 hb B N A M
          have n0 := (N'.out.cell 0).trans rfl
          have n1 := (N'.out.cell 1).trans rfl
          have n2 := (N'.out.cell 2).trans rfl
          have n3 := (N'.out.cell 3).trans rfl
          have n4 := (N'.out.cell 4).trans rfl
          have a0 := (A'.out.cell 0).trans rfl
          have a1 := (A'.out.cell 1).trans rfl
          have B := Lib.hid B'.out
          have N := Lib.hid N'.out
          have A := Lib.hid A'.out
          have M := Lib.hid M'.out
          clear B' N' A' M'
          go_wp2_with (refine wpList_store (.tmp 6) (.tmp 26) 29 rfl rfl (w.heap.size + 1 + 1) 0 _ _ #[.int .i64 0, .int .i64 0, .int .i64 0, .int .i64 0, .float .f64 0] rfl rfl M.out (by kernel_rfl) (by simp [Value.oneCell']) (by simp) ?_)
          intro w7 hn7 ko7
          have h7 : Blk w7 (w.heap.size + 1 + 1) 29 #[.int .i64 0, .int .i64 0, .int .i64 0, .int .i64 0, .float .f64 0] := hn7
          have q0 := (h7.cell 0).trans rfl
          have q1 := (h7.cell 1).trans rfl
          have q2 := (h7.cell 2).trans rfl
          have q3 := (h7.cell 3).trans rfl
          have q4 := (h7.cell 4).trans rfl
          go_wp2_with fail
          refine bodyPost_ret (v := .tuple #[.agg #[.int .i64 0, .int .i64 0, .int .i64 0, .int .i64 0, .float .f64 0], .int .i64 11]) (by simp [results, Tryd.results16, go_sem, q0, q1, q2, q3, q4]) rfl ?_
          exact ⟨B.out.trans (ko7.below (by omega)), by rw [HC.out, HE.out]; rfl⟩
        · have hg : decide (2 < d) = false := decide_eq_false (by omega)
          have HE := Lib.hid (show childE ⟨n, s, o, d, x⟩ a b 1 = 0 by rw [HE0, if_neg h3])
          have HC := Lib.hid (show childC ⟨n, s, o, d, x⟩ a b 1 = ⟨a, b, 1, d + 1, x⟩ by unfold childC; rw [HE.out]; exact if_pos rfl)
          have hw1 : wrap64 (d + 1) = d + 1 := by unfold wrap64; omega
          clear HE0 hr ha ho h3
          go_enter Tryd.func16, Tryd.ntmps16
          go_wp2_with fail
          refine (HR.out _).mono ?_
          rintro e w' ⟨rfl, hb⟩
          have B' := Lib.hid (B.out.trans (hb.mono B.out.size))
          have N' := Lib.hid (N.out.below hb N.out.lt)
          have A' := Lib.hid (A.out.below hb A.out.lt)
          have M' := Lib.hid (M.out.below hb M.out.lt)
          clear n0 n1 n2 n3 n4 a0 a1 hb B N A M
          have n0 := (N'.out.cell 0).trans rfl
          have n1 := (N'.out.cell 1).trans rfl
          have n2 := (N'.out.cell 2).trans rfl
          have n3 := (N'.out.cell 3).trans rfl
          have n4 := (N'.out.cell 4).trans rfl
          have a0 := (A'.out.cell 0).trans rfl
          have a1 := (A'.out.cell 1).trans rfl
          have B := Lib.hid B'.out
          have N := Lib.hid N'.out
          have A := Lib.hid A'.out
          have M := Lib.hid M'.out
          clear B' N' A' M'
          go_wp2_with fail
          refine (HA.out _).mono ?_
          rintro e w' ⟨rfl, hb⟩
          have B' := Lib.hid (B.out.trans (hb.mono B.out.size))
          have N' := Lib.hid (N.out.below hb N.out.lt)
          have A' := Lib.hid (A.out.below hb A.out.lt)
          have M' := Lib.hid (M.out.below hb M.out.lt)
          clear n0 n1 n2 n3 n4 a0 a1 hb B N A M
          have n0 := (N'.out.cell 0).trans rfl
          have n1 := (N'.out.cell 1).trans rfl
          have n2 := (N'.out.cell 2).trans rfl
          have n3 := (N'.out.cell 3).trans rfl
          have n4 := (N'.out.cell 4).trans rfl
          have a0 := (A'.out.cell 0).trans rfl
          have a1 := (A'.out.cell 1).trans rfl
          have B := Lib.hid B'.out
          have N := Lib.hid N'.out
          have A := Lib.hid A'.out
          have M := Lib.hid M'.out
          clear B' N' A' M'
          go_wp2_with (refine wpList_store (.tmp 6) (.tmp 34) 29 rfl rfl (w.heap.size + 1 + 1) 0 _ _ #[.int .i64 a, .int .i64 b, .int .i64 1, .int .i64 (d + 1), .float .f64 x] rfl rfl M.out (by kernel_rfl) (by simp [Value.oneCell']) (by simp) ?_)
          intro w7 hn7 ko7
          have h7 : Blk w7 (w.heap.size + 1 + 1) 29 #[.int .i64 a, .int .i64 b, .int .i64 1, .int .i64 (d + 1), .float .f64 x] := hn7
          have q0 := (h7.cell 0).trans rfl
          have q1 := (h7.cell 1).trans rfl
          have q2 := (h7.cell 2).trans rfl
          have q3 := (h7.cell 3).trans rfl
          have q4 := (h7.cell 4).trans rfl
          go_wp2_with fail
          refine bodyPost_ret (v := .tuple #[.agg #[.int .i64 a, .int .i64 b, .int .i64 1, .int .i64 (d + 1), .float .f64 x], .int .i64 0]) (by simp [results, Tryd.results16, go_sem, q0, q1, q2, q3, q4]) rfl ?_
          exact ⟨B.out.trans (ko7.below (by omega)), by rw [HC.out, HE.out]; rfl⟩
      · by_cases h2 : p = 2
        · subst h2
          have ho : isOut 2 = true := rfl
          have HE0 : childE ⟨n, s, o, d, x⟩ a b 2 = if d = 3 then 11 else 0 := by unfold childE actB; rw [hr, ha, ho]; rfl
          by_cases h3 : d = 3
          · have hg : decide (2 < d) = true := decide_eq_true (by omega)
            have HE := Lib.hid (show childE ⟨n, s, o, d, x⟩ a b 2 = 11 by rw [HE0, if_pos h3])
            have HC := Lib.hid (show childC ⟨n, s, o, d, x⟩ a b 2 = ctx0 by unfold childC; rw [HE.out]; exact if_neg (by decide))
            clear HE0 hr ha ho h3 hd0 hd3
            go_enter Tryd.func16, Tryd.ntmps16
            go_wp2_with fail
            refine (HR.out _).mono ?_
            rintro e w' ⟨rfl, hb⟩
            have B' := Lib.hid (B.out.trans (hb.mono B.out.size))
            have N' := Lib.hid (N.out.below hb N.out.lt)
            have A' := Lib.hid (A.out.below hb A.out.lt)
            have M' := Lib.hid (M.out.below hb M.out.lt)
            clear n0 n1 n2 n3 n4 a0 a1 hb B N A M
            have n0 := (N'.out.cell 0).trans rfl
            have n1 := (N'.out.cell 1).trans rfl
            have n2 := (N'.out.cell 2).trans rfl
            have n3 := (N'.out.cell 3).trans rfl
            have n4 := (N'.out.cell 4).trans rfl
            have a0 := (A'.out.cell 0).trans rfl
            have a1 := (A'.out.cell 1).trans rfl
            have B := Lib.hid B'.out
            have N := Lib.hid N'.out
            have A := Lib.hid A'.out
            have M := Lib.hid M'.out
            clear B' N' A' M'
            go_wp2_with fail
            refine (HA.out _).mono ?_
            rintro e w' ⟨rfl, hb⟩
            have B' := Lib.hid (B.out.trans (hb.mono B.out.size))
            have N' := Lib.hid (N.out.below hb N.out.lt)
            have A' := Lib.hid (A.out.below hb A.out.lt)
            have M' := Lib.hid (M.out.below hb M.out.lt)
            clear n0 n1 n2 n3 n4 a0 a1 hb B N A M
            have n0 := (N'.out.cell 0).trans rfl
            have n1 := (N'.out.cell 1).trans rfl
            have n2 := (N'.out.cell 2).trans rfl
            have n3 := (N'.out.cell 3).trans rfl
            have n4 := (N'.out.cell 4).trans rfl
            have a0 := (A'.out.cell 0).trans rfl
            have a1 := (A'.out.cell 1).trans rfl
            have B := Lib.hid B'.out
            have N := Lib.hid N'.out
            have A := Lib.hid A'.out
            have M := Lib.hid M'.out
            clear B' N' A' M'
            go_wp2_with (refine wpList_store (.tmp 6) (.tmp 26) 29 rfl rfl (w.heap.size + 1 + 1) 0 _ _ #[.int .i64 0, .int .i64 0, .int .i64 0, .int .i64 0, .float .f64 0] rfl rfl M.out (by kernel_rfl) (by simp [Value.oneCell']) (by simp) ?_)
            intro w7 hn7 ko7
            have h7 : Blk w7 (w.heap.size + 1 + 1) 29 #[.int .i64 0, .int .i64 0, .int .i64 0, .int .i64 0, .float .f64 0] := hn7
            have q0 := (h7.cell 0).trans rfl
            have q1 := (h7.cell 1).trans rfl
            have q2 := (h7.cell 2).trans rfl
            have q3 := (h7.cell 3).trans rfl
            have q4 := (h7.cell 4).trans rfl
            go_wp2_with fail
            refine bodyPost_ret (v := .tuple #[.agg #[.int .i64 0, .int .i64 0, .int .i64 0, .int .i64 0, .float .f64 0], .int .i64 11]) (by simp [results, Tryd.results16, go_sem, q0, q1, q2, q3, q4]) rfl ?_
            exact ⟨B.out.trans (ko7.below (by omega)), by rw [HC.out, HE.out]; rfl⟩
          · have hg : decide (2 < d) = false := decide_eq_false (by omega)
            have HE := Lib.hid (show childE ⟨n, s, o, d, x⟩ a b 2 = 0 by rw [HE0, if_neg h3])
            have HC := Lib.hid (show childC ⟨n, s, o, d, x⟩ a b 2 = ⟨a, b, 2, d + 1, x⟩ by unfold childC; rw [HE.out]; exact if_pos rfl)
            have hw1 : wrap64 (d + 1) = d + 1 := by unfold wrap64; omega
            clear HE0 hr ha ho h3
            go_enter Tryd.func16, Tryd.ntmps16
            go_wp2_with fail
            refine (HR.out _).mono ?_
            rintro e w' ⟨rfl, hb⟩
            have B' := Lib.hid (B.out.trans (hb.mono B.out.size))
            have N' := Lib.hid (N.out.below hb N.out.lt)
            have A' := Lib.hid (A.out.below hb A.out.lt)
            have M' := Lib.hid (M.out.below hb M.out.lt)
            clear n0 n1 n2 n3 n4 a0 a1 hb B N A M
            have n0 := (N'.out.cell 0).trans rfl
            have n1 := (N'.out.cell 1).trans rfl
            have n2 := (N'.out.cell 2).trans rfl
            have n3 := (N'.out.cell 3).trans rfl
            have n4 := (N'.out.cell 4).trans rfl
            have a0 := (A'.out.cell 0).trans rfl
            have a1 := (A'.out.cell 1).trans rfl
            have B := Lib.hid B'.out
            have N := Lib.hid N'.out
            have A := Lib.hid A'.out
            have M := Lib.hid M'.out
            clear B' N' A' M'
            go_wp2_with fail
            refine (HA.out _).mono ?_
            rintro e w' ⟨rfl, hb⟩
            have B' := Lib.hid (B.out.trans (hb.mono B.out.size))
            have N' := Lib.hid (N.out.below hb N.out.lt)
            have A' := Lib.hid (A.out.below hb A.out.lt)
            have M' := Lib.hid (M.out.below hb M.out.lt)
            clear n0 n1 n2 n3 n4 a0 a1 hb B N A M
            have n0 := (N'.out.cell 0).trans rfl
            have n1 := (N'.out.cell 1).trans rfl
            have n2 := (N'.out.cell 2).trans rfl
            have n3 := (N'.out.cell 3).trans rfl
            have n4 := (N'.out.cell 4).trans rfl
            have a0 := (A'.out.cell 0).trans rfl
            have a1 := (A'.out.cell 1).trans rfl
            have B := Lib.hid B'.out
            have N := Lib.hid N'.out
            have A := Lib.hid A'.out
            have M := Lib.hid M'.out
            clear B' N' A' M'
            go_wp2_with (refine wpList_store (.tmp 6) (.tmp 34) 29 rfl rfl (w.heap.size + 1 + 1) 0 _ _ #[.int .i64 a, .int .i64 b, .int .i64 2, .int .i64 (d + 1), .float .f64 x] rfl rfl M.out (by kernel_rfl) (by simp [Value.oneCell']) (by simp) ?_)
            intro w7 hn7 ko7
            have h7 : Blk w7 (w.heap.size + 1 + 1) 29 #[.int .i64 a, .int .i64 b, .int .i64 2, .int .i64 (d + 1), .float .f64 x] := hn7
            have q0 := (h7.cell 0).trans rfl
            have q1 := (h7.cell 1).trans rfl
            have q2 := (h7.cell 2).trans rfl
            have q3 := (h7.cell 3).trans rfl
            have q4 := (h7.cell 4).trans rfl
            go_wp2_with fail
            refine bodyPost_ret (v := .tuple #[.agg #[.int .i64 a, .int .i64 b, .int .i64 2, .int .i64 (d + 1), .float .f64 x], .int .i64 0]) (by simp [results, Tryd.results16, go_sem, q0, q1, q2, q3, q4]) rfl ?_
            exact ⟨B.out.trans (ko7.below (by omega)), by rw [HC.out, HE.out]; rfl⟩
        · have d1 : (p == 1) = false := by simpa using h1
          have d2 : (p == 2) = false := by simpa using h2
          have b1 : (p != 1) = true := by simpa using h1
          have b2 : (p != 2) = true := by simpa using h2
          have ho : isOut p = false := by unfold isOut; rw [d1, d2]; rfl
          have HE := Lib.hid (show childE ⟨n, s, o, d, x⟩ a b p = 4 by unfold childE actB; rw [hr, ha, ho]; rfl)
          have HC := Lib.hid (show childC ⟨n, s, o, d, x⟩ a b p = ctx0 by unfold childC; rw [HE.out]; exact if_neg (by decide))
          clear hr ha ho hd0 hd3
          go_enter Tryd.func16, Tryd.ntmps16
          go_wp2_with fail
          refine (HR.out _).mono ?_
          rintro e w' ⟨rfl, hb⟩
          have B' := Lib.hid (B.out.trans (hb.mono B.out.size))
          have N' := Lib.hid (N.out.below hb N.out.lt)
          have A' := Lib.hid (A.out.below hb A.out.lt)
          have M' := Lib.hid (M.out.below hb M.out.lt)
          clear n0 n1 n2 n3 n4 a0 a1 hb B N A M
          have n0 := (N'.out.cell 0).trans rfl
          have n1 := (N'.out.cell 1).trans rfl
          have n2 := (N'.out.cell 2).trans rfl
          have n3 := (N'.out.cell 3).trans rfl
          have n4 := (N'.out.cell 4).trans rfl
          have a0 := (A'.out.cell 0).trans rfl
          have a1 := (A'.out.cell 1).trans rfl
          have B := Lib.hid B'.out
          have N := Lib.hid N'.out
          have A := Lib.hid A'.out
          have M := Lib.hid M'.out
          clear B' N' A' M'
          go_wp2_with fail
          refine (HA.out _).mono ?_
          rintro e w' ⟨rfl, hb⟩
          have B' := Lib.hid (B.out.trans (hb.mono B.out.size))
          have N' := Lib.hid (N.out.below hb N.out.lt)
          have A' := Lib.hid (A.out.below hb A.out.lt)
          have M' := Lib.hid (M.out.below hb M.out.lt)
          clear n0 n1 n2 n3 n4 a0 a1 hb B N A M
          have n0 := (N'.out.cell 0).trans rfl
          have n1 := (N'.out.cell 1).trans rfl
          have n2 := (N'.out.cell 2).trans rfl
          have n3 := (N'.out.cell 3).trans rfl
          have n4 := (N'.out.cell 4).trans rfl
          have a0 := (A'.out.cell 0).trans rfl
          have a1 := (A'.out.cell 1).trans rfl
          have B := Lib.hid B'.out
          have N := Lib.hid N'.out
          have A := Lib.hid A'.out
          have M := Lib.hid M'.out
          clear B' N' A' M'
          go_wp2_with (refine wpList_store (.tmp 6) (.tmp 22) 29 rfl rfl (w.heap.size + 1 + 1) 0 _ _ #[.int .i64 0, .int .i64 0, .int .i64 0, .int .i64 0, .float .f64 0] rfl rfl M.out (by kernel_rfl) (by simp [Value.oneCell']) (by simp) ?_)
          intro w7 hn7 ko7
          have h7 : Blk w7 (w.heap.size + 1 + 1) 29 #[.int .i64 0, .int .i64 0, .int .i64 0, .int .i64 0, .float .f64 0] := hn7
          have q0 := (h7.cell 0).trans rfl
          have q1 := (h7.cell 1).trans rfl
          have q2 := (h7.cell 2).trans rfl
          have q3 := (h7.cell 3).trans rfl
          have q4 := (h7.cell 4).trans rfl
          go_wp2_with fail
          refine bodyPost_ret (v := .tuple #[.agg #[.int .i64 0, .int .i64 0, .int .i64 0, .int .i64 0, .float .f64 0], .int .i64 4]) (by simp [results, Tryd.results16, go_sem, q0, q1, q2, q3, q4]) rfl ?_
          exact ⟨B.out.trans (ko7.below (by omega)), by rw [HC.out, HE.out]; rfl⟩
end Go.Proofs.YtejdnpbkljdahaaDoor
