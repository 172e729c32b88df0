/-
  LawDeep: the walk of ScopeDeep.
-/
import Derived.Test.YtejdnpbkljdahaaDoorLawNews
namespace Go.Proofs.YtejdnpbkljdahaaDoor
open Go.RowKit Go.Extern.Stop Go.Stop Go.Extern Ieee
attribute [local go_sem] flt_def fgt_def feq_def fne_def
attribute [local go_sem] run_store_flt

def oK (k : Nat) : Int := if k = 0 then 2 else 1
theorem right_ck {n s : Int} {z k : Nat} (ha : actB n s = true) (hz : z ≤ infR) (hk : k ≤ 3) : rightC ⟨n, s, oK k, (k : Int), z⟩ = true := by
  unfold rightC
  show (okF z && actB n s && isOut (oK k) && (decide (0 ≤ (k : Int)) && decide ((k : Int) ≤ 3))) = true
  have h1 : isOut (oK k) = true := by unfold isOut oK; split <;> rfl
  rw [show okF z = true from decide_eq_true hz, ha, h1, decide_eq_true (by omega), decide_eq_true (by omega)]
  rfl
theorem child_ck {n s : Int} {z k : Nat} (ha : actB n s = true) (hz : z ≤ infR) (hk : k < 3) : childE ⟨n, s, oK k, (k : Int), z⟩ n s 1 = 0 ∧ childC ⟨n, s, oK k, (k : Int), z⟩ n s 1 = ⟨n, s, 1, (k : Int) + 1, z⟩ := by
  have h0 : childE ⟨n, s, oK k, (k : Int), z⟩ n s 1 = 0 := by
    unfold childE
    rw [right_ck ha hz (by omega), ha]
    show (if (k : Int) = 3 then 11 else 0) = 0
    exact if_neg (by omega)
  exact ⟨h0, by unfold childC; exact if_pos h0⟩
theorem child_c3 {n s : Int} {z : Nat} (ha : actB n s = true) (hz : z ≤ infR) : childE ⟨n, s, oK 3, 3, z⟩ n s 1 = 11 ∧ childC ⟨n, s, oK 3, 3, z⟩ n s 1 = ctx0 := by
  have hr : rightC ⟨n, s, oK 3, 3, z⟩ = true := right_ck (k := 3) ha hz (by omega)
  have h0 : childE ⟨n, s, oK 3, 3, z⟩ n s 1 = 11 := by
    unfold childE
    rw [hr, ha]
    rfl
  exact ⟨h0, by unfold childC; rw [h0]; rfl⟩
theorem open_ck {n s : Int} {z k : Nat} (now : Nat) (ha : actB n s = true) (hz : z ≤ infR) (hk : k ≤ 3) : openC ⟨n, s, oK k, (k : Int), z⟩ now = (isDel now && decide (plainN now < z)) := by
  unfold openC
  rw [right_ck ha hz hk]
  rfl
set_option maxRecDepth 20000 in
set_option maxHeartbeats 4000000 in
theorem deep_law (n s : Int) (x y now : Nat) (hn : -9223372036854775808 ≤ n) (hs : -9223372036854775808 ≤ s) (hx : x < 18446744073709551616) (hy : y < 18446744073709551616) (hw : now < 18446744073709551616) (w : World) (E : Nat → Addr) (h : IdsG w E) :
    Calls Tryd.prog 5 #[.agg #[.int .i64 n, .int .i64 s], .agg #[.float .f64 x, .float .f64 y], .float .f64 now] w fun e w' => e = .returned (.bool true) ∧ Below w.heap.size w w' := by
  have HG := Lib.hid (fun w' (hb : Below w.heap.size w w') => h.below hb)
  have HAL := Lib.hid (fun w' h => alive9_any w' E h)
  have HN := Lib.hid (fun w' h => snew_any n s 2 x y hn hs hx hy w' E h)
  have HU := Lib.hid (fun w' h => num_any w' E 11 (by omega) h)
  have hi := new_x n s 2 x y
  have HOK := Lib.hid (@new_ok n s 2 x y)
  unfold ctxV ctxA at HN
  clear h
  have hb1 := below_alloc (below_alloc1 w (.cells #[.int .i64 n, .int .i64 s] 23)) (.cells #[.float .f64 x, .float .f64 y] 26)
  have B := Lib.hid hb1
  have N := Lib.hid ((Blk.new w 23 #[.int .i64 n, .int .i64 s]).alloc (.cells #[.float .f64 x, .float .f64 y] 26))
  have T := Lib.hid (show Blk ((w.alloc (.cells #[.int .i64 n, .int .i64 s] 23)).alloc (.cells #[.float .f64 x, .float .f64 y] 26)) (w.heap.size + 1) 26 #[.float .f64 x, .float .f64 y] from by
    have := Blk.new (w.alloc (.cells #[.int .i64 n, .int .i64 s] 23)) 26 #[.float .f64 x, .float .f64 y]
    rwa [World.size_alloc] at this)
  have n0 := (N.out.cell 0).trans rfl
  have n1 := (N.out.cell 1).trans rfl
  have t0 := (T.out.cell 0).trans rfl
  have t1 := (T.out.cell 1).trans rfl
  clear hb1
  by_cases hq : newE n s 2 x y = 0
  · have hc := (HOK.out hq).1
    have ha := (HOK.out hq).2.1
    rw [hc] at hi
    rw [hq, hc] at HN
    simp only [errV_zero] at HN
    generalize addN (plainN x) (plainN y) = z at *
    have hzi : z ≤ infR := hi
    have hz : z < 18446744073709551616 := by unfold infR at hzi; omega
    have HO := Lib.hid (fun (k : Nat) (hk : k ≤ 3) w' h => (sopen_any n s (oK k) (k : Int) z now hn hs hz hw w' E h))
    have HOE := Lib.hid (fun (k : Nat) (hk : k ≤ 3) => open_ck (k := k) now ha hzi hk)
    have HCH := Lib.hid (fun (k : Nat) w' h => schild_any n s (oK k) (k : Int) z n s 1 hn hs hn hs hz w' E h)
    have HCE := Lib.hid (fun (k : Nat) (hk : k < 3) => child_ck (k := k) ha hzi hk)
    have HC3 := Lib.hid (child_c3 ha hzi)
    clear hq hc ha hi hzi hz hn hs hx hy hw HOK
    generalize (isDel now && decide (plainN now < z)) = op at *
    have HO0 := Lib.hid (HO.out 0 (by omega))
    rw [HOE.out 0 (by omega)] at HO0
    change RowKit.Hid (∀ (w' : World), IdsG w' E → Calls Tryd.prog 14 #[.agg #[.int .i64 n, .int .i64 s, .int .i64 2, .int .i64 0, .float .f64 z], .float .f64 now] w' fun e w'' => e = .returned (.bool op) ∧ Below w'.heap.size w' w'') at HO0
    go_enter Tryd.func5, Tryd.ntmps5
    go_wp2_with fail
    refine (HAL.out _ (HG.out _ B.out)).mono ?_
    rintro e w' ⟨rfl, hb⟩
    have B' := Lib.hid (B.out.trans (hb.mono B.out.size))
    have N' := Lib.hid (N.out.below hb N.out.lt)
    have T' := Lib.hid (T.out.below hb T.out.lt)
    clear hb B N T n0 n1 t0 t1
    have n0 := (N'.out.cell 0).trans rfl
    have n1 := (N'.out.cell 1).trans rfl
    have t0 := (T'.out.cell 0).trans rfl
    have t1 := (T'.out.cell 1).trans rfl
    have B := Lib.hid B'.out
    have N := Lib.hid N'.out
    have T := Lib.hid T'.out
    clear B' N' T'
    go_wp2_with fail
    refine (HN.out _ (HG.out _ B.out)).mono ?_
    rintro e w' ⟨hb, rfl⟩
    have B' := Lib.hid (B.out.trans (hb.mono B.out.size))
    have N' := Lib.hid (N.out.below hb N.out.lt)
    have T' := Lib.hid (T.out.below hb T.out.lt)
    clear hb B N T n0 n1 t0 t1
    have n0 := (N'.out.cell 0).trans rfl
    have n1 := (N'.out.cell 1).trans rfl
    have t0 := (T'.out.cell 0).trans rfl
    have t1 := (T'.out.cell 1).trans rfl
    have B := Lib.hid B'.out
    have N := Lib.hid N'.out
    have T := Lib.hid T'.out
    clear B' N' T'
    have HGC := Lib.hid B.out.size
    have M := Lib.hid (Blk.new w' 29 #[.int .i64 0, .int .i64 0, .int .i64 0, .int .i64 0, .float .f64 0])
    have N' := Lib.hid (N.out.alloc (.cells #[.int .i64 0, .int .i64 0, .int .i64 0, .int .i64 0, .float .f64 0] 29))
    have T' := Lib.hid (T.out.alloc (.cells #[.int .i64 0, .int .i64 0, .int .i64 0, .int .i64 0, .float .f64 0] 29))
    have B' := Lib.hid (below_alloc B.out (.cells #[.int .i64 0, .int .i64 0, .int .i64 0, .int .i64 0, .float .f64 0] 29))
    go_wp2_with (refine wpList_store (.tmp 7) (.tmp 19) 29 rfl rfl w'.heap.size 0 _ _ #[.int .i64 n, .int .i64 s, .int .i64 2, .int .i64 0, .float .f64 z] rfl rfl M.out (by kernel_rfl) (by simp [Value.oneCell']) (by simp) ?_)
    intro w7 hn7 ko7
    have h7 : Blk w7 w'.heap.size 29 #[.int .i64 n, .int .i64 s, .int .i64 2, .int .i64 0, .float .f64 z] := hn7
    have B7 := Lib.hid (B'.out.trans (ko7.below B.out.size))
    have N7 := Lib.hid (ko7.blk N'.out (Nat.ne_of_lt N.out.lt))
    have T7 := Lib.hid (ko7.blk T'.out (Nat.ne_of_lt T.out.lt))
    have H7 := Lib.hid h7
    clear hn7 ko7 h7 M B' B N' T' N T n0 n1 t0 t1
    generalize w'.heap.size = gc at *
    have n0 := (N7.out.cell 0).trans rfl
    have n1 := (N7.out.cell 1).trans rfl
    have t0 := (T7.out.cell 0).trans rfl
    have t1 := (T7.out.cell 1).trans rfl
    have c0 := (H7.out.cell 0).trans rfl
    have c1 := (H7.out.cell 1).trans rfl
    have c2 := (H7.out.cell 2).trans rfl
    have c3 := (H7.out.cell 3).trans rfl
    have c4 := (H7.out.cell 4).trans rfl
    have B := Lib.hid B7.out
    have N := Lib.hid N7.out
    have T := Lib.hid T7.out
    have C := Lib.hid H7.out
    clear B7 H7 N7 T7
    go_wp2_with fail
    refine (HO0.out _ (HG.out _ B.out)).mono ?_
    rintro e w' ⟨rfl, hb⟩
    have B' := Lib.hid (B.out.trans (hb.mono B.out.size))
    have N' := Lib.hid (N.out.below hb N.out.lt)
    have T' := Lib.hid (T.out.below hb T.out.lt)
    have C' := Lib.hid (C.out.below hb C.out.lt)
    clear hb B N T C n0 n1 t0 t1 c0 c1 c2 c3 c4
    have n0 := (N'.out.cell 0).trans rfl
    have n1 := (N'.out.cell 1).trans rfl
    have t0 := (T'.out.cell 0).trans rfl
    have t1 := (T'.out.cell 1).trans rfl
    have c0 := (C'.out.cell 0).trans rfl
    have c1 := (C'.out.cell 1).trans rfl
    have c2 := (C'.out.cell 2).trans rfl
    have c3 := (C'.out.cell 3).trans rfl
    have c4 := (C'.out.cell 4).trans rfl
    have B := Lib.hid B'.out
    have N := Lib.hid N'.out
    have T := Lib.hid T'.out
    have C := Lib.hid C'.out
    clear B' N' T' C'
    go_wp2_with fail
    go_loopw [26] (fun i wr => ∃ k : Nat, k ≤ 3 ∧ i = .int .i64 k ∧ Blk wr w.heap.size 23 #[.int .i64 n, .int .i64 s] ∧ Blk wr gc 29 #[.int .i64 n, .int .i64 s, .int .i64 (oK k), .int .i64 (k : Int), .float .f64 z] ∧ Below w.heap.size w wr) (fun i _ => 3 - (intOf i).toNat)
    case atStart => exact ⟨0, by omega, rfl, N.out, C.out, B.out⟩
    case round =>
      obtain ⟨k, hk, rfl, hN, hC, hB⟩ := hrel
      clear n0 n1 t0 t1 c0 c1 c2 c3 c4 N T C B
      have B := Lib.hid hB
      have N := Lib.hid hN
      have C := Lib.hid hC
      clear hN hC hB
      have n0 := (N.out.cell 0).trans rfl
      have n1 := (N.out.cell 1).trans rfl
      have c0 := (C.out.cell 0).trans rfl
      have c1 := (C.out.cell 1).trans rfl
      have c2 := (C.out.cell 2).trans rfl
      have c3 := (C.out.cell 3).trans rfl
      have c4 := (C.out.cell 4).trans rfl
      by_cases hlt : k < 3
      · have HCK := Lib.hid (HCH.out k)
        rw [(HCE.out k hlt).1, (HCE.out k hlt).2] at HCK
        have HOK1 := Lib.hid (HO.out (k + 1) (by omega))
        rw [HOE.out (k + 1) (by omega)] at HOK1
        rw [show oK (k + 1) = 1 from if_neg (by omega), show (((k + 1 : Nat)) : Int) = (k : Int) + 1 from by omega] at HOK1
        unfold ctxV ctxA at HCK
        simp only [errV_zero] at HCK
        have d1 : decide ((k : Int) < 3) = true := by simp; omega
        clear HCH HCE HO HOE HC3
        go_wp2_with fail
        refine (HCK.out _ (HG.out _ B.out)).mono ?_
        rintro e w' ⟨hb, rfl⟩
        have B' := Lib.hid (B.out.trans (hb.mono B.out.size))
        have N' := Lib.hid (N.out.below hb N.out.lt)
        have C' := Lib.hid (C.out.below hb C.out.lt)
        clear hb B N C n0 n1 c0 c1 c2 c3 c4
        have n0 := (N'.out.cell 0).trans rfl
        have n1 := (N'.out.cell 1).trans rfl
        have c0 := (C'.out.cell 0).trans rfl
        have c1 := (C'.out.cell 1).trans rfl
        have c2 := (C'.out.cell 2).trans rfl
        have c3 := (C'.out.cell 3).trans rfl
        have c4 := (C'.out.cell 4).trans rfl
        have B := Lib.hid B'.out
        have N := Lib.hid N'.out
        have C := Lib.hid C'.out
        clear B' N' C'
        go_wp2_with (refine wpList_store (.tmp 7) (.tmp 32) 29 rfl rfl gc 0 _ _ #[.int .i64 n, .int .i64 s, .int .i64 1, .int .i64 ((k : Int) + 1), .float .f64 z] rfl rfl C.out (by kernel_rfl) (by simp [Value.oneCell']) (by simp) ?_)
        intro w7 hn7 ko7
        have h7 : Blk w7 gc 29 #[.int .i64 n, .int .i64 s, .int .i64 1, .int .i64 ((k : Int) + 1), .float .f64 z] := hn7
        have hgn : w.heap.size ≠ gc := fun e => by have := N.out; rw [e] at this; have h9 := C.out; exact absurd (this.symm.trans h9) (by intro h; injection h with h; injection h with _ h; exact absurd h (by decide))
        have B7 := Lib.hid (B.out.trans (ko7.below HGC.out))
        have N7 := Lib.hid (ko7.blk N.out hgn)
        have C7 := Lib.hid h7
        clear hn7 ko7 h7 B N C n0 n1 c0 c1 c2 c3 c4
        have B := Lib.hid B7.out
        have N := Lib.hid N7.out
        have C := Lib.hid C7.out
        clear B7 N7 C7
        have n0 := (N.out.cell 0).trans rfl
        have n1 := (N.out.cell 1).trans rfl
        have c0 := (C.out.cell 0).trans rfl
        have c1 := (C.out.cell 1).trans rfl
        have c2 := (C.out.cell 2).trans rfl
        have c3 := (C.out.cell 3).trans rfl
        have c4 := (C.out.cell 4).trans rfl
        go_wp2_with fail
        refine (HOK1.out _ (HG.out _ B.out)).mono ?_
        rintro e w' ⟨rfl, hb⟩
        have B' := Lib.hid (B.out.trans (hb.mono B.out.size))
        have N' := Lib.hid (N.out.below hb N.out.lt)
        have C' := Lib.hid (C.out.below hb C.out.lt)
        clear hb B N C n0 n1 c0 c1 c2 c3 c4
        have n0 := (N'.out.cell 0).trans rfl
        have n1 := (N'.out.cell 1).trans rfl
        have c0 := (C'.out.cell 0).trans rfl
        have c1 := (C'.out.cell 1).trans rfl
        have c2 := (C'.out.cell 2).trans rfl
        have c3 := (C'.out.cell 3).trans rfl
        have c4 := (C'.out.cell 4).trans rfl
        have B := Lib.hid B'.out
        have N := Lib.hid N'.out
        have C := Lib.hid C'.out
        clear B' N' C'
        go_wp2_with fail
        go_roundw
        case rel => exact ⟨k + 1, by omega, by go_num, N.out, C.out, B.out⟩
        case measure => simp [intOf]; omega
      · obtain rfl : k = 3 := by omega
        have HCK := Lib.hid (HCH.out 3)
        change RowKit.Hid (∀ (w' : World), IdsG w' E → Calls Tryd.prog 15 #[.agg #[.int .i64 n, .int .i64 s, .int .i64 (oK 3), .int .i64 3, .float .f64 z], .agg #[.int .i64 n, .int .i64 s], .int .i64 1] w' fun e w'' => Below w'.heap.size w' w'' ∧ e = .returned (.tuple #[ctxV (childC ⟨n, s, oK 3, 3, z⟩ n s 1), errV E (childE ⟨n, s, oK 3, 3, z⟩ n s 1)])) at HCK
        rw [HC3.out.1, HC3.out.2] at HCK
        unfold ctxV ctxA ctx0 at HCK
        clear HCH HCE HO HOE HC3
        generalize errV E 11 = ev at *
        go_wp2_with fail
        refine (HCK.out _ (HG.out _ B.out)).mono ?_
        rintro e w' ⟨hb, rfl⟩
        have B' := Lib.hid (B.out.trans (hb.mono B.out.size))
        have N' := Lib.hid (N.out.below hb N.out.lt)
        have C' := Lib.hid (C.out.below hb C.out.lt)
        clear hb B N C n0 n1 c0 c1 c2 c3 c4
        have n0 := (N'.out.cell 0).trans rfl
        have n1 := (N'.out.cell 1).trans rfl
        have c0 := (C'.out.cell 0).trans rfl
        have c1 := (C'.out.cell 1).trans rfl
        have c2 := (C'.out.cell 2).trans rfl
        have c3 := (C'.out.cell 3).trans rfl
        have c4 := (C'.out.cell 4).trans rfl
        have B := Lib.hid B'.out
        have N := Lib.hid N'.out
        have C := Lib.hid C'.out
        clear B' N' C'
        go_wp2_with fail
        refine (HU.out _ (HG.out _ B.out).errs).mono ?_
        rintro e w' ⟨rfl, hb⟩
        have B' := Lib.hid (B.out.trans (hb.mono B.out.size))
        have N' := Lib.hid (N.out.below hb N.out.lt)
        have C' := Lib.hid (C.out.below hb C.out.lt)
        clear hb B N C n0 n1 c0 c1 c2 c3 c4
        have n0 := (N'.out.cell 0).trans rfl
        have n1 := (N'.out.cell 1).trans rfl
        have c0 := (C'.out.cell 0).trans rfl
        have c1 := (C'.out.cell 1).trans rfl
        have c2 := (C'.out.cell 2).trans rfl
        have c3 := (C'.out.cell 3).trans rfl
        have c4 := (C'.out.cell 4).trans rfl
        have B := Lib.hid B'.out
        have N := Lib.hid N'.out
        have C := Lib.hid C'.out
        clear B' N' C'
        go_wp2_with fail
        go_ret
        exact ⟨rfl, B.out⟩
  · have hne : ∃ a, errV E (newE n s 2 x y) = errAt a := by
      cases hk : newE n s 2 x y with
      | zero => exact absurd hk hq
      | succ k => exact ⟨_, rfl⟩
    obtain ⟨ea, he⟩ := hne
    rw [he] at HN
    unfold errAt at HN
    clear he hq HOK hi hn hs hx hy hw
    generalize newC n s 2 x y = c at *
    obtain ⟨z1, z2, z3, z4, z5⟩ := c
    simp only at HN
    go_enter Tryd.func5, Tryd.ntmps5
    go_wp2_with fail
    refine (HAL.out _ (HG.out _ B.out)).mono ?_
    rintro e w' ⟨rfl, hb⟩
    have B' := Lib.hid (B.out.trans (hb.mono B.out.size))
    have N' := Lib.hid (N.out.below hb N.out.lt)
    have T' := Lib.hid (T.out.below hb T.out.lt)
    clear hb B N T n0 n1 t0 t1
    have n0 := (N'.out.cell 0).trans rfl
    have n1 := (N'.out.cell 1).trans rfl
    have t0 := (T'.out.cell 0).trans rfl
    have t1 := (T'.out.cell 1).trans rfl
    have B := Lib.hid B'.out
    have N := Lib.hid N'.out
    have T := Lib.hid T'.out
    clear B' N' T'
    go_wp2_with fail
    refine (HN.out _ (HG.out _ B.out)).mono ?_
    rintro e w' ⟨hb, rfl⟩
    have B' := Lib.hid (B.out.trans (hb.mono B.out.size))
    have N' := Lib.hid (N.out.below hb N.out.lt)
    have T' := Lib.hid (T.out.below hb T.out.lt)
    clear hb B N T n0 n1 t0 t1
    have n0 := (N'.out.cell 0).trans rfl
    have n1 := (N'.out.cell 1).trans rfl
    have t0 := (T'.out.cell 0).trans rfl
    have t1 := (T'.out.cell 1).trans rfl
    have B := Lib.hid B'.out
    have N := Lib.hid N'.out
    have T := Lib.hid T'.out
    clear B' N' T'
    have HGC := Lib.hid B.out.size
    have M := Lib.hid (Blk.new w' 29 #[.int .i64 0, .int .i64 0, .int .i64 0, .int .i64 0, .float .f64 0])
    have N' := Lib.hid (N.out.alloc (.cells #[.int .i64 0, .int .i64 0, .int .i64 0, .int .i64 0, .float .f64 0] 29))
    have T' := Lib.hid (T.out.alloc (.cells #[.int .i64 0, .int .i64 0, .int .i64 0, .int .i64 0, .float .f64 0] 29))
    have B' := Lib.hid (below_alloc B.out (.cells #[.int .i64 0, .int .i64 0, .int .i64 0, .int .i64 0, .float .f64 0] 29))
    go_wp2_with (refine wpList_store (.tmp 7) (.tmp 19) 29 rfl rfl w'.heap.size 0 _ _ #[.int .i64 z1, .int .i64 z2, .int .i64 z3, .int .i64 z4, .float .f64 z5] rfl rfl M.out (by kernel_rfl) (by simp [Value.oneCell']) (by simp) ?_)
    intro w7 hn7 ko7
    have h7 : Blk w7 w'.heap.size 29 #[.int .i64 z1, .int .i64 z2, .int .i64 z3, .int .i64 z4, .float .f64 z5] := hn7
    have B7 := Lib.hid (B'.out.trans (ko7.below B.out.size))
    have N7 := Lib.hid (ko7.blk N'.out (Nat.ne_of_lt N.out.lt))
    have T7 := Lib.hid (ko7.blk T'.out (Nat.ne_of_lt T.out.lt))
    have H7 := Lib.hid h7
    clear hn7 ko7 h7 M B' B N' T' N T n0 n1 t0 t1
    generalize w'.heap.size = gc at *
    have n0 := (N7.out.cell 0).trans rfl
    have n1 := (N7.out.cell 1).trans rfl
    have t0 := (T7.out.cell 0).trans rfl
    have t1 := (T7.out.cell 1).trans rfl
    have c0 := (H7.out.cell 0).trans rfl
    have c1 := (H7.out.cell 1).trans rfl
    have c2 := (H7.out.cell 2).trans rfl
    have c3 := (H7.out.cell 3).trans rfl
    have c4 := (H7.out.cell 4).trans rfl
    have B := Lib.hid B7.out
    have N := Lib.hid N7.out
    have T := Lib.hid T7.out
    have C := Lib.hid H7.out
    clear B7 H7 N7 T7
    go_wp2_with fail
    go_ret
    exact ⟨rfl, B.out⟩
end Go.Proofs.YtejdnpbkljdahaaDoor
