/-
  LawOnce: the walk of ScopeOnce.
-/
import Derived.Test.YtejdnpbkljdahaaDoorScopeL
namespace Go.Proofs.YtejdnpbkljdahaaDoor
open Go.RowKit Go.Extern.Stop Go.Stop Go.Extern Ieee
attribute [local go_sem] flt_def fgt_def feq_def fne_def

theorem open_flt {c : Ctx} {a : Nat} (h : openC c a = true) : isDel a = true ∧ rightC c = true ∧ flt a c.x = true := by
  unfold openC at h
  simp only [Bool.and_eq_true, decide_eq_true_eq] at h
  obtain ⟨hr, hd, hl⟩ := h
  exact ⟨hd, hr, by rw [flt_ok hd (right_x hr), decide_eq_true hl]⟩
set_option maxRecDepth 20000 in
set_option maxHeartbeats 4000000 in
theorem once_law (n s o d : Int) (x a b : Nat) (hn : -9223372036854775808 ≤ n) (hs : -9223372036854775808 ≤ s) (hx : x < 18446744073709551616) (ha : a < 18446744073709551616) (hb : b < 18446744073709551616) (w : World) (E : Nat → Addr) (h : IdsG w E) :
    Calls Tryd.prog 4 #[.agg #[.int .i64 n, .int .i64 s, .int .i64 o, .int .i64 d, .float .f64 x], .float .f64 a, .float .f64 b] w fun e w' => e = .returned (.bool true) ∧ Below w.heap.size w w' := by
  have HG := Lib.hid (fun w' (hb : Below w.heap.size w w') => h.below hb)
  have HAL := Lib.hid (fun w' h => alive9_any w' E h)
  have HQ := Lib.hid (fun w' => order_any a b ha hb w')
  have HRI := Lib.hid (fun w' h => sright_any n s o d x hn hs hx w' E h)
  have B := Lib.hid (below_alloc1 w (.cells #[.int .i64 n, .int .i64 s, .int .i64 o, .int .i64 d, .float .f64 x] 29))
  have N := Lib.hid (Blk.new w 29 #[.int .i64 n, .int .i64 s, .int .i64 o, .int .i64 d, .float .f64 x])
  have c0 := (N.out.cell 0).trans rfl
  have c1 := (N.out.cell 1).trans rfl
  have c2 := (N.out.cell 2).trans rfl
  have c3 := (N.out.cell 3).trans rfl
  have c4 := (N.out.cell 4).trans rfl
  have HO := Lib.hid (fun (y : Nat) (hy : y < 18446744073709551616) w' h => sopen_any n s o d x y hn hs hx hy w' E h)
  have HAa := Lib.hid ha
  have HBb := Lib.hid hb
  clear h
  obtain ⟨q, hq0⟩ : ∃ q, q = cmpI (place a) (place b) := ⟨_, rfl⟩
  have hcq := hq0
  rw [← hq0] at HQ
  clear hq0
  by_cases hq : 0 < q
  · have hpl : place b ≤ place a := by
      unfold cmpI at hcq
      split at hcq
      · omega
      · split at hcq <;> omega
    have dq : decide (0 < q) = true := decide_eq_true hq
    have hg := del_eq hb
    have HM := Lib.hid (fun h1 h2 => @open_mono ⟨n, s, o, d, x⟩ b a hpl h1 h2)
    have HF := Lib.hid (fun h => @open_flt ⟨n, s, o, d, x⟩ b h)
    clear hn hs hx ha hb hcq hpl
    cases e2' : openC ⟨n, s, o, d, x⟩ b
    · cases e1' : openC ⟨n, s, o, d, x⟩ a
      · clear HM HF
        go_enter Tryd.func4, Tryd.ntmps4
        go_wp2_with (first
          | (go_at_call 7; refine (HAL.out _ (HG.out _ B.out)).mono ?_; rintro e w' ⟨rfl, hb⟩; have B' := Lib.hid (B.out.trans (hb.mono B.out.size)); have N' := Lib.hid (N.out.below hb N.out.lt); clear c0 c1 c2 c3 c4 hb B N; have c0 := (N'.out.cell 0).trans rfl; have c1 := (N'.out.cell 1).trans rfl; have c2 := (N'.out.cell 2).trans rfl; have c3 := (N'.out.cell 3).trans rfl; have c4 := (N'.out.cell 4).trans rfl; have B := Lib.hid B'.out; have N := Lib.hid N'.out; clear B' N')
          | (go_at_call 13; refine (HQ.out _).mono ?_; rintro e w' ⟨rfl, hb⟩; have B' := Lib.hid (B.out.trans (hb.mono B.out.size)); have N' := Lib.hid (N.out.below hb N.out.lt); clear c0 c1 c2 c3 c4 hb B N; have c0 := (N'.out.cell 0).trans rfl; have c1 := (N'.out.cell 1).trans rfl; have c2 := (N'.out.cell 2).trans rfl; have c3 := (N'.out.cell 3).trans rfl; have c4 := (N'.out.cell 4).trans rfl; have B := Lib.hid B'.out; have N := Lib.hid N'.out; clear B' N')
          | (go_at_call 14; refine (HO.out _ ?_ _ (HG.out _ B.out)).mono ?_; (first | exact HAa.out | exact HBb.out); rintro e w' ⟨rfl, hb⟩; have B' := Lib.hid (B.out.trans (hb.mono B.out.size)); have N' := Lib.hid (N.out.below hb N.out.lt); clear c0 c1 c2 c3 c4 hb B N; have c0 := (N'.out.cell 0).trans rfl; have c1 := (N'.out.cell 1).trans rfl; have c2 := (N'.out.cell 2).trans rfl; have c3 := (N'.out.cell 3).trans rfl; have c4 := (N'.out.cell 4).trans rfl; have B := Lib.hid B'.out; have N := Lib.hid N'.out; clear B' N')
          | (go_at_call 12; refine (HRI.out _ (HG.out _ B.out)).mono ?_; rintro e w' ⟨rfl, hb⟩; have B' := Lib.hid (B.out.trans (hb.mono B.out.size)); have N' := Lib.hid (N.out.below hb N.out.lt); clear c0 c1 c2 c3 c4 hb B N; have c0 := (N'.out.cell 0).trans rfl; have c1 := (N'.out.cell 1).trans rfl; have c2 := (N'.out.cell 2).trans rfl; have c3 := (N'.out.cell 3).trans rfl; have c4 := (N'.out.cell 4).trans rfl; have B := Lib.hid B'.out; have N := Lib.hid N'.out; clear B' N'))
        go_ret
        exact ⟨rfl, B.out⟩
      · cases hd : isDel b
        · rw [hd] at hg
          clear HM HF hd
          go_enter Tryd.func4, Tryd.ntmps4
          go_wp2_with (first
            | (go_at_call 7; refine (HAL.out _ (HG.out _ B.out)).mono ?_; rintro e w' ⟨rfl, hb⟩; have B' := Lib.hid (B.out.trans (hb.mono B.out.size)); have N' := Lib.hid (N.out.below hb N.out.lt); clear c0 c1 c2 c3 c4 hb B N; have c0 := (N'.out.cell 0).trans rfl; have c1 := (N'.out.cell 1).trans rfl; have c2 := (N'.out.cell 2).trans rfl; have c3 := (N'.out.cell 3).trans rfl; have c4 := (N'.out.cell 4).trans rfl; have B := Lib.hid B'.out; have N := Lib.hid N'.out; clear B' N')
            | (go_at_call 13; refine (HQ.out _).mono ?_; rintro e w' ⟨rfl, hb⟩; have B' := Lib.hid (B.out.trans (hb.mono B.out.size)); have N' := Lib.hid (N.out.below hb N.out.lt); clear c0 c1 c2 c3 c4 hb B N; have c0 := (N'.out.cell 0).trans rfl; have c1 := (N'.out.cell 1).trans rfl; have c2 := (N'.out.cell 2).trans rfl; have c3 := (N'.out.cell 3).trans rfl; have c4 := (N'.out.cell 4).trans rfl; have B := Lib.hid B'.out; have N := Lib.hid N'.out; clear B' N')
            | (go_at_call 14; refine (HO.out _ ?_ _ (HG.out _ B.out)).mono ?_; (first | exact HAa.out | exact HBb.out); rintro e w' ⟨rfl, hb⟩; have B' := Lib.hid (B.out.trans (hb.mono B.out.size)); have N' := Lib.hid (N.out.below hb N.out.lt); clear c0 c1 c2 c3 c4 hb B N; have c0 := (N'.out.cell 0).trans rfl; have c1 := (N'.out.cell 1).trans rfl; have c2 := (N'.out.cell 2).trans rfl; have c3 := (N'.out.cell 3).trans rfl; have c4 := (N'.out.cell 4).trans rfl; have B := Lib.hid B'.out; have N := Lib.hid N'.out; clear B' N')
            | (go_at_call 12; refine (HRI.out _ (HG.out _ B.out)).mono ?_; rintro e w' ⟨rfl, hb⟩; have B' := Lib.hid (B.out.trans (hb.mono B.out.size)); have N' := Lib.hid (N.out.below hb N.out.lt); clear c0 c1 c2 c3 c4 hb B N; have c0 := (N'.out.cell 0).trans rfl; have c1 := (N'.out.cell 1).trans rfl; have c2 := (N'.out.cell 2).trans rfl; have c3 := (N'.out.cell 3).trans rfl; have c4 := (N'.out.cell 4).trans rfl; have B := Lib.hid B'.out; have N := Lib.hid N'.out; clear B' N'))
          go_ret
          exact ⟨rfl, B.out⟩
        · exact absurd (HM.out hd e1') (by rw [e2']; decide)
    · obtain ⟨e1, e2, e3⟩ := HF.out e2'
      change flt b x = true at e3
      rw [e1] at hg
      clear HM HF e1
      cases e1' : openC ⟨n, s, o, d, x⟩ a
      all_goals
        go_enter Tryd.func4, Tryd.ntmps4
        go_wp2_with (first
          | (go_at_call 7; refine (HAL.out _ (HG.out _ B.out)).mono ?_; rintro e w' ⟨rfl, hb⟩; have B' := Lib.hid (B.out.trans (hb.mono B.out.size)); have N' := Lib.hid (N.out.below hb N.out.lt); clear c0 c1 c2 c3 c4 hb B N; have c0 := (N'.out.cell 0).trans rfl; have c1 := (N'.out.cell 1).trans rfl; have c2 := (N'.out.cell 2).trans rfl; have c3 := (N'.out.cell 3).trans rfl; have c4 := (N'.out.cell 4).trans rfl; have B := Lib.hid B'.out; have N := Lib.hid N'.out; clear B' N')
          | (go_at_call 13; refine (HQ.out _).mono ?_; rintro e w' ⟨rfl, hb⟩; have B' := Lib.hid (B.out.trans (hb.mono B.out.size)); have N' := Lib.hid (N.out.below hb N.out.lt); clear c0 c1 c2 c3 c4 hb B N; have c0 := (N'.out.cell 0).trans rfl; have c1 := (N'.out.cell 1).trans rfl; have c2 := (N'.out.cell 2).trans rfl; have c3 := (N'.out.cell 3).trans rfl; have c4 := (N'.out.cell 4).trans rfl; have B := Lib.hid B'.out; have N := Lib.hid N'.out; clear B' N')
          | (go_at_call 14; refine (HO.out _ ?_ _ (HG.out _ B.out)).mono ?_; (first | exact HAa.out | exact HBb.out); rintro e w' ⟨rfl, hb⟩; have B' := Lib.hid (B.out.trans (hb.mono B.out.size)); have N' := Lib.hid (N.out.below hb N.out.lt); clear c0 c1 c2 c3 c4 hb B N; have c0 := (N'.out.cell 0).trans rfl; have c1 := (N'.out.cell 1).trans rfl; have c2 := (N'.out.cell 2).trans rfl; have c3 := (N'.out.cell 3).trans rfl; have c4 := (N'.out.cell 4).trans rfl; have B := Lib.hid B'.out; have N := Lib.hid N'.out; clear B' N')
          | (go_at_call 12; refine (HRI.out _ (HG.out _ B.out)).mono ?_; rintro e w' ⟨rfl, hb⟩; have B' := Lib.hid (B.out.trans (hb.mono B.out.size)); have N' := Lib.hid (N.out.below hb N.out.lt); clear c0 c1 c2 c3 c4 hb B N; have c0 := (N'.out.cell 0).trans rfl; have c1 := (N'.out.cell 1).trans rfl; have c2 := (N'.out.cell 2).trans rfl; have c3 := (N'.out.cell 3).trans rfl; have c4 := (N'.out.cell 4).trans rfl; have B := Lib.hid B'.out; have N := Lib.hid N'.out; clear B' N'))
        go_ret
        exact ⟨rfl, B.out⟩
  · have hpl : place a ≤ place b := by
      unfold cmpI at hcq
      split at hcq
      · omega
      · split at hcq <;> omega
    have dq : decide (0 < q) = false := decide_eq_false hq
    have hg := del_eq ha
    have HM := Lib.hid (fun h1 h2 => @open_mono ⟨n, s, o, d, x⟩ a b hpl h1 h2)
    have HF := Lib.hid (fun h => @open_flt ⟨n, s, o, d, x⟩ a h)
    clear hn hs hx ha hb hcq hpl
    cases e2' : openC ⟨n, s, o, d, x⟩ a
    · cases e1' : openC ⟨n, s, o, d, x⟩ b
      · clear HM HF
        go_enter Tryd.func4, Tryd.ntmps4
        go_wp2_with (first
          | (go_at_call 7; refine (HAL.out _ (HG.out _ B.out)).mono ?_; rintro e w' ⟨rfl, hb⟩; have B' := Lib.hid (B.out.trans (hb.mono B.out.size)); have N' := Lib.hid (N.out.below hb N.out.lt); clear c0 c1 c2 c3 c4 hb B N; have c0 := (N'.out.cell 0).trans rfl; have c1 := (N'.out.cell 1).trans rfl; have c2 := (N'.out.cell 2).trans rfl; have c3 := (N'.out.cell 3).trans rfl; have c4 := (N'.out.cell 4).trans rfl; have B := Lib.hid B'.out; have N := Lib.hid N'.out; clear B' N')
          | (go_at_call 13; refine (HQ.out _).mono ?_; rintro e w' ⟨rfl, hb⟩; have B' := Lib.hid (B.out.trans (hb.mono B.out.size)); have N' := Lib.hid (N.out.below hb N.out.lt); clear c0 c1 c2 c3 c4 hb B N; have c0 := (N'.out.cell 0).trans rfl; have c1 := (N'.out.cell 1).trans rfl; have c2 := (N'.out.cell 2).trans rfl; have c3 := (N'.out.cell 3).trans rfl; have c4 := (N'.out.cell 4).trans rfl; have B := Lib.hid B'.out; have N := Lib.hid N'.out; clear B' N')
          | (go_at_call 14; refine (HO.out _ ?_ _ (HG.out _ B.out)).mono ?_; (first | exact HAa.out | exact HBb.out); rintro e w' ⟨rfl, hb⟩; have B' := Lib.hid (B.out.trans (hb.mono B.out.size)); have N' := Lib.hid (N.out.below hb N.out.lt); clear c0 c1 c2 c3 c4 hb B N; have c0 := (N'.out.cell 0).trans rfl; have c1 := (N'.out.cell 1).trans rfl; have c2 := (N'.out.cell 2).trans rfl; have c3 := (N'.out.cell 3).trans rfl; have c4 := (N'.out.cell 4).trans rfl; have B := Lib.hid B'.out; have N := Lib.hid N'.out; clear B' N')
          | (go_at_call 12; refine (HRI.out _ (HG.out _ B.out)).mono ?_; rintro e w' ⟨rfl, hb⟩; have B' := Lib.hid (B.out.trans (hb.mono B.out.size)); have N' := Lib.hid (N.out.below hb N.out.lt); clear c0 c1 c2 c3 c4 hb B N; have c0 := (N'.out.cell 0).trans rfl; have c1 := (N'.out.cell 1).trans rfl; have c2 := (N'.out.cell 2).trans rfl; have c3 := (N'.out.cell 3).trans rfl; have c4 := (N'.out.cell 4).trans rfl; have B := Lib.hid B'.out; have N := Lib.hid N'.out; clear B' N'))
        go_ret
        exact ⟨rfl, B.out⟩
      · cases hd : isDel a
        · rw [hd] at hg
          clear HM HF hd
          go_enter Tryd.func4, Tryd.ntmps4
          go_wp2_with (first
            | (go_at_call 7; refine (HAL.out _ (HG.out _ B.out)).mono ?_; rintro e w' ⟨rfl, hb⟩; have B' := Lib.hid (B.out.trans (hb.mono B.out.size)); have N' := Lib.hid (N.out.below hb N.out.lt); clear c0 c1 c2 c3 c4 hb B N; have c0 := (N'.out.cell 0).trans rfl; have c1 := (N'.out.cell 1).trans rfl; have c2 := (N'.out.cell 2).trans rfl; have c3 := (N'.out.cell 3).trans rfl; have c4 := (N'.out.cell 4).trans rfl; have B := Lib.hid B'.out; have N := Lib.hid N'.out; clear B' N')
            | (go_at_call 13; refine (HQ.out _).mono ?_; rintro e w' ⟨rfl, hb⟩; have B' := Lib.hid (B.out.trans (hb.mono B.out.size)); have N' := Lib.hid (N.out.below hb N.out.lt); clear c0 c1 c2 c3 c4 hb B N; have c0 := (N'.out.cell 0).trans rfl; have c1 := (N'.out.cell 1).trans rfl; have c2 := (N'.out.cell 2).trans rfl; have c3 := (N'.out.cell 3).trans rfl; have c4 := (N'.out.cell 4).trans rfl; have B := Lib.hid B'.out; have N := Lib.hid N'.out; clear B' N')
            | (go_at_call 14; refine (HO.out _ ?_ _ (HG.out _ B.out)).mono ?_; (first | exact HAa.out | exact HBb.out); rintro e w' ⟨rfl, hb⟩; have B' := Lib.hid (B.out.trans (hb.mono B.out.size)); have N' := Lib.hid (N.out.below hb N.out.lt); clear c0 c1 c2 c3 c4 hb B N; have c0 := (N'.out.cell 0).trans rfl; have c1 := (N'.out.cell 1).trans rfl; have c2 := (N'.out.cell 2).trans rfl; have c3 := (N'.out.cell 3).trans rfl; have c4 := (N'.out.cell 4).trans rfl; have B := Lib.hid B'.out; have N := Lib.hid N'.out; clear B' N')
            | (go_at_call 12; refine (HRI.out _ (HG.out _ B.out)).mono ?_; rintro e w' ⟨rfl, hb⟩; have B' := Lib.hid (B.out.trans (hb.mono B.out.size)); have N' := Lib.hid (N.out.below hb N.out.lt); clear c0 c1 c2 c3 c4 hb B N; have c0 := (N'.out.cell 0).trans rfl; have c1 := (N'.out.cell 1).trans rfl; have c2 := (N'.out.cell 2).trans rfl; have c3 := (N'.out.cell 3).trans rfl; have c4 := (N'.out.cell 4).trans rfl; have B := Lib.hid B'.out; have N := Lib.hid N'.out; clear B' N'))
          go_ret
          exact ⟨rfl, B.out⟩
        · exact absurd (HM.out hd e1') (by rw [e2']; decide)
    · obtain ⟨e1, e2, e3⟩ := HF.out e2'
      change flt a x = true at e3
      rw [e1] at hg
      clear HM HF e1
      cases e1' : openC ⟨n, s, o, d, x⟩ b
      all_goals
        go_enter Tryd.func4, Tryd.ntmps4
        go_wp2_with (first
          | (go_at_call 7; refine (HAL.out _ (HG.out _ B.out)).mono ?_; rintro e w' ⟨rfl, hb⟩; have B' := Lib.hid (B.out.trans (hb.mono B.out.size)); have N' := Lib.hid (N.out.below hb N.out.lt); clear c0 c1 c2 c3 c4 hb B N; have c0 := (N'.out.cell 0).trans rfl; have c1 := (N'.out.cell 1).trans rfl; have c2 := (N'.out.cell 2).trans rfl; have c3 := (N'.out.cell 3).trans rfl; have c4 := (N'.out.cell 4).trans rfl; have B := Lib.hid B'.out; have N := Lib.hid N'.out; clear B' N')
          | (go_at_call 13; refine (HQ.out _).mono ?_; rintro e w' ⟨rfl, hb⟩; have B' := Lib.hid (B.out.trans (hb.mono B.out.size)); have N' := Lib.hid (N.out.below hb N.out.lt); clear c0 c1 c2 c3 c4 hb B N; have c0 := (N'.out.cell 0).trans rfl; have c1 := (N'.out.cell 1).trans rfl; have c2 := (N'.out.cell 2).trans rfl; have c3 := (N'.out.cell 3).trans rfl; have c4 := (N'.out.cell 4).trans rfl; have B := Lib.hid B'.out; have N := Lib.hid N'.out; clear B' N')
          | (go_at_call 14; refine (HO.out _ ?_ _ (HG.out _ B.out)).mono ?_; (first | exact HAa.out | exact HBb.out); rintro e w' ⟨rfl, hb⟩; have B' := Lib.hid (B.out.trans (hb.mono B.out.size)); have N' := Lib.hid (N.out.below hb N.out.lt); clear c0 c1 c2 c3 c4 hb B N; have c0 := (N'.out.cell 0).trans rfl; have c1 := (N'.out.cell 1).trans rfl; have c2 := (N'.out.cell 2).trans rfl; have c3 := (N'.out.cell 3).trans rfl; have c4 := (N'.out.cell 4).trans rfl; have B := Lib.hid B'.out; have N := Lib.hid N'.out; clear B' N')
          | (go_at_call 12; refine (HRI.out _ (HG.out _ B.out)).mono ?_; rintro e w' ⟨rfl, hb⟩; have B' := Lib.hid (B.out.trans (hb.mono B.out.size)); have N' := Lib.hid (N.out.below hb N.out.lt); clear c0 c1 c2 c3 c4 hb B N; have c0 := (N'.out.cell 0).trans rfl; have c1 := (N'.out.cell 1).trans rfl; have c2 := (N'.out.cell 2).trans rfl; have c3 := (N'.out.cell 3).trans rfl; have c4 := (N'.out.cell 4).trans rfl; have B := Lib.hid B'.out; have N := Lib.hid N'.out; clear B' N'))
        go_ret
        exact ⟨rfl, B.out⟩
end Go.Proofs.YtejdnpbkljdahaaDoor
