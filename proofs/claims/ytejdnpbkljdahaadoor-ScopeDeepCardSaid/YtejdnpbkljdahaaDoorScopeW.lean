/-
  ScopeW: the walks of package scope: which contexts are right, which are open.
-/
import Derived.Test.YtejdnpbkljdahaaDoorScopeR
import Derived.Test.YtejdnpbkljdahaaDoorFltRef
namespace Go.Proofs.YtejdnpbkljdahaaDoor
open Go.RowKit Go.Extern.Stop Go.Stop Go.Extern Ieee
attribute [local go_sem] flt_def fgt_def feq_def fne_def

theorem isout_any (o : Int) (w : World) : Calls Tryd.prog 23 #[.int .i64 o] w fun e w' => e = .returned (.bool (isOut o)) ∧ Below w.heap.size w w' := by
  unfold isOut
  cases h1 : (o == 1) <;> cases h2 : (o == 2)
  all_goals
    go_enter Tryd.func23, Tryd.ntmps23
    go_wp2_with fail
    go_ret
    exact ⟨rfl, Below.refl _ _⟩
theorem ord_zero {x : Nat} (h : isDel x = true) : (cmpI (place (plainN x)) (place x) == 0) = okF x := by
  rcases del_form h with ⟨h1, h2, h3⟩ | ⟨h1, h2, h3⟩
  · have := plain_le h
    rw [h2] at this ⊢
    unfold cmpI okF
    rw [if_neg (by omega), if_neg (by omega), decide_eq_true this]; rfl
  · rw [h2, h1]; decide
theorem okF_del {x : Nat} (h : isDel x = false) : okF x = false := by
  cases hf : okF x with
  | false => rfl
  | true => rw [del_small (okF_yes hf)] at h; cases h
set_option maxRecDepth 20000 in
set_option maxHeartbeats 2000000 in
theorem sright_any (n s o d : Int) (x : Nat) (hn : -9223372036854775808 ≤ n) (hs : -9223372036854775808 ≤ s) (hx : x < 18446744073709551616) (w : World) (E : Nat → Addr) (h : IdsG w E) :
    Calls Tryd.prog 12 #[.agg #[.int .i64 n, .int .i64 s, .int .i64 o, .int .i64 d, .float .f64 x]] w fun e w' => e = .returned (.bool (rightC ⟨n, s, o, d, x⟩)) ∧ Below w.heap.size w w' := by
  have HR := Lib.hid (show rightC ⟨n, s, o, d, x⟩ = (okF x && actB n s && isOut o && (decide (0 ≤ d) && decide (d ≤ 3))) from rfl)
  have HG := Lib.hid (fun w' (hb : Below w.heap.size w w') => h.below hb)
  have HD := Lib.hid (fun w' (h : Errs w' E) => delay_any x hx w' E (h.on [0, 3] (by decide)))
  have HA := Lib.hid (fun w' h => right_any w' E n s hn hs h)
  generalize rightC ⟨n, s, o, d, x⟩ = r at *
  have B := Lib.hid (below_alloc1 w (.cells #[.int .i64 n, .int .i64 s, .int .i64 o, .int .i64 d, .float .f64 x] 29))
  have N := Lib.hid (Blk.new w 29 #[.int .i64 n, .int .i64 s, .int .i64 o, .int .i64 d, .float .f64 x])
  have c0 := (N.out.cell 0).trans rfl
  have c1 := (N.out.cell 1).trans rfl
  have c2 := (N.out.cell 2).trans rfl
  have c3 := (N.out.cell 3).trans rfl
  have c4 := (N.out.cell 4).trans rfl
  clear h
  cases hd : isDel x
  · have hf := okF_del hd
    clear hn hs HA
    go_enter Tryd.func12, Tryd.ntmps12
    go_wp2_with fail
    refine (HD.out _ (HG.out _ B.out).errs).mono ?_
    rintro e w' ⟨rfl, hb⟩
    unfold delV
    rw [(del_no hd).1, (del_no hd).2, errV_four]
    have B' := Lib.hid (B.out.trans (hb.mono B.out.size))
    have N' := Lib.hid (N.out.below hb N.out.lt)
    clear c0 c1 c2 c3 c4 hb B N
    have c0 := (N'.out.cell 0).trans rfl
    have c1 := (N'.out.cell 1).trans rfl
    have c2 := (N'.out.cell 2).trans rfl
    have c3 := (N'.out.cell 3).trans rfl
    have c4 := (N'.out.cell 4).trans rfl
    have B := Lib.hid B'.out
    have N := Lib.hid N'.out
    clear B' N'
    go_wp2_with fail
    go_ret
    exact ⟨by rw [HR.out, hf]; rfl, B.out⟩
  · have hp : plainN x < 18446744073709551616 := by have := plain_le hd; unfold infR at this; omega
    have HO := Lib.hid (fun w' => order_any (plainN x) x hp hx w')
    have hq := ord_zero hd
    have e1 := (del_yes hd).1
    have e2 := (del_yes hd).2
    unfold actV at HA
    clear hn hs hp hd hx
    generalize cmpI (place (plainN x)) (place x) = q at *
    generalize plainN x = y at *
    cases hf : okF x
    · rw [hf] at hq
      go_enter Tryd.func12, Tryd.ntmps12
      go_wp2_with fail
      refine (HD.out _ (HG.out _ B.out).errs).mono ?_
      rintro e w' ⟨rfl, hb⟩
      unfold delV
      rw [e1, e2, errV_zero]
      have B' := Lib.hid (B.out.trans (hb.mono B.out.size))
      have N' := Lib.hid (N.out.below hb N.out.lt)
      clear c0 c1 c2 c3 c4 hb B N
      have c0 := (N'.out.cell 0).trans rfl
      have c1 := (N'.out.cell 1).trans rfl
      have c2 := (N'.out.cell 2).trans rfl
      have c3 := (N'.out.cell 3).trans rfl
      have c4 := (N'.out.cell 4).trans rfl
      have B := Lib.hid B'.out
      have N := Lib.hid N'.out
      clear B' N'
      go_wp2_with fail
      refine (HO.out _).mono ?_
      rintro e w' ⟨rfl, hb⟩
      have B' := Lib.hid (B.out.trans (hb.mono B.out.size))
      have N' := Lib.hid (N.out.below hb N.out.lt)
      clear c0 c1 c2 c3 c4 hb B N
      have c0 := (N'.out.cell 0).trans rfl
      have c1 := (N'.out.cell 1).trans rfl
      have c2 := (N'.out.cell 2).trans rfl
      have c3 := (N'.out.cell 3).trans rfl
      have c4 := (N'.out.cell 4).trans rfl
      have B := Lib.hid B'.out
      have N := Lib.hid N'.out
      clear B' N'
      go_wp2_with fail
      go_ret
      exact ⟨by rw [HR.out, hf]; rfl, B.out⟩
    · rw [hf] at hq
      cases ha : actB n s <;> cases ho : isOut o <;> cases h3 : decide (0 ≤ d) <;> cases h4 : decide (d ≤ 3) <;> rw [hf, ha, ho, h3, h4] at HR
      all_goals
        unfold actB at ha
        rw [ha] at HA
        obtain rfl : r = _ := HR.out
        clear HR
        have HI := Lib.hid (fun w' => isout_any o w')
        rw [ho] at HI
        go_enter Tryd.func12, Tryd.ntmps12
        go_wp2_with (first
          | (go_at_call 29; refine (HD.out _ (HG.out _ B.out).errs).mono ?_; rintro e w' ⟨rfl, hb⟩; unfold delV; rw [e1, e2, errV_zero]; have B' := Lib.hid (B.out.trans (hb.mono B.out.size)); have N' := Lib.hid (N.out.below hb N.out.lt); clear c0 c1 c2 c3 c4 hb B N; have c0 := (N'.out.cell 0).trans rfl; have c1 := (N'.out.cell 1).trans rfl; have c2 := (N'.out.cell 2).trans rfl; have c3 := (N'.out.cell 3).trans rfl; have c4 := (N'.out.cell 4).trans rfl; have B := Lib.hid B'.out; have N := Lib.hid N'.out; clear B' N')
          | (go_at_call 13; refine (HO.out _).mono ?_; rintro e w' ⟨rfl, hb⟩; have B' := Lib.hid (B.out.trans (hb.mono B.out.size)); have N' := Lib.hid (N.out.below hb N.out.lt); clear c0 c1 c2 c3 c4 hb B N; have c0 := (N'.out.cell 0).trans rfl; have c1 := (N'.out.cell 1).trans rfl; have c2 := (N'.out.cell 2).trans rfl; have c3 := (N'.out.cell 3).trans rfl; have c4 := (N'.out.cell 4).trans rfl; have B := Lib.hid B'.out; have N := Lib.hid N'.out; clear B' N')
          | (go_at_call 21; refine (HA.out _ (HG.out _ B.out)).mono ?_; rintro e w' ⟨rfl, hb⟩; have B' := Lib.hid (B.out.trans (hb.mono B.out.size)); have N' := Lib.hid (N.out.below hb N.out.lt); clear c0 c1 c2 c3 c4 hb B N; have c0 := (N'.out.cell 0).trans rfl; have c1 := (N'.out.cell 1).trans rfl; have c2 := (N'.out.cell 2).trans rfl; have c3 := (N'.out.cell 3).trans rfl; have c4 := (N'.out.cell 4).trans rfl; have B := Lib.hid B'.out; have N := Lib.hid N'.out; clear B' N')
          | (go_at_call 23; refine (HI.out _).mono ?_; rintro e w' ⟨rfl, hb⟩; have B' := Lib.hid (B.out.trans (hb.mono B.out.size)); have N' := Lib.hid (N.out.below hb N.out.lt); clear c0 c1 c2 c3 c4 hb B N; have c0 := (N'.out.cell 0).trans rfl; have c1 := (N'.out.cell 1).trans rfl; have c2 := (N'.out.cell 2).trans rfl; have c3 := (N'.out.cell 3).trans rfl; have c4 := (N'.out.cell 4).trans rfl; have B := Lib.hid B'.out; have N := Lib.hid N'.out; clear B' N'))
        go_ret
        exact ⟨rfl, B.out⟩
end Go.Proofs.YtejdnpbkljdahaaDoor
