/-
  ScopeO: which contexts are open: package scope's answer.
-/
import Derived.Test.YtejdnpbkljdahaaDoorScopeW
namespace Go.Proofs.YtejdnpbkljdahaaDoor
open Go.RowKit Go.Extern.Stop Go.Stop Go.Extern Ieee
attribute [local go_sem] flt_def fgt_def feq_def fne_def

theorem right_x {c : Ctx} (h : rightC c = true) : c.x ≤ infR := by
  unfold rightC at h
  simp only [Bool.and_eq_true] at h
  exact okF_yes h.1.1.1
set_option maxRecDepth 20000 in
set_option maxHeartbeats 2000000 in
theorem sopen_any (n s o d : Int) (x now : Nat) (hn : -9223372036854775808 ≤ n) (hs : -9223372036854775808 ≤ s) (hx : x < 18446744073709551616) (ht : now < 18446744073709551616) (w : World) (E : Nat → Addr) (h : IdsG w E) :
    Calls Tryd.prog 14 #[.agg #[.int .i64 n, .int .i64 s, .int .i64 o, .int .i64 d, .float .f64 x], .float .f64 now] w fun e w' => e = .returned (.bool (openC ⟨n, s, o, d, x⟩ now)) ∧ Below w.heap.size w w' := by
  have HR := Lib.hid (sright_any n s o d x hn hs hx _ E (h.below (below_alloc1 w (.cells #[.int .i64 n, .int .i64 s, .int .i64 o, .int .i64 d, .float .f64 x] 29))))
  have HO := Lib.hid (show openC ⟨n, s, o, d, x⟩ now = (rightC ⟨n, s, o, d, x⟩ && (isDel now && decide (plainN now < x))) from rfl)
  have HX := Lib.hid (@right_x ⟨n, s, o, d, x⟩)
  have hd := del_eq ht
  have HL := Lib.hid (fun h1 h2 => @flt_ok now x h1 h2)
  generalize openC ⟨n, s, o, d, x⟩ now = r at *
  generalize rightC ⟨n, s, o, d, x⟩ = q at *
  have B := Lib.hid (below_alloc1 w (.cells #[.int .i64 n, .int .i64 s, .int .i64 o, .int .i64 d, .float .f64 x] 29))
  have N := Lib.hid (Blk.new w 29 #[.int .i64 n, .int .i64 s, .int .i64 o, .int .i64 d, .float .f64 x])
  have c0 := (N.out.cell 0).trans rfl
  have c1 := (N.out.cell 1).trans rfl
  have c2 := (N.out.cell 2).trans rfl
  have c3 := (N.out.cell 3).trans rfl
  have c4 := (N.out.cell 4).trans rfl
  clear h hn hs
  cases q
  · go_enter Tryd.func14, Tryd.ntmps14
    go_wp2_with fail
    refine HR.out.mono ?_
    rintro e w' ⟨rfl, hb⟩
    have B' := Lib.hid (B.out.trans (hb.mono B.out.size))
    have N' := Lib.hid (N.out.below hb N.out.lt)
    clear c0 c1 c2 c3 c4 hb B N
    have c0 := (N'.out.cell 0).trans rfl
    have c1 := (N'.out.cell 1).trans rfl
    have c2 := (N'.out.cell 2).trans rfl
    have c3 := (N'.out.cell 3).trans rfl
    have c4 := (N'.out.cell 4).trans rfl
    have B := Lib.hid B'.out
    have N := Lib.hid N'.out
    clear B' N'
    go_wp2_with fail
    go_ret
    exact ⟨by rw [HO.out]; rfl, B.out⟩
  · have hxi := HX.out rfl
    cases h1 : isDel now
    · rw [h1] at hd
      go_enter Tryd.func14, Tryd.ntmps14
      go_wp2_with fail
      refine HR.out.mono ?_
      rintro e w' ⟨rfl, hb⟩
      have B' := Lib.hid (B.out.trans (hb.mono B.out.size))
      have N' := Lib.hid (N.out.below hb N.out.lt)
      clear c0 c1 c2 c3 c4 hb B N
      have c0 := (N'.out.cell 0).trans rfl
      have c1 := (N'.out.cell 1).trans rfl
      have c2 := (N'.out.cell 2).trans rfl
      have c3 := (N'.out.cell 3).trans rfl
      have c4 := (N'.out.cell 4).trans rfl
      have B := Lib.hid B'.out
      have N := Lib.hid N'.out
      clear B' N'
      go_wp2_with fail
      go_ret
      exact ⟨by rw [HO.out, h1]; rfl, B.out⟩
    · rw [h1] at hd
      have hl := HL.out h1 hxi
      clear HL HX hxi hx ht
      cases h2 : decide (plainN now < x)
      all_goals
        rw [h2] at hl
        rw [h1, h2] at HO
        clear h2
        go_enter Tryd.func14, Tryd.ntmps14
        go_wp2_with fail
        refine HR.out.mono ?_
        rintro e w' ⟨rfl, hb⟩
        have B' := Lib.hid (B.out.trans (hb.mono B.out.size))
        have N' := Lib.hid (N.out.below hb N.out.lt)
        clear c0 c1 c2 c3 c4 hb B N
        have c0 := (N'.out.cell 0).trans rfl
        have c1 := (N'.out.cell 1).trans rfl
        have c2 := (N'.out.cell 2).trans rfl
        have c3 := (N'.out.cell 3).trans rfl
        have c4 := (N'.out.cell 4).trans rfl
        have B := Lib.hid B'.out
        have N := Lib.hid N'.out
        clear B' N'
        go_wp2_with fail
        go_ret
        exact ⟨by rw [HO.out]; rfl, B.out⟩
end Go.Proofs.YtejdnpbkljdahaaDoor
