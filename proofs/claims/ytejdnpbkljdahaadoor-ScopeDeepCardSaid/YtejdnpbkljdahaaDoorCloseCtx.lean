/-
  CloseCtx: a context that is handed in.
-/
import Derived.Test.YtejdnpbkljdahaaDoorCloseAct
import Derived.Test.YtejdnpbkljdahaaDoorScopeP
namespace Go.Proofs.YtejdnpbkljdahaaDoor
open Go.RowKit Go.ChangeShapes Go.WideShapes Go.ChangeAt

theorem trod_f64 {H : Type} {enc : TypeId × Value → H} {P : Program} {w : World} {base : Nat} {sp : Nat → Bool} {held : Bool} {fuel : Nat} {e : TypeId} {v : Value} {x : DataW H × List MemPlace}
    (he : P.underlying e = some (.float .f64)) (h : DataW.trod enc P w base sp held fuel e [v] = some x) : ∃ y : Nat, v = .float .f64 y ∧ y < 18446744073709551616 := by
  cases fuel with
  | zero => simp [DataW.trod] at h
  | succ n =>
    simp only [DataW.trod, he] at h
    split at h
    all_goals rename_i he2 hcs
    all_goals first | (cases h; done) | (cases he2; done) | skip
    all_goals
      first
        | (cases hcs; done)
        | (simp only [TypeDesc.float.injEq, Option.some.injEq] at he2
           subst he2
           simp only [List.cons.injEq, and_true] at hcs
           subst hcs
           split at h
           · rename_i hw
             obtain ⟨rfl, hw⟩ := hw
             exact ⟨_, rfl, by simpa [Lit.wf] using hw⟩
           · cases h)
theorem array5 {α : Type} {cs : Array α} (h : cs.size = 5) : ∃ c0 c1 c2 c3 c4, cs = #[c0, c1, c2, c3, c4] := by
  obtain ⟨l⟩ := cs
  match l, h with
  | [c0, c1, c2, c3, c4], _ => exact ⟨c0, c1, c2, c3, c4, rfl⟩
section
variable {H : Type} {enc : TypeId × Value → H}
set_option maxRecDepth 100000 in
theorem open_ctx {w : World} {spare : Nat → Bool} {base : Nat} {held : Bool} {r : Reach} {b0 : Nat} {v : Value} {d : DataW H} {ps : List MemPlace}
    (hval : Value.okWide Tryd.prog w r b0 29 v) (hd : DataW.Trod enc Tryd.prog w base spare held 29 v d ps) : ∃ c : Ctx, v = ctxV c ∧ c.wf := by
  obtain ⟨cs, rfl, hsz⟩ := okWide_struct Tryd.underlying29 hval
  obtain ⟨c0, c1, c2, c3, c4, rfl⟩ := array5 (hsz.trans (by kernel_rfl))
  obtain ⟨fuel, hf⟩ := hd
  obtain ⟨y0, y1, y2, y3, n, _, _, h0, h1, h2, h3⟩ := Joins.trod_struct4 Tryd.underlying29 hf
  have k0 : Tryd.prog.cellsOf 23 = 2 := by kernel_rfl
  have k1 : Tryd.prog.cellsOf 3 = 1 := by kernel_rfl
  have k2 : Tryd.prog.cellsOf 24 = 1 := by kernel_rfl
  simp only [Value.cells, k0, k1, k2, List.drop_succ_cons, List.drop_zero, List.take_succ_cons, List.take_zero] at h0 h1 h2 h3
  obtain ⟨z0, z1, m, _, _, g0, g1⟩ := trod_struct2 Tryd.underlying23 h0
  simp only [k1, List.drop_succ_cons, List.drop_zero, List.take_succ_cons, List.take_zero] at g0 g1
  obtain ⟨a, rfl, ha⟩ := trod_i64 Tryd.underlying3 g0
  obtain ⟨b, rfl, hb⟩ := trod_i64 Tryd.underlying3 g1
  obtain ⟨o, rfl, ho⟩ := trod_i64 Tryd.underlying3 h1
  obtain ⟨e, rfl, he⟩ := trod_i64 Tryd.underlying3 h2
  obtain ⟨x, rfl, hx⟩ := trod_f64 Tryd.underlying24 h3
  exact ⟨⟨a, b, o, e, x⟩, rfl, int_bd ha, int_bd hb, int_bd ho, int_bd he, hx⟩
set_option maxRecDepth 100000 in
theorem open_times {w : World} {spare : Nat → Bool} {base : Nat} {held : Bool} {r : Reach} {b0 : Nat} {v : Value} {d : DataW H} {ps : List MemPlace}
    (hval : Value.okWide Tryd.prog w r b0 26 v) (hd : DataW.Trod enc Tryd.prog w base spare held 26 v d ps) : ∃ x y : Nat, v = .agg #[.float .f64 x, .float .f64 y] ∧ x < 18446744073709551616 ∧ y < 18446744073709551616 := by
  obtain ⟨v0, v1, y0, y1, n, rfl, _, _, h0, h1⟩ := Joins.open_agg2 Tryd.underlying26 (by kernel_rfl) (by kernel_rfl) hval hd
  obtain ⟨x, rfl, hx⟩ := trod_f64 Tryd.underlying24 h0
  obtain ⟨y, rfl, hy⟩ := trod_f64 Tryd.underlying24 h1
  exact ⟨x, y, rfl, hx, hy⟩
end
end Go.Proofs.YtejdnpbkljdahaaDoor
