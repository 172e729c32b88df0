/-
  CloseFact: a fact that is handed in.
-/
import Derived.Test.YtjklcbdlfmmllaaGreatDoorFactP
import Derived.Test.YtjklcbdlfmmllaaGreatDoorYH
namespace Go.Proofs.YtjklcbdlfmmllaaGreatDoor
open Go.RowKit Go.ChangeShapes Go.WideShapes Go.ChangeAt

theorem trod_f64 {H : Type} {enc : TypeId × Value → H} {P : Program} {w : World} {base : Nat} {sp : Nat → Bool} {held : Bool} {fuel : Nat} {e : TypeId} {v : Value} {x : DataW H × List MemPlace}
    (he : P.underlying e = some (.float .f64)) (h : DataW.trod enc P w base sp held fuel e [v] = some x) : ∃ y : Nat, v = .float .f64 y ∧ y < 18446744073709551616 := by
  cases fuel with
  | zero => simp [DataW.trod] at h
  | succ n =>
    simp only [DataW.trod, he] at h
    split at h
    all_goals rename_i he2 hcs
    all_goals first | (cases h; done) | (cases he2; done) | skip
    all_goals
      first
        | (cases hcs; done)
        | (simp only [TypeDesc.float.injEq, Option.some.injEq] at he2
           subst he2
           simp only [List.cons.injEq, and_true] at hcs
           subst hcs
           split at h
           · rename_i hw
             obtain ⟨rfl, hw⟩ := hw
             exact ⟨_, rfl, by simpa [Lit.wf] using hw⟩
           · cases h)
theorem array14 {α : Type} {cs : Array α} (h : cs.size = 14) : ∃ c0 c1 c2 c3 c4 c5 c6 c7 c8 c9 c10 c11 c12 c13, cs = #[c0, c1, c2, c3, c4, c5, c6, c7, c8, c9, c10, c11, c12, c13] := by
  obtain ⟨l⟩ := cs
  match l, h with
  | [c0, c1, c2, c3, c4, c5, c6, c7, c8, c9, c10, c11, c12, c13], _ => exact ⟨c0, c1, c2, c3, c4, c5, c6, c7, c8, c9, c10, c11, c12, c13, rfl⟩
section
variable {H : Type} {enc : TypeId × Value → H}
theorem trod_struct13 {P : Program} {w : World} {base : Nat} {spare : Nat → Bool} {held : Bool} {t : TypeId} {f0 f1 f2 f3 f4 f5 f6 f7 f8 f9 f10 f11 f12 : Field} {fuel : Nat} {cs : List Value} {x : DataW H × List MemPlace}
    (ht : P.underlying t = some (.struct #[f0, f1, f2, f3, f4, f5, f6, f7, f8, f9, f10, f11, f12])) (h : DataW.trod enc P w base spare held fuel t cs = some x) :
    ∃ (y0 y1 y2 y3 y4 y5 y6 y7 y8 y9 y10 y11 y12 : DataW H × List MemPlace) (n : Nat), DataW.trod enc P w base spare held n f0.type ((cs.drop f0.offset).take (P.cellsOf f0.type)) = some y0 ∧ DataW.trod enc P w base spare held n f1.type ((cs.drop f1.offset).take (P.cellsOf f1.type)) = some y1 ∧ DataW.trod enc P w base spare held n f2.type ((cs.drop f2.offset).take (P.cellsOf f2.type)) = some y2 ∧ DataW.trod enc P w base spare held n f3.type ((cs.drop f3.offset).take (P.cellsOf f3.type)) = some y3 ∧ DataW.trod enc P w base spare held n f4.type ((cs.drop f4.offset).take (P.cellsOf f4.type)) = some y4 ∧ DataW.trod enc P w base spare held n f5.type ((cs.drop f5.offset).take (P.cellsOf f5.type)) = some y5 ∧ DataW.trod enc P w base spare held n f6.type ((cs.drop f6.offset).take (P.cellsOf f6.type)) = some y6 ∧ DataW.trod enc P w base spare held n f7.type ((cs.drop f7.offset).take (P.cellsOf f7.type)) = some y7 ∧ DataW.trod enc P w base spare held n f8.type ((cs.drop f8.offset).take (P.cellsOf f8.type)) = some y8 ∧ DataW.trod enc P w base spare held n f9.type ((cs.drop f9.offset).take (P.cellsOf f9.type)) = some y9 ∧ DataW.trod enc P w base spare held n f10.type ((cs.drop f10.offset).take (P.cellsOf f10.type)) = some y10 ∧ DataW.trod enc P w base spare held n f11.type ((cs.drop f11.offset).take (P.cellsOf f11.type)) = some y11 ∧ DataW.trod enc P w base spare held n f12.type ((cs.drop f12.offset).take (P.cellsOf f12.type)) = some y12 := by
  obtain ⟨xs, n, _, rfl, hl, hlen, hf⟩ := DataW.trod_struct ht h
  match xs, hlen with
  | [y0, y1, y2, y3, y4, y5, y6, y7, y8, y9, y10, y11, y12], _ =>
    exact ⟨y0, y1, y2, y3, y4, y5, y6, y7, y8, y9, y10, y11, y12, n, by simpa using hf 0 f0 rfl, by simpa using hf 1 f1 rfl, by simpa using hf 2 f2 rfl, by simpa using hf 3 f3 rfl, by simpa using hf 4 f4 rfl, by simpa using hf 5 f5 rfl, by simpa using hf 6 f6 rfl, by simpa using hf 7 f7 rfl, by simpa using hf 8 f8 rfl, by simpa using hf 9 f9 rfl, by simpa using hf 10 f10 rfl, by simpa using hf 11 f11 rfl, by simpa using hf 12 f12 rfl⟩
set_option maxRecDepth 100000 in
set_option maxHeartbeats 2000000 in
theorem open_fact {w : World} {spare : Nat → Bool} {base : Nat} {held : Bool} {r : Reach} {b0 : Nat} {v : Value} {d : DataW H} {ps : List MemPlace}
    (hval : Value.okWide Tryz.prog w r b0 26 v) (hd : DataW.Trod enc Tryz.prog w base spare held 26 v d ps) : ∃ f : Fct, v = fctV f ∧ f.wf := by
  obtain ⟨cs, rfl, hsz⟩ := okWide_struct Tryz.underlying26 hval
  obtain ⟨c0, c1, c2, c3, c4, c5, c6, c7, c8, c9, c10, c11, c12, c13, rfl⟩ := array14 (hsz.trans (by kernel_rfl))
  obtain ⟨fuel, hf⟩ := hd
  obtain ⟨y0, y1, y2, y3, y4, y5, y6, y7, y8, y9, y10, y11, y12, n, h0, h1, h2, h3, h4, h5, h6, h7, h8, h9, h10, h11, h12⟩ := trod_struct13 Tryz.underlying26 hf
  have k0 : Tryz.prog.cellsOf 23 = 2 := by kernel_rfl
  have k1 : Tryz.prog.cellsOf 3 = 1 := by kernel_rfl
  have k2 : Tryz.prog.cellsOf 24 = 1 := by kernel_rfl
  simp only [Value.cells, k0, k1, k2, List.drop_succ_cons, List.drop_zero, List.take_succ_cons, List.take_zero] at h0 h1 h2 h3 h4 h5 h6 h7 h8 h9 h10 h11 h12
  obtain ⟨z0, z1, m, _, _, g0, g1⟩ := trod_struct2 Tryz.underlying23 h1
  simp only [k1, List.drop_succ_cons, List.drop_zero, List.take_succ_cons, List.take_zero] at g0 g1
  obtain ⟨a0, rfl, e0⟩ := trod_i64 Tryz.underlying3 h0
  obtain ⟨a1, rfl, e1⟩ := trod_i64 Tryz.underlying3 g0
  obtain ⟨a2, rfl, e2⟩ := trod_i64 Tryz.underlying3 g1
  obtain ⟨a3, rfl, e3⟩ := trod_i64 Tryz.underlying3 h2
  obtain ⟨a4, rfl, e4⟩ := trod_i64 Tryz.underlying3 h3
  obtain ⟨a5, rfl, e5⟩ := trod_i64 Tryz.underlying3 h4
  obtain ⟨a6, rfl, e6⟩ := trod_i64 Tryz.underlying3 h5
  obtain ⟨a7, rfl, e7⟩ := trod_i64 Tryz.underlying3 h6
  obtain ⟨a8, rfl, e8⟩ := trod_i64 Tryz.underlying3 h7
  obtain ⟨a9, rfl, e9⟩ := trod_i64 Tryz.underlying3 h8
  obtain ⟨a10, rfl, e10⟩ := trod_i64 Tryz.underlying3 h9
  obtain ⟨a11, rfl, e11⟩ := trod_i64 Tryz.underlying3 h10
  obtain ⟨a12, rfl, e12⟩ := trod_i64 Tryz.underlying3 h11
  obtain ⟨x, rfl, hx⟩ := trod_f64 Tryz.underlying24 h12
  refine ⟨⟨a0, a1, a2, a3, a4, a5, a6, a7, a8, a9, a10, a11, a12, x⟩, rfl, ?_, hx⟩
  intro z hz
  unfold Fct.l at hz
  simp only [List.mem_cons, List.not_mem_nil, or_false] at hz
  rcases hz with rfl | rfl | rfl | rfl | rfl | rfl | rfl | rfl | rfl | rfl | rfl | rfl | rfl
  · exact int_bd e0
  · exact int_bd e1
  · exact int_bd e2
  · exact int_bd e3
  · exact int_bd e4
  · exact int_bd e5
  · exact int_bd e6
  · exact int_bd e7
  · exact int_bd e8
  · exact int_bd e9
  · exact int_bd e10
  · exact int_bd e11
  · exact int_bd e12
end
end Go.Proofs.YtjklcbdlfmmllaaGreatDoor
