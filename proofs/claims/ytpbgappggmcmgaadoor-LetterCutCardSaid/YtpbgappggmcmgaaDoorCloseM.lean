/-
  CloseM: a message that is handed in; what the laid variables give a walk.
-/
import Derived.Test.YtpbgappggmcmgaaDoorCloseAct
import Derived.Test.YtpbgappggmcmgaaDoorLetterW
import Derived.Test.YtpbgappggmcmgaaDoorLaidErr
import Derived.Test.YtpbgappggmcmgaaDoorIdsA
import Derived.Lib.LaidTab
namespace Go.Proofs.YtpbgappggmcmgaaDoor
open Go.RowKit Go.ChangeShapes Go.WideShapes Go.ChangeAt

theorem array9 {α : Type} {cs : Array α} (h : cs.size = 9) : ∃ c0 c1 c2 c3 c4 c5 c6 c7 c8, cs = #[c0, c1, c2, c3, c4, c5, c6, c7, c8] := by
  obtain ⟨l⟩ := cs
  match l, h with
  | [c0, c1, c2, c3, c4, c5, c6, c7, c8], _ => exact ⟨c0, c1, c2, c3, c4, c5, c6, c7, c8, rfl⟩
section
variable {H : Type} {enc : TypeId × Value → H}
theorem trod_struct8 {P : Program} {w : World} {base : Nat} {spare : Nat → Bool} {held : Bool} {t : TypeId} {f0 f1 f2 f3 f4 f5 f6 f7 : Field} {fuel : Nat} {cs : List Value} {x : DataW H × List MemPlace}
    (ht : P.underlying t = some (.struct #[f0, f1, f2, f3, f4, f5, f6, f7])) (h : DataW.trod enc P w base spare held fuel t cs = some x) :
    ∃ (y0 y1 y2 y3 y4 y5 y6 y7 : DataW H × List MemPlace) (n : Nat), DataW.trod enc P w base spare held n f0.type ((cs.drop f0.offset).take (P.cellsOf f0.type)) = some y0 ∧
      DataW.trod enc P w base spare held n f1.type ((cs.drop f1.offset).take (P.cellsOf f1.type)) = some y1 ∧ DataW.trod enc P w base spare held n f2.type ((cs.drop f2.offset).take (P.cellsOf f2.type)) = some y2 ∧
      DataW.trod enc P w base spare held n f3.type ((cs.drop f3.offset).take (P.cellsOf f3.type)) = some y3 ∧ DataW.trod enc P w base spare held n f4.type ((cs.drop f4.offset).take (P.cellsOf f4.type)) = some y4 ∧
      DataW.trod enc P w base spare held n f5.type ((cs.drop f5.offset).take (P.cellsOf f5.type)) = some y5 ∧ DataW.trod enc P w base spare held n f6.type ((cs.drop f6.offset).take (P.cellsOf f6.type)) = some y6 ∧
      DataW.trod enc P w base spare held n f7.type ((cs.drop f7.offset).take (P.cellsOf f7.type)) = some y7 := by
  obtain ⟨xs, n, _, rfl, hl, hlen, hf⟩ := DataW.trod_struct ht h
  match xs, hlen with
  | [y0, y1, y2, y3, y4, y5, y6, y7], _ =>
    exact ⟨y0, y1, y2, y3, y4, y5, y6, y7, n, by simpa using hf 0 f0 rfl, by simpa using hf 1 f1 rfl, by simpa using hf 2 f2 rfl, by simpa using hf 3 f3 rfl, by simpa using hf 4 f4 rfl, by simpa using hf 5 f5 rfl, by simpa using hf 6 f6 rfl, by simpa using hf 7 f7 rfl⟩
set_option maxRecDepth 100000 in
theorem open_msg {w : World} {spare : Nat → Bool} {base : Nat} {held : Bool} {r : Reach} {b0 : Nat} {v : Value} {d : DataW H} {ps : List MemPlace}
    (hval : Value.okWide Tryd.prog w r b0 25 v) (hd : DataW.Trod enc Tryd.prog w base spare held 25 v d ps) : ∃ m : Msg, v = msgV m ∧ m.wf := by
  obtain ⟨cs, rfl, hsz⟩ := okWide_struct Tryd.underlying25 hval
  obtain ⟨c0, c1, c2, c3, c4, c5, c6, c7, c8, rfl⟩ := array9 (hsz.trans (by kernel_rfl))
  obtain ⟨fuel, hf⟩ := hd
  obtain ⟨y0, y1, y2, y3, y4, y5, y6, y7, n, h0, h1, h2, h3, h4, h5, h6, h7⟩ := trod_struct8 Tryd.underlying25 hf
  have k0 : Tryd.prog.cellsOf 23 = 2 := by kernel_rfl
  have k1 : Tryd.prog.cellsOf 3 = 1 := by kernel_rfl
  simp only [Value.cells, k0, k1, List.drop_succ_cons, List.drop_zero, List.take_succ_cons, List.take_zero] at h0 h1 h2 h3 h4 h5 h6 h7
  obtain ⟨z0, z1, m, _, _, g0, g1⟩ := trod_struct2 Tryd.underlying23 h3
  simp only [k1, List.drop_succ_cons, List.drop_zero, List.take_succ_cons, List.take_zero] at g0 g1
  obtain ⟨a0, rfl, e0⟩ := trod_i64 Tryd.underlying3 h0
  obtain ⟨a1, rfl, e1⟩ := trod_i64 Tryd.underlying3 h1
  obtain ⟨a2, rfl, e2⟩ := trod_i64 Tryd.underlying3 h2
  obtain ⟨a3, rfl, e3⟩ := trod_i64 Tryd.underlying3 g0
  obtain ⟨a4, rfl, e4⟩ := trod_i64 Tryd.underlying3 g1
  obtain ⟨a5, rfl, e5⟩ := trod_i64 Tryd.underlying3 h4
  obtain ⟨a6, rfl, e6⟩ := trod_i64 Tryd.underlying3 h5
  obtain ⟨a7, rfl, e7⟩ := trod_i64 Tryd.underlying3 h6
  obtain ⟨a8, rfl, e8⟩ := trod_i64 Tryd.underlying3 h7
  refine ⟨⟨a0, a1, a2, a3, a4, a5, a6, a7, a8⟩, rfl, ?_⟩
  intro x hx
  unfold Msg.l at hx
  simp only [List.mem_cons, List.not_mem_nil, or_false] at hx
  unfold inI
  rcases hx with rfl | rfl | rfl | rfl | rfl | rfl | rfl | rfl | rfl
  · exact int_bd e0
  · exact int_bd e1
  · exact int_bd e2
  · exact int_bd e3
  · exact int_bd e4
  · exact int_bd e5
  · exact int_bd e6
  · exact int_bd e7
  · exact int_bd e8
end
end Go.Proofs.YtpbgappggmcmgaaDoor
namespace Go.Proofs.YtpbgappggmcmgaaDoor
open Go.ChangeShapes Go.WideShapes Go.ChangeAt Go.RowKit

theorem pow_tab {W : World} {laid : List (String × DataW Unit)} (hf : laid.filter (fun x => x.1 == "internal/strconv.uint64pow10") = [("internal/strconv.uint64pow10", Rows.laid_internal_strconv_uint64pow10)]) (h : laidMetH Tryd.prog laid W) : Lib.TabIs Tryd.prog W "internal/strconv.uint64pow10" .u64 Lib.pow10Tab := by
  have h1 := laidMetH.filter (fun x => x.1 == "internal/strconv.uint64pow10") h
  rw [hf] at h1
  rw [MakeChecks.laidMetH_plain _ _ _ (by rfl)] at h1
  exact Lib.tabIs_of_head (g := 14) (rest := []) (zs := Lib.pow10Tab) (by kernel_rfl) (by kernel_rfl) Tryd.underlying121 Tryd.underlying96 (by kernel_rfl) (by kernel_rfl) h1
theorem ids_of_laid {W : World} {laid : List (String × DataW Unit)} (hf : laid.filter (fun x => errNames.contains x.1) = errLaid) (hf2 : laid.filter (fun x => x.1 == "internal/strconv.uint64pow10") = [("internal/strconv.uint64pow10", Rows.laid_internal_strconv_uint64pow10)]) (h : laidMetH Tryd.prog laid W) : ∃ E, IdsG W E := by
  obtain ⟨E, hE⟩ := errs_of_laid hf h
  exact ⟨E, hE, pow_tab hf2 h⟩
end Go.Proofs.YtpbgappggmcmgaaDoor
