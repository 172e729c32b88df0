/-
  Laid15: what the listed errors, strconv's among them, give a walk: 'Errs15'.
-/
import Derived.Test.YtliapmjocgohfaaDoorLaidErr
import Derived.Test.YtliapmjocgohfaaDoorDoes15
namespace Go.Proofs.YtliapmjocgohfaaDoor
open Go.ChangeShapes Go.WideShapes Go.ChangeAt Go.RowKit

def err15Texts : List (String × List UInt8) := errTexts ++ [("strconv.ErrSyntax", [105, 110, 118, 97, 108, 105, 100, 32, 115, 121, 110, 116, 97, 120])]
theorem err15Laid_eq : errLaid ++ [("strconv.ErrSyntax", Rows.laid_strconv_ErrSyntax)] = err15Texts.map fun x => (x.1, sentinel "*errors.errorString" x.2) := by rfl
theorem err15Globals : ∀ x ∈ err15Texts, ∃ g, Tryd.prog.globalNamed x.1 = some g ∧ (Tryd.prog.globals[g]?).map (·.type) = some 25 := by
  intro x hx
  rcases List.mem_append.1 hx with h | h
  · exact errGlobals x h
  · rw [List.mem_singleton] at h
    rw [h]
    exact ⟨14, by kernel_rfl, by kernel_rfl⟩
theorem errs15_of_laid {W : World} {laid : List (String × DataW Unit)} (hf : laid.filter (fun x => (errNames ++ ["strconv.ErrSyntax"]).contains x.1) = errLaid ++ [("strconv.ErrSyntax", Rows.laid_strconv_ErrSyntax)]) (h : laidMetH Tryd.prog laid W) : ∃ E sy, Errs15 W E sy := by
  have h1 := laidMetH.filter (fun x => (errNames ++ ["strconv.ErrSyntax"]).contains x.1) h
  rw [hf] at h1
  rw [MakeChecks.laidMetH_plain _ _ _ (by rfl)] at h1
  rw [err15Laid_eq] at h1
  obtain ⟨ps, hv, hnd, hrows⟩ := h1
  obtain ⟨aa, hlen, hnd2, hin, hcell⟩ := sentinels_list Tryd.underlying25 errRow Tryd.underlying90 Tryd.underlying92 rfl rfl Tryd.underlying9 (by kernel_rfl) (by kernel_rfl) err15Texts ps err15Globals hv hnd hrows
  have hl15 : aa.length = 15 := hlen
  have hat : ∀ i, i < 15 → ∃ c t, W.heap[(aa.getD i ⟨0, 0, none⟩).block]? = some (.cells c t (0, 0)) := fun i hi => by
    have hi' : i < aa.length := by omega
    simp only [List.getD, List.getElem?_eq_getElem hi', Option.getD_some]
    obtain ⟨hm, _⟩ := hin aa[i] (List.getElem_mem hi')
    exact (hrows _ _ hm).1
  have hne : ∀ i j, i < 15 → j < 15 → i ≠ j → aa.getD i ⟨0, 0, none⟩ ≠ aa.getD j ⟨0, 0, none⟩ := fun i j hi hj hne he => by
    have hi' : i < aa.length := by omega
    have hj' : j < aa.length := by omega
    simp only [List.getD, List.getElem?_eq_getElem hi', List.getElem?_eq_getElem hj', Option.getD_some] at he
    exact hne ((List.getElem_inj hnd2).1 he)
  refine ⟨fun i => aa.getD i ⟨0, 0, none⟩, aa.getD 14 ⟨0, 0, none⟩, ⟨⟨fun i hi => ?_, fun i j hi hj hn => hne i j (by omega) (by omega) hn, fun i hi => hat i (by omega)⟩, ?_, fun k hk => hne 14 k (by omega) (by omega) (by omega), hat 14 (by omega)⟩⟩
  · have hx : i < errTexts.length := hi
    have ha : i < aa.length := by omega
    have hx15 : err15Texts[i]? = some errTexts[i] := by
      show (errTexts ++ _)[i]? = _
      rw [List.getElem?_append_left hx, List.getElem?_eq_getElem hx]
    obtain ⟨g, hg, hc⟩ := hcell i errTexts[i] aa[i] hx15 (by simp [ha])
    have := errGNum i errTexts[i] (by simp [hx]) g hg
    subst this
    rw [hc]
    simp [errAt, List.getD, ha]
  · have ha : 14 < aa.length := by omega
    obtain ⟨g, hg, hc⟩ := hcell 14 ("strconv.ErrSyntax", [105, 110, 118, 97, 108, 105, 100, 32, 115, 121, 110, 116, 97, 120]) aa[14] (by rfl) (by simp [ha])
    obtain rfl : g = 14 := Option.some.inj (hg.symm.trans (show Tryd.prog.globalNamed "strconv.ErrSyntax" = some 14 by kernel_rfl))
    unfold SynAt
    rw [hc]
    simp [errAt, List.getD, ha]
end Go.Proofs.YtliapmjocgohfaaDoor
