/-
  LaidOn: what a row that lists some of the errors gives a walk: 'ErrsOn'.
-/
import Derived.Test.YtehoenojjdgphaaDoorLaidErr
import Derived.Test.YtehoenojjdgphaaDoorErrOn
namespace Go.Proofs.YtehoenojjdgphaaDoor
open Go.ChangeShapes Go.WideShapes Go.ChangeAt Go.RowKit

def errNamesOn (S : List Nat) : List String := S.map fun i => errNames.getD i ""
def errLaidOn (S : List Nat) : List (String × DataW Unit) := S.map fun i => errLaid.getD i ("", .nil)
def errTextsOn (S : List Nat) : List (String × List UInt8) := S.map fun i => errTexts.getD i ("", [])
theorem errs_on_of_laid (S : List Nat) (hS : S.all (fun i => decide (i < 14)) = true) {W : World} {laid : List (String × DataW Unit)}
    (hf : laid.filter (fun x => (errNamesOn S).contains x.1) = errLaidOn S) (h : laidMetH Tryd.prog laid W) : ∃ E, ErrsOn S W E := by
  have hlt : ∀ i ∈ S, i < 14 := fun i hi => by simpa using List.all_eq_true.1 hS i hi
  have hlaid : errLaidOn S = (errTextsOn S).map fun x => (x.1, sentinel "*errors.errorString" x.2) := by
    unfold errLaidOn errTextsOn
    rw [List.map_map]
    apply List.map_congr_left
    intro i hi
    have h14 : i < errTexts.length := hlt i hi
    rw [errLaid_eq]
    simp only [List.getD, List.getElem?_map, List.getElem?_eq_getElem h14, Option.map_some, Option.getD_some, Function.comp]
  have hmem : ∀ x ∈ errTextsOn S, x ∈ errTexts := by
    intro x hx
    obtain ⟨i, hi, rfl⟩ := List.mem_map.1 hx
    have h14 : i < errTexts.length := hlt i hi
    rw [List.getD, List.getElem?_eq_getElem h14]
    exact List.getElem_mem h14
  have h1 := laidMetH.filter (fun x => (errNamesOn S).contains x.1) h
  rw [hf, hlaid] at h1
  rw [MakeChecks.laidMetH_plain _ _ _ (by
    rw [List.all_eq_true]
    intro x hx
    obtain ⟨y, _, rfl⟩ := List.mem_map.1 hx
    rfl)] at h1
  obtain ⟨ps, hv, hnd, hrows⟩ := h1
  obtain ⟨aa, hlen, hnd2, hin, hcell⟩ := sentinels_list Tryd.underlying26 errRow Tryd.underlying74 Tryd.underlying99 rfl rfl Tryd.underlying9 (by kernel_rfl) (by kernel_rfl) (errTextsOn S) ps (fun x hx => errGlobals x (hmem x hx)) hv hnd hrows
  have hlS : aa.length = S.length := by rw [hlen]; unfold errTextsOn; rw [List.length_map]
  have hix : ∀ i, S.contains i = true → S.idxOf i < S.length ∧ S[S.idxOf i]? = some i := by
    intro i hi
    have hm : i ∈ S := by simpa using hi
    have hl := List.idxOf_lt_length_of_mem hm
    exact ⟨hl, by rw [List.getElem?_eq_getElem hl, List.getElem_idxOf hl]⟩
  refine ⟨fun i => aa.getD (S.idxOf i) ⟨0, 0, none⟩, ⟨fun i hi => ?_, fun i j hi hj hne he => ?_, fun i hi => ?_⟩⟩
  · obtain ⟨hl, hg⟩ := hix i hi
    have ha : S.idxOf i < aa.length := by omega
    have h14 : i < errTexts.length := hlt i (by simpa using hi)
    have hx : (errTextsOn S)[S.idxOf i]? = some errTexts[i] := by
      unfold errTextsOn
      rw [List.getElem?_map, hg]
      simp only [Option.map_some, List.getD, List.getElem?_eq_getElem h14, Option.getD_some]
    obtain ⟨g, hg', hc⟩ := hcell (S.idxOf i) errTexts[i] aa[S.idxOf i] hx (by simp [ha])
    have := errGNum i errTexts[i] (by simp [h14]) g hg'
    subst this
    rw [hc]
    simp [errAt, List.getD, ha]
  · obtain ⟨hl, hg⟩ := hix i hi
    obtain ⟨hl2, hg2⟩ := hix j hj
    have hi' : S.idxOf i < aa.length := by omega
    have hj' : S.idxOf j < aa.length := by omega
    simp only [List.getD, List.getElem?_eq_getElem hi', List.getElem?_eq_getElem hj', Option.getD_some] at he
    have := (List.getElem_inj hnd2).1 he
    rw [this, hg2] at hg
    exact hne (Option.some.inj hg).symm
  · obtain ⟨hl, hg⟩ := hix i hi
    have hi' : S.idxOf i < aa.length := by omega
    simp only [List.getD, List.getElem?_eq_getElem hi', Option.getD_some]
    obtain ⟨hm, _⟩ := hin aa[S.idxOf i] (List.getElem_mem hi')
    exact (hrows _ _ hm).1
end Go.Proofs.YtehoenojjdgphaaDoor
