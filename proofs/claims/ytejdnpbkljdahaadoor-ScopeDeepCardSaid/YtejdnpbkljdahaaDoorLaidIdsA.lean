/-
  LaidIds: what the listed errors and the table of powers give a walk: 'IdsG'.
-/
import Derived.Test.YtejdnpbkljdahaaDoorLaidErr
import Derived.Test.YtejdnpbkljdahaaDoorIdsA
import Derived.Lib.LaidTab
namespace Go.Proofs.YtejdnpbkljdahaaDoor
open Go.ChangeShapes Go.WideShapes Go.ChangeAt Go.RowKit

theorem pow_tab {W : World} {laid : List (String × DataW Unit)} (hf : laid.filter (fun x => x.1 == "internal/strconv.uint64pow10") = [("internal/strconv.uint64pow10", Rows.laid_internal_strconv_uint64pow10)]) (h : laidMetH Tryd.prog laid W) : Lib.TabIs Tryd.prog W "internal/strconv.uint64pow10" .u64 Lib.pow10Tab := by
  have h1 := laidMetH.filter (fun x => x.1 == "internal/strconv.uint64pow10") h
  rw [hf] at h1
  rw [MakeChecks.laidMetH_plain _ _ _ (by rfl)] at h1
  exact Lib.tabIs_of_head (g := 15) (rest := []) (zs := Lib.pow10Tab) (by kernel_rfl) (by kernel_rfl) Tryd.underlying97 Tryd.underlying54 (by kernel_rfl) (by kernel_rfl) h1
theorem ids_of_laid {W : World} {laid : List (String × DataW Unit)} (hf : laid.filter (fun x => errNames.contains x.1) = errLaid) (hf2 : laid.filter (fun x => x.1 == "internal/strconv.uint64pow10") = [("internal/strconv.uint64pow10", Rows.laid_internal_strconv_uint64pow10)]) (h : laidMetH Tryd.prog laid W) : ∃ E, IdsG W E := by
  obtain ⟨E, hE⟩ := errs_of_laid hf h
  exact ⟨E, hE, pow_tab hf2 h⟩
end Go.Proofs.YtejdnpbkljdahaaDoor
