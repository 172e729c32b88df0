/-
  Half: the listed table, as the walks read it.
-/
import Derived.Test.YtdbgdmhlnaldoaaDoorRows
import Derived.Test.YtdbgdmhlnaldoaaDoorClose
import Derived.Test.YtdbgdmhlnaldoaaDoorCrc
import Derived.LaidSub
namespace Go.Proofs.YtdbgdmhlnaldoaaDoor
open Go.ChangeShapes Go.WideShapes Go.ChangeAt Go.RowKit

theorem gTab : Tryd.prog.globalNamed "liaison/check.half" = some 0 := by kernel_rfl
theorem gTabType : (Tryd.prog.globals[0]?).map (·.type) = some 42 := by kernel_rfl
theorem cellsT : Tryd.prog.cellsOf 42 = 16 := by kernel_rfl
theorem cellsE : Tryd.prog.cellsOf 25 = 1 := by kernel_rfl
theorem halfNums : halfL.map n32 = [0, 498536548, 997073096, 651767980, 1994146192, 1802195444, 1303535960, 1342533948, 3988292384, 4027552580, 3604390888, 3412177804, 2607071920, 2262029012, 2685067896, 3183342108] := by decide +kernel
theorem half_tab {W : World} {laid : List (String × DataW Unit)} (hf : laid.filter (fun x => x.1 == "liaison/check.half") = [("liaison/check.half", Rows.laid_liaison_check_half)]) (h : laidMetH Tryd.prog laid W) : HalfTab W := by
  have h1 := laidMetH.filter (fun x => x.1 == "liaison/check.half") h
  rw [hf] at h1
  have h2 : Lib.TabIs Tryd.prog W "liaison/check.half" .u32 (halfL.map n32) := by
    rw [halfNums]
    exact Lib.tabIs_of_head (rest := []) gTab gTabType Tryd.underlying42 Tryd.underlying25 cellsE cellsT h1
  intro k hk
  have := h2.cell gTab k (by simpa [halfL] using hk)
  rw [this]
  simp only [half, List.getD, List.getElem?_map]
  have : k < halfL.length := hk
  simp [this]

end Go.Proofs.YtdbgdmhlnaldoaaDoor
