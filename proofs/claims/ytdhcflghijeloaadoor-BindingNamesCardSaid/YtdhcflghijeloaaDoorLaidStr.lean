/-
  LaidStr: listed tables of strings, as the walks read them.
-/
import Derived.Test.YtdhcflghijeloaaDoorRows
import Derived.Test.YtdhcflghijeloaaDoorClose
import Derived.Test.YtdhcflghijeloaaDoorLawNames
import Derived.Lib.LaidTab
import Derived.LaidSub
import Derived.MakeChecks
namespace Go.Proofs.YtdhcflghijeloaaDoor
open Go.ChangeShapes Go.WideShapes Go.ChangeAt Go.RowKit

/-- a table of strings as a row lists it -/
def strData {H : Type} (ls : List (List UInt8)) : DataW H := .agg (ls.map fun s => .lit (.string s))
theorem cells_of_strs {H : Type} {enc : TypeId × Value → H} {P : Program} {w : World} {base : Nat} {sp : Nat → Bool} {held : Bool} {fuel : Nat} {t e : TypeId} {n : Nat} {cs : List Value} {ls : List (List UInt8)} {p : List MemPlace}
    (ht : P.underlying t = some (.array n e)) (he : P.underlying e = some .string) (hce : P.cellsOf e = 1) (hct : P.cellsOf t = n)
    (h : DataW.trod enc P w base sp held fuel t cs = some (strData ls, p)) : cs = ls.map fun s => Value.string (bs s) := by
  cases fuel with
  | zero => simp [DataW.trod] at h
  | succ fuel =>
    simp only [DataW.trod, ht, hce, hct, Nat.mul_one] at h
    split at h
    · rename_i hl
      obtain ⟨xs, hm, hx⟩ := Option.map_eq_some_iff.1 h
      have hxs : xs.map (·.1) = ls.map fun s => (DataW.lit (.string s) : DataW H) := by
        have := congrArg Prod.fst hx
        simpa [strData] using this
      have hxl : xs.length = n := by simpa using Lib.mapM_length hm
      have hzl : ls.length = n := by
        have := congrArg List.length hxs
        simp at this
        omega
      apply List.ext_getElem?
      intro i
      by_cases hi : i < n
      · obtain ⟨b, hb, hf⟩ := Lib.mapM_at hm i i (by simp [hi])
        obtain ⟨z, hc, rfl, _⟩ := DataW.trod_string he hf
        have h1 : cs[i]? = some (.string z) := by
          have := congrArg (·[0]?) hc
          simpa [List.getElem?_take, List.getElem?_drop] using this
        have h2 : (xs.map (·.1))[i]? = some (DataW.lit (.string z.data.toList) : DataW H) := by simp [hb]
        rw [hxs] at h2
        simp only [List.getElem?_map, Option.map_eq_some_iff, DataW.lit.injEq, Lit.string.injEq] at h2
        obtain ⟨z', hz', e2⟩ := h2
        have e3 : bs z' = z := by
          subst e2
          simp [bs]
        simp [h1, hz', e3]
      · rw [List.getElem?_eq_none (by omega), List.getElem?_eq_none (by simp; omega)]
    · cases h
theorem tab_of_head {P : Program} {W : World} {name : String} {ls : List (List UInt8)} {rest : List (String × DataW Unit)} {g : Nat} {t e : TypeId} {n : Nat}
    (hg : P.globalNamed name = some g) (hty : (P.globals[g]?).map (·.type) = some t) (ht : P.underlying t = some (.array n e)) (he : P.underlying e = some .string) (hce : P.cellsOf e = 1) (hct : P.cellsOf t = n)
    (h : laidMet P ((name, strData ls) :: rest) W) : Tab W g ls := by
  obtain ⟨ps, ⟨g', t', cs, fuel, p, q, hg', ht', hvar, hd, _, _⟩, _⟩ := h
  obtain rfl := Option.some.inj (hg.symm.trans hg')
  obtain rfl := Option.some.inj (hty.symm.trans ht')
  have hcs := cells_of_strs ht he hce hct hd
  intro i hi
  have := World.var?_cell hg' hvar i
  rw [this, show cs[i]? = cs.toList[i]? by simp, hcs]
  simp [List.getD, hi]
theorem kinds_tab {W : World} {laid : List (String × DataW Unit)} (hf : laid.filter (fun x => x.1 == "liaison/binding.kinds") = [("liaison/binding.kinds", Rows.laid_liaison_binding_kinds)]) (h : laidMetH Tryd.prog laid W) : Tab W 16 kindsL := by
  have h1 := laidMetH.filter (fun x => x.1 == "liaison/binding.kinds") h
  rw [hf] at h1
  rw [MakeChecks.laidMetH_plain _ _ _ (by rfl)] at h1
  exact tab_of_head (rest := []) (by kernel_rfl) (by kernel_rfl) Tryd.underlying41 Tryd.underlying9 (by kernel_rfl) (by kernel_rfl) h1
theorem states_tab {W : World} {laid : List (String × DataW Unit)} (hf : laid.filter (fun x => x.1 == "liaison/binding.states") = [("liaison/binding.states", Rows.laid_liaison_binding_states)]) (h : laidMetH Tryd.prog laid W) : Tab W 14 statesL := by
  have h1 := laidMetH.filter (fun x => x.1 == "liaison/binding.states") h
  rw [hf] at h1
  rw [MakeChecks.laidMetH_plain _ _ _ (by rfl)] at h1
  exact tab_of_head (rest := []) (by kernel_rfl) (by kernel_rfl) Tryd.underlying39 Tryd.underlying9 (by kernel_rfl) (by kernel_rfl) h1
theorem codes_tab {W : World} {laid : List (String × DataW Unit)} (hf : laid.filter (fun x => x.1 == "liaison/binding.codes") = [("liaison/binding.codes", Rows.laid_liaison_binding_codes)]) (h : laidMetH Tryd.prog laid W) : Tab W 15 codesL := by
  have h1 := laidMetH.filter (fun x => x.1 == "liaison/binding.codes") h
  rw [hf] at h1
  rw [MakeChecks.laidMetH_plain _ _ _ (by rfl)] at h1
  exact tab_of_head (rest := []) (by kernel_rfl) (by kernel_rfl) Tryd.underlying40 Tryd.underlying9 (by kernel_rfl) (by kernel_rfl) h1
theorem names_ba (n : Int) (s : ByteArray) (w : World) (E : Nat → Addr) (he : Errs w E) (ht : Tabs w) (hs : s.size ≤ maxLen) :
    Calls Tryd.prog 3 #[.int .i64 n, .string s] w (ok1 w) := by
  have e : s = bs s.data.toList := by
    unfold bs
    rw [show s.data.toList.toArray = s.data from Array.toArray_toList]
  have hl : s.data.toList.length ≤ 9223372036854775807 := by
    have : s.data.toList.length = s.size := rfl
    rw [this]; unfold maxLen at hs; omega
  rw [e]
  exact names_any n _ w E he ht hl
end Go.Proofs.YtdhcflghijeloaaDoor
