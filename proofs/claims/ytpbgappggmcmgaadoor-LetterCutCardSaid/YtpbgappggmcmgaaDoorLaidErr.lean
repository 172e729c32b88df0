/-
  LaidErr: what the listed errors give a walk: 'Errs'.
-/
import Derived.Test.YtpbgappggmcmgaaDoorRows
import Derived.Test.YtpbgappggmcmgaaDoorErr
import Derived.Stop.LaidErr
import Derived.LaidSub
import Derived.MakeChecks
namespace Go.Proofs.YtpbgappggmcmgaaDoor
open Go.ChangeShapes Go.WideShapes Go.ChangeAt Go.RowKit

section
variable {P : Program} {nm : String} {W : World} {ti tp te ts : TypeId} {ms : Array (String × TypeId)} {f : Field}
def sentinel (nm : String) (text : List UInt8) : DataW Unit := .iface nm (.ptr (.agg [.lit (.string text)]))
theorem sentinels_list (hi : P.underlying ti = some (.interface ms)) (hrow : ∀ u, P.typeName? 3 u = some nm → u = tp)
    (hp : P.underlying tp = some (.pointer te)) (he : P.underlying te = some (.struct #[f])) (hft : f.type = ts) (hfo : f.offset = 0) (hs : P.underlying ts = some .string) (hc : P.cellsOf te = 1) (hcs : P.cellsOf ts = 1) :
    ∀ (L : List (String × List UInt8)) (ps : List MemPlace), (∀ x ∈ L, ∃ g, P.globalNamed x.1 = some g ∧ (P.globals[g]?).map (·.type) = some ti) →
      DataW.LaidVars P W (L.map fun x => (x.1, sentinel nm x.2)) ps → ps.Nodup → (∀ b off, MemPlace.cell b off ∈ ps → (∃ c t, W.heap[b]? = some (.cells c t (0, 0))) ∧ ∀ u v, W.cell? ⟨b, off, none⟩ = some (.iface u v) → Value.okWide P W .any 0 u v) →
      ∃ aa : List Addr, aa.length = L.length ∧ aa.Nodup ∧ (∀ a ∈ aa, MemPlace.cell a.block a.off ∈ ps ∧ a.spot = none) ∧
        ∀ (i : Nat) x a, L[i]? = some x → aa[i]? = some a → ∃ g, P.globalNamed x.1 = some g ∧ W.cell? ⟨g, 0, none⟩ = some (.iface tp (.pointer (some a)))
  | [], ps, _, _, _, _ => ⟨[], rfl, List.nodup_nil, by simp, by simp⟩
  | x :: L, ps, hg, h, hnd, hrows => by
    obtain ⟨g', t', cs, fl, p, q, hg', ht', hv, hd, hrest, e⟩ := h
    obtain ⟨g, hgx, htx⟩ := hg x (by simp)
    obtain rfl := Option.some.inj (hgx.symm.trans hg')
    obtain rfl := Option.some.inj (htx.symm.trans ht')
    subst e
    obtain ⟨l0⟩ := cs
    have hnd2 := List.nodup_append.1 hnd
    obtain ⟨aa, h1, h2, h3, h4⟩ := sentinels_list hi hrow hp he hft hfo hs hc hcs L q (fun y hy => hg y (by simp [hy])) hrest hnd2.2.1 (fun b off hm => hrows b off (by simp [hm]))
    have ok0 : ∀ u v, l0 = [.iface u v] → Value.okWide P W .any 0 u v := fun u v e => by
      subst e
      exact (hrows g 0 (by simp [MemPlace.row])).2 u v (by simpa using World.var?_cell hg' hv 0)
    obtain ⟨a0, s0, rfl, hc0, hs0, hz0, rfl⟩ := errorString_of_trod hi hrow hp he hft hfo hs hc hcs hd ok0
    have hspot : a0.spot = none := by
      unfold World.cell? at hc0
      split at hc0
      · split at hc0
        · cases hc0
        · rename_i hs; simpa using hs
      · cases hc0
    refine ⟨a0 :: aa, by simp [h1], List.nodup_cons.2 ⟨fun hm => ?_, h2⟩, ?_, ?_⟩
    · have h5 := (h3 a0 hm).1
      exact hnd2.2.2 _ (by simp [MemPlace.row]) _ h5 rfl
    · intro a ha
      rcases List.mem_cons.1 ha with rfl | ha
      · exact ⟨by simp [MemPlace.row], hspot⟩
      · exact ⟨by simp [(h3 a ha).1], (h3 a ha).2⟩
    · intro i y a hy ha
      cases i with
      | zero =>
        simp only [List.getElem?_cons_zero, Option.some.injEq] at hy ha
        subst hy ha
        exact ⟨g, hg', by simpa using World.var?_cell hg' hv 0⟩
      | succ i => exact h4 i y a (by simpa using hy) (by simpa using ha)
end

def errNames : List String := ["liaison/api.ErrRange", "liaison/api.ErrShort", "liaison/api.ErrLong", "liaison/api.ErrForm", "liaison/api.ErrCheck", "liaison/api.ErrFull", "liaison/api.ErrPower", "liaison/api.ErrNone", "liaison/api.ErrState", "liaison/api.ErrTwice", "liaison/api.ErrDepth", "liaison/api.ErrExpired", "liaison/api.ErrPanic", "liaison/api.ErrProtocol"]
def errLaid : List (String × DataW Unit) := [("liaison/api.ErrRange", Rows.laid_liaison_api_ErrRange), ("liaison/api.ErrShort", Rows.laid_liaison_api_ErrShort), ("liaison/api.ErrLong", Rows.laid_liaison_api_ErrLong), ("liaison/api.ErrForm", Rows.laid_liaison_api_ErrForm), ("liaison/api.ErrCheck", Rows.laid_liaison_api_ErrCheck), ("liaison/api.ErrFull", Rows.laid_liaison_api_ErrFull), ("liaison/api.ErrPower", Rows.laid_liaison_api_ErrPower), ("liaison/api.ErrNone", Rows.laid_liaison_api_ErrNone), ("liaison/api.ErrState", Rows.laid_liaison_api_ErrState), ("liaison/api.ErrTwice", Rows.laid_liaison_api_ErrTwice), ("liaison/api.ErrDepth", Rows.laid_liaison_api_ErrDepth), ("liaison/api.ErrExpired", Rows.laid_liaison_api_ErrExpired), ("liaison/api.ErrPanic", Rows.laid_liaison_api_ErrPanic), ("liaison/api.ErrProtocol", Rows.laid_liaison_api_ErrProtocol)]
def errTexts : List (String × List UInt8) := errLaid.map fun x => (x.1, match x.2 with | .iface _ (.ptr (.agg [.lit (.string s)])) => s | _ => [])
theorem errLaid_eq : errLaid = errTexts.map fun x => (x.1, sentinel "*errors.errorString" x.2) := by rfl
theorem errStar : "*" ++ "errors.errorString" = "*errors.errorString" := by decide
theorem errRow (u : TypeId) (h : Tryd.prog.typeName? 3 u = some "*errors.errorString") : u = 128 :=
  typeName_ptr_named (nm := "errors.errorString") (by rw [errStar]; kernel_rfl) (by kernel_rfl) (by decide) u (by rw [errStar]; exact h)
theorem errGlobals : ∀ x ∈ errTexts, ∃ g, Tryd.prog.globalNamed x.1 = some g ∧ (Tryd.prog.globals[g]?).map (·.type) = some 29 := by
  intro x hx
  have hm : x.1 ∈ errNames := by
    have := List.mem_map_of_mem (f := (·.1)) hx
    exact this
  simp only [errNames, List.mem_cons, List.not_mem_nil, or_false] at hm
  rcases hm with h | h | h | h | h | h | h | h | h | h | h | h | h | h
  · rw [h]; exact ⟨1, by kernel_rfl, by kernel_rfl⟩
  · rw [h]; exact ⟨2, by kernel_rfl, by kernel_rfl⟩
  · rw [h]; exact ⟨3, by kernel_rfl, by kernel_rfl⟩
  · rw [h]; exact ⟨0, by kernel_rfl, by kernel_rfl⟩
  · rw [h]; exact ⟨4, by kernel_rfl, by kernel_rfl⟩
  · rw [h]; exact ⟨5, by kernel_rfl, by kernel_rfl⟩
  · rw [h]; exact ⟨6, by kernel_rfl, by kernel_rfl⟩
  · rw [h]; exact ⟨7, by kernel_rfl, by kernel_rfl⟩
  · rw [h]; exact ⟨8, by kernel_rfl, by kernel_rfl⟩
  · rw [h]; exact ⟨9, by kernel_rfl, by kernel_rfl⟩
  · rw [h]; exact ⟨10, by kernel_rfl, by kernel_rfl⟩
  · rw [h]; exact ⟨11, by kernel_rfl, by kernel_rfl⟩
  · rw [h]; exact ⟨12, by kernel_rfl, by kernel_rfl⟩
  · rw [h]; exact ⟨13, by kernel_rfl, by kernel_rfl⟩
theorem errGNum : ∀ (i : Nat) x, errTexts[i]? = some x → ∀ g, Tryd.prog.globalNamed x.1 = some g → g = errVar i := by
  intro i x hx g hg
  have hi : i < 14 := (List.getElem?_eq_some_iff.1 hx).1
  have h2 : i = 0 ∨ i = 1 ∨ i = 2 ∨ i = 3 ∨ i = 4 ∨ i = 5 ∨ i = 6 ∨ i = 7 ∨ i = 8 ∨ i = 9 ∨ i = 10 ∨ i = 11 ∨ i = 12 ∨ i = 13 := by omega
  rcases h2 with rfl | rfl | rfl | rfl | rfl | rfl | rfl | rfl | rfl | rfl | rfl | rfl | rfl | rfl
  · obtain rfl := Option.some.inj hx
    exact Option.some.inj (hg.symm.trans (show Tryd.prog.globalNamed "liaison/api.ErrRange" = some 1 by kernel_rfl))
  · obtain rfl := Option.some.inj hx
    exact Option.some.inj (hg.symm.trans (show Tryd.prog.globalNamed "liaison/api.ErrShort" = some 2 by kernel_rfl))
  · obtain rfl := Option.some.inj hx
    exact Option.some.inj (hg.symm.trans (show Tryd.prog.globalNamed "liaison/api.ErrLong" = some 3 by kernel_rfl))
  · obtain rfl := Option.some.inj hx
    exact Option.some.inj (hg.symm.trans (show Tryd.prog.globalNamed "liaison/api.ErrForm" = some 0 by kernel_rfl))
  · obtain rfl := Option.some.inj hx
    exact Option.some.inj (hg.symm.trans (show Tryd.prog.globalNamed "liaison/api.ErrCheck" = some 4 by kernel_rfl))
  · obtain rfl := Option.some.inj hx
    exact Option.some.inj (hg.symm.trans (show Tryd.prog.globalNamed "liaison/api.ErrFull" = some 5 by kernel_rfl))
  · obtain rfl := Option.some.inj hx
    exact Option.some.inj (hg.symm.trans (show Tryd.prog.globalNamed "liaison/api.ErrPower" = some 6 by kernel_rfl))
  · obtain rfl := Option.some.inj hx
    exact Option.some.inj (hg.symm.trans (show Tryd.prog.globalNamed "liaison/api.ErrNone" = some 7 by kernel_rfl))
  · obtain rfl := Option.some.inj hx
    exact Option.some.inj (hg.symm.trans (show Tryd.prog.globalNamed "liaison/api.ErrState" = some 8 by kernel_rfl))
  · obtain rfl := Option.some.inj hx
    exact Option.some.inj (hg.symm.trans (show Tryd.prog.globalNamed "liaison/api.ErrTwice" = some 9 by kernel_rfl))
  · obtain rfl := Option.some.inj hx
    exact Option.some.inj (hg.symm.trans (show Tryd.prog.globalNamed "liaison/api.ErrDepth" = some 10 by kernel_rfl))
  · obtain rfl := Option.some.inj hx
    exact Option.some.inj (hg.symm.trans (show Tryd.prog.globalNamed "liaison/api.ErrExpired" = some 11 by kernel_rfl))
  · obtain rfl := Option.some.inj hx
    exact Option.some.inj (hg.symm.trans (show Tryd.prog.globalNamed "liaison/api.ErrPanic" = some 12 by kernel_rfl))
  · obtain rfl := Option.some.inj hx
    exact Option.some.inj (hg.symm.trans (show Tryd.prog.globalNamed "liaison/api.ErrProtocol" = some 13 by kernel_rfl))

theorem errs_of_laid {W : World} {laid : List (String × DataW Unit)} (hf : laid.filter (fun x => errNames.contains x.1) = errLaid) (h : laidMetH Tryd.prog laid W) : ∃ E, Errs W E := by
  have h1 := laidMetH.filter (fun x => errNames.contains x.1) h
  rw [hf] at h1
  rw [MakeChecks.laidMetH_plain _ _ _ (by rfl)] at h1
  rw [errLaid_eq] at h1
  obtain ⟨ps, hv, hnd, hrows⟩ := h1
  obtain ⟨aa, hlen, hnd2, hin, hcell⟩ := sentinels_list Tryd.underlying29 errRow Tryd.underlying128 Tryd.underlying152 rfl rfl Tryd.underlying9 (by kernel_rfl) (by kernel_rfl) errTexts ps errGlobals hv hnd hrows
  have hl14 : aa.length = 14 := hlen
  refine ⟨fun i => aa.getD i ⟨0, 0, none⟩, ⟨fun i hi => ?_, fun i j hi hj hne he => ?_, fun i hi => ?_⟩⟩
  · have hx : i < errTexts.length := hi
    have ha : i < aa.length := by omega
    obtain ⟨g, hg, hc⟩ := hcell i errTexts[i] aa[i] (by simp [hx]) (by simp [ha])
    have := errGNum i errTexts[i] (by simp [hx]) g hg
    subst this
    rw [hc]
    simp [errAt, List.getD, ha]
  · have hi' : i < aa.length := by omega
    have hj' : j < aa.length := by omega
    simp only [List.getD, List.getElem?_eq_getElem hi', List.getElem?_eq_getElem hj', Option.getD_some] at he
    exact hne ((List.getElem_inj hnd2).1 he)
  · have hi' : i < aa.length := by omega
    simp only [List.getD, List.getElem?_eq_getElem hi', Option.getD_some]
    obtain ⟨hm, _⟩ := hin aa[i] (List.getElem_mem hi')
    exact (hrows _ _ hm).1
end Go.Proofs.YtpbgappggmcmgaaDoor
