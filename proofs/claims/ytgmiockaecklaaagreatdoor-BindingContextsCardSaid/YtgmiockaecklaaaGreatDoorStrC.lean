/-
  StrC: slices of strings that are handed in; listed tables of strings.
-/
import Derived.Test.YtgmiockaecklaaaGreatDoorBH
import Derived.Test.YtgmiockaecklaaaGreatDoorLawBCtx2
namespace Go.Proofs.YtgmiockaecklaaaGreatDoor
open Go.ChangeShapes Go.WideShapes Go.ChangeAt Go.RowKit

/-- a slice of strings -/
def StrsV (w : World) (v : Value) (ls : List (List UInt8)) : Prop := ∃ p cap, v = .slice p ls.length cap ∧ ls.length ≤ cap ∧ cap ≤ maxLen ∧ Rd w p (strs ls)
theorem open_strs {H : Type} {enc : TypeId × Value → H} {P : Program} {t e : TypeId} {w : World} {base : Nat} {sp : Nat → Bool} {held : Bool} {fuel : Nat} {cs : List Value} {x : DataW H × List MemPlace}
    (ht : P.underlying t = some (.slice e)) (hce : P.cellsOf e = 1) (he : P.underlying e = some .string) (h : DataW.trod enc P w base sp held fuel t cs = some x) :
    ∃ v ls, cs = [v] ∧ StrsV w v ls := by
  rcases Deep.open_slice1 ht hce h with ⟨rfl, _⟩ | ⟨a, len, cap, m, n, V, D, Pl, rfl, _, hlc, hm, hmm, _, hcell⟩
  · exact ⟨_, [], rfl, none, 0, rfl, by simp, by unfold maxLen; omega, .inl rfl⟩
  · have hlm : len ≤ m := by rw [hmm]; split <;> omega
    have hall : ∀ i, ∃ l : List UInt8, i < m → V i = .string (bs l) := by
      intro i
      by_cases hi : i < m
      · obtain ⟨z, hc, _, _⟩ := DataW.trod_string he (hcell i hi).2
        refine ⟨z.data.toList, fun _ => ?_⟩
        have hv : V i = .string z := by simpa using hc
        rw [hv]
        simp [bs]
      · exact ⟨[], fun h => absurd h hi⟩
    obtain ⟨L, hL⟩ := Classical.axiomOfChoice hall
    refine ⟨_, (List.range len).map L, rfl, some a, cap, by simp, by simpa using hlc, hm, ?_⟩
    by_cases h0 : len = 0
    · left; subst h0; rfl
    · right
      have h00 := (hcell 0 (by omega)).1
      have hsp : a.spot = none := by
        have : a.add 0 = a := by simp [Addr.add]
        rw [this] at h00
        unfold World.cell? at h00
        split at h00
        · split at h00
          · cases h00
          · rename_i hs; simpa using hs
        · cases h00
      obtain ⟨b, off, s⟩ := a
      simp only at hsp
      subst hsp
      refine ⟨b, off, rfl, fun i u hu => ?_⟩
      simp only [strs, List.getElem?_map, Option.map_eq_some_iff] at hu
      obtain ⟨l, ⟨j, hj, rfl⟩, rfl⟩ := hu
      obtain ⟨hi, rfl⟩ := List.getElem?_eq_some_iff.1 hj
      simp only [List.length_range] at hi
      simp only [List.getElem_range]
      have := (hcell i (by omega)).1
      rw [cell_add] at this
      rw [this, hL i (by omega)]
/-- a table of strings as a row lists it -/
def strData {H : Type} (ls : List (List UInt8)) : DataW H := .agg (ls.map fun s => .lit (.string s))
theorem cells_of_strs {H : Type} {enc : TypeId × Value → H} {P : Program} {w : World} {base : Nat} {sp : Nat → Bool} {held : Bool} {fuel : Nat} {t e : TypeId} {n : Nat} {cs : List Value} {ls : List (List UInt8)} {p : List MemPlace}
    (ht : P.underlying t = some (.array n e)) (he : P.underlying e = some .string) (hce : P.cellsOf e = 1) (hct : P.cellsOf t = n)
    (h : DataW.trod enc P w base sp held fuel t cs = some (strData ls, p)) : cs = ls.map fun s => Value.string (bs s) := by
  cases fuel with
  | zero => simp [DataW.trod] at h
  | succ fuel =>
    simp only [DataW.trod, ht, hce, hct, Nat.mul_one] at h
    split at h
    · rename_i hl
      obtain ⟨xs, hm, hx⟩ := Option.map_eq_some_iff.1 h
      have hxs : xs.map (·.1) = ls.map fun s => (DataW.lit (.string s) : DataW H) := by
        have := congrArg Prod.fst hx
        simpa [strData] using this
      have hxl : xs.length = n := by simpa using Lib.mapM_length hm
      have hzl : ls.length = n := by
        have := congrArg List.length hxs
        simp at this
        omega
      apply List.ext_getElem?
      intro i
      by_cases hi : i < n
      · obtain ⟨b, hb, hf⟩ := Lib.mapM_at hm i i (by simp [hi])
        obtain ⟨z, hc, rfl, _⟩ := DataW.trod_string he hf
        have h1 : cs[i]? = some (.string z) := by
          have := congrArg (·[0]?) hc
          simpa [List.getElem?_take, List.getElem?_drop] using this
        have h2 : (xs.map (·.1))[i]? = some (DataW.lit (.string z.data.toList) : DataW H) := by simp [hb]
        rw [hxs] at h2
        simp only [List.getElem?_map, Option.map_eq_some_iff, DataW.lit.injEq, Lit.string.injEq] at h2
        obtain ⟨z', hz', e2⟩ := h2
        have e3 : bs z' = z := by
          subst e2
          simp [bs]
        simp [h1, hz', e3]
      · rw [List.getElem?_eq_none (by omega), List.getElem?_eq_none (by simp; omega)]
    · cases h
theorem tab_of_head {P : Program} {W : World} {name : String} {ls : List (List UInt8)} {rest : List (String × DataW Unit)} {g : Nat} {t e : TypeId} {n : Nat}
    (hg : P.globalNamed name = some g) (hty : (P.globals[g]?).map (·.type) = some t) (ht : P.underlying t = some (.array n e)) (he : P.underlying e = some .string) (hce : P.cellsOf e = 1) (hct : P.cellsOf t = n)
    (h : laidMet P ((name, strData ls) :: rest) W) : Tab W g ls := by
  obtain ⟨ps, ⟨g', t', cs, fuel, p, q, hg', ht', hvar, hd, _, _⟩, _⟩ := h
  obtain rfl := Option.some.inj (hg.symm.trans hg')
  obtain rfl := Option.some.inj (hty.symm.trans ht')
  have hcs := cells_of_strs ht he hce hct hd
  intro i hi
  have := World.var?_cell hg' hvar i
  rw [this, show cs[i]? = cs.toList[i]? by simp, hcs]
  simp [List.getD, hi]
theorem kinds_tab {W : World} {laid : List (String × DataW Unit)} (hf : laid.filter (fun x => x.1 == "liaison/binding.kinds") = [("liaison/binding.kinds", Rows.laid_liaison_binding_kinds)]) (h : laidMetH Tryz.prog laid W) : Tab W 16 kindsL := by
  have h1 := laidMetH.filter (fun x => x.1 == "liaison/binding.kinds") h
  rw [hf] at h1
  rw [MakeChecks.laidMetH_plain _ _ _ (by rfl)] at h1
  exact tab_of_head (rest := []) (by kernel_rfl) (by kernel_rfl) Tryz.underlying121 Tryz.underlying9 (by kernel_rfl) (by kernel_rfl) h1
theorem outs_tab {W : World} {laid : List (String × DataW Unit)} (hf : laid.filter (fun x => x.1 == "liaison/binding.outcomes") = [("liaison/binding.outcomes", Rows.laid_liaison_binding_outcomes)]) (h : laidMetH Tryz.prog laid W) : Tab W 1 outsL := by
  have h1 := laidMetH.filter (fun x => x.1 == "liaison/binding.outcomes") h
  rw [hf] at h1
  rw [MakeChecks.laidMetH_plain _ _ _ (by rfl)] at h1
  exact tab_of_head (rest := []) (by kernel_rfl) (by kernel_rfl) Tryz.underlying69 Tryz.underlying9 (by kernel_rfl) (by kernel_rfl) h1
theorem bctx_ba (c : Ctx) (v : Value) (ls : List (List UInt8)) (spoil : Int) (w : World) (E : Nat → Addr) (hc : c.wf) (h1 : IdsG w E) (h2 : Tab w 1 outsL) (h3 : Tab w 16 kindsL) (hv : StrsV w v ls) :
    Calls Tryz.prog 3 #[ctxV c, v, .int .i64 spoil] w (ok1 w) := by
  obtain ⟨p, cap, rfl, hv1, hv2, hv3⟩ := hv
  obtain ⟨n, s, o, d, x⟩ := c
  exact bctx_law n s o d x hc.1.1 hc.2.1.1 hc.2.2.2.2 p cap ls spoil w E ⟨h1, h2, h3⟩ hv1 hv2 hv3
end Go.Proofs.YtgmiockaecklaaaGreatDoor
