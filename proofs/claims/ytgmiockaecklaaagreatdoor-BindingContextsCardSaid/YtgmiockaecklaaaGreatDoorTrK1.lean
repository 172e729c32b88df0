/-
  TrK1: cells of trees of 1 names. No program.
-/
import Derived.Test.YtgmiockaecklaaaGreatDoorTrEq
namespace Go.Proofs.YtgmiockaecklaaaGreatDoor
open Go.RowKit Go.Extern.Stop Go.Stop Go.Extern

theorem at_1 {w : World} {p : Option Addr} {ats : List (List (List UInt8))} (h : Rd w p (acells ats)) (hk : ∀ a ∈ ats, a.length = 1 + 1) {i : Nat} (hi : i < ats.length) :
    ∃ b off x0 x1, p = some ⟨b, off, none⟩ ∧ ats[i] = [x0, x1] ∧ w.cell? ⟨b, off + i * 2, none⟩ = some (.string (bs x0)) ∧ w.cell? ⟨b, off + i * 2 + 1, none⟩ = some (.string (bs x1)) := by
  obtain ⟨b, off, hp, hc⟩ := at_cell h hk hi
  obtain ⟨x0, x1, he⟩ := two_of (hk _ (List.getElem_mem hi))
  simp only [he] at hc
  refine ⟨b, off, x0, x1, hp, he, hc 0 (by omega), hc 1 (by omega)⟩
theorem kid_1 {w : World} {p : Option Addr} {ks : List Tr} {css : List (List Value)} {P : Nat → Prop} (h : Rd w p css.flatten) (hL : TrL w P ks css) (hk : Tr.okL 1 ks) {i : Nat} (hi : i < ks.length) :
    ∃ b off m0 at' kk t' pa ca pk ck, p = some ⟨b, off, none⟩ ∧ ks[i] = .node [m0] at' kk t' ∧ TrC w P ks[i] [.string (bs m0), .slice pa at'.length ca, .slice pk kk.length ck, .string (bs t')] ∧ w.cell? ⟨b, off + i * 4, none⟩ = some (.string (bs m0)) ∧ w.cell? ⟨b, off + i * 4 + 1, none⟩ = some (.slice pa at'.length ca) ∧ w.cell? ⟨b, off + i * 4 + 2, none⟩ = some (.slice pk kk.length ck) ∧ w.cell? ⟨b, off + i * 4 + 3, none⟩ = some (.string (bs t')) := by
  obtain ⟨b, off, c, hp, hT, hcl, hcc⟩ := kid_cell h hL hk hi
  have ho := okL_get 1 ks hk i hi
  have hT' := hT
  generalize hx : ks[i] = x at hT hT' ho ⊢
  obtain ⟨nm, at', kk, t'⟩ := x
  unfold TrC at hT'
  unfold Tr.ok at ho
  obtain ⟨m0, rfl⟩ := one_of ho.1
  obtain ⟨pa, ca, pk, ck, css', rfl, _⟩ := hT'
  exact ⟨b, off, m0, at', kk, t', pa, ca, pk, ck, hp, rfl, hT, hcc 0 (by rw [hcl]; omega), hcc 1 (by rw [hcl]; omega), hcc 2 (by rw [hcl]; omega), hcc 3 (by rw [hcl]; omega)⟩
end Go.Proofs.YtgmiockaecklaaaGreatDoor
