/-
  TrK2: cells of trees of 2 names. No program.
-/
import Derived.Test.YtgmiockaecklaaaGreatDoorTrEq
namespace Go.Proofs.YtgmiockaecklaaaGreatDoor
open Go.RowKit Go.Extern.Stop Go.Stop Go.Extern

theorem at_2 {w : World} {p : Option Addr} {ats : List (List (List UInt8))} (h : Rd w p (acells ats)) (hk : ∀ a ∈ ats, a.length = 2 + 1) {i : Nat} (hi : i < ats.length) :
    ∃ b off x0 x1 x2, p = some ⟨b, off, none⟩ ∧ ats[i] = [x0, x1, x2] ∧ w.cell? ⟨b, off + i * 3, none⟩ = some (.string (bs x0)) ∧ w.cell? ⟨b, off + i * 3 + 1, none⟩ = some (.string (bs x1)) ∧ w.cell? ⟨b, off + i * 3 + 2, none⟩ = some (.string (bs x2)) := by
  obtain ⟨b, off, hp, hc⟩ := at_cell h hk hi
  obtain ⟨x0, x1, x2, he⟩ := three_of (hk _ (List.getElem_mem hi))
  simp only [he] at hc
  refine ⟨b, off, x0, x1, x2, hp, he, hc 0 (by omega), hc 1 (by omega), hc 2 (by omega)⟩
theorem kid_2 {w : World} {p : Option Addr} {ks : List Tr} {css : List (List Value)} {P : Nat → Prop} (h : Rd w p css.flatten) (hL : TrL w P ks css) (hk : Tr.okL 2 ks) {i : Nat} (hi : i < ks.length) :
    ∃ b off m0 m1 at' kk t' pa ca pk ck, p = some ⟨b, off, none⟩ ∧ ks[i] = .node [m0, m1] at' kk t' ∧ TrC w P ks[i] [.string (bs m0), .string (bs m1), .slice pa at'.length ca, .slice pk kk.length ck, .string (bs t')] ∧ w.cell? ⟨b, off + i * 5, none⟩ = some (.string (bs m0)) ∧ w.cell? ⟨b, off + i * 5 + 1, none⟩ = some (.string (bs m1)) ∧ w.cell? ⟨b, off + i * 5 + 2, none⟩ = some (.slice pa at'.length ca) ∧ w.cell? ⟨b, off + i * 5 + 3, none⟩ = some (.slice pk kk.length ck) ∧ w.cell? ⟨b, off + i * 5 + 4, none⟩ = some (.string (bs t')) := by
  obtain ⟨b, off, c, hp, hT, hcl, hcc⟩ := kid_cell h hL hk hi
  have ho := okL_get 2 ks hk i hi
  have hT' := hT
  generalize hx : ks[i] = x at hT hT' ho ⊢
  obtain ⟨nm, at', kk, t'⟩ := x
  unfold TrC at hT'
  unfold Tr.ok at ho
  obtain ⟨m0, m1, rfl⟩ := two_of ho.1
  obtain ⟨pa, ca, pk, ck, css', rfl, _⟩ := hT'
  exact ⟨b, off, m0, m1, at', kk, t', pa, ca, pk, ck, hp, rfl, hT, hcc 0 (by rw [hcl]; omega), hcc 1 (by rw [hcl]; omega), hcc 2 (by rw [hcl]; omega), hcc 3 (by rw [hcl]; omega), hcc 4 (by rw [hcl]; omega)⟩
end Go.Proofs.YtgmiockaecklaaaGreatDoor
