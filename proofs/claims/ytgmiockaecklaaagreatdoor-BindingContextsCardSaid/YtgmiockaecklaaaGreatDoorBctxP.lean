/-
  BctxP: contexts as elements, plainly. No program.
-/
import Derived.Test.YtgmiockaecklaaaGreatDoorHexP
import Derived.Test.YtgmiockaecklaaaGreatDoorBindFA
import Derived.Test.YtgmiockaecklaaaGreatDoorBF
import Derived.Test.YtgmiockaecklaaaGreatDoorBE
namespace Go.Proofs.YtgmiockaecklaaaGreatDoor
open Go.RowKit Ieee

def outsL : List (List UInt8) := [[97, 116, 111, 109, 105, 99], [109, 105, 120, 101, 100]]
def neverL : List UInt8 := [110, 101, 118, 101, 114]
/-- which name it is, from 1 on -/
def numF (l : List (List UInt8)) (s : List UInt8) : Option Int := if l.idxOf s < l.length then some ((l.idxOf s : Int) + 1) else none
def expT (x : Nat) : List UInt8 := if x = infR then neverL else hexN 16 x
/-- the values of a right context's attributes -/
def txt1 (c : Ctx) : List UInt8 := actS c.n.toNat c.s.toNat
def txt2 (c : Ctx) : List UInt8 := nameF outsL c.o
def txt3 (c : Ctx) : List UInt8 := dec c.d.toNat
def txt4 (c : Ctx) : List UInt8 := expT c.x
def toExp (s : List UInt8) : Option Nat := if s = neverL then some infR else (unhT s).bind fun x => if plainN x = x ∧ isFin x = true then some x else none
def toCtx (a o d x : List UInt8) : Option Ctx :=
  match toActT a with
  | .error _ => none
  | .ok p => (numF outsL o).bind fun o => (dig9 d).bind fun d => (toExp x).bind fun x => if rightC ⟨p.1, p.2, o, d, x⟩ then some ⟨p.1, p.2, o, d, x⟩ else none
/-- as the document reads it -/
def refX (x : List UInt8) : Nat := if x = neverL then infR else refH x
def refD (d : List UInt8) : Int := match dig9 d with | some n => n | none => -1
def refO (o : List UInt8) : Int := if o = [109, 105, 120, 101, 100] then 2 else 1
def refCtx (a o d x : List UInt8) : Option Ctx :=
  match toActT a with
  | .error _ => none
  | .ok p => if rightC ⟨p.1, p.2, refO o, refD d, refX x⟩ ∧ (txt1 ⟨p.1, p.2, refO o, refD d, refX x⟩ = a ∧ txt2 ⟨p.1, p.2, refO o, refD d, refX x⟩ = o ∧ txt3 ⟨p.1, p.2, refO o, refD d, refX x⟩ = d ∧ txt4 ⟨p.1, p.2, refO o, refD d, refX x⟩ = x)
    then some ⟨p.1, p.2, refO o, refD d, refX x⟩ else none
theorem right_parts {c : Ctx} (h : rightC c = true) : c.x ≤ infR ∧ (0 ≤ c.n ∧ c.n < 4 ∧ 0 ≤ c.s ∧ c.s < 1000000) ∧ (c.o = 1 ∨ c.o = 2) ∧ 0 ≤ c.d ∧ c.d ≤ 3 := by
  unfold rightC at h
  simp only [Bool.and_eq_true, decide_eq_true_eq] at h
  obtain ⟨⟨⟨h1, h2⟩, h3⟩, h4, h5⟩ := h
  refine ⟨okF_yes h1, ?_, ?_, h4, h5⟩
  · unfold actB at h2
    rw [actT_isSome] at h2
    simp only [Bool.and_eq_true, decide_eq_true_eq] at h2
    omega
  · unfold isOut at h3
    simpa using h3
theorem fin_small {x : Nat} (h : x ≤ infR) : isFin x = true ↔ x ≠ infR := by
  unfold isFin rung
  rw [decide_eq_true_eq]
  unfold infR at *
  omega
theorem hex_never (x : Nat) : hexN 16 x ≠ neverL := by
  intro e
  have := congrArg List.length e
  rw [hexN_len] at this
  cases this
theorem exp_back {x : Nat} (h : x ≤ infR) : toExp (expT x) = some x ∧ refX (expT x) = x := by
  have hx : x < 18446744073709551616 := by unfold infR at h; omega
  unfold expT
  by_cases hi : x = infR
  · rw [if_pos hi, hi]
    exact ⟨by unfold toExp; rw [if_pos rfl], by unfold refX; rw [if_pos rfl]⟩
  · rw [if_neg hi]
    refine ⟨?_, ?_⟩
    · unfold toExp
      rw [if_neg (hex_never x), unhT_hex hx, Option.bind_some, if_pos ⟨plain_small h, (fin_small h).2 hi⟩]
    · unfold refX
      rw [if_neg (hex_never x), refH_hex hx]
theorem exp_some {s : List UInt8} {x : Nat} (h : toExp s = some x) (hx : x ≤ infR) : expT x = s := by
  unfold toExp at h
  split at h
  · rename_i e
    cases h
    unfold expT
    rw [if_pos rfl, e]
  · rw [Option.bind_eq_some_iff] at h
    obtain ⟨y, hy, h⟩ := h
    split at h
    · rename_i hc
      cases h
      have := unhT_some hy
      unfold expT
      rw [if_neg ((fin_small hx).1 hc.2), this.1]
    · cases h
theorem out_back {o : Int} (h : o = 1 ∨ o = 2) : numF outsL (nameF outsL o) = some o ∧ refO (nameF outsL o) = o := by
  rcases h with rfl | rfl <;> exact ⟨by decide, by decide⟩
theorem out_some {s : List UInt8} {o : Int} (h : numF outsL s = some o) : nameF outsL o = s ∧ (o = 1 ∨ o = 2) := by
  unfold numF at h
  split at h
  · rename_i hl
    have hg := List.getElem_idxOf hl
    have h2 : outsL.idxOf s < 2 := hl
    cases h
    unfold nameF
    rw [if_neg (by have : (outsL.length : Int) = 2 := rfl; omega), show ((outsL.idxOf s : Int) + 1 - 1).toNat = outsL.idxOf s by omega, List.getD_eq_getElem?_getD, List.getElem?_eq_getElem hl]
    exact ⟨hg, by omega⟩
  · cases h
theorem dig_back {d : Int} (h : 0 ≤ d ∧ d ≤ 3) : dig9 (dec d.toNat) = some d.toNat ∧ refD (dec d.toNat) = d := by
  have e := dig9_dec (n := d.toNat) (by omega)
  refine ⟨e, ?_⟩
  unfold refD
  rw [e]
  show ((d.toNat : Nat) : Int) = d
  omega
/-- what is read of a right context's texts is the context -/
theorem toCtx_txt {c : Ctx} (h : rightC c = true) : toCtx (txt1 c) (txt2 c) (txt3 c) (txt4 c) = some c ∧ refCtx (txt1 c) (txt2 c) (txt3 c) (txt4 c) = some c := by
  obtain ⟨h1, h2, h3, h4⟩ := right_parts h
  have ea : toActT (txt1 c) = .ok (c.n.toNat, c.s.toNat) := toActT_act _ _ (by omega) (by omega)
  have ec : (⟨((c.n.toNat : Nat) : Int), ((c.s.toNat : Nat) : Int), c.o, c.d, c.x⟩ : Ctx) = c := by
    obtain ⟨n, s, o, d, x⟩ := c
    simp only at h2 ⊢
    rw [Int.toNat_of_nonneg h2.1, Int.toNat_of_nonneg h2.2.2.1]
  have ed : ((c.d.toNat : Nat) : Int) = c.d := by omega
  constructor
  · unfold toCtx
    rw [ea]
    simp only
    unfold txt2 txt3 txt4
    rw [(out_back h3).1, Option.bind_some, (dig_back h4).1, Option.bind_some, (exp_back h1).1, Option.bind_some, ed, ec, if_pos h]
  · unfold refCtx
    rw [ea]
    simp only
    have e2 : refO (txt2 c) = c.o := (out_back h3).2
    have e3 : refD (txt3 c) = c.d := (dig_back h4).2
    have e4 : refX (txt4 c) = c.x := (exp_back h1).2
    rw [e2, e3, e4, ec, if_pos ⟨h, rfl, rfl, rfl, rfl⟩]
theorem toCtx_some {a o d x : List UInt8} {c : Ctx} (h : toCtx a o d x = some c) : rightC c = true ∧ txt1 c = a ∧ txt2 c = o ∧ txt3 c = d ∧ txt4 c = x := by
  unfold toCtx at h
  split at h
  · cases h
  · rename_i p hp
    simp only [Option.bind_eq_some_iff] at h
    obtain ⟨O, hO, D, hD, X, hX, h⟩ := h
    split at h
    · rename_i hr
      cases h
      have hq := right_parts hr
      exact ⟨hr, (toActT_some (a := p.1) (b := p.2) hp).2.2.symm, (out_some hO).1, dig9_some hD, exp_some hX hq.1⟩
    · cases h
theorem refCtx_some {a o d x : List UInt8} {c : Ctx} (h : refCtx a o d x = some c) : rightC c = true ∧ txt1 c = a ∧ txt2 c = o ∧ txt3 c = d ∧ txt4 c = x := by
  unfold refCtx at h
  split at h
  · cases h
  · split at h
    · rename_i hr
      cases h
      exact hr
    · cases h
theorem toCtx_ref (a o d x : List UInt8) : toCtx a o d x = refCtx a o d x := by
  cases h : toCtx a o d x with
  | some c =>
    obtain ⟨h1, rfl, rfl, rfl, rfl⟩ := toCtx_some h
    exact (toCtx_txt h1).2.symm
  | none =>
    cases h2 : refCtx a o d x with
    | none => rfl
    | some c =>
      obtain ⟨h1, rfl, rfl, rfl, rfl⟩ := refCtx_some h2
      rw [(toCtx_txt h1).1] at h
      cases h
end Go.Proofs.YtgmiockaecklaaaGreatDoor
