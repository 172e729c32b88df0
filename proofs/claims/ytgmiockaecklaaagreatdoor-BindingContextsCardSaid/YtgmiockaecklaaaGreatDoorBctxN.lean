/-
  BctxN: which elements are contexts': the document and the program read the same.
-/
import Derived.Test.YtgmiockaecklaaaGreatDoorBctxK
import Derived.Test.YtgmiockaecklaaaGreatDoorBctxM
import Derived.Test.YtgmiockaecklaaaGreatDoorElem26
namespace Go.Proofs.YtgmiockaecklaaaGreatDoor
open Go.RowKit Go.Extern.Stop Go.Stop Go.Extern Ieee

theorem toE_ctx (a o d x : List UInt8) : toCtxE (ctxTr a o d x) = toCtx a o d x := by
  unfold toCtxE
  rw [if_pos ⟨rfl, rfl⟩]
  unfold valsT
  rw [if_pos ⟨rfl, rfl, rfl⟩]
  rfl
theorem ctxTr_inj {a o d x a' o' d' x' : List UInt8} : ctxTr a o d x = ctxTr a' o' d' x' ↔ a = a' ∧ o = o' ∧ d = d' ∧ x = x' := by
  unfold ctxTr
  simp
theorem refE_ctx (a o d x : List UInt8) : refToE (ctxTr a o d x) = refCtx a o d x := by
  unfold refToE refCtx
  rw [if_pos (show (ctxTr a o d x).ats.length = 4 from rfl)]
  show (match toActT a with | .error _ => none | .ok p => _) = _
  cases toActT a with
  | error m => rfl
  | ok p =>
    show (if (rightC ⟨p.1, p.2, refO o, refD d, refX x⟩ && (ctxT ⟨p.1, p.2, refO o, refD d, refX x⟩).eqb (ctxTr a o d x)) = true then some (⟨p.1, p.2, refO o, refD d, refX x⟩ : Ctx) else none) = _
    by_cases h : rightC ⟨p.1, p.2, refO o, refD d, refX x⟩ = true ∧ (txt1 ⟨p.1, p.2, refO o, refD d, refX x⟩ = a ∧ txt2 ⟨p.1, p.2, refO o, refD d, refX x⟩ = o ∧ txt3 ⟨p.1, p.2, refO o, refD d, refX x⟩ = d ∧ txt4 ⟨p.1, p.2, refO o, refD d, refX x⟩ = x)
    · refine Eq.trans ?_ (if_pos h).symm
      rw [if_pos]
      rw [Bool.and_eq_true, Tr.eqb_iff]
      exact ⟨h.1, ctxTr_inj.2 h.2⟩
    · refine Eq.trans ?_ (if_neg h).symm
      rw [if_neg]
      rw [Bool.and_eq_true, Tr.eqb_iff]
      exact fun hh => h ⟨hh.1, ctxTr_inj.1 hh.2⟩
theorem same_ctx (a o d x : List UInt8) : toCtxE (ctxTr a o d x) = refToE (ctxTr a o d x) := by rw [toE_ctx, refE_ctx, toCtx_ref]
theorem refE_none {Y : Tr} (h : ∀ c, ctxT c ≠ Y) : refToE Y = none := by
  unfold refToE
  split
  · split
    · rfl
    · rw [if_neg]
      rw [Bool.and_eq_true, Tr.eqb_iff]
      exact fun hh => h _ hh.2
  · rfl
def otherL : List UInt8 := [111, 116, 104, 101, 114]
def OtherL : List UInt8 := [79, 116, 104, 101, 114]
/-- the element, spoilt -/
def sp1 (a o d : List UInt8) : Tr := .node [wscoorL, ccL] [[[], actL, a], [[], outcomeL, o], [[], depthL, d]] [] []
def sp2 (a o d x : List UInt8) : Tr := .node [wscoorL, ccL] [[[], otherL, a], [[], outcomeL, o], [[], depthL, d], [[], expiresL, x]] [] []
def leafT : Tr := .node [[], []] [] [] [116]
def sp3 (a o d x : List UInt8) : Tr := .node [wscoorL, ccL] [[[], actL, a], [[], outcomeL, o], [[], depthL, d], [[], expiresL, x]] [leafT] []
def sp4 (a o d x : List UInt8) : Tr := .node [wscoorL, OtherL] [[[], actL, a], [[], outcomeL, o], [[], depthL, d], [[], expiresL, x]] [] []
theorem sp1_no (a o d : List UInt8) : toCtxE (sp1 a o d) = none ∧ refToE (sp1 a o d) = none := by
  refine ⟨?_, refE_none fun c => ?_⟩
  · unfold toCtxE
    rw [if_pos ⟨rfl, rfl⟩]
    unfold valsT
    rw [if_neg (fun h => absurd h.2.1 (by simp [sp1, Tr.ats, namesL]))]
    rfl
  · unfold ctxT ctxTr sp1
    simp
theorem sp2_no (a o d x : List UInt8) : toCtxE (sp2 a o d x) = none ∧ refToE (sp2 a o d x) = none := by
  refine ⟨?_, refE_none fun c => ?_⟩
  · unfold toCtxE
    rw [if_pos ⟨rfl, rfl⟩]
    unfold valsT
    rw [if_neg (fun h => absurd h.2.2 (by simp [sp2, Tr.ats, namesL, otherL, actL]))]
    rfl
  · unfold ctxT ctxTr sp2
    simp [actL, otherL]
theorem sp3_no (a o d x : List UInt8) : toCtxE (sp3 a o d x) = none ∧ refToE (sp3 a o d x) = none := by
  refine ⟨?_, refE_none fun c => ?_⟩
  · unfold toCtxE
    rw [if_pos ⟨rfl, rfl⟩]
    unfold valsT
    rw [if_neg (fun h => absurd h.1 (by simp [sp3, Tr.ks]))]
    rfl
  · unfold ctxT ctxTr sp3
    simp
theorem sp4_no (a o d x : List UInt8) : toCtxE (sp4 a o d x) = none ∧ refToE (sp4 a o d x) = none := by
  refine ⟨?_, refE_none fun c => ?_⟩
  · unfold toCtxE
    rw [if_neg (fun h => absurd h.1 (by simp [sp4, Tr.nm, ccL, OtherL]))]
  · unfold ctxT ctxTr sp4
    simp [ccL, OtherL]
theorem toE_right {c : Ctx} (h : rightC c = true) : toCtxE (ctxT c) = some c := by
  unfold ctxT
  rw [toE_ctx, (toCtx_txt h).1]
theorem same_self (c : Ctx) : sameC c c = true := by simp [sameC]
/-! ### the values that are set, one by one -/
def curT (k i : Nat) (vs : List (List UInt8)) (t : List UInt8) : List UInt8 := if i < k then vs.getD i [] else t
def curC (k : Nat) (vs : List (List UInt8)) (a o d x : List UInt8) : Array Value := atC (curT k 0 vs a) (curT k 1 vs o) (curT k 2 vs d) (curT k 3 vs x)
theorem curC_zero (vs : List (List UInt8)) (a o d x : List UInt8) : curC 0 vs a o d x = atC a o d x := rfl
theorem curC_at {k : Nat} (h : k < 4) (vs : List (List UInt8)) (a o d x : List UInt8) : ∃ u, (curC k vs a o d x)[k * 3 + 2]? = some (.string (bs u)) := by
  unfold curC atC
  match k, h with
  | 0, _ => exact ⟨_, rfl⟩
  | 1, _ => exact ⟨_, rfl⟩
  | 2, _ => exact ⟨_, rfl⟩
  | 3, _ => exact ⟨_, rfl⟩
theorem curC_step {k : Nat} (h : k < 4) {vs : List (List UInt8)} (hk : k < vs.length) (a o d x : List UInt8) : (curC k vs a o d x).setIfInBounds (k * 3 + 2) (.string (bs vs[k])) = curC (k + 1) vs a o d x := by
  have e : vs.getD k [] = vs[k] := by rw [List.getD_eq_getElem?_getD, List.getElem?_eq_getElem hk]; rfl
  unfold curC atC curT
  rw [← e]
  match k, h with
  | 0, _ => rfl
  | 1, _ => rfl
  | 2, _ => rfl
  | 3, _ => rfl
theorem curC_stay {k : Nat} (h : 4 ≤ k) (vs : List (List UInt8)) (a o d x : List UInt8) : curC (k + 1) vs a o d x = curC k vs a o d x := by
  unfold curC curT
  rw [if_pos (by omega), if_pos (by omega), if_pos (by omega), if_pos (by omega), if_pos (by omega), if_pos (by omega), if_pos (by omega), if_pos (by omega)]
theorem curT_len {k i : Nat} {vs : List (List UInt8)} {t : List UInt8} (h : ∀ j (hj : j < vs.length), j < k → vs[j].length ≤ 100) (ht : t.length ≤ 100) : (curT k i vs t).length ≤ 100 := by
  unfold curT
  split
  · rename_i hi
    rw [List.getD_eq_getElem?_getD]
    cases hv : vs[i]? with
    | none => simp
    | some u =>
      obtain ⟨h1, rfl⟩ := List.getElem?_eq_some_iff.1 hv
      exact h i h1 hi
  · exact ht
theorem ctxTr_len {a o d x : List UInt8} (ha : a.length ≤ 100) (ho : o.length ≤ 100) (hd : d.length ≤ 100) (hx : x.length ≤ 100) : ∀ at' ∈ (ctxTr a o d x).ats, ∀ s ∈ at', s.length ≤ 1000 := by
  unfold ctxTr Tr.ats
  simp only [List.mem_cons, List.not_mem_nil, or_false, forall_eq_or_imp, forall_eq]
  exact ⟨⟨by decide, by decide, by omega⟩, ⟨by decide, by decide, by omega⟩, ⟨by decide, by decide, by omega⟩, by decide, by decide, by omega⟩
theorem txt_len {c : Ctx} (h : rightC c = true) : (txt1 c).length ≤ 100 ∧ (txt2 c).length ≤ 100 ∧ (txt3 c).length ≤ 100 ∧ (txt4 c).length ≤ 100 := by
  obtain ⟨h1, h2, h3, h4⟩ := right_parts h
  refine ⟨?_, ?_, ?_, ?_⟩
  · unfold txt1 actS
    have e1 := (dec_len c.n.toNat 5 (by omega)).2
    have e2 := (dec_len c.s.toNat 5 (by omega)).2
    simp
    omega
  · unfold txt2
    rcases h3 with h | h <;> (rw [h]; decide)
  · unfold txt3
    have e1 := (dec_len c.d.toNat 5 (by omega)).2
    omega
  · unfold txt4 expT
    split
    · decide
    · rw [hexN_len]; omega
end Go.Proofs.YtgmiockaecklaaaGreatDoor
