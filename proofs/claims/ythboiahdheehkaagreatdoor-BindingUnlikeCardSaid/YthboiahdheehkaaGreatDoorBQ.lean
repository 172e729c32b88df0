/- SoapP -/
import Derived.Test.YthboiahdheehkaaGreatDoorPA
import Derived.Test.YthboiahdheehkaaGreatDoorBA
import Derived.Test.YthboiahdheehkaaGreatDoorBB
import Derived.Test.YthboiahdheehkaaGreatDoorBR
namespace Go.Proofs.YthboiahdheehkaaGreatDoor
open Go.RowKit
structure Env where
  act : List UInt8
  to : List UInt8
  id : List UInt8
  frm : List UInt8
  rel : List UInt8
  hds : List Tr
  bdy : Tr
def soapL : List UInt8 := [104, 116, 116, 112, 58, 47, 47, 119, 119, 119, 46, 119, 51, 46, 111, 114, 103, 47, 50, 48, 48, 51, 47, 48, 53, 47, 115, 111, 97, 112, 45, 101, 110, 118, 101, 108, 111, 112, 101]
def addrL : List UInt8 := [104, 116, 116, 112, 58, 47, 47, 119, 119, 119, 46, 119, 51, 46, 111, 114, 103, 47, 50, 48, 48, 53, 47, 48, 56, 47, 97, 100, 100, 114, 101, 115, 115, 105, 110, 103]
def cEnvelope : List UInt8 := [69, 110, 118, 101, 108, 111, 112, 101]
def cHeader : List UInt8 := [72, 101, 97, 100, 101, 114]
def cBody : List UInt8 := [66, 111, 100, 121]
def cAction : List UInt8 := [65, 99, 116, 105, 111, 110]
def cTo : List UInt8 := [84, 111]
def cMessageID : List UInt8 := [77, 101, 115, 115, 97, 103, 101, 73, 68]
def cFrom : List UInt8 := [70, 114, 111, 109]
def cAddress : List UInt8 := [65, 100, 100, 114, 101, 115, 115]
def cRelatesTo : List UInt8 := [82, 101, 108, 97, 116, 101, 115, 84, 111]
def simpT (sp lo tx : List UInt8) : Tr := .node [sp, lo] [] [.node [[], []] [] [] tx] []
def fromT (s : List UInt8) : Tr := .node [addrL, cFrom] [] [simpT addrL cAddress s] []
def Env.hdrs (e : Env) : List Tr := simpT addrL cAction e.act :: simpT addrL cTo e.to :: simpT addrL cMessageID e.id ::
  ((if e.frm = [] then [] else [fromT e.frm]) ++ ((if e.rel = [] then [] else [simpT addrL cRelatesTo e.rel]) ++ e.hds))
def Env.tree (e : Env) : Tr := .node [soapL, cEnvelope] [] [.node [soapL, cHeader] [] e.hdrs [], .node [soapL, cBody] [] [e.bdy] []] []
def furB (h : Tr) : Bool := !(h.nm.getD 1 [] == []) && !(h.nm.getD 0 [] == soapL) && !(h.nm.getD 0 [] == addrL)
def noCR (s : List UInt8) : Bool := !s.contains 13
def Env.fine (e : Env) : Bool := !(e.act == []) && !(e.to == []) && !(e.id == []) && !(e.bdy.nm.getD 1 [] == []) && decide (e.hds.length ≤ 16) &&
  (noCR e.act && noCR e.to && noCR e.id && noCR e.frm && noCR e.rel) && e.hds.all furB
def Env.formed (e : Env) : Option Tr := if e.fine = true then writeF e.tree else none
def Env.text (e : Env) : List UInt8 := match e.formed with | none => [] | some x => textS x
theorem write_back {x y : Tr} (h : writeF x = some y) : resolveF y = some x := by
  unfold writeF at h
  obtain ⟨z, hz, h⟩ := Option.bind_eq_some_iff.1 h
  obtain ⟨b, hb, h⟩ := Option.bind_eq_some_iff.1 h
  split at h
  · rename_i he
    cases h
    rw [hb, Tr.eqb_eq b x he]
  · cases h
theorem env_like {a b : Env} {x y : Tr} (ha : a.formed = some x) (hb : b.formed = some y) (hx : x.ok 1) (hy : y.ok 1) (tx : textE x = 0) (ty : textE y = 0) (h : x.wrt = y.wrt) : a.tree = b.tree := by
  have h1 := parse_wrt hx tx
  have h2 := parse_wrt hy ty
  rw [h, h2] at h1
  cases h1
  unfold Env.formed at ha hb
  split at ha
  · split at hb
    · have e1 := write_back ha
      have e2 := write_back hb
      rw [e1] at e2
      exact Option.some.inj e2
    · cases hb
  · cases ha
theorem simp_inj {sp lo s t : List UInt8} (h : simpT sp lo s = simpT sp lo t) : s = t := by
  unfold simpT at h
  injection h with _ _ h _
  injection h with h _
  injection h
theorem from_inj {s t : List UInt8} (h : fromT s = fromT t) : s = t := by
  unfold fromT at h
  injection h with _ _ h _
  injection h with h _
  exact simp_inj h
theorem env_inj {a b : Env} (h : a.tree = b.tree) (fa : a.frm ≠ []) (fb : b.frm ≠ []) {r s : Tr} (ra : a.hds = [r]) (rb : b.hds = [s]) :
    a.act = b.act ∧ a.to = b.to ∧ a.id = b.id ∧ a.frm = b.frm ∧ a.rel = b.rel ∧ r = s ∧ a.bdy = b.bdy := by
  unfold Env.tree at h
  injection h with _ _ h _
  injection h with h1 h2
  injection h1 with _ _ h1 _
  injection h2 with h2 _
  injection h2 with _ _ h2 _
  injection h2 with h2 _
  unfold Env.hdrs at h1
  rw [if_neg fa, if_neg fb, ra, rb] at h1
  injection h1 with e1 h1
  injection h1 with e2 h1
  injection h1 with e3 h1
  rw [List.cons_append, List.cons_append, List.nil_append, List.nil_append] at h1
  injection h1 with e4 h1
  refine ⟨simp_inj e1, simp_inj e2, simp_inj e3, from_inj e4, ?_⟩
  by_cases qa : a.rel = []
  · rw [if_pos qa] at h1
    by_cases qb : b.rel = []
    · rw [if_pos qb] at h1
      injection h1 with e5 _
      exact ⟨by rw [qa, qb], e5, h2⟩
    · rw [if_neg qb] at h1
      have := congrArg List.length h1
      simp at this
  · rw [if_neg qa] at h1
    by_cases qb : b.rel = []
    · rw [if_pos qb] at h1
      have := congrArg List.length h1
      simp at this
    · rw [if_neg qb] at h1
      injection h1 with e5 h1
      injection h1 with e6 _
      exact ⟨simp_inj e5, e6, h2⟩
end Go.Proofs.YthboiahdheehkaaGreatDoor
namespace Go.Proofs.YthboiahdheehkaaGreatDoor
open Go.RowKit
structure Msg where
  k : Int
  f : Int
  t : Int
  n : Int
  s : Int
  r : Int
  p : Int
  q : Int
  c : Int
def Msg.l (m : Msg) : List Int := [m.k, m.f, m.t, m.n, m.s, m.r, m.p, m.q, m.c]
def inI (x : Int) : Prop := -9223372036854775808 ≤ x ∧ x ≤ 9223372036854775807
def Msg.wf (m : Msg) : Prop := ∀ x ∈ m.l, inI x
def msgV (m : Msg) : Value := .agg #[.int .i64 m.k, .int .i64 m.f, .int .i64 m.t, .int .i64 m.n, .int .i64 m.s, .int .i64 m.r, .int .i64 m.p, .int .i64 m.q, .int .i64 m.c]
def inR (x a b : Int) : Bool := decide (a ≤ x) && decide (x ≤ b)
def cdL (k : Int) : Int := if k = 19 then 1 else if k = 16 then 1 else 0
def cdH (k : Int) : Int := if k = 19 then 5 else if k = 16 then 14 else 0
def protL (k : Int) : Int := if k = 17 ∨ k = 18 then 1 else 0
def protH (k : Int) : Int := if k = 17 ∨ k = 18 then 2 else 0
def regH (k : Int) : Int := if k = 17 then 0 else 5
def actOk (x y : Int) : Bool := (actT x y).isSome
def rightM (m : Msg) : Bool := inR m.k 1 19 && inR m.f 0 3 && inR m.t 0 3 && actOk m.n m.s && inR m.r 0 (regH m.k) && inR m.p 0 7 && inR m.q (protL m.k) (protH m.k) && inR m.c (cdL m.k) (cdH m.k)
theorem actOk_yes {x y : Int} (h : actOk x y = true) : (0 ≤ x ∧ x ≤ 3) ∧ 0 ≤ y ∧ y ≤ 999999 := by
  unfold actOk actT numT at h
  split at h
  · rename_i h1
    split at h
    · rename_i h2; exact ⟨h1, h2⟩
    · cases h
  · cases h
theorem inR_yes {x a b : Int} (h : inR x a b = true) : a ≤ x ∧ x ≤ b := by
  unfold inR at h
  rw [Bool.and_eq_true, decide_eq_true_eq, decide_eq_true_eq] at h
  exact h
end Go.Proofs.YthboiahdheehkaaGreatDoor
namespace Go.Proofs.YthboiahdheehkaaGreatDoor
open Go.RowKit
def kindsL : List (List UInt8) := [[69, 120, 105, 116],
  [67, 111, 109, 112, 108, 101, 116, 101],
  [67, 111, 109, 112, 108, 101, 116, 101, 100],
  [70, 97, 105, 108],
  [67, 97, 110, 110, 111, 116, 67, 111, 109, 112, 108, 101, 116, 101],
  [67, 97, 110, 99, 101, 108, 101, 100],
  [67, 108, 111, 115, 101, 100],
  [67, 111, 109, 112, 101, 110, 115, 97, 116, 101, 100],
  [67, 108, 111, 115, 101],
  [67, 97, 110, 99, 101, 108],
  [67, 111, 109, 112, 101, 110, 115, 97, 116, 101],
  [70, 97, 105, 108, 101, 100],
  [69, 120, 105, 116, 101, 100],
  [78, 111, 116, 67, 111, 109, 112, 108, 101, 116, 101, 100],
  [71, 101, 116, 83, 116, 97, 116, 117, 115],
  [83, 116, 97, 116, 117, 115],
  [82, 101, 103, 105, 115, 116, 101, 114],
  [82, 101, 103, 105, 115, 116, 101, 114, 82, 101, 115, 112, 111, 110, 115, 101],
  [70, 97, 117, 108, 116]]
def statesL : List (List UInt8) := [[65, 99, 116, 105, 118, 101],
  [67, 97, 110, 99, 101, 108, 105, 110, 103],
  [67, 97, 110, 99, 101, 108, 105, 110, 103, 67, 111, 109, 112, 108, 101, 116, 105, 110, 103],
  [67, 111, 109, 112, 108, 101, 116, 105, 110, 103],
  [67, 111, 109, 112, 108, 101, 116, 101, 100],
  [67, 108, 111, 115, 105, 110, 103],
  [67, 111, 109, 112, 101, 110, 115, 97, 116, 105, 110, 103],
  [70, 97, 105, 108, 105, 110, 103, 65, 99, 116, 105, 118, 101],
  [70, 97, 105, 108, 105, 110, 103, 67, 97, 110, 99, 101, 108, 105, 110, 103],
  [70, 97, 105, 108, 105, 110, 103, 67, 111, 109, 112, 108, 101, 116, 105, 110, 103],
  [70, 97, 105, 108, 105, 110, 103, 67, 111, 109, 112, 101, 110, 115, 97, 116, 105, 110, 103],
  [78, 111, 116, 67, 111, 109, 112, 108, 101, 116, 105, 110, 103],
  [69, 120, 105, 116, 105, 110, 103],
  [69, 110, 100, 101, 100]]
def codesL : List (List UInt8) := [[73, 110, 118, 97, 108, 105, 100, 83, 116, 97, 116, 101],
  [73, 110, 118, 97, 108, 105, 100, 80, 114, 111, 116, 111, 99, 111, 108],
  [73, 110, 118, 97, 108, 105, 100, 80, 97, 114, 97, 109, 101, 116, 101, 114, 115],
  [67, 97, 110, 110, 111, 116, 82, 101, 103, 105, 115, 116, 101, 114, 80, 97, 114, 116, 105, 99, 105, 112, 97, 110, 116],
  [85, 110, 107, 110, 111, 119, 110, 65, 99, 116, 105, 118, 105, 116, 121]]
def wsbaL : List UInt8 := [104, 116, 116, 112, 58, 47, 47, 100, 111, 99, 115, 46, 111, 97, 115, 105, 115, 45, 111, 112, 101, 110, 46, 111, 114, 103, 47, 119, 115, 45, 116, 120, 47, 119, 115, 98, 97, 47, 50, 48, 48, 54, 47, 48, 54]
def wscoorL : List UInt8 := [104, 116, 116, 112, 58, 47, 47, 100, 111, 99, 115, 46, 111, 97, 115, 105, 115, 45, 111, 112, 101, 110, 46, 111, 114, 103, 47, 119, 115, 45, 116, 120, 47, 119, 115, 99, 111, 111, 114, 47, 50, 48, 48, 54, 47, 48, 54]
def nameF (l : List (List UInt8)) (n : Int) : List UInt8 := if n < 1 ∨ (l.length : Int) < n then [] else l.getD (n - 1).toNat []
def kindF (n : Int) : List UInt8 := nameF kindsL n
def spaceF (n : Int) : List UInt8 := if 16 < n then wscoorL else wsbaL
def actF (n : Int) : List UInt8 := if kindF n = [] then [] else spaceF n ++ [47] ++ kindF n
def actN (i : Nat) : List UInt8 := actF ((i : Int) + 1)
theorem kind_some : ∀ i, i < 19 → kindsL.getD i [] ≠ [] := by decide +kernel
theorem kind_nil (n : Int) : kindF n = [] ↔ (n < 1 ∨ 19 < n) := by
  unfold kindF nameF
  have hl : kindsL.length = 19 := rfl
  rw [hl]
  constructor
  · intro h
    by_cases hc : n < 1 ∨ ((19 : Nat) : Int) < n
    · omega
    · rw [if_neg hc] at h
      exact absurd h (kind_some _ (by omega))
  · intro h
    rw [if_pos (by omega)]
theorem kact_inj : ∀ i, i < 19 → ∀ j, j < 19 → actN i = actN j → i = j := by decide +kernel
theorem act_nat {n : Int} (h : 1 ≤ n ∧ n ≤ 19) : actF n = actN (n - 1).toNat := by
  unfold actN
  congr 1; omega
theorem kact_inj' {i j : Int} (hi : 1 ≤ i ∧ i ≤ 19) (hj : 1 ≤ j ∧ j ≤ 19) (h : actF i = actF j) : i = j := by
  rw [act_nat hi, act_nat hj] at h
  have := kact_inj _ (by omega) _ (by omega) h
  omega
theorem nameF_len (l : List (List UInt8)) (n : Int) (m : Nat) (h : ∀ x ∈ l, x.length ≤ m) : (nameF l n).length ≤ m := by
  unfold nameF
  split
  · exact Nat.zero_le _
  · rename_i hc
    have hlt : (n - 1).toNat < l.length := by omega
    rw [List.getD_eq_getElem?_getD, List.getElem?_eq_getElem hlt]
    exact h _ (List.getElem_mem hlt)
theorem kindF_len (n : Int) : (kindF n).length ≤ 40 := nameF_len kindsL n 40 (by decide +kernel)
theorem spaceF_len (n : Int) : (spaceF n).length ≤ 60 := by unfold spaceF; split <;> decide
end Go.Proofs.YthboiahdheehkaaGreatDoor
namespace Go.Proofs.YthboiahdheehkaaGreatDoor
open Go.RowKit
structure Bnd where
  m : Msg
  i : Int
  r : Int
def ownL : List UInt8 := [117, 114, 110, 58, 108, 105, 97, 105, 115, 111, 110]
def cRef : List UInt8 := [82, 101, 102, 101, 114, 101, 110, 99, 101]
def cAct : List UInt8 := [97, 99, 116]
def cReg : List UInt8 := [114, 101, 103]
def cPart : List UInt8 := [112, 97, 114, 116]
def cProto : List UInt8 := [112, 114, 111, 116, 111, 99, 111, 108]
def cState : List UInt8 := [115, 116, 97, 116, 101]
def cCode : List UInt8 := [99, 111, 100, 101]
def protsL : List (List UInt8) := [[80, 97, 114, 116, 105, 99, 105, 112, 97, 110, 116, 67, 111, 109, 112, 108, 101, 116, 105, 111, 110], [67, 111, 111, 114, 100, 105, 110, 97, 116, 111, 114, 67, 111, 109, 112, 108, 101, 116, 105, 111, 110]]
def addrS (n : Int) : List UInt8 := ownL ++ 58 :: (nodeT n).getD []
def idS (n : Int) : List UInt8 := ownL ++ 58 :: 109 :: dec n.toNat
def saysF (m : Msg) : List UInt8 × List UInt8 :=
  if m.k = 17 ∨ m.k = 18 then (cProto, nameF protsL m.q) else if m.k = 16 then (cState, nameF statesL m.c) else if m.k = 19 then (cCode, nameF codesL m.c) else ([], [])
def refT (m : Msg) : Tr := .node [ownL, cRef] [[[], cAct, (actT m.n m.s).getD []], [[], cReg, dec m.r.toNat], [[], cPart, dec m.p.toNat]] [] []
def bodT (m : Msg) : Tr := .node [spaceF m.k, kindF m.k] (if (saysF m).1 = [] then [] else [[[], (saysF m).1, (saysF m).2]]) [] []
def Bnd.env (b : Bnd) : Env := ⟨actF b.m.k, addrS b.m.t, idS b.i, addrS b.m.f, if 0 ≤ b.r then idS b.r else [], [refT b.m], bodT b.m⟩
theorem dec_inj {x y : Nat} (h : dec x = dec y) : x = y := by
  have := congrArg val7 h
  rwa [dec_val, dec_val] at this
theorem addr_inj {x y : Int} (hx : 0 ≤ x ∧ x ≤ 3) (hy : 0 ≤ y ∧ y ≤ 3) (h : addrS x = addrS y) : x = y := by
  unfold addrS nodeT numT at h
  rw [if_pos hx, if_pos hy] at h
  have h := List.append_cancel_left h
  simp only [Option.map_some, Option.getD_some, List.cons.injEq, true_and] at h
  have := dec_inj h
  omega
theorem id_inj {x y : Int} (hx : 0 ≤ x) (hy : 0 ≤ y) (h : idS x = idS y) : x = y := by
  unfold idS at h
  have h := List.append_cancel_left h
  simp only [List.cons.injEq, true_and] at h
  have := dec_inj h
  omega
theorem id_ne (x : Int) : idS x ≠ [] := by
  unfold idS
  intro h
  have := congrArg List.length h
  simp at this
theorem addr_ne (x : Int) : addrS x ≠ [] := by
  unfold addrS
  intro h
  have := congrArg List.length h
  simp at this
theorem ref_inj {a b : Msg} (h1 : (0 ≤ a.n ∧ a.n ≤ 3) ∧ 0 ≤ a.s ∧ a.s ≤ 999999) (h2 : (0 ≤ b.n ∧ b.n ≤ 3) ∧ 0 ≤ b.s ∧ b.s ≤ 999999) (ra : 0 ≤ a.r) (rb : 0 ≤ b.r) (pa : 0 ≤ a.p) (pb : 0 ≤ b.p) (h : refT a = refT b) :
    a.n = b.n ∧ a.s = b.s ∧ a.r = b.r ∧ a.p = b.p := by
  unfold refT at h
  injection h with _ h _ _
  simp only [List.cons.injEq, and_true, true_and] at h
  obtain ⟨e1, e2, e3⟩ := h
  have e2 := dec_inj e2
  have e3 := dec_inj e3
  have ex : ∀ m : Msg, ((0 ≤ m.n ∧ m.n ≤ 3) ∧ 0 ≤ m.s ∧ m.s ≤ 999999) → (actT m.n m.s).getD [] = actS m.n.toNat m.s.toNat := fun m hm => by
    unfold actT numT
    rw [if_pos hm.1, Option.bind_some, if_pos hm.2]
    rfl
  rw [ex a h1, ex b h2] at e1
  have e4 := (act_inj (by omega) (by omega) (by omega) (by omega)).1 e1
  omega
theorem prots_inj : ∀ i : Fin 2, ∀ j : Fin 2, nameF protsL ((i.val : Int) + 1) = nameF protsL ((j.val : Int) + 1) → i = j := by decide +kernel
theorem states_inj : ∀ i : Fin 14, ∀ j : Fin 14, nameF statesL ((i.val : Int) + 1) = nameF statesL ((j.val : Int) + 1) → i = j := by decide +kernel
theorem codes_inj : ∀ i : Fin 5, ∀ j : Fin 5, nameF codesL ((i.val : Int) + 1) = nameF codesL ((j.val : Int) + 1) → i = j := by decide +kernel
theorem of_fin {l : List (List UInt8)} {n : Nat} (hf : ∀ i : Fin n, ∀ j : Fin n, nameF l ((i.val : Int) + 1) = nameF l ((j.val : Int) + 1) → i = j) {x y : Int} (hx : 1 ≤ x ∧ x ≤ n) (hy : 1 ≤ y ∧ y ≤ n) (h : nameF l x = nameF l y) : x = y := by
  have := hf ⟨(x - 1).toNat, by omega⟩ ⟨(y - 1).toNat, by omega⟩ (by
    show nameF l (((x - 1).toNat : Nat) + 1) = nameF l (((y - 1).toNat : Nat) + 1)
    rw [show (((x - 1).toNat : Nat) : Int) + 1 = x by omega, show (((y - 1).toNat : Nat) : Int) + 1 = y by omega]
    exact h)
  have := congrArg Fin.val this
  simp only at this
  omega
theorem right_parts {m : Msg} (h : rightM m = true) : (1 ≤ m.k ∧ m.k ≤ 19) ∧ (0 ≤ m.f ∧ m.f ≤ 3) ∧ (0 ≤ m.t ∧ m.t ≤ 3) ∧ ((0 ≤ m.n ∧ m.n ≤ 3) ∧ 0 ≤ m.s ∧ m.s ≤ 999999) ∧ (0 ≤ m.r ∧ m.r ≤ 5) ∧ (0 ≤ m.p ∧ m.p ≤ 7) ∧ (protL m.k ≤ m.q ∧ m.q ≤ protH m.k) ∧ cdL m.k ≤ m.c ∧ m.c ≤ cdH m.k := by
  unfold rightM at h
  simp only [Bool.and_eq_true] at h
  obtain ⟨⟨⟨⟨⟨⟨⟨h1, h2⟩, h3⟩, h4⟩, h5⟩, h6⟩, h7⟩, h8⟩ := h
  have h1 := inR_yes h1; have h2 := inR_yes h2; have h3 := inR_yes h3; have h4 := actOk_yes h4; have h5 := inR_yes h5; have h6 := inR_yes h6; have h7 := inR_yes h7; have h8 := inR_yes h8
  have a1 : regH m.k ≤ 5 := by unfold regH; split <;> omega
  exact ⟨h1, h2, h3, h4, ⟨h5.1, by omega⟩, h6, h7, h8⟩
theorem says_inj {a b : Msg} (ha : rightM a = true) (hb : rightM b = true) (hk : a.k = b.k) (h : bodT a = bodT b) : a.q = b.q ∧ a.c = b.c := by
  obtain ⟨k1, _, _, _, _, _, q1, c1⟩ := right_parts ha
  obtain ⟨k2, _, _, _, _, _, q2, c2⟩ := right_parts hb
  unfold bodT at h
  injection h with _ h _ _
  unfold saysF at h
  unfold protL protH at q1 q2
  unfold cdL cdH at c1 c2
  rw [← hk] at h q2 c2
  by_cases g1 : a.k = 17 ∨ a.k = 18
  · rw [if_pos g1] at q1 q2
    rw [if_pos g1] at q1 q2
    rw [if_neg (by omega), if_neg (by omega)] at c1 c2
    rw [if_neg (by omega), if_neg (by omega)] at c1 c2
    rw [if_pos g1, if_pos g1] at h
    rw [if_neg (show ¬ cProto = [] by decide), if_neg (show ¬ cProto = [] by decide)] at h
    simp only [List.cons.injEq, and_true, true_and] at h
    exact ⟨of_fin prots_inj q1 q2 h, by omega⟩
  · rw [if_neg g1] at q1 q2
    rw [if_neg g1] at q1 q2
    rw [if_neg g1, if_neg g1] at h
    refine ⟨by omega, ?_⟩
    by_cases g2 : a.k = 16
    · rw [if_neg (by omega), if_pos g2] at c1 c2
      rw [if_neg (by omega), if_pos g2] at c1 c2
      rw [if_pos g2, if_pos g2] at h
      rw [if_neg (show ¬ cState = [] by decide), if_neg (show ¬ cState = [] by decide)] at h
      simp only [List.cons.injEq, and_true, true_and] at h
      exact of_fin states_inj c1 c2 h
    · by_cases g3 : a.k = 19
      · rw [if_pos g3] at c1 c2
        rw [if_pos g3] at c1 c2
        rw [if_neg g2, if_pos g3, if_neg g2, if_pos g3] at h
        rw [if_neg (show ¬ cCode = [] by decide), if_neg (show ¬ cCode = [] by decide)] at h
        simp only [List.cons.injEq, and_true, true_and] at h
        exact of_fin codes_inj c1 c2 h
      · rw [if_neg g3, if_neg g2] at c1 c2
        rw [if_neg g3, if_neg g2] at c1 c2
        omega
theorem bnd_inj {a b : Bnd} (ha : rightM a.m = true) (hb : rightM b.m = true) (ia : 0 ≤ a.i) (ib : 0 ≤ b.i) (ra : -1 ≤ a.r) (rb : -1 ≤ b.r) (h : a.env.tree = b.env.tree) : a = b := by
  obtain ⟨e1, e2, e3, e4, e5, e6, e7⟩ := env_inj h (addr_ne _) (addr_ne _) rfl rfl
  obtain ⟨k1, f1, t1, n1, r1, p1, _⟩ := right_parts ha
  obtain ⟨k2, f2, t2, n2, r2, p2, _⟩ := right_parts hb
  have hk : a.m.k = b.m.k := kact_inj' k1 k2 e1
  have ht := addr_inj t1 t2 e2
  have hf := addr_inj f1 f2 e4
  have hi := id_inj ia ib e3
  have hr : a.r = b.r := by
    have e5 : (if 0 ≤ a.r then idS a.r else []) = if 0 ≤ b.r then idS b.r else [] := e5
    by_cases g1 : 0 ≤ a.r
    · rw [if_pos g1] at e5
      by_cases g2 : 0 ≤ b.r
      · rw [if_pos g2] at e5
        exact id_inj g1 g2 e5
      · rw [if_neg g2] at e5
        exact absurd e5 (id_ne _)
    · rw [if_neg g1] at e5
      by_cases g2 : 0 ≤ b.r
      · rw [if_pos g2] at e5
        exact absurd e5.symm (id_ne _)
      · omega
  obtain ⟨hn, hs, hr2, hp⟩ := ref_inj n1 n2 r1.1 r2.1 p1.1 p2.1 e6
  obtain ⟨hq, hc⟩ := says_inj ha hb hk e7
  obtain ⟨⟨k, f, t, n, s, r, p, q, c⟩, i, j⟩ := a
  obtain ⟨⟨k', f', t', n', s', r', p', q', c'⟩, i', j'⟩ := b
  simp only at hk ht hf hi hr hn hs hr2 hp hq hc
  subst hk ht hf hi hr hn hs hr2 hp hq hc
  rfl
end Go.Proofs.YthboiahdheehkaaGreatDoor
namespace Go.Proofs.YthboiahdheehkaaGreatDoor
open Go.RowKit Go.Extern.Stop Go.Stop Go.Extern
theorem within_any (x a b : Int) (w : World) : Calls Tryz.prog 33 #[.int .i64 x, .int .i64 a, .int .i64 b] w fun e w' => e = .returned (.bool (inR x a b)) ∧ Below w.heap.size w w' := by
  have HR := Lib.hid (show inR x a b = (decide (a ≤ x) && decide (x ≤ b)) from rfl)
  cases h1 : decide (a ≤ x)
  all_goals
    cases h2 : decide (x ≤ b)
    all_goals
      rw [h1, h2] at HR
      go_enter Tryz.func33, Tryz.ntmps33
      go_wp2_with fail
      go_ret
      exact ⟨by rw [HR.out]; rfl, Below.refl _ _⟩
theorem codes_any (k : Int) (w : World) : Calls Tryz.prog 31 #[.int .i64 k] w fun e w' => e = .returned (.tuple #[.int .i64 (cdL k), .int .i64 (cdH k)]) ∧ Below w.heap.size w w' := by
  have HR := Lib.hid (show cdL k = (if k = 19 then 1 else if k = 16 then 1 else 0) ∧ cdH k = (if k = 19 then 5 else if k = 16 then 14 else 0) from ⟨rfl, rfl⟩)
  by_cases h1 : k = 19
  · subst h1
    go_enter Tryz.func31, Tryz.ntmps31
    go_wp2_with fail
    go_ret2
    exact ⟨rfl, Below.refl _ _⟩
  · have d1 : (k == 19) = false := by simpa using h1
    by_cases h2 : k = 16
    · subst h2
      go_enter Tryz.func31, Tryz.ntmps31
      go_wp2_with fail
      go_ret2
      exact ⟨rfl, Below.refl _ _⟩
    · have d2 : (k == 16) = false := by simpa using h2
      have HR' := Lib.hid (show cdL k = 0 ∧ cdH k = 0 by rw [HR.out.1, HR.out.2, if_neg h1, if_neg h2, if_neg h1, if_neg h2]; exact ⟨rfl, rfl⟩)
      clear HR h1 h2
      go_enter Tryz.func31, Tryz.ntmps31
      go_wp2_with fail
      go_ret2
      exact ⟨by rw [HR'.out.1, HR'.out.2]; rfl, Below.refl _ _⟩
theorem protocols_any (k : Int) (w : World) : Calls Tryz.prog 32 #[.int .i64 k] w fun e w' => e = .returned (.tuple #[.int .i64 (protL k), .int .i64 (protH k)]) ∧ Below w.heap.size w w' := by
  have HR := Lib.hid (show protL k = (if k = 17 ∨ k = 18 then 1 else 0) ∧ protH k = (if k = 17 ∨ k = 18 then 2 else 0) from ⟨rfl, rfl⟩)
  by_cases h1 : k = 17
  · subst h1
    go_enter Tryz.func32, Tryz.ntmps32
    go_wp2_with fail
    go_ret2
    exact ⟨rfl, Below.refl _ _⟩
  · have d1 : (k == 17) = false := by simpa using h1
    by_cases h2 : k = 18
    · subst h2
      go_enter Tryz.func32, Tryz.ntmps32
      go_wp2_with fail
      go_ret2
      exact ⟨rfl, Below.refl _ _⟩
    · have d2 : (k == 18) = false := by simpa using h2
      have h3 : ¬ (k = 17 ∨ k = 18) := by omega
      have HR' := Lib.hid (show protL k = 0 ∧ protH k = 0 by rw [HR.out.1, HR.out.2, if_neg h3, if_neg h3]; exact ⟨rfl, rfl⟩)
      clear HR h1 h2 h3
      go_enter Tryz.func32, Tryz.ntmps32
      go_wp2_with fail
      go_ret2
      exact ⟨by rw [HR'.out.1, HR'.out.2]; rfl, Below.refl _ _⟩
end Go.Proofs.YthboiahdheehkaaGreatDoor
