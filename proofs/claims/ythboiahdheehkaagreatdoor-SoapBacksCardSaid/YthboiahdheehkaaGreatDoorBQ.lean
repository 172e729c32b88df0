/- SoapP -/
import Derived.Test.YthboiahdheehkaaGreatDoorPA
import Derived.Test.YthboiahdheehkaaGreatDoorBA
import Derived.Test.YthboiahdheehkaaGreatDoorBB
import Derived.Test.YthboiahdheehkaaGreatDoorBR
open Option renaming bind_eq_some_iff → oA
namespace Go.Proofs.YthboiahdheehkaaGreatDoor
open Go.RowKit
section
structure Env where
 act : List UInt8
 to : List UInt8
 id : List UInt8
 frm : List UInt8
 rel : List UInt8
 hds : List Tr
 bdy : Tr
def soapL : List UInt8 := [104, 116, 116, 112, 58, 47, 47, 119, 119, 119, 46, 119, 51, 46, 111, 114, 103, 47, 50, 48, 48, 51, 47, 48, 53, 47, 115, 111, 97, 112, 45, 101, 110, 118, 101, 108, 111, 112, 101]
def addrL : List UInt8 := [104, 116, 116, 112, 58, 47, 47, 119, 119, 119, 46, 119, 51, 46, 111, 114, 103, 47, 50, 48, 48, 53, 47, 48, 56, 47, 97, 100, 100, 114, 101, 115, 115, 105, 110, 103]
def cEnvelope : List UInt8 := [69, 110, 118, 101, 108, 111, 112, 101]
def cHeader : List UInt8 := [72, 101, 97, 100, 101, 114]
def cBody : List UInt8 := [66, 111, 100, 121]
def cAction : List UInt8 := [65, 99, 116, 105, 111, 110]
def cTo : List UInt8 := [84, 111]
def cMessageID : List UInt8 := [77, 101, 115, 115, 97, 103, 101, 73, 68]
def cFrom : List UInt8 := [70, 114, 111, 109]
def cAddress : List UInt8 := [65, 100, 100, 114, 101, 115, 115]
def cRelatesTo : List UInt8 := [82, 101, 108, 97, 116, 101, 115, 84, 111]
def simpT (sp lo tx : List UInt8) : Tr := .node [sp, lo] [] [.node [[], []] [] [] tx] []
def fromT (s : List UInt8) : Tr := .node [addrL, cFrom] [] [simpT addrL cAddress s] []
def Env.hdrs (e : Env) : List Tr := simpT addrL cAction e.act :: simpT addrL cTo e.to :: simpT addrL cMessageID e.id ::
 ((if e.frm = [] then [] else [fromT e.frm]) ++ ((if e.rel = [] then [] else [simpT addrL cRelatesTo e.rel]) ++ e.hds))
def Env.tree (e : Env) : Tr := .node [soapL, cEnvelope] [] [.node [soapL, cHeader] [] e.hdrs [], .node [soapL, cBody] [] [e.bdy] []] []
def furB (h : Tr) : Bool := !(h.nm.getD 1 [] == []) && !(h.nm.getD 0 [] == soapL) && !(h.nm.getD 0 [] == addrL)
def noCR (s : List UInt8) : Bool := !s.contains 13
def Env.fine (e : Env) : Bool := !(e.act == []) && !(e.to == []) && !(e.id == []) && !(e.bdy.nm.getD 1 [] == []) && decide (e.hds.length ≤ 16) &&
 (noCR e.act && noCR e.to && noCR e.id && noCR e.frm && noCR e.rel) && e.hds.all furB
def Env.formed (e : Env) : Option Tr := if e.fine = true then writeF e.tree else none
def Env.text (e : Env) : List UInt8 := match e.formed with | none => [] | some x => textS x
theorem write_back {x y : Tr} (h : writeF x = some y) : resolveF y = some x := by
 unfold writeF at h
 obtain ⟨z, hz, h⟩ := oA.1 h
 obtain ⟨b, hb, h⟩ := oA.1 h
 split at h
 ·rename_i he
  cases h
  rw [hb, Tr.eqb_eq b x he]
 ·cases h
end
section
structure Msg where
 k : Int
 f : Int
 t : Int
 n : Int
 s : Int
 r : Int
 p : Int
 q : Int
 c : Int
def Msg.l (m : Msg) : List Int := [m.k, m.f, m.t, m.n, m.s, m.r, m.p, m.q, m.c]
end
section
def kindsL : List (List UInt8) := [[69, 120, 105, 116],
 [67, 111, 109, 112, 108, 101, 116, 101],
 [67, 111, 109, 112, 108, 101, 116, 101, 100],
 [70, 97, 105, 108],
 [67, 97, 110, 110, 111, 116, 67, 111, 109, 112, 108, 101, 116, 101],
 [67, 97, 110, 99, 101, 108, 101, 100],
 [67, 108, 111, 115, 101, 100],
 [67, 111, 109, 112, 101, 110, 115, 97, 116, 101, 100],
 [67, 108, 111, 115, 101],
 [67, 97, 110, 99, 101, 108],
 [67, 111, 109, 112, 101, 110, 115, 97, 116, 101],
 [70, 97, 105, 108, 101, 100],
 [69, 120, 105, 116, 101, 100],
 [78, 111, 116, 67, 111, 109, 112, 108, 101, 116, 101, 100],
 [71, 101, 116, 83, 116, 97, 116, 117, 115],
 [83, 116, 97, 116, 117, 115],
 [82, 101, 103, 105, 115, 116, 101, 114],
 [82, 101, 103, 105, 115, 116, 101, 114, 82, 101, 115, 112, 111, 110, 115, 101],
 [70, 97, 117, 108, 116]]
def statesL : List (List UInt8) := [[65, 99, 116, 105, 118, 101],
 [67, 97, 110, 99, 101, 108, 105, 110, 103],
 [67, 97, 110, 99, 101, 108, 105, 110, 103, 67, 111, 109, 112, 108, 101, 116, 105, 110, 103],
 [67, 111, 109, 112, 108, 101, 116, 105, 110, 103],
 [67, 111, 109, 112, 108, 101, 116, 101, 100],
 [67, 108, 111, 115, 105, 110, 103],
 [67, 111, 109, 112, 101, 110, 115, 97, 116, 105, 110, 103],
 [70, 97, 105, 108, 105, 110, 103, 65, 99, 116, 105, 118, 101],
 [70, 97, 105, 108, 105, 110, 103, 67, 97, 110, 99, 101, 108, 105, 110, 103],
 [70, 97, 105, 108, 105, 110, 103, 67, 111, 109, 112, 108, 101, 116, 105, 110, 103],
 [70, 97, 105, 108, 105, 110, 103, 67, 111, 109, 112, 101, 110, 115, 97, 116, 105, 110, 103],
 [78, 111, 116, 67, 111, 109, 112, 108, 101, 116, 105, 110, 103],
 [69, 120, 105, 116, 105, 110, 103],
 [69, 110, 100, 101, 100]]
def codesL : List (List UInt8) := [[73, 110, 118, 97, 108, 105, 100, 83, 116, 97, 116, 101],
 [73, 110, 118, 97, 108, 105, 100, 80, 114, 111, 116, 111, 99, 111, 108],
 [73, 110, 118, 97, 108, 105, 100, 80, 97, 114, 97, 109, 101, 116, 101, 114, 115],
 [67, 97, 110, 110, 111, 116, 82, 101, 103, 105, 115, 116, 101, 114, 80, 97, 114, 116, 105, 99, 105, 112, 97, 110, 116],
 [85, 110, 107, 110, 111, 119, 110, 65, 99, 116, 105, 118, 105, 116, 121]]
def wsbaL : List UInt8 := [104, 116, 116, 112, 58, 47, 47, 100, 111, 99, 115, 46, 111, 97, 115, 105, 115, 45, 111, 112, 101, 110, 46, 111, 114, 103, 47, 119, 115, 45, 116, 120, 47, 119, 115, 98, 97, 47, 50, 48, 48, 54, 47, 48, 54]
def wscoorL : List UInt8 := [104, 116, 116, 112, 58, 47, 47, 100, 111, 99, 115, 46, 111, 97, 115, 105, 115, 45, 111, 112, 101, 110, 46, 111, 114, 103, 47, 119, 115, 45, 116, 120, 47, 119, 115, 99, 111, 111, 114, 47, 50, 48, 48, 54, 47, 48, 54]
def nameF (l : List (List UInt8)) (n : Int) : List UInt8 := if n < 1 ∨ (l.length : Int) < n then [] else l.getD (n - 1).toNat []
def kindF (n : Int) : List UInt8 := nameF kindsL n
def spaceF (n : Int) : List UInt8 := if 16 < n then wscoorL else wsbaL
def actF (n : Int) : List UInt8 := if kindF n = [] then [] else spaceF n ++ [47] ++ kindF n
end
section
structure Bnd where
 m : Msg
 i : Int
 r : Int
def ownL : List UInt8 := [117, 114, 110, 58, 108, 105, 97, 105, 115, 111, 110]
def cRef : List UInt8 := [82, 101, 102, 101, 114, 101, 110, 99, 101]
def cAct : List UInt8 := [97, 99, 116]
def cReg : List UInt8 := [114, 101, 103]
def cPart : List UInt8 := [112, 97, 114, 116]
def cProto : List UInt8 := [112, 114, 111, 116, 111, 99, 111, 108]
def cState : List UInt8 := [115, 116, 97, 116, 101]
def cCode : List UInt8 := [99, 111, 100, 101]
def protsL : List (List UInt8) := [[80, 97, 114, 116, 105, 99, 105, 112, 97, 110, 116, 67, 111, 109, 112, 108, 101, 116, 105, 111, 110], [67, 111, 111, 114, 100, 105, 110, 97, 116, 111, 114, 67, 111, 109, 112, 108, 101, 116, 105, 111, 110]]
def addrS (n : Int) : List UInt8 := ownL ++ 58 :: (nodeT n).getD []
def idS (n : Int) : List UInt8 := ownL ++ 58 :: 109 :: dec n.toNat
def saysF (m : Msg) : List UInt8 × List UInt8 :=
 if m.k = 17 ∨ m.k = 18 then (cProto, nameF protsL m.q) else if m.k = 16 then (cState, nameF statesL m.c) else if m.k = 19 then (cCode, nameF codesL m.c) else ([], [])
def refT (m : Msg) : Tr := .node [ownL, cRef] [[[], cAct, (actT m.n m.s).getD []], [[], cReg, dec m.r.toNat], [[], cPart, dec m.p.toNat]] [] []
def bodT (m : Msg) : Tr := .node [spaceF m.k, kindF m.k] (if (saysF m).1 = [] then [] else [[[], (saysF m).1, (saysF m).2]]) [] []
def Bnd.env (b : Bnd) : Env := ⟨actF b.m.k, addrS b.m.t, idS b.i, addrS b.m.f, if 0 ≤ b.r then idS b.r else [], [refT b.m], bodT b.m⟩
end
end Go.Proofs.YthboiahdheehkaaGreatDoor
