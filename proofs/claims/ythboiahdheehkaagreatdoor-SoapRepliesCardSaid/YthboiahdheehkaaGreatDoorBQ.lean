/- SoapP -/
import Derived.Test.YthboiahdheehkaaGreatDoorPA
import Derived.Test.YthboiahdheehkaaGreatDoorBA
import Derived.Test.YthboiahdheehkaaGreatDoorBB
import Derived.Test.YthboiahdheehkaaGreatDoorBR
open Option renaming bind_eq_some_iff → oA
namespace Go.Proofs.YthboiahdheehkaaGreatDoor
section
open Go.RowKit
structure Env where
 act : List UInt8
 to : List UInt8
 id : List UInt8
 frm : List UInt8
 rel : List UInt8
 hds : List Tr
 bdy : Tr
def soapL : List UInt8 := [104, 116, 116, 112, 58, 47, 47, 119, 119, 119, 46, 119, 51, 46, 111, 114, 103, 47, 50, 48, 48, 51, 47, 48, 53, 47, 115, 111, 97, 112, 45, 101, 110, 118, 101, 108, 111, 112, 101]
def addrL : List UInt8 := [104, 116, 116, 112, 58, 47, 47, 119, 119, 119, 46, 119, 51, 46, 111, 114, 103, 47, 50, 48, 48, 53, 47, 48, 56, 47, 97, 100, 100, 114, 101, 115, 115, 105, 110, 103]
def cEnvelope : List UInt8 := [69, 110, 118, 101, 108, 111, 112, 101]
def cHeader : List UInt8 := [72, 101, 97, 100, 101, 114]
def cBody : List UInt8 := [66, 111, 100, 121]
def cAction : List UInt8 := [65, 99, 116, 105, 111, 110]
def cTo : List UInt8 := [84, 111]
def cMessageID : List UInt8 := [77, 101, 115, 115, 97, 103, 101, 73, 68]
def cFrom : List UInt8 := [70, 114, 111, 109]
def cAddress : List UInt8 := [65, 100, 100, 114, 101, 115, 115]
def cRelatesTo : List UInt8 := [82, 101, 108, 97, 116, 101, 115, 84, 111]
def simpT (sp lo tx : List UInt8) : Tr := .node [sp, lo] [] [.node [[], []] [] [] tx] []
def fromT (s : List UInt8) : Tr := .node [addrL, cFrom] [] [simpT addrL cAddress s] []
def Env.hdrs (e : Env) : List Tr := simpT addrL cAction e.act :: simpT addrL cTo e.to :: simpT addrL cMessageID e.id ::
 ((if e.frm = [] then [] else [fromT e.frm]) ++ ((if e.rel = [] then [] else [simpT addrL cRelatesTo e.rel]) ++ e.hds))
def Env.tree (e : Env) : Tr := .node [soapL, cEnvelope] [] [.node [soapL, cHeader] [] e.hdrs [], .node [soapL, cBody] [] [e.bdy] []] []
def furB (h : Tr) : Bool := !(h.nm.getD 1 [] == []) && !(h.nm.getD 0 [] == soapL) && !(h.nm.getD 0 [] == addrL)
def noCR (s : List UInt8) : Bool := !s.contains 13
def Env.fine (e : Env) : Bool := !(e.act == []) && !(e.to == []) && !(e.id == []) && !(e.bdy.nm.getD 1 [] == []) && decide (e.hds.length ≤ 16) &&
 (noCR e.act && noCR e.to && noCR e.id && noCR e.frm && noCR e.rel) && e.hds.all furB
def Env.formed (e : Env) : Option Tr := if e.fine = true then writeF e.tree else none
theorem write_back {x y : Tr} (h : writeF x = some y) : resolveF y = some x := by
 unfold writeF at h
 obtain ⟨z, hz, h⟩ := oA.1 h
 obtain ⟨b, hb, h⟩ := oA.1 h
 split at h
 ·rename_i he
  cases h
  rw [hb, Tr.eqb_eq b x he]
 ·cases h
end
section
open Go.RowKit
structure Msg where
 k : Int
 f : Int
 t : Int
 n : Int
 s : Int
 r : Int
 p : Int
 q : Int
 c : Int
end
section
open Go.RowKit
end
section
open Go.RowKit
structure Bnd where
 m : Msg
 i : Int
 r : Int
end
end Go.Proofs.YthboiahdheehkaaGreatDoor
