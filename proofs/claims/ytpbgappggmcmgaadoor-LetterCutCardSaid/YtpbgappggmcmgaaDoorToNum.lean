/-
  ToNum: bytes' number by the program's text and by the reference's. No program.
-/
import Derived.Test.YtpbgappggmcmgaaDoorNumLess
namespace Go.Proofs.YtpbgappggmcmgaaDoor
open Go.RowKit

def toNumE (l : List UInt8) : Nat := if l.head? = some 0 then 4 else if 8 < l.length ∨ (l.length = 8 ∧ 9223372036854775807 < valB l) then 1 else 0
def toNumF (l : List UInt8) : Nat := if toNumE l = 0 then valB l else 0
theorem valB_8 (c : UInt8) (m : List UInt8) (h : m.length = 7) : 9223372036854775807 < valB (c :: m) ↔ 127 < c.toNat := by
  have h1 := valB_lt m
  rw [valB_cons, h] at *
  have h2 := c.toNat_lt
  omega
theorem valB_7 (l : List UInt8) (h : l.length ≤ 7) : valB l < 72057594037927936 := by
  have h1 := valB_lt l
  have : 256 ^ l.length ≤ 256 ^ 7 := Nat.pow_le_pow_right (by omega) h
  omega
theorem valB_8b (l : List UInt8) (h : l.length ≤ 8) : valB l < 18446744073709551616 := by
  have h1 := valB_lt l
  have : 256 ^ l.length ≤ 256 ^ 8 := Nat.pow_le_pow_right (by omega) h
  omega
theorem valB_pre (l : List UInt8) (h : l.length ≤ 8) (k : Nat) (hk : k < l.length) : valB (l.take k) < 72057594037927936 :=
  valB_7 _ (by rw [List.length_take]; omega)
theorem valB_mono (l : List UInt8) (k : Nat) (hk : k ≤ l.length) : valB (l.take k) ≤ valB l := by
  have e : l = l.take k ++ l.drop k := (List.take_append_drop _ _).symm
  have : valB l = valB (l.take k) * 256 ^ (l.drop k).length + valB (l.drop k) := by
    conv => lhs; rw [e]
    unfold valB; rw [List.foldl_append]; exact valB_from _ _
  rw [this]
  have := Nat.le_mul_of_pos_right (valB (l.take k)) (Nat.pow_pos (n := (l.drop k).length) (show 0 < 256 by omega))
  omega
theorem or_byte (n c : Nat) (hc : c < 256) (hn : n < 72057594037927936) (h : n * 256 + c < 9223372036854775808) : bits .or .i64 ((n : Int) * 256) (c : Int) = ((256 * n + c : Nat) : Int) := by
  have b1 : n * 256 < 18446744073709551616 := Nat.lt_of_le_of_lt (Nat.le_add_right _ c) (Nat.lt_trans h (by decide))
  have b2 : c < 18446744073709551616 := by omega
  have e1 : ∀ m : Nat, m < 18446744073709551616 → BitVec.ofInt 64 (m : Int) = BitVec.ofNat 64 m := by
    intro m hm
    apply BitVec.eq_of_toNat_eq
    rw [BitVec.ofInt_natCast]
  have e2 : ((n : Int) * 256) = ((n * 256 : Nat) : Int) := by omega
  have e3 : (n * 256) ||| c = n * 256 + c := by
    have := Nat.shiftLeft_add_eq_or_of_lt (i := 8) (b := c) (by omega) n
    rw [Nat.shiftLeft_eq] at this
    exact this.symm
  show IntKind.i64.wrap ((BitVec.ofInt 64 ((n : Int) * 256) ||| BitVec.ofInt 64 (c : Int)).toNat : Int) = _
  have e4 := e1 _ b1
  have e5 := e1 _ b2
  have e6 : (n * 256) % 2 ^ 64 = n * 256 := by omega
  have e7 : c % 2 ^ 64 = c := by omega
  rw [e2, e4, e5, BitVec.toNat_or, BitVec.toNat_ofNat, BitVec.toNat_ofNat, e6, e7, e3]
  rw [show ((n * 256 + c : Nat) : Int) = ((256 * n + c : Nat) : Int) by omega]
  rw [IntKind.wrap_i64]; omega
end Go.Proofs.YtpbgappggmcmgaaDoor
