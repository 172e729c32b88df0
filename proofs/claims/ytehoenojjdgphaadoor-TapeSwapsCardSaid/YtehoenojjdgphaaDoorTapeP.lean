/-
  TapeP: a tape whose power is on and not told. No program.
-/
import Derived.Test.YtehoenojjdgphaaDoorTapeF
namespace Go.Proofs.YtehoenojjdgphaaDoor
open Go.RowKit

def TSt.P (l : List UInt8) (sure : Nat) (room : Int) : TSt := ⟨false, false, 0, l, sure, room⟩
theorem p_step (l : List UInt8) (s : Nat) (r : Int) : (TSt.P l s r).step = TSt.P l s r := rfl
theorem p_stepE (l : List UInt8) (s : Nat) (r : Int) : (TSt.P l s r).stepE = 0 := rfl
theorem p_zero (r : Int) (h0 : 0 ≤ r) (h1 : r ≤ 65536) : TSt.zero.setRoom r = TSt.P [] 0 r := by
  unfold TSt.setRoom; rw [if_neg (by omega)]; rfl
theorem p_append (l : List UInt8) (s : Nat) (r : Int) (d : List UInt8) (h : (l.length : Int) + d.length ≤ r) : (TSt.P l s r).append d = TSt.P (l ++ d) s r ∧ (TSt.P l s r).appendE d = 0 := by
  have hf : (TSt.P l s r).full d = false := by
    show decide (r - (l.length : Int) < (d.length : Int)) = false
    rw [decide_eq_false_iff_not]; omega
  unfold TSt.append TSt.appendE
  rw [hf, p_step]
  exact ⟨rfl, rfl⟩
theorem p_sync (l : List UInt8) (s : Nat) (r : Int) : (TSt.P l s r).sync = TSt.P l l.length r := rfl
theorem p_swap (l : List UInt8) (s : Nat) (r : Int) (d : List UInt8) (h : (d.length : Int) ≤ r) : (TSt.P l s r).swap d = TSt.P d d.length r ∧ (TSt.P l s r).swapE d = 0 := by
  have hn : ¬ (TSt.P l s r).room < (d.length : Int) := by show ¬ r < _; omega
  unfold TSt.swap TSt.swapE
  rw [if_neg hn, if_neg hn]
  exact ⟨rfl, rfl⟩
theorem p_cut (l : List UInt8) (s : Nat) (r : Int) (n : Nat) (h : n ≤ l.length) : (TSt.P l s r).cut n = TSt.P (l.take n) n r ∧ (TSt.P l s r).cutE n = 0 := by
  have hn : ¬ ((n : Int) < 0 ∨ ((TSt.P l s r).l.length : Int) < (n : Int)) := by show ¬ (_ ∨ (l.length : Int) < _); omega
  unfold TSt.cut TSt.cutE
  rw [if_neg hn, if_neg hn]
  refine ⟨?_, rfl⟩
  show TSt.P (l.take n) (l.take n).length r = _
  rw [List.length_take, Nat.min_eq_left h]
theorem p_crash (l : List UInt8) (s : Nat) (r : Int) (k : Int) : (TSt.P l s r).crash k = TSt.P (l.take (s + min k.toNat (l.length - s))) (s + min k.toNat (l.length - s)) r := rfl
theorem take_app (a b : List UInt8) (k : Nat) : (a ++ b).take (a.length + k) = a ++ b.take k := by
  rw [List.take_append, List.take_of_length_le (by omega)]; congr 2; omega
end Go.Proofs.YtehoenojjdgphaaDoor
