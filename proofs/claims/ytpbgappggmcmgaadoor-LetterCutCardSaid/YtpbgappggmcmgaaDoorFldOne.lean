/-
  FldOne: a row of one field; what gives bytes and an error.
-/
import Derived.Test.YtpbgappggmcmgaaDoorJoinW
namespace Go.Proofs.YtpbgappggmcmgaaDoor
open Go.RowKit

theorem fld_one (w : World) (n : Nat) (hn : n = w.heap.size) (p : Option Addr) (cap : Nat) (l : List UInt8) (tag : Int) (h : Byt w (.slice p l.length cap) l) :
    FldL (w.alloc (.cells #[.int .i64 tag, .slice p l.length cap] 57)) (.slice (some ⟨n, 0, none⟩) 1 1) [(tag, l)] := by
  subst hn
  refine ⟨_, 1, [.slice p l.length cap], rfl, Nat.le_refl _, by unfold maxLen; omega, rfl, rd_new w #[_, _] _ _, fun i f hf => ?_⟩
  cases i with
  | zero =>
    obtain rfl : (tag, l) = f := by simpa using hf
    exact ⟨_, rfl, h.keep (keep_alloc _ _)⟩
  | succ i => simp at hf
theorem gb_byt {w w' : World} {E : Nat → Addr} {l : List UInt8} {n : Nat} {e : Ending} (h : GivesB w E l n e w') : ∃ p cap, e = .returned (.tuple #[.slice p l.length cap, errV E n]) ∧ Byt w' (.slice p l.length cap) l ∧ Below w.heap.size w w' := by
  obtain ⟨v, rfl, ho, hb⟩ := h
  have hby := owns_byt ho
  have hby' := hby
  obtain ⟨p, cap, rfl, _⟩ := hby'
  exact ⟨p, cap, rfl, hby, hb⟩
theorem byt_pair (w : World) (x y : UInt8) : Byt (w.alloc (.cells #[.int .u8 (x.toNat : Int), .int .u8 (y.toNat : Int)] 5 (2, 3))) (.slice (some ⟨w.heap.size, 0, none⟩) 2 2) [x, y] :=
  ⟨_, _, rfl, by simp, by unfold maxLen; omega, rd_new w #[_, _] _ _⟩
end Go.Proofs.YtpbgappggmcmgaaDoor
