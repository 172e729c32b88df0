/-
  Burst: plain laws: turned bits that stand within 32 beside one another change the sum.
-/
import Derived.Test.YtdbgdmhlnaldoaaDoorSpoil
namespace Go.Proofs.YtdbgdmhlnaldoaaDoor
open Go.RowKit

theorem bsteps_plus (x : BitVec 32) (a b : Nat) : bsteps x (a + b) = bsteps (bsteps x a) b := by
  induction b with
  | zero => rfl
  | succ b ih => show bstep (bsteps x (a + b)) = _; rw [ih]; rfl
theorem bsteps_zero (k : Nat) : bsteps 0 k = 0 := by
  induction k with
  | zero => rfl
  | succ k ih => show bstep _ = 0; rw [ih]; decide
theorem rregs_xor (s t : BitVec 32) (l : List UInt8) : rregs (s ^^^ t) l = rregs s l ^^^ bsteps t (8 * l.length) := by
  induction l generalizing s t with
  | nil => rfl
  | cons c l ih =>
    show rregs (rnext (s ^^^ t) c) l = rregs (rnext s c) l ^^^ _
    have h : rnext (s ^^^ t) c = rnext s c ^^^ bsteps t 8 := by
      rw [rnext_steps, rnext_steps, ← bsteps_xor, BitVec.xor_assoc, BitVec.xor_assoc, BitVec.xor_comm t]
    rw [h, ih, ← bsteps_plus, List.length_cons, show 8 * (l.length + 1) = 8 + 8 * l.length by omega]
/-- the byte of the bit j -/
def bitb (j : Nat) : UInt8 := UInt8.ofNat (2 ^ j)
theorem bit_steps : ∀ j, j < 8 → bsteps (c8 (bitb j)) 8 = bsteps 1 (8 - j) := by decide
theorem one_steps : ∀ i, i < 32 → bsteps (1#32 <<< i) i = 1 := by decide
theorem rregs_flip (s : BitVec 32) (l : List UInt8) (k : Nat) (hq : k / 8 < l.length) :
    rregs s (l.set (k / 8) (bx l[k / 8] (bitb (k % 8)))) = rregs s l ^^^ bsteps 1 (8 * l.length - k) := by
  have e1 : l = l.take (k / 8) ++ l[k / 8] :: l.drop (k / 8 + 1) := by
    rw [List.getElem_cons_drop, List.take_append_drop]
  have e2 : l.set (k / 8) (bx l[k / 8] (bitb (k % 8))) = l.take (k / 8) ++ bx l[k / 8] (bitb (k % 8)) :: l.drop (k / 8 + 1) := by
    rw [List.set_eq_take_append_cons_drop, if_pos hq]
  rw [e2]
  conv => rhs; arg 1; rw [e1]
  rw [rregs_append, rregs_append]
  generalize rregs s (l.take (k / 8)) = t
  show rregs (rnext t (bx l[k / 8] (bitb (k % 8)))) _ = rregs (rnext t l[k / 8]) _ ^^^ _
  have h : rnext t (bx l[k / 8] (bitb (k % 8))) = rnext t l[k / 8] ^^^ bsteps 1 (8 - k % 8) := by
    rw [rnext_steps, rnext_steps, c8_bx, ← BitVec.xor_assoc, bsteps_xor, bit_steps _ (Nat.mod_lt _ (by omega))]
  rw [h, rregs_xor, ← bsteps_plus, List.length_drop]
  congr 2
  omega
/-- the lowest i bits -/
def lowb (b : BitVec 32) : Nat → BitVec 32
  | 0 => 0
  | i + 1 => lowb b i ^^^ (if b.getLsbD i then 1#32 <<< i else 0)
theorem lowb_skip {b : BitVec 32} {i : Nat} (hb : b.getLsbD i = false) : lowb b (i + 1) = lowb b i := by
  conv => lhs; unfold lowb
  rw [hb]
  exact BitVec.xor_zero
theorem lowb_get (b : BitVec 32) (i j : Nat) (hi : i ≤ 32) : (lowb b i).getLsbD j = (decide (j < i) && b.getLsbD j) := by
  induction i with
  | zero => simp [lowb]
  | succ i ih =>
    have hone : (1#32 <<< i).getLsbD j = decide (j = i) := by
      rw [BitVec.getLsbD_shiftLeft]
      by_cases h : j = i
      · subst h; simp; omega
      · by_cases h2 : j < i
        · simp [h2]; omega
        · have : j - i ≠ 0 := by omega
          simp [h, BitVec.getLsbD_one, this]
    unfold lowb
    rw [BitVec.getLsbD_xor, ih (by omega)]
    by_cases h : j = i
    · subst h
      cases hb : b.getLsbD j
      · simp [hb]
      · rw [if_pos rfl, hone]; simp [hb]
    · have e : decide (j < i + 1) = decide (j < i) := by rw [decide_eq_decide]; omega
      rw [e]
      cases hb : b.getLsbD i
      · simp
      · rw [if_pos rfl, hone]; simp [h]
theorem lowb_all (b : BitVec 32) : lowb b 32 = b := by
  apply BitVec.eq_of_getLsbD_eq
  intro j hj
  rw [lowb_get _ _ _ (Nat.le_refl _)]; simp [hj]
/-- the list l' came of l by turning the lowest i bits' bits from the place f on -/
structure Turned (l : List UInt8) (f : Nat) (b : BitVec 32) (i : Nat) (l' : List UInt8) : Prop where
  len : l'.length = l.length
  reg : rregs (BitVec.allOnes 32) l' = rregs (BitVec.allOnes 32) l ^^^ bsteps (lowb b i) (8 * l.length - f)
  same : b = 0 → l' = l
theorem Turned.start (l : List UInt8) (f : Nat) (b : BitVec 32) : Turned l f b 0 l :=
  ⟨rfl, by show _ = _ ^^^ bsteps 0 _; rw [bsteps_zero]; exact BitVec.xor_zero.symm, fun _ => rfl⟩
theorem Turned.skip {l : List UInt8} {f : Nat} {b : BitVec 32} {i : Nat} {l' : List UInt8} (h : Turned l f b i l') (hb : b.getLsbD i = false) : Turned l f b (i + 1) l' :=
  ⟨h.len, by rw [h.reg, lowb_skip hb], h.same⟩
theorem Turned.flip {l : List UInt8} {f : Nat} {b : BitVec 32} {i : Nat} {l' : List UInt8} (h : Turned l f b i l') (hb : b.getLsbD i = true) (hi : i < 32) (hf : f + 32 ≤ 8 * l.length) (hq : (f + i) / 8 < l'.length) :
    Turned l f b (i + 1) (l'.set ((f + i) / 8) (bx l'[(f + i) / 8] (bitb ((f + i) % 8)))) := by
  refine ⟨by rw [List.length_set]; exact h.len, ?_, fun h0 => ?_⟩
  · rw [rregs_flip, h.reg, h.len]
    have e : lowb b (i + 1) = lowb b i ^^^ 1#32 <<< i := by conv => lhs; unfold lowb; rw [hb, if_pos rfl]
    rw [e, bsteps_xor, BitVec.xor_assoc]
    congr 2
    rw [show 8 * l.length - f = i + (8 * l.length - (f + i)) by omega, bsteps_plus, one_steps i hi]
  · rw [h0] at hb; simp at hb
theorem Turned.err {l : List UInt8} {f : Nat} {b : BitVec 32} {l' : List UInt8} (h : Turned l f b 32 l') (hb : b ≠ 0) : openErr (l' ++ four (rsum l)) = 5 := by
  rw [openErr_app _ _ (four_len _), if_neg]
  intro e
  have h1 := not_inj (four_inj e)
  rw [h.reg, lowb_all] at h1
  have h2 : bsteps b (8 * l.length - f) = bsteps 0 (8 * l.length - f) := by
    rw [bsteps_zero]
    have := congrArg (rregs (BitVec.allOnes 32) l ^^^ ·) h1
    simp only [BitVec.xor_self] at this
    rw [xor_twice] at this
    exact this.symm
  exact hb (bsteps_inj _ h2)
end Go.Proofs.YtdbgdmhlnaldoaaDoor
