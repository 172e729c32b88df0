/-
  Spoil: plain laws: what is sealed is opened; sealed bytes with one byte changed are not.
-/
import Derived.Test.YtdbgdmhlnaldoaaDoorSeal
namespace Go.Proofs.YtdbgdmhlnaldoaaDoor
open Go.RowKit

theorem poly_top : poly.getLsbD 31 = true := by decide
theorem bstep_zero {z : BitVec 32} (h : bstep z = 0) : z = 0 := by
  have h31 : (bstep z).getLsbD 31 = z.getLsbD 0 := by
    unfold bstep
    rw [BitVec.getLsbD_xor, BitVec.getLsbD_ushiftRight, BitVec.getLsbD_of_ge _ (1 + 31) (by omega)]
    cases z.getLsbD 0 <;> simp [poly_top]
  have h0 : z.getLsbD 0 = false := by rw [← h31, h]; simp
  have hs : bstep z = z >>> 1 := by unfold bstep; rw [h0]; simp
  rw [hs] at h
  apply BitVec.eq_of_getLsbD_eq
  intro i hi
  cases i with
  | zero => rw [h0]; simp
  | succ i =>
    have := congrArg (·.getLsbD i) h
    simp only [BitVec.getLsbD_ushiftRight] at this
    rw [Nat.add_comm 1 i] at this
    rw [this]; simp
theorem xor_zero_iff {x y : BitVec 32} (h : x ^^^ y = 0) : x = y := by
  have := congrArg (· ^^^ y) h
  simpa [BitVec.xor_assoc] using this
theorem bstep_inj {x y : BitVec 32} (h : bstep x = bstep y) : x = y := by
  apply xor_zero_iff
  apply bstep_zero
  rw [bstep_xor, h, BitVec.xor_self]
  rfl
theorem bsteps_inj {x y : BitVec 32} (k : Nat) (h : bsteps x k = bsteps y k) : x = y := by
  induction k with
  | zero => exact h
  | succ k ih => exact ih (bstep_inj h)
theorem rnext_steps (s : BitVec 32) (c : UInt8) : rnext s c = bsteps (s ^^^ c8 c) 8 := by
  rw [rnext_eq, show (8 : Nat) = 4 + 4 from rfl, bsteps_add, ← nib_eq, ← nib_eq]; rfl
theorem xor_right_inj {x y z : BitVec 32} (h : x ^^^ z = y ^^^ z) : x = y := by
  have := congrArg (· ^^^ z) h
  simpa [BitVec.xor_assoc] using this
theorem xor_left_inj {x y z : BitVec 32} (h : z ^^^ x = z ^^^ y) : x = y := by
  rw [BitVec.xor_comm z x, BitVec.xor_comm z y] at h; exact xor_right_inj h
theorem rregs_inj {s s' : BitVec 32} : ∀ (l : List UInt8), rregs s l = rregs s' l → s = s'
  | [], h => h
  | c :: l, h => by
    have := rregs_inj l (show rregs (rnext s c) l = rregs (rnext s' c) l from h)
    rw [rnext_steps, rnext_steps] at this
    exact xor_right_inj (bsteps_inj 8 this)
theorem c8_inj {c d : UInt8} (h : c8 c = c8 d) : c = d := by
  have := congrArg BitVec.toNat h
  rw [c8_nat, c8_nat] at this
  exact UInt8.toNat_inj.1 this
theorem rregs_append (s : BitVec 32) (l m : List UInt8) : rregs s (l ++ m) = rregs (rregs s l) m := by simp [rregs]
theorem rregs_change (s : BitVec 32) (l m : List UInt8) (c d : UInt8) (h : rregs s (l ++ c :: m) = rregs s (l ++ d :: m)) : c = d := by
  rw [rregs_append, rregs_append] at h
  have := rregs_inj m (show rregs (rnext (rregs s l) c) m = rregs (rnext (rregs s l) d) m from h)
  rw [rnext_steps, rnext_steps] at this
  exact c8_inj (xor_left_inj (bsteps_inj 8 this))
theorem not_inj {x y : BitVec 32} (h : ~~~ x = ~~~ y) : x = y := by
  have := congrArg (~~~ ·) h
  simpa using this
theorem rsum_set {l : List UInt8} {k : Nat} (hk : k < l.length) (c : UInt8) (h : rsum (l.set k c) = rsum l) : c = l[k] := by
  have e1 : l = l.take k ++ l[k] :: l.drop (k + 1) := by
    rw [List.getElem_cons_drop, List.take_append_drop]
  have e2 : l.set k c = l.take k ++ c :: l.drop (k + 1) := by
    rw [List.set_eq_take_append_cons_drop, if_pos hk]
  have h' := not_inj h
  rw [e2] at h'
  conv at h' => rhs; rw [e1]
  exact rregs_change _ _ _ _ _ h'
theorem four_inj {s t : BitVec 32} (h : four s = four t) : s = t := by
  simp only [four, List.cons.injEq, and_true] at h
  obtain ⟨h1, h2, h3, h4⟩ := h
  have e1 := congrArg UInt8.toNat h1
  have e2 := congrArg UInt8.toNat h2
  have e3 := congrArg UInt8.toNat h3
  have e4 := congrArg UInt8.toNat h4
  simp only [UInt8.toNat_ofNat'] at e1 e2 e3 e4
  apply BitVec.eq_of_toNat_eq
  have hs := s.isLt
  have ht := t.isLt
  omega
theorem sealed_len (l : List UInt8) : (sealed l).length = l.length + 4 := by unfold sealed; rw [List.length_append, four_len]
/-- what openErr is of l bytes and four more -/
theorem openErr_app (a b : List UInt8) (hb : b.length = 4) : openErr (a ++ b) = if b = four (rsum a) then 0 else 5 := by
  unfold openErr
  rw [if_neg (by simp [hb])]
  have e : (a ++ b).length - 4 = a.length := by simp [hb]
  rw [e, List.drop_left, List.take_left]
theorem openRes_app (a b : List UInt8) (hb : b.length = 4) (h : openErr (a ++ b) = 0) : openRes (a ++ b) = a := by
  unfold openRes
  rw [if_pos h, show (a ++ b).length - 4 = a.length by simp [hb], List.take_left]
theorem openRes_err {l : List UInt8} (h : openErr l ≠ 0) : openRes l = [] := by unfold openRes; rw [if_neg h]
theorem open_sealed (l : List UInt8) : openErr (sealed l) = 0 ∧ openRes (sealed l) = l := by
  have h : openErr (sealed l) = 0 := by unfold sealed; rw [openErr_app _ _ (four_len _), if_pos rfl]
  exact ⟨h, openRes_app _ _ (four_len _) h⟩
theorem bx_zero (c : UInt8) : bx c 0 = c := by unfold bx; exact UInt8.xor_zero
theorem bx_ne {c y : UInt8} (h : y ≠ 0) : bx c y ≠ c := by
  unfold bx
  intro e
  apply h
  have := congrArg (c ^^^ ·) e
  simpa [← UInt8.xor_assoc] using this
theorem spoil_same (l : List UInt8) (k : Nat) (hk : k < (sealed l).length) : (sealed l).set k (bx (sealed l)[k] 0) = sealed l := by
  rw [bx_zero]; exact List.set_getElem_self hk
theorem sealed_lt (l : List UInt8) (k : Nat) (h : k < l.length) (hk : k < (sealed l).length) : (sealed l)[k] = l[k] := List.getElem_append_left h
theorem sealed_ge (l : List UInt8) (k : Nat) (h : l.length ≤ k) (hk : k < (sealed l).length) (h4 : k - l.length < (four (rsum l)).length) : (sealed l)[k] = (four (rsum l))[k - l.length] := List.getElem_append_right h
theorem spoil_err (l : List UInt8) (k : Nat) (hk : k < (sealed l).length) (y : UInt8) (hy : y ≠ 0) : openErr ((sealed l).set k (bx (sealed l)[k] y)) = 5 := by
  have hlen := sealed_len l
  by_cases hkl : k < l.length
  · have e : (sealed l).set k (bx (sealed l)[k] y) = l.set k (bx (sealed l)[k] y) ++ four (rsum l) := by
      have : sealed l = l ++ four (rsum l) := rfl
      conv => lhs; arg 1; rw [this]
      rw [List.set_append_left _ _ hkl]
    rw [e, openErr_app _ _ (four_len _), if_neg]
    intro h
    have h1 := rsum_set hkl _ (four_inj h).symm
    have h2 := sealed_lt l k hkl hk
    rw [h2] at h1
    exact bx_ne hy h1
  · have e : (sealed l).set k (bx (sealed l)[k] y) = l ++ (four (rsum l)).set (k - l.length) (bx (sealed l)[k] y) := by
      have : sealed l = l ++ four (rsum l) := rfl
      conv => lhs; arg 1; rw [this]
      rw [List.set_append_right _ _ (by omega)]
    rw [e, openErr_app _ _ (by simp [four_len]), if_neg]
    intro h
    have hk4 : k - l.length < (four (rsum l)).length := by rw [four_len]; omega
    have h1 := congrArg (·[k - l.length]?) h
    simp only [List.getElem?_set_self hk4] at h1
    have h2 := sealed_ge l k (by omega) hk hk4
    rw [List.getElem?_eq_getElem hk4, h2] at h1
    exact bx_ne hy (Option.some.inj h1)
end Go.Proofs.YtdbgdmhlnaldoaaDoor
