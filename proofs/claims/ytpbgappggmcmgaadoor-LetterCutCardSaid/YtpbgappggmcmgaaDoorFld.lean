/-
  Fld: rows of fields as the walks meet them. No program.
-/
import Derived.Test.YtpbgappggmcmgaaDoorBase
namespace Go.Proofs.YtpbgappggmcmgaaDoor
open Go.RowKit

/-- the cells of a row of fields whose data are the slices vs -/
def fcells : List (Int × List UInt8) → List Value → List Value
  | f :: fs, u :: us => .int .i64 f.1 :: u :: fcells fs us
  | _, _ => []
theorem fcells_get : ∀ (fs : List (Int × List UInt8)) (us : List Value) (i : Nat) (f : Int × List UInt8) (u : Value), fs[i]? = some f → us[i]? = some u →
    (fcells fs us)[2 * i]? = some (.int .i64 f.1) ∧ (fcells fs us)[2 * i + 1]? = some u
  | [], _, i, f, u, h, _ => by simp at h
  | _ :: _, [], i, f, u, _, h => by simp at h
  | g :: fs, x :: us, 0, f, u, h, h' => by
    simp only [List.getElem?_cons_zero, Option.some.injEq] at h h'
    subst h; subst h'
    exact ⟨rfl, rfl⟩
  | g :: fs, x :: us, i + 1, f, u, h, h' => by
    have := fcells_get fs us i f u (by simpa using h) (by simpa using h')
    rw [show 2 * (i + 1) = 2 * i + 1 + 1 by omega, show 2 * i + 1 + 1 + 1 = (2 * i + 1) + 1 + 1 by omega]
    simpa [fcells] using this
/-- THE SLICE VALUE v IS THE ROW fs OF FIELDS in w. -/
def FldL (w : World) (v : Value) (fs : List (Int × List UInt8)) : Prop :=
  ∃ p cap us, v = .slice p fs.length cap ∧ fs.length ≤ cap ∧ cap ≤ maxLen ∧ us.length = fs.length ∧ Rd w p (fcells fs us) ∧ ∀ (i : Nat) (f : Int × List UInt8), fs[i]? = some f → ∃ u, us[i]? = some u ∧ Byt w u f.2
theorem FldL.keep {w w' : World} {v : Value} {fs : List (Int × List UInt8)} (h : FldL w v fs) (hk : ∀ a v, w.cell? a = some v → w'.cell? a = some v) : FldL w' v fs := by
  obtain ⟨p, cap, us, rfl, h1, h2, h3, h4, h5⟩ := h
  exact ⟨p, cap, us, rfl, h1, h2, h3, h4.keep hk, fun i f hf => by obtain ⟨u, hu, hb⟩ := h5 i f hf; exact ⟨u, hu, hb.keep hk⟩⟩
/-- the cells of the field i -/
theorem fldL_cell {w : World} {p : Option Addr} {fs : List (Int × List UInt8)} {us : List Value} (h : Rd w p (fcells fs us)) (h5 : ∀ (i : Nat) (f : Int × List UInt8), fs[i]? = some f → ∃ u, us[i]? = some u ∧ Byt w u f.2) {i : Nat} (hi : i < fs.length) :
    ∃ b off q c, p = some ⟨b, off, none⟩ ∧ w.cell? ⟨b, off + i * 2, none⟩ = some (.int .i64 fs[i].1) ∧ w.cell? ⟨b, off + i * 2 + 1, none⟩ = some (.slice q fs[i].2.length c) ∧ Byt w (.slice q fs[i].2.length c) fs[i].2 := by
  obtain ⟨u, hu, hb⟩ := h5 i fs[i] (by simp [hi])
  obtain ⟨g1, g2⟩ := fcells_get fs us i fs[i] u (by simp [hi]) hu
  obtain ⟨b, off, hp, hc⟩ := h.has (by intro e; rw [e] at g1; simp at g1)
  have hb' := hb
  obtain ⟨q, c, rfl, _⟩ := hb'
  refine ⟨b, off, q, c, hp, ?_, ?_, hb⟩
  · rw [Nat.mul_comm i 2]; exact hc _ _ g1
  · rw [Nat.mul_comm i 2, Nat.add_assoc]; exact hc _ _ g2
/-- a field's bytes -/
def fieldB (f : Int × List UInt8) : List UInt8 := UInt8.ofNat (f.1 % 256).toNat :: UInt8.ofNat (f.2.length / 256) :: UInt8.ofNat f.2.length :: f.2
def joinL (fs : List (Int × List UInt8)) : List UInt8 := fs.flatMap fieldB
/-- is the field right behind the tag last? -/
def fieldOk (last : Int) (f : Int × List UInt8) : Bool := decide (last < f.1) && decide (f.1 ≤ 255) && decide (f.2.length ≤ 200)
def rowOk : Int → List (Int × List UInt8) → Bool
  | _, [] => true
  | last, f :: fs => fieldOk last f && rowOk f.1 fs
def rightRow (fs : List (Int × List UInt8)) : Bool := decide (fs.length ≤ 16) && rowOk 0 fs
def lastOf (last : Int) (fs : List (Int × List UInt8)) : Int := fs.foldl (fun _ f => f.1) last
theorem lastOf_app (last : Int) (fs : List (Int × List UInt8)) (f : Int × List UInt8) : lastOf last (fs ++ [f]) = f.1 := by simp [lastOf]
theorem rowOk_app (last : Int) (fs gs : List (Int × List UInt8)) : rowOk last (fs ++ gs) = (rowOk last fs && rowOk (lastOf last fs) gs) := by
  induction fs generalizing last with
  | nil => rfl
  | cons f fs ih => simp only [List.cons_append, rowOk, ih, Bool.and_assoc]; rfl
theorem rowOk_take (fs : List (Int × List UInt8)) (k : Nat) (hk : k < fs.length) : rowOk 0 (fs.take (k + 1)) = (rowOk 0 (fs.take k) && fieldOk (lastOf 0 (fs.take k)) fs[k]) := by
  rw [List.take_succ_eq_append_getElem hk, rowOk_app]
  simp [rowOk]
theorem lastOf_take (fs : List (Int × List UInt8)) (k : Nat) (hk : k < fs.length) : lastOf 0 (fs.take (k + 1)) = fs[k].1 := by
  rw [List.take_succ_eq_append_getElem hk, lastOf_app]
theorem rowOk_bad (fs : List (Int × List UInt8)) (k : Nat) (hk : k < fs.length) (h : fieldOk (lastOf 0 (fs.take k)) fs[k] = false) : rowOk 0 fs = false := by
  have e : fs = fs.take (k + 1) ++ fs.drop (k + 1) := (List.take_append_drop _ _).symm
  rw [e, rowOk_app, rowOk_take fs k hk, h]; simp
theorem joinL_take (fs : List (Int × List UInt8)) (k : Nat) (hk : k < fs.length) : joinL (fs.take (k + 1)) = joinL (fs.take k) ++ fieldB fs[k] := by
  unfold joinL; rw [List.take_succ_eq_append_getElem hk, List.flatMap_append]; simp
theorem joinL_len (fs : List (Int × List UInt8)) (last : Int) (h : rowOk last fs = true) : (joinL fs).length ≤ 203 * fs.length := by
  induction fs generalizing last with
  | nil => simp [joinL]
  | cons f fs ih =>
    simp only [rowOk, fieldOk, Bool.and_eq_true, decide_eq_true_eq] at h
    have h2 := ih f.1 h.2
    have e : joinL (f :: fs) = fieldB f ++ joinL fs := rfl
    rw [e, List.length_append, List.length_cons]
    have : (fieldB f).length = f.2.length + 3 := rfl
    omega
end Go.Proofs.YtpbgappggmcmgaaDoor
