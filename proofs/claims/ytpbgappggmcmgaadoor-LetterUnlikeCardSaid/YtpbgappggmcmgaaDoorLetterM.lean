/-
  LetterM: messages, plainly: which are right, their bytes, and back. No program.
-/
import Derived.Test.YtpbgappggmcmgaaDoorLetterP
import Derived.Test.YtpbgappggmcmgaaDoorIdsP
namespace Go.Proofs.YtpbgappggmcmgaaDoor
open Go.RowKit

structure Msg where
  k : Int
  f : Int
  t : Int
  n : Int
  s : Int
  r : Int
  p : Int
  q : Int
  c : Int
def Msg.l (m : Msg) : List Int := [m.k, m.f, m.t, m.n, m.s, m.r, m.p, m.q, m.c]
def inI (x : Int) : Prop := -9223372036854775808 ≤ x ∧ x ≤ 9223372036854775807
def Msg.wf (m : Msg) : Prop := ∀ x ∈ m.l, inI x
def ofL (l : List Int) : Msg := ⟨l.getD 0 0, l.getD 1 0, l.getD 2 0, l.getD 3 0, l.getD 4 0, l.getD 5 0, l.getD 6 0, l.getD 7 0, l.getD 8 0⟩
theorem ofL_l (m : Msg) : ofL m.l = m := rfl
theorem l_ofL {l : List Int} (h : l.length = 9) : (ofL l).l = l := by
  match l, h with
  | [_, _, _, _, _, _, _, _, _], _ => rfl
def ivL (l : List Int) : Array Value := (l.map (Value.int .i64)).toArray
def msgV (m : Msg) : Value := .agg #[.int .i64 m.k, .int .i64 m.f, .int .i64 m.t, .int .i64 m.n, .int .i64 m.s, .int .i64 m.r, .int .i64 m.p, .int .i64 m.q, .int .i64 m.c]
theorem msgV_ivL (m : Msg) : msgV m = .agg (ivL m.l) := rfl
theorem msgV_ofL {l : List Int} (h : l.length = 9) : msgV (ofL l) = .agg (ivL l) := by rw [msgV_ivL, l_ofL h]
def msg0 : Msg := ⟨0, 0, 0, 0, 0, 0, 0, 0, 0⟩
def inR (x a b : Int) : Bool := decide (a ≤ x) && decide (x ≤ b)
def codesL (k : Int) : Int := if k = 19 then 1 else if k = 16 then 1 else 0
def codesH (k : Int) : Int := if k = 19 then 5 else if k = 16 then 14 else 0
def protL (k : Int) : Int := if k = 17 ∨ k = 18 then 1 else 0
def protH (k : Int) : Int := if k = 17 ∨ k = 18 then 2 else 0
def regH (k : Int) : Int := if k = 17 then 0 else 5
def actOk (x y : Int) : Bool := (actT x y).isSome
def rightM (m : Msg) : Bool := inR m.k 1 19 && inR m.f 0 3 && inR m.t 0 3 && actOk m.n m.s && inR m.r 0 (regH m.k) && inR m.p 0 7 && inR m.q (protL m.k) (protH m.k) && inR m.c (codesL m.k) (codesH m.k)
theorem actOk_yes {x y : Int} (h : actOk x y = true) : (0 ≤ x ∧ x ≤ 3) ∧ 0 ≤ y ∧ y ≤ 999999 := by
  unfold actOk actT numT at h
  split at h
  · rename_i h1
    split at h
    · rename_i h2; exact ⟨h1, h2⟩
    · cases h
  · cases h
theorem inR_yes {x a b : Int} (h : inR x a b = true) : a ≤ x ∧ x ≤ b := by
  unfold inR at h
  rw [Bool.and_eq_true, decide_eq_true_eq, decide_eq_true_eq] at h
  exact h
theorem right_nums {m : Msg} (h : rightM m = true) : numsOk m.l := by
  unfold rightM at h
  simp only [Bool.and_eq_true] at h
  obtain ⟨⟨⟨⟨⟨⟨⟨h1, h2⟩, h3⟩, h4⟩, h5⟩, h6⟩, h7⟩, h8⟩ := h
  have h1 := inR_yes h1; have h2 := inR_yes h2; have h3 := inR_yes h3; have h4 := actOk_yes h4; have h5 := inR_yes h5; have h6 := inR_yes h6; have h7 := inR_yes h7; have h8 := inR_yes h8
  have a1 : 0 ≤ protL m.k := by unfold protL; split <;> omega
  have a2 : protH m.k ≤ 2 := by unfold protH; split <;> omega
  have a3 : 0 ≤ codesL m.k := by unfold codesL; split <;> (try split) <;> omega
  have a4 : codesH m.k ≤ 14 := by unfold codesH; split <;> (try split) <;> omega
  have a5 : regH m.k ≤ 5 := by unfold regH; split <;> omega
  intro x hx
  unfold Msg.l at hx
  simp only [List.mem_cons, List.not_mem_nil, or_false] at hx
  rcases hx with rfl | rfl | rfl | rfl | rfl | rfl | rfl | rfl | rfl <;> omega
def encE (m : Msg) : Nat := if rightM m then 0 else 4
def encL (m : Msg) : List UInt8 := if rightM m then joinL (tagRow 0 m.l) else []
theorem row_right {m : Msg} (h : rightM m = true) : rightRow (tagRow 0 m.l) = true := tagRow_right _ (right_nums h) (by unfold Msg.l; simp)
theorem encL_len (m : Msg) : (encL m).length ≤ 203 * 9 := by
  unfold encL
  split
  · rename_i h
    have := joinL_len (tagRow 0 m.l) 0 (right_parts (row_right h)).2
    have h2 := tagRow_len m.l 0
    have h3 : m.l.length = 9 := rfl
    omega
  · simp
/-- the numbers of a row that is a right message's -/
def rowM (fs : List (Int × List UInt8)) : Option Msg := (putsF (List.replicate 9 0) fs).bind fun l => if rightM (ofL l) then some (ofL l) else none
def decE (b : List UInt8) : Nat := if 1000 < b.length then 3 else if splitE b = 0 then (if (rowM (splitL b)).isSome then 0 else 4) else splitE b
def decM (b : List UInt8) : Msg := if 1000 < b.length then msg0 else if splitE b = 0 then (rowM (splitL b)).getD msg0 else msg0
theorem rowM_row {m : Msg} (h : rightM m = true) : rowM (tagRow 0 m.l) = some m := by
  have hz := puts_zero m.l (right_nums h)
  unfold rowM
  rw [show List.replicate 9 (0 : Int) = List.replicate m.l.length 0 from rfl, hz]
  exact if_pos h
theorem row_rowM {fs : List (Int × List UInt8)} {m : Msg} (ho : rowOk 0 fs = true) (h : rowM fs = some m) : rightM m = true ∧ tagRow 0 m.l = fs := by
  unfold rowM at h
  simp only [Option.bind_eq_some_iff] at h
  obtain ⟨l, hl, h⟩ := h
  split at h
  · rename_i hr
    cases h
    obtain ⟨l', e, hn, ht, _⟩ := tagRow_puts fs [] 9 l ho (by simpa using hl)
    rw [List.nil_append] at e
    subst e
    exact ⟨hr, by rw [l_ofL hn]; exact ht⟩
  · cases h
theorem split_ok {b : List UInt8} (h : splitE b = 0) : rightRow (splitL b) = true ∧ joinL (splitL b) = b := by
  have := split_law b h
  unfold joinE joinR at this
  split at this
  · rename_i hr
    exact ⟨hr, this.2⟩
  · exact absurd this.1 (by decide)
theorem enc_small {m : Msg} (h : rightM m = true) : (encL m).length ≤ 99 := by
  have hn := right_nums h
  unfold encL
  rw [if_pos h]
  have : ∀ (l : List Int) (i : Nat), numsOk l → (joinL (tagRow i l)).length ≤ 11 * l.length := by
    intro l
    induction l with
    | nil => intro i _; simp [tagRow, joinL]
    | cons x l ih =>
      intro i hl
      have hx := hl x (List.mem_cons_self ..)
      have := ih (i + 1) (fun y hy => hl y (List.mem_cons_of_mem _ hy))
      have h8 := numB_len8 hx.2
      simp only [tagRow, List.length_cons]
      split
      · rw [List.nil_append]; omega
      · unfold joinL at *
        simp only [List.cons_append, List.nil_append, List.flatMap_cons, List.length_append, fieldB, List.length_cons]
        omega
  exact this _ _ hn
theorem dec_enc {m : Msg} (h : rightM m = true) : decE (encL m) = 0 ∧ decM (encL m) = m := by
  have hs := enc_small h
  have hj := split_joined _ (row_right h)
  have e : encL m = joinL (tagRow 0 m.l) := by unfold encL; rw [if_pos h]
  unfold decE decM
  have h1 : ¬ 1000 < (encL m).length := by omega
  rw [if_neg h1, if_neg h1, e, hj.1, if_pos rfl, if_pos rfl, hj.2, rowM_row h]
  exact ⟨rfl, rfl⟩
theorem enc_dec {b : List UInt8} (h : decE b = 0) : rightM (decM b) = true ∧ encL (decM b) = b := by
  unfold decE at h
  unfold decM
  split at h
  · cases h
  · rename_i h1
    rw [if_neg h1]
    split at h
    · rename_i h2
      rw [if_pos h2]
      obtain ⟨hr, hj⟩ := split_ok h2
      split at h
      · rename_i h3
        obtain ⟨m, hm⟩ := Option.isSome_iff_exists.1 h3
        obtain ⟨a1, a2⟩ := row_rowM (right_parts hr).2 hm
        rw [hm]
        refine ⟨a1, ?_⟩
        show encL m = b
        unfold encL
        rw [if_pos a1, a2, hj]
      · cases h
    · rename_i h2; exact absurd h h2
theorem enc_inj {a b : Msg} (ha : rightM a = true) (hb : rightM b = true) (h : encL a = encL b) : a = b := by
  have x := dec_enc ha
  have y := dec_enc hb
  rw [← x.2, h, y.2]
theorem dec_cut {m : Msg} (h : rightM m = true) (k : Nat) (hk : k < (encL m).length) (h0 : decE ((encL m).take k) = 0) : decM ((encL m).take k) ≠ m := by
  intro he
  obtain ⟨_, a2⟩ := enc_dec h0
  rw [he] at a2
  have := congrArg List.length a2
  rw [List.length_take] at this
  omega
end Go.Proofs.YtpbgappggmcmgaaDoor
