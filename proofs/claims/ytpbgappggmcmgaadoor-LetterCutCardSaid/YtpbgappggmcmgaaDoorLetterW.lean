/-
  LetterM: messages, plainly: which are right, their bytes, and back. No program.
  LetterW: small functions of package letter, and the document's.
-/
import Derived.Test.YtpbgappggmcmgaaDoorLetterP
import Derived.Test.YtpbgappggmcmgaaDoorIdsP
import Derived.Test.YtpbgappggmcmgaaDoorKeeps
import Derived.Test.YtpbgappggmcmgaaDoorStruct
namespace Go.Proofs.YtpbgappggmcmgaaDoor
open Go.RowKit

structure Msg where
  k : Int
  f : Int
  t : Int
  n : Int
  s : Int
  r : Int
  p : Int
  q : Int
  c : Int
def Msg.l (m : Msg) : List Int := [m.k, m.f, m.t, m.n, m.s, m.r, m.p, m.q, m.c]
def inI (x : Int) : Prop := -9223372036854775808 ≤ x ∧ x ≤ 9223372036854775807
def Msg.wf (m : Msg) : Prop := ∀ x ∈ m.l, inI x
def ofL (l : List Int) : Msg := ⟨l.getD 0 0, l.getD 1 0, l.getD 2 0, l.getD 3 0, l.getD 4 0, l.getD 5 0, l.getD 6 0, l.getD 7 0, l.getD 8 0⟩
theorem ofL_l (m : Msg) : ofL m.l = m := rfl
theorem l_ofL {l : List Int} (h : l.length = 9) : (ofL l).l = l := by
  match l, h with
  | [_, _, _, _, _, _, _, _, _], _ => rfl
def ivL (l : List Int) : Array Value := (l.map (Value.int .i64)).toArray
def msgV (m : Msg) : Value := .agg #[.int .i64 m.k, .int .i64 m.f, .int .i64 m.t, .int .i64 m.n, .int .i64 m.s, .int .i64 m.r, .int .i64 m.p, .int .i64 m.q, .int .i64 m.c]
theorem msgV_ivL (m : Msg) : msgV m = .agg (ivL m.l) := rfl
theorem msgV_ofL {l : List Int} (h : l.length = 9) : msgV (ofL l) = .agg (ivL l) := by rw [msgV_ivL, l_ofL h]
def msg0 : Msg := ⟨0, 0, 0, 0, 0, 0, 0, 0, 0⟩
def inR (x a b : Int) : Bool := decide (a ≤ x) && decide (x ≤ b)
def codesL (k : Int) : Int := if k = 19 then 1 else if k = 16 then 1 else 0
def codesH (k : Int) : Int := if k = 19 then 5 else if k = 16 then 14 else 0
def protL (k : Int) : Int := if k = 17 ∨ k = 18 then 1 else 0
def protH (k : Int) : Int := if k = 17 ∨ k = 18 then 2 else 0
def regH (k : Int) : Int := if k = 17 then 0 else 5
def actOk (x y : Int) : Bool := (actT x y).isSome
def rightM (m : Msg) : Bool := inR m.k 1 19 && inR m.f 0 3 && inR m.t 0 3 && actOk m.n m.s && inR m.r 0 (regH m.k) && inR m.p 0 7 && inR m.q (protL m.k) (protH m.k) && inR m.c (codesL m.k) (codesH m.k)
theorem actOk_yes {x y : Int} (h : actOk x y = true) : (0 ≤ x ∧ x ≤ 3) ∧ 0 ≤ y ∧ y ≤ 999999 := by
  unfold actOk actT numT at h
  split at h
  · rename_i h1
    split at h
    · rename_i h2; exact ⟨h1, h2⟩
    · cases h
  · cases h
theorem inR_yes {x a b : Int} (h : inR x a b = true) : a ≤ x ∧ x ≤ b := by
  unfold inR at h
  rw [Bool.and_eq_true, decide_eq_true_eq, decide_eq_true_eq] at h
  exact h
theorem right_nums {m : Msg} (h : rightM m = true) : numsOk m.l := by
  unfold rightM at h
  simp only [Bool.and_eq_true] at h
  obtain ⟨⟨⟨⟨⟨⟨⟨h1, h2⟩, h3⟩, h4⟩, h5⟩, h6⟩, h7⟩, h8⟩ := h
  have h1 := inR_yes h1; have h2 := inR_yes h2; have h3 := inR_yes h3; have h4 := actOk_yes h4; have h5 := inR_yes h5; have h6 := inR_yes h6; have h7 := inR_yes h7; have h8 := inR_yes h8
  have a1 : 0 ≤ protL m.k := by unfold protL; split <;> omega
  have a2 : protH m.k ≤ 2 := by unfold protH; split <;> omega
  have a3 : 0 ≤ codesL m.k := by unfold codesL; split <;> (try split) <;> omega
  have a4 : codesH m.k ≤ 14 := by unfold codesH; split <;> (try split) <;> omega
  have a5 : regH m.k ≤ 5 := by unfold regH; split <;> omega
  intro x hx
  unfold Msg.l at hx
  simp only [List.mem_cons, List.not_mem_nil, or_false] at hx
  rcases hx with rfl | rfl | rfl | rfl | rfl | rfl | rfl | rfl | rfl <;> omega
def encE (m : Msg) : Nat := if rightM m then 0 else 4
def encL (m : Msg) : List UInt8 := if rightM m then joinL (tagRow 0 m.l) else []
theorem row_right {m : Msg} (h : rightM m = true) : rightRow (tagRow 0 m.l) = true := tagRow_right _ (right_nums h) (by unfold Msg.l; simp)
theorem encL_len (m : Msg) : (encL m).length ≤ 203 * 9 := by
  unfold encL
  split
  · rename_i h
    have := joinL_len (tagRow 0 m.l) 0 (right_parts (row_right h)).2
    have h2 := tagRow_len m.l 0
    have h3 : m.l.length = 9 := rfl
    omega
  · simp
/-- the numbers of a row that is a right message's -/
def rowM (fs : List (Int × List UInt8)) : Option Msg := (putsF (List.replicate 9 0) fs).bind fun l => if rightM (ofL l) then some (ofL l) else none
def decE (b : List UInt8) : Nat := if 1000 < b.length then 3 else if splitE b = 0 then (if (rowM (splitL b)).isSome then 0 else 4) else splitE b
def decM (b : List UInt8) : Msg := if 1000 < b.length then msg0 else if splitE b = 0 then (rowM (splitL b)).getD msg0 else msg0
theorem rowM_row {m : Msg} (h : rightM m = true) : rowM (tagRow 0 m.l) = some m := by
  have hz := puts_zero m.l (right_nums h)
  unfold rowM
  rw [show List.replicate 9 (0 : Int) = List.replicate m.l.length 0 from rfl, hz]
  exact if_pos h
theorem row_rowM {fs : List (Int × List UInt8)} {m : Msg} (ho : rowOk 0 fs = true) (h : rowM fs = some m) : rightM m = true ∧ tagRow 0 m.l = fs := by
  unfold rowM at h
  simp only [Option.bind_eq_some_iff] at h
  obtain ⟨l, hl, h⟩ := h
  split at h
  · rename_i hr
    cases h
    obtain ⟨l', e, hn, ht, _⟩ := tagRow_puts fs [] 9 l ho (by simpa using hl)
    rw [List.nil_append] at e
    subst e
    exact ⟨hr, by rw [l_ofL hn]; exact ht⟩
  · cases h
theorem split_ok {b : List UInt8} (h : splitE b = 0) : rightRow (splitL b) = true ∧ joinL (splitL b) = b := by
  have := split_law b h
  unfold joinE joinR at this
  split at this
  · rename_i hr
    exact ⟨hr, this.2⟩
  · exact absurd this.1 (by decide)
theorem enc_small {m : Msg} (h : rightM m = true) : (encL m).length ≤ 99 := by
  have hn := right_nums h
  unfold encL
  rw [if_pos h]
  have : ∀ (l : List Int) (i : Nat), numsOk l → (joinL (tagRow i l)).length ≤ 11 * l.length := by
    intro l
    induction l with
    | nil => intro i _; simp [tagRow, joinL]
    | cons x l ih =>
      intro i hl
      have hx := hl x (List.mem_cons_self ..)
      have := ih (i + 1) (fun y hy => hl y (List.mem_cons_of_mem _ hy))
      have h8 := numB_len8 hx.2
      simp only [tagRow, List.length_cons]
      split
      · rw [List.nil_append]; omega
      · unfold joinL at *
        simp only [List.cons_append, List.nil_append, List.flatMap_cons, List.length_append, fieldB, List.length_cons]
        omega
  exact this _ _ hn
theorem dec_enc {m : Msg} (h : rightM m = true) : decE (encL m) = 0 ∧ decM (encL m) = m := by
  have hs := enc_small h
  have hj := split_joined _ (row_right h)
  have e : encL m = joinL (tagRow 0 m.l) := by unfold encL; rw [if_pos h]
  unfold decE decM
  have h1 : ¬ 1000 < (encL m).length := by omega
  rw [if_neg h1, if_neg h1, e, hj.1, if_pos rfl, if_pos rfl, hj.2, rowM_row h]
  exact ⟨rfl, rfl⟩
theorem enc_dec {b : List UInt8} (h : decE b = 0) : rightM (decM b) = true ∧ encL (decM b) = b := by
  unfold decE at h
  unfold decM
  split at h
  · cases h
  · rename_i h1
    rw [if_neg h1]
    split at h
    · rename_i h2
      rw [if_pos h2]
      obtain ⟨hr, hj⟩ := split_ok h2
      split at h
      · rename_i h3
        obtain ⟨m, hm⟩ := Option.isSome_iff_exists.1 h3
        obtain ⟨a1, a2⟩ := row_rowM (right_parts hr).2 hm
        rw [hm]
        refine ⟨a1, ?_⟩
        show encL m = b
        unfold encL
        rw [if_pos a1, a2, hj]
      · cases h
    · rename_i h2; exact absurd h h2
theorem enc_inj {a b : Msg} (ha : rightM a = true) (hb : rightM b = true) (h : encL a = encL b) : a = b := by
  have x := dec_enc ha
  have y := dec_enc hb
  rw [← x.2, h, y.2]
theorem dec_cut {m : Msg} (h : rightM m = true) (k : Nat) (hk : k < (encL m).length) (h0 : decE ((encL m).take k) = 0) : decM ((encL m).take k) ≠ m := by
  intro he
  obtain ⟨_, a2⟩ := enc_dec h0
  rw [he] at a2
  have := congrArg List.length a2
  rw [List.length_take] at this
  omega
end Go.Proofs.YtpbgappggmcmgaaDoor

namespace Go.Proofs.YtpbgappggmcmgaaDoor
open Go.RowKit Go.Extern.Stop Go.Stop Go.Extern

theorem within_any (x a b : Int) (w : World) : Calls Tryd.prog 29 #[.int .i64 x, .int .i64 a, .int .i64 b] w fun e w' => e = .returned (.bool (inR x a b)) ∧ Below w.heap.size w w' := by
  have HR := Lib.hid (show inR x a b = (decide (a ≤ x) && decide (x ≤ b)) from rfl)
  cases h1 : decide (a ≤ x)
  all_goals
    cases h2 : decide (x ≤ b)
    all_goals
      rw [h1, h2] at HR
      go_enter Tryd.func29, Tryd.ntmps29
      go_wp2_with fail
      go_ret
      exact ⟨by rw [HR.out]; rfl, Below.refl _ _⟩
theorem codes_any (k : Int) (w : World) : Calls Tryd.prog 30 #[.int .i64 k] w fun e w' => e = .returned (.tuple #[.int .i64 (codesL k), .int .i64 (codesH k)]) ∧ Below w.heap.size w w' := by
  have HR := Lib.hid (show codesL k = (if k = 19 then 1 else if k = 16 then 1 else 0) ∧ codesH k = (if k = 19 then 5 else if k = 16 then 14 else 0) from ⟨rfl, rfl⟩)
  by_cases h1 : k = 19
  · subst h1
    go_enter Tryd.func30, Tryd.ntmps30
    go_wp2_with fail
    go_ret2
    exact ⟨rfl, Below.refl _ _⟩
  · have d1 : (k == 19) = false := by simpa using h1
    by_cases h2 : k = 16
    · subst h2
      go_enter Tryd.func30, Tryd.ntmps30
      go_wp2_with fail
      go_ret2
      exact ⟨rfl, Below.refl _ _⟩
    · have d2 : (k == 16) = false := by simpa using h2
      have HR' := Lib.hid (show codesL k = 0 ∧ codesH k = 0 by rw [HR.out.1, HR.out.2, if_neg h1, if_neg h2, if_neg h1, if_neg h2]; exact ⟨rfl, rfl⟩)
      clear HR h1 h2
      go_enter Tryd.func30, Tryd.ntmps30
      go_wp2_with fail
      go_ret2
      exact ⟨by rw [HR'.out.1, HR'.out.2]; rfl, Below.refl _ _⟩
theorem protocols_any (k : Int) (w : World) : Calls Tryd.prog 31 #[.int .i64 k] w fun e w' => e = .returned (.tuple #[.int .i64 (protL k), .int .i64 (protH k)]) ∧ Below w.heap.size w w' := by
  have HR := Lib.hid (show protL k = (if k = 17 ∨ k = 18 then 1 else 0) ∧ protH k = (if k = 17 ∨ k = 18 then 2 else 0) from ⟨rfl, rfl⟩)
  by_cases h1 : k = 17
  · subst h1
    go_enter Tryd.func31, Tryd.ntmps31
    go_wp2_with fail
    go_ret2
    exact ⟨rfl, Below.refl _ _⟩
  · have d1 : (k == 17) = false := by simpa using h1
    by_cases h2 : k = 18
    · subst h2
      go_enter Tryd.func31, Tryd.ntmps31
      go_wp2_with fail
      go_ret2
      exact ⟨rfl, Below.refl _ _⟩
    · have d2 : (k == 18) = false := by simpa using h2
      have h3 : ¬ (k = 17 ∨ k = 18) := by omega
      have HR' := Lib.hid (show protL k = 0 ∧ protH k = 0 by rw [HR.out.1, HR.out.2, if_neg h3, if_neg h3]; exact ⟨rfl, rfl⟩)
      clear HR h1 h2 h3
      go_enter Tryd.func31, Tryd.ntmps31
      go_wp2_with fail
      go_ret2
      exact ⟨by rw [HR'.out.1, HR'.out.2]; rfl, Below.refl _ _⟩
def downB (k : Int) : Bool := (k == 2) || inR k 9 14
def upB (k : Int) : Bool := (k == 1) || inR k 3 8
theorem down_up (k : Int) : (downB k && upB k) = false := by
  unfold downB upB inR
  rw [Bool.eq_false_iff]
  intro h
  simp only [Bool.and_eq_true, Bool.or_eq_true, beq_iff_eq, decide_eq_true_eq] at h
  omega
theorem down_any (k : Int) (w : World) : Calls Tryd.prog 11 #[.int .i64 k] w fun e w' => e = .returned (.bool (downB k)) ∧ Below w.heap.size w w' := by
  have HW := Lib.hid (fun w' => within_any k 9 14 w')
  have HR := Lib.hid (show downB k = ((k == 2) || inR k 9 14) from rfl)
  cases h1 : (k == 2)
  · rw [h1] at HR
    go_enter Tryd.func11, Tryd.ntmps11
    go_wp2_with fail
    refine (HW.out _).mono ?_
    rintro e w' ⟨rfl, hb⟩
    have B := Lib.hid hb
    clear hb
    go_wp2_with fail
    go_ret
    exact ⟨by rw [HR.out]; rfl, B.out⟩
  · rw [h1] at HR
    go_enter Tryd.func11, Tryd.ntmps11
    go_wp2_with fail
    go_ret
    exact ⟨by rw [HR.out]; rfl, Below.refl _ _⟩
theorem up_any (k : Int) (w : World) : Calls Tryd.prog 13 #[.int .i64 k] w fun e w' => e = .returned (.bool (upB k)) ∧ Below w.heap.size w w' := by
  have HW := Lib.hid (fun w' => within_any k 3 8 w')
  have HR := Lib.hid (show upB k = ((k == 1) || inR k 3 8) from rfl)
  cases h1 : (k == 1)
  · rw [h1] at HR
    go_enter Tryd.func13, Tryd.ntmps13
    go_wp2_with fail
    refine (HW.out _).mono ?_
    rintro e w' ⟨rfl, hb⟩
    have B := Lib.hid hb
    clear hb
    go_wp2_with fail
    go_ret
    exact ⟨by rw [HR.out]; rfl, B.out⟩
  · rw [h1] at HR
    go_enter Tryd.func13, Tryd.ntmps13
    go_wp2_with fail
    go_ret
    exact ⟨by rw [HR.out]; rfl, Below.refl _ _⟩
theorem rdown_any (k : Int) (w : World) : Calls Tryd.prog 12 #[.int .i64 k] w fun e w' => e = .returned (.bool (downB k)) ∧ Below w.heap.size w w' := by
  have HR := Lib.hid (show downB k = ((k == 2) || (decide (9 ≤ k) && decide (k ≤ 14))) from rfl)
  cases h1 : (k == 2)
  all_goals
    cases h2 : decide (9 ≤ k)
    all_goals
      cases h3 : decide (k ≤ 14)
      all_goals
        rw [h1, h2, h3] at HR
        go_enter Tryd.func12, Tryd.ntmps12
        go_wp2_with fail
        go_ret
        exact ⟨by rw [HR.out]; rfl, Below.refl _ _⟩
theorem rup_any (k : Int) (w : World) : Calls Tryd.prog 14 #[.int .i64 k] w fun e w' => e = .returned (.bool (upB k)) ∧ Below w.heap.size w w' := by
  have HR := Lib.hid (show upB k = ((k == 1) || (decide (3 ≤ k) && decide (k ≤ 8))) from rfl)
  cases h1 : (k == 1)
  all_goals
    cases h2 : decide (3 ≤ k)
    all_goals
      cases h3 : decide (k ≤ 8)
      all_goals
        rw [h1, h2, h3] at HR
        go_enter Tryd.func14, Tryd.ntmps14
        go_wp2_with fail
        go_ret
        exact ⟨by rw [HR.out]; rfl, Below.refl _ _⟩
/-! ### Answer -/
def answerM (m : Msg) (k c : Int) : Msg := ⟨k, m.t, m.f, m.n, m.s, m.r, m.p, 0, c⟩
theorem answer_any (m : Msg) (k c : Int) (w : World) : Calls Tryd.prog 10 #[msgV m, .int .i64 k, .int .i64 c] w fun e w' => e = .returned (msgV (answerM m k c)) ∧ Below w.heap.size w w' := by
  obtain ⟨a0, a1, a2, a3, a4, a5, a6, a7, a8⟩ := m
  unfold msgV answerM
  simp only
  have B := Lib.hid (below_alloc (below_alloc1 w (.cells #[.int .i64 a0, .int .i64 a1, .int .i64 a2, .int .i64 a3, .int .i64 a4, .int .i64 a5, .int .i64 a6, .int .i64 a7, .int .i64 a8] 25)) (.cells #[.int .i64 0, .int .i64 0, .int .i64 0, .int .i64 0, .int .i64 0, .int .i64 0, .int .i64 0, .int .i64 0, .int .i64 0] 25))
  have N := Lib.hid ((Blk.new w 25 #[.int .i64 a0, .int .i64 a1, .int .i64 a2, .int .i64 a3, .int .i64 a4, .int .i64 a5, .int .i64 a6, .int .i64 a7, .int .i64 a8]).alloc (.cells #[.int .i64 0, .int .i64 0, .int .i64 0, .int .i64 0, .int .i64 0, .int .i64 0, .int .i64 0, .int .i64 0, .int .i64 0] 25))
  have M := Lib.hid (show Blk ((w.alloc (.cells #[.int .i64 a0, .int .i64 a1, .int .i64 a2, .int .i64 a3, .int .i64 a4, .int .i64 a5, .int .i64 a6, .int .i64 a7, .int .i64 a8] 25)).alloc (.cells #[.int .i64 0, .int .i64 0, .int .i64 0, .int .i64 0, .int .i64 0, .int .i64 0, .int .i64 0, .int .i64 0, .int .i64 0] 25)) (w.heap.size + 1) 25 #[.int .i64 0, .int .i64 0, .int .i64 0, .int .i64 0, .int .i64 0, .int .i64 0, .int .i64 0, .int .i64 0, .int .i64 0] from by
    have := Blk.new (w.alloc (.cells #[.int .i64 a0, .int .i64 a1, .int .i64 a2, .int .i64 a3, .int .i64 a4, .int .i64 a5, .int .i64 a6, .int .i64 a7, .int .i64 a8] 25)) 25 #[.int .i64 0, .int .i64 0, .int .i64 0, .int .i64 0, .int .i64 0, .int .i64 0, .int .i64 0, .int .i64 0, .int .i64 0]
    rwa [World.size_alloc] at this)
  have n0 := (N.out.cell 0).trans rfl
  have n1 := (N.out.cell 1).trans rfl
  have n2 := (N.out.cell 2).trans rfl
  have n3 := (N.out.cell 3).trans rfl
  have n4 := (N.out.cell 4).trans rfl
  have n5 := (N.out.cell 5).trans rfl
  have n6 := (N.out.cell 6).trans rfl
  have n7 := (N.out.cell 7).trans rfl
  have n8 := (N.out.cell 8).trans rfl
  go_enter Tryd.func10, Tryd.ntmps10
  go_wp2_with (refine wpList_store (.tmp 6) (.tmp 19) 25 rfl rfl (w.heap.size + 1) 0 _ _ #[.int .i64 k, .int .i64 a2, .int .i64 a1, .int .i64 a3, .int .i64 a4, .int .i64 a5, .int .i64 a6, .int .i64 0, .int .i64 c] rfl rfl M.out (by kernel_rfl) (by simp [Value.oneCell']) (by simp) ?_)
  intro w7 hn7 ko7
  have h7 : Blk w7 (w.heap.size + 1) 25 #[.int .i64 k, .int .i64 a2, .int .i64 a1, .int .i64 a3, .int .i64 a4, .int .i64 a5, .int .i64 a6, .int .i64 0, .int .i64 c] := hn7
  have q0 := (h7.cell 0).trans rfl
  have q1 := (h7.cell 1).trans rfl
  have q2 := (h7.cell 2).trans rfl
  have q3 := (h7.cell 3).trans rfl
  have q4 := (h7.cell 4).trans rfl
  have q5 := (h7.cell 5).trans rfl
  have q6 := (h7.cell 6).trans rfl
  have q7 := (h7.cell 7).trans rfl
  have q8 := (h7.cell 8).trans rfl
  go_wp2_with fail
  refine bodyPost_ret (v := .agg #[.int .i64 k, .int .i64 a2, .int .i64 a1, .int .i64 a3, .int .i64 a4, .int .i64 a5, .int .i64 a6, .int .i64 0, .int .i64 c]) (by simp [results, Tryd.results10, go_sem, q0, q1, q2, q3, q4, q5, q6, q7, q8]) rfl ?_
  exact ⟨rfl, B.out.trans (ko7.below (Nat.le_succ _))⟩
end Go.Proofs.YtpbgappggmcmgaaDoor
