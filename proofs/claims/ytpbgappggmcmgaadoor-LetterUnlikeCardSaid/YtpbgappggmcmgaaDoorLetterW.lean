/-
  LetterW: small functions of package letter, and the document's.
-/
import Derived.Test.YtpbgappggmcmgaaDoorLetterM
import Derived.Test.YtpbgappggmcmgaaDoorKeeps
import Derived.Test.YtpbgappggmcmgaaDoorStruct
namespace Go.Proofs.YtpbgappggmcmgaaDoor
open Go.RowKit Go.Extern.Stop Go.Stop Go.Extern

theorem within_any (x a b : Int) (w : World) : Calls Tryd.prog 29 #[.int .i64 x, .int .i64 a, .int .i64 b] w fun e w' => e = .returned (.bool (inR x a b)) ∧ Below w.heap.size w w' := by
  have HR := Lib.hid (show inR x a b = (decide (a ≤ x) && decide (x ≤ b)) from rfl)
  cases h1 : decide (a ≤ x)
  all_goals
    cases h2 : decide (x ≤ b)
    all_goals
      rw [h1, h2] at HR
      go_enter Tryd.func29, Tryd.ntmps29
      go_wp2_with fail
      go_ret
      exact ⟨by rw [HR.out]; rfl, Below.refl _ _⟩
theorem codes_any (k : Int) (w : World) : Calls Tryd.prog 30 #[.int .i64 k] w fun e w' => e = .returned (.tuple #[.int .i64 (codesL k), .int .i64 (codesH k)]) ∧ Below w.heap.size w w' := by
  have HR := Lib.hid (show codesL k = (if k = 19 then 1 else if k = 16 then 1 else 0) ∧ codesH k = (if k = 19 then 5 else if k = 16 then 14 else 0) from ⟨rfl, rfl⟩)
  by_cases h1 : k = 19
  · subst h1
    go_enter Tryd.func30, Tryd.ntmps30
    go_wp2_with fail
    go_ret2
    exact ⟨rfl, Below.refl _ _⟩
  · have d1 : (k == 19) = false := by simpa using h1
    by_cases h2 : k = 16
    · subst h2
      go_enter Tryd.func30, Tryd.ntmps30
      go_wp2_with fail
      go_ret2
      exact ⟨rfl, Below.refl _ _⟩
    · have d2 : (k == 16) = false := by simpa using h2
      have HR' := Lib.hid (show codesL k = 0 ∧ codesH k = 0 by rw [HR.out.1, HR.out.2, if_neg h1, if_neg h2, if_neg h1, if_neg h2]; exact ⟨rfl, rfl⟩)
      clear HR h1 h2
      go_enter Tryd.func30, Tryd.ntmps30
      go_wp2_with fail
      go_ret2
      exact ⟨by rw [HR'.out.1, HR'.out.2]; rfl, Below.refl _ _⟩
theorem protocols_any (k : Int) (w : World) : Calls Tryd.prog 31 #[.int .i64 k] w fun e w' => e = .returned (.tuple #[.int .i64 (protL k), .int .i64 (protH k)]) ∧ Below w.heap.size w w' := by
  have HR := Lib.hid (show protL k = (if k = 17 ∨ k = 18 then 1 else 0) ∧ protH k = (if k = 17 ∨ k = 18 then 2 else 0) from ⟨rfl, rfl⟩)
  by_cases h1 : k = 17
  · subst h1
    go_enter Tryd.func31, Tryd.ntmps31
    go_wp2_with fail
    go_ret2
    exact ⟨rfl, Below.refl _ _⟩
  · have d1 : (k == 17) = false := by simpa using h1
    by_cases h2 : k = 18
    · subst h2
      go_enter Tryd.func31, Tryd.ntmps31
      go_wp2_with fail
      go_ret2
      exact ⟨rfl, Below.refl _ _⟩
    · have d2 : (k == 18) = false := by simpa using h2
      have h3 : ¬ (k = 17 ∨ k = 18) := by omega
      have HR' := Lib.hid (show protL k = 0 ∧ protH k = 0 by rw [HR.out.1, HR.out.2, if_neg h3, if_neg h3]; exact ⟨rfl, rfl⟩)
      clear HR h1 h2 h3
      go_enter Tryd.func31, Tryd.ntmps31
      go_wp2_with fail
      go_ret2
      exact ⟨by rw [HR'.out.1, HR'.out.2]; rfl, Below.refl _ _⟩
def downB (k : Int) : Bool := (k == 2) || inR k 9 14
def upB (k : Int) : Bool := (k == 1) || inR k 3 8
theorem down_up (k : Int) : (downB k && upB k) = false := by
  unfold downB upB inR
  rw [Bool.eq_false_iff]
  intro h
  simp only [Bool.and_eq_true, Bool.or_eq_true, beq_iff_eq, decide_eq_true_eq] at h
  omega
theorem down_any (k : Int) (w : World) : Calls Tryd.prog 11 #[.int .i64 k] w fun e w' => e = .returned (.bool (downB k)) ∧ Below w.heap.size w w' := by
  have HW := Lib.hid (fun w' => within_any k 9 14 w')
  have HR := Lib.hid (show downB k = ((k == 2) || inR k 9 14) from rfl)
  cases h1 : (k == 2)
  · rw [h1] at HR
    go_enter Tryd.func11, Tryd.ntmps11
    go_wp2_with fail
    refine (HW.out _).mono ?_
    rintro e w' ⟨rfl, hb⟩
    have B := Lib.hid hb
    clear hb
    go_wp2_with fail
    go_ret
    exact ⟨by rw [HR.out]; rfl, B.out⟩
  · rw [h1] at HR
    go_enter Tryd.func11, Tryd.ntmps11
    go_wp2_with fail
    go_ret
    exact ⟨by rw [HR.out]; rfl, Below.refl _ _⟩
theorem up_any (k : Int) (w : World) : Calls Tryd.prog 13 #[.int .i64 k] w fun e w' => e = .returned (.bool (upB k)) ∧ Below w.heap.size w w' := by
  have HW := Lib.hid (fun w' => within_any k 3 8 w')
  have HR := Lib.hid (show upB k = ((k == 1) || inR k 3 8) from rfl)
  cases h1 : (k == 1)
  · rw [h1] at HR
    go_enter Tryd.func13, Tryd.ntmps13
    go_wp2_with fail
    refine (HW.out _).mono ?_
    rintro e w' ⟨rfl, hb⟩
    have B := Lib.hid hb
    clear hb
    go_wp2_with fail
    go_ret
    exact ⟨by rw [HR.out]; rfl, B.out⟩
  · rw [h1] at HR
    go_enter Tryd.func13, Tryd.ntmps13
    go_wp2_with fail
    go_ret
    exact ⟨by rw [HR.out]; rfl, Below.refl _ _⟩
theorem rdown_any (k : Int) (w : World) : Calls Tryd.prog 12 #[.int .i64 k] w fun e w' => e = .returned (.bool (downB k)) ∧ Below w.heap.size w w' := by
  have HR := Lib.hid (show downB k = ((k == 2) || (decide (9 ≤ k) && decide (k ≤ 14))) from rfl)
  cases h1 : (k == 2)
  all_goals
    cases h2 : decide (9 ≤ k)
    all_goals
      cases h3 : decide (k ≤ 14)
      all_goals
        rw [h1, h2, h3] at HR
        go_enter Tryd.func12, Tryd.ntmps12
        go_wp2_with fail
        go_ret
        exact ⟨by rw [HR.out]; rfl, Below.refl _ _⟩
theorem rup_any (k : Int) (w : World) : Calls Tryd.prog 14 #[.int .i64 k] w fun e w' => e = .returned (.bool (upB k)) ∧ Below w.heap.size w w' := by
  have HR := Lib.hid (show upB k = ((k == 1) || (decide (3 ≤ k) && decide (k ≤ 8))) from rfl)
  cases h1 : (k == 1)
  all_goals
    cases h2 : decide (3 ≤ k)
    all_goals
      cases h3 : decide (k ≤ 8)
      all_goals
        rw [h1, h2, h3] at HR
        go_enter Tryd.func14, Tryd.ntmps14
        go_wp2_with fail
        go_ret
        exact ⟨by rw [HR.out]; rfl, Below.refl _ _⟩
/-! ### Answer -/
def answerM (m : Msg) (k c : Int) : Msg := ⟨k, m.t, m.f, m.n, m.s, m.r, m.p, 0, c⟩
theorem answer_any (m : Msg) (k c : Int) (w : World) : Calls Tryd.prog 10 #[msgV m, .int .i64 k, .int .i64 c] w fun e w' => e = .returned (msgV (answerM m k c)) ∧ Below w.heap.size w w' := by
  obtain ⟨a0, a1, a2, a3, a4, a5, a6, a7, a8⟩ := m
  unfold msgV answerM
  simp only
  have B := Lib.hid (below_alloc (below_alloc1 w (.cells #[.int .i64 a0, .int .i64 a1, .int .i64 a2, .int .i64 a3, .int .i64 a4, .int .i64 a5, .int .i64 a6, .int .i64 a7, .int .i64 a8] 25)) (.cells #[.int .i64 0, .int .i64 0, .int .i64 0, .int .i64 0, .int .i64 0, .int .i64 0, .int .i64 0, .int .i64 0, .int .i64 0] 25))
  have N := Lib.hid ((Blk.new w 25 #[.int .i64 a0, .int .i64 a1, .int .i64 a2, .int .i64 a3, .int .i64 a4, .int .i64 a5, .int .i64 a6, .int .i64 a7, .int .i64 a8]).alloc (.cells #[.int .i64 0, .int .i64 0, .int .i64 0, .int .i64 0, .int .i64 0, .int .i64 0, .int .i64 0, .int .i64 0, .int .i64 0] 25))
  have M := Lib.hid (show Blk ((w.alloc (.cells #[.int .i64 a0, .int .i64 a1, .int .i64 a2, .int .i64 a3, .int .i64 a4, .int .i64 a5, .int .i64 a6, .int .i64 a7, .int .i64 a8] 25)).alloc (.cells #[.int .i64 0, .int .i64 0, .int .i64 0, .int .i64 0, .int .i64 0, .int .i64 0, .int .i64 0, .int .i64 0, .int .i64 0] 25)) (w.heap.size + 1) 25 #[.int .i64 0, .int .i64 0, .int .i64 0, .int .i64 0, .int .i64 0, .int .i64 0, .int .i64 0, .int .i64 0, .int .i64 0] from by
    have := Blk.new (w.alloc (.cells #[.int .i64 a0, .int .i64 a1, .int .i64 a2, .int .i64 a3, .int .i64 a4, .int .i64 a5, .int .i64 a6, .int .i64 a7, .int .i64 a8] 25)) 25 #[.int .i64 0, .int .i64 0, .int .i64 0, .int .i64 0, .int .i64 0, .int .i64 0, .int .i64 0, .int .i64 0, .int .i64 0]
    rwa [World.size_alloc] at this)
  have n0 := (N.out.cell 0).trans rfl
  have n1 := (N.out.cell 1).trans rfl
  have n2 := (N.out.cell 2).trans rfl
  have n3 := (N.out.cell 3).trans rfl
  have n4 := (N.out.cell 4).trans rfl
  have n5 := (N.out.cell 5).trans rfl
  have n6 := (N.out.cell 6).trans rfl
  have n7 := (N.out.cell 7).trans rfl
  have n8 := (N.out.cell 8).trans rfl
  go_enter Tryd.func10, Tryd.ntmps10
  go_wp2_with (refine wpList_store (.tmp 6) (.tmp 19) 25 rfl rfl (w.heap.size + 1) 0 _ _ #[.int .i64 k, .int .i64 a2, .int .i64 a1, .int .i64 a3, .int .i64 a4, .int .i64 a5, .int .i64 a6, .int .i64 0, .int .i64 c] rfl rfl M.out (by kernel_rfl) (by simp [Value.oneCell']) (by simp) ?_)
  intro w7 hn7 ko7
  have h7 : Blk w7 (w.heap.size + 1) 25 #[.int .i64 k, .int .i64 a2, .int .i64 a1, .int .i64 a3, .int .i64 a4, .int .i64 a5, .int .i64 a6, .int .i64 0, .int .i64 c] := hn7
  have q0 := (h7.cell 0).trans rfl
  have q1 := (h7.cell 1).trans rfl
  have q2 := (h7.cell 2).trans rfl
  have q3 := (h7.cell 3).trans rfl
  have q4 := (h7.cell 4).trans rfl
  have q5 := (h7.cell 5).trans rfl
  have q6 := (h7.cell 6).trans rfl
  have q7 := (h7.cell 7).trans rfl
  have q8 := (h7.cell 8).trans rfl
  go_wp2_with fail
  refine bodyPost_ret (v := .agg #[.int .i64 k, .int .i64 a2, .int .i64 a1, .int .i64 a3, .int .i64 a4, .int .i64 a5, .int .i64 a6, .int .i64 0, .int .i64 c]) (by simp [results, Tryd.results10, go_sem, q0, q1, q2, q3, q4, q5, q6, q7, q8]) rfl ?_
  exact ⟨rfl, B.out.trans (ko7.below (Nat.le_succ _))⟩
end Go.Proofs.YtpbgappggmcmgaaDoor
