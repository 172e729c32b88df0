/-
  BindR: the walks of the other names, and of the document's.
-/
import Derived.Test.YtdhcflghijeloaaDoorBindW
namespace Go.Proofs.YtdhcflghijeloaaDoor
open Go.RowKit
attribute [local go_sem] bs_toList bs_size

theorem stateName_any (n : Int) (w : World) (ht : Tab w 14 statesL) :
    Calls Tryd.prog 9 #[.int .i64 n] w (Gives w (.string (bs (nameF statesL n)))) := by
  have HN := Lib.hid (named_any statesL 14 n w ht (by decide))
  clear ht
  go_enter Tryd.func9, Tryd.ntmps9
  go_wp2_with fail
  refine HN.out.mono ?_
  rintro e w1 ⟨rfl, hb1⟩
  go_wp2_with fail
  go_ret
  exact ⟨rfl, hb1⟩
theorem codeName_any (n : Int) (w : World) (ht : Tab w 15 codesL) :
    Calls Tryd.prog 11 #[.int .i64 n] w (Gives w (.string (bs (nameF codesL n)))) := by
  have HN := Lib.hid (named_any codesL 15 n w ht (by decide))
  clear ht
  go_enter Tryd.func11, Tryd.ntmps11
  go_wp2_with fail
  refine HN.out.mono ?_
  rintro e w1 ⟨rfl, hb1⟩
  go_wp2_with fail
  go_ret
  exact ⟨rfl, hb1⟩
/-! ### the document's -/
theorem nameF_out (l : List (List UInt8)) (n : Int) (m : Nat) (hm : l.length = m) (h : ∀ k : Nat, 1 ≤ k → k ≤ m → n ≠ (k : Int)) : nameF l n = [] := by
  unfold nameF
  rw [if_pos]
  by_cases h1 : n < 1
  · exact .inl h1
  · right
    rw [hm]
    by_cases h2 : (m : Int) < n
    · exact h2
    · exact absurd (show n = ((n.toNat : Nat) : Int) by omega) (h n.toNat (by omega) (by omega))
set_option maxRecDepth 20000 in
set_option maxHeartbeats 4000000 in
theorem refKind_any (n : Int) (w : World) :
    Calls Tryd.prog 14 #[.int .i64 n] w (Gives w (.string (bs (nameF kindsL n)))) := by
  by_cases h1 : n = 1
  · subst h1
    go_enter Tryd.func14, Tryd.ntmps14
    go_wp2_with fail
    go_ret
    exact ⟨rfl, Below.refl _ _⟩
  by_cases h2 : n = 2
  · subst h2
    go_enter Tryd.func14, Tryd.ntmps14
    go_wp2_with fail
    go_ret
    exact ⟨rfl, Below.refl _ _⟩
  by_cases h3 : n = 3
  · subst h3
    go_enter Tryd.func14, Tryd.ntmps14
    go_wp2_with fail
    go_ret
    exact ⟨rfl, Below.refl _ _⟩
  by_cases h4 : n = 4
  · subst h4
    go_enter Tryd.func14, Tryd.ntmps14
    go_wp2_with fail
    go_ret
    exact ⟨rfl, Below.refl _ _⟩
  by_cases h5 : n = 5
  · subst h5
    go_enter Tryd.func14, Tryd.ntmps14
    go_wp2_with fail
    go_ret
    exact ⟨rfl, Below.refl _ _⟩
  by_cases h6 : n = 6
  · subst h6
    go_enter Tryd.func14, Tryd.ntmps14
    go_wp2_with fail
    go_ret
    exact ⟨rfl, Below.refl _ _⟩
  by_cases h7 : n = 7
  · subst h7
    go_enter Tryd.func14, Tryd.ntmps14
    go_wp2_with fail
    go_ret
    exact ⟨rfl, Below.refl _ _⟩
  by_cases h8 : n = 8
  · subst h8
    go_enter Tryd.func14, Tryd.ntmps14
    go_wp2_with fail
    go_ret
    exact ⟨rfl, Below.refl _ _⟩
  by_cases h9 : n = 9
  · subst h9
    go_enter Tryd.func14, Tryd.ntmps14
    go_wp2_with fail
    go_ret
    exact ⟨rfl, Below.refl _ _⟩
  by_cases h10 : n = 10
  · subst h10
    go_enter Tryd.func14, Tryd.ntmps14
    go_wp2_with fail
    go_ret
    exact ⟨rfl, Below.refl _ _⟩
  by_cases h11 : n = 11
  · subst h11
    go_enter Tryd.func14, Tryd.ntmps14
    go_wp2_with fail
    go_ret
    exact ⟨rfl, Below.refl _ _⟩
  by_cases h12 : n = 12
  · subst h12
    go_enter Tryd.func14, Tryd.ntmps14
    go_wp2_with fail
    go_ret
    exact ⟨rfl, Below.refl _ _⟩
  by_cases h13 : n = 13
  · subst h13
    go_enter Tryd.func14, Tryd.ntmps14
    go_wp2_with fail
    go_ret
    exact ⟨rfl, Below.refl _ _⟩
  by_cases h14 : n = 14
  · subst h14
    go_enter Tryd.func14, Tryd.ntmps14
    go_wp2_with fail
    go_ret
    exact ⟨rfl, Below.refl _ _⟩
  by_cases h15 : n = 15
  · subst h15
    go_enter Tryd.func14, Tryd.ntmps14
    go_wp2_with fail
    go_ret
    exact ⟨rfl, Below.refl _ _⟩
  by_cases h16 : n = 16
  · subst h16
    go_enter Tryd.func14, Tryd.ntmps14
    go_wp2_with fail
    go_ret
    exact ⟨rfl, Below.refl _ _⟩
  by_cases h17 : n = 17
  · subst h17
    go_enter Tryd.func14, Tryd.ntmps14
    go_wp2_with fail
    go_ret
    exact ⟨rfl, Below.refl _ _⟩
  by_cases h18 : n = 18
  · subst h18
    go_enter Tryd.func14, Tryd.ntmps14
    go_wp2_with fail
    go_ret
    exact ⟨rfl, Below.refl _ _⟩
  by_cases h19 : n = 19
  · subst h19
    go_enter Tryd.func14, Tryd.ntmps14
    go_wp2_with fail
    go_ret
    exact ⟨rfl, Below.refl _ _⟩
  have g1 : (n == 1) = false := by simpa using h1
  have g2 : (n == 2) = false := by simpa using h2
  have g3 : (n == 3) = false := by simpa using h3
  have g4 : (n == 4) = false := by simpa using h4
  have g5 : (n == 5) = false := by simpa using h5
  have g6 : (n == 6) = false := by simpa using h6
  have g7 : (n == 7) = false := by simpa using h7
  have g8 : (n == 8) = false := by simpa using h8
  have g9 : (n == 9) = false := by simpa using h9
  have g10 : (n == 10) = false := by simpa using h10
  have g11 : (n == 11) = false := by simpa using h11
  have g12 : (n == 12) = false := by simpa using h12
  have g13 : (n == 13) = false := by simpa using h13
  have g14 : (n == 14) = false := by simpa using h14
  have g15 : (n == 15) = false := by simpa using h15
  have g16 : (n == 16) = false := by simpa using h16
  have g17 : (n == 17) = false := by simpa using h17
  have g18 : (n == 18) = false := by simpa using h18
  have g19 : (n == 19) = false := by simpa using h19
  have HN := Lib.hid (nameF_out kindsL n 19 rfl (fun k a b e => by omega))
  clear h1 h2 h3 h4 h5 h6 h7 h8 h9 h10 h11 h12 h13 h14 h15 h16 h17 h18 h19
  go_enter Tryd.func14, Tryd.ntmps14
  go_wp2_with fail
  go_ret
  exact ⟨by rw [HN.out]; rfl, Below.refl _ _⟩
set_option maxRecDepth 20000 in
set_option maxHeartbeats 4000000 in
theorem refState_any (n : Int) (w : World) :
    Calls Tryd.prog 10 #[.int .i64 n] w (Gives w (.string (bs (nameF statesL n)))) := by
  by_cases h1 : n = 1
  · subst h1
    go_enter Tryd.func10, Tryd.ntmps10
    go_wp2_with fail
    go_ret
    exact ⟨rfl, Below.refl _ _⟩
  by_cases h2 : n = 2
  · subst h2
    go_enter Tryd.func10, Tryd.ntmps10
    go_wp2_with fail
    go_ret
    exact ⟨rfl, Below.refl _ _⟩
  by_cases h3 : n = 3
  · subst h3
    go_enter Tryd.func10, Tryd.ntmps10
    go_wp2_with fail
    go_ret
    exact ⟨rfl, Below.refl _ _⟩
  by_cases h4 : n = 4
  · subst h4
    go_enter Tryd.func10, Tryd.ntmps10
    go_wp2_with fail
    go_ret
    exact ⟨rfl, Below.refl _ _⟩
  by_cases h5 : n = 5
  · subst h5
    go_enter Tryd.func10, Tryd.ntmps10
    go_wp2_with fail
    go_ret
    exact ⟨rfl, Below.refl _ _⟩
  by_cases h6 : n = 6
  · subst h6
    go_enter Tryd.func10, Tryd.ntmps10
    go_wp2_with fail
    go_ret
    exact ⟨rfl, Below.refl _ _⟩
  by_cases h7 : n = 7
  · subst h7
    go_enter Tryd.func10, Tryd.ntmps10
    go_wp2_with fail
    go_ret
    exact ⟨rfl, Below.refl _ _⟩
  by_cases h8 : n = 8
  · subst h8
    go_enter Tryd.func10, Tryd.ntmps10
    go_wp2_with fail
    go_ret
    exact ⟨rfl, Below.refl _ _⟩
  by_cases h9 : n = 9
  · subst h9
    go_enter Tryd.func10, Tryd.ntmps10
    go_wp2_with fail
    go_ret
    exact ⟨rfl, Below.refl _ _⟩
  by_cases h10 : n = 10
  · subst h10
    go_enter Tryd.func10, Tryd.ntmps10
    go_wp2_with fail
    go_ret
    exact ⟨rfl, Below.refl _ _⟩
  by_cases h11 : n = 11
  · subst h11
    go_enter Tryd.func10, Tryd.ntmps10
    go_wp2_with fail
    go_ret
    exact ⟨rfl, Below.refl _ _⟩
  by_cases h12 : n = 12
  · subst h12
    go_enter Tryd.func10, Tryd.ntmps10
    go_wp2_with fail
    go_ret
    exact ⟨rfl, Below.refl _ _⟩
  by_cases h13 : n = 13
  · subst h13
    go_enter Tryd.func10, Tryd.ntmps10
    go_wp2_with fail
    go_ret
    exact ⟨rfl, Below.refl _ _⟩
  by_cases h14 : n = 14
  · subst h14
    go_enter Tryd.func10, Tryd.ntmps10
    go_wp2_with fail
    go_ret
    exact ⟨rfl, Below.refl _ _⟩
  have g1 : (n == 1) = false := by simpa using h1
  have g2 : (n == 2) = false := by simpa using h2
  have g3 : (n == 3) = false := by simpa using h3
  have g4 : (n == 4) = false := by simpa using h4
  have g5 : (n == 5) = false := by simpa using h5
  have g6 : (n == 6) = false := by simpa using h6
  have g7 : (n == 7) = false := by simpa using h7
  have g8 : (n == 8) = false := by simpa using h8
  have g9 : (n == 9) = false := by simpa using h9
  have g10 : (n == 10) = false := by simpa using h10
  have g11 : (n == 11) = false := by simpa using h11
  have g12 : (n == 12) = false := by simpa using h12
  have g13 : (n == 13) = false := by simpa using h13
  have g14 : (n == 14) = false := by simpa using h14
  have HN := Lib.hid (nameF_out statesL n 14 rfl (fun k a b e => by omega))
  clear h1 h2 h3 h4 h5 h6 h7 h8 h9 h10 h11 h12 h13 h14
  go_enter Tryd.func10, Tryd.ntmps10
  go_wp2_with fail
  go_ret
  exact ⟨by rw [HN.out]; rfl, Below.refl _ _⟩
set_option maxRecDepth 20000 in
set_option maxHeartbeats 4000000 in
theorem refCode_any (n : Int) (w : World) :
    Calls Tryd.prog 12 #[.int .i64 n] w (Gives w (.string (bs (nameF codesL n)))) := by
  by_cases h1 : n = 1
  · subst h1
    go_enter Tryd.func12, Tryd.ntmps12
    go_wp2_with fail
    go_ret
    exact ⟨rfl, Below.refl _ _⟩
  by_cases h2 : n = 2
  · subst h2
    go_enter Tryd.func12, Tryd.ntmps12
    go_wp2_with fail
    go_ret
    exact ⟨rfl, Below.refl _ _⟩
  by_cases h3 : n = 3
  · subst h3
    go_enter Tryd.func12, Tryd.ntmps12
    go_wp2_with fail
    go_ret
    exact ⟨rfl, Below.refl _ _⟩
  by_cases h4 : n = 4
  · subst h4
    go_enter Tryd.func12, Tryd.ntmps12
    go_wp2_with fail
    go_ret
    exact ⟨rfl, Below.refl _ _⟩
  by_cases h5 : n = 5
  · subst h5
    go_enter Tryd.func12, Tryd.ntmps12
    go_wp2_with fail
    go_ret
    exact ⟨rfl, Below.refl _ _⟩
  have g1 : (n == 1) = false := by simpa using h1
  have g2 : (n == 2) = false := by simpa using h2
  have g3 : (n == 3) = false := by simpa using h3
  have g4 : (n == 4) = false := by simpa using h4
  have g5 : (n == 5) = false := by simpa using h5
  have HN := Lib.hid (nameF_out codesL n 5 rfl (fun k a b e => by omega))
  clear h1 h2 h3 h4 h5
  go_enter Tryd.func12, Tryd.ntmps12
  go_wp2_with fail
  go_ret
  exact ⟨by rw [HN.out]; rfl, Below.refl _ _⟩
theorem refspace_any (n : Int) (w : World) :
    Calls Tryd.prog 15 #[.int .i64 n] w (Gives w (.string (bs (spaceF n)))) := by
  by_cases h : 16 < n
  · have d : decide (16 < n) = true := by simpa using h
    have HS := Lib.hid (show spaceF n = wscoorL by unfold spaceF; rw [if_pos h])
    clear h
    go_enter Tryd.func15, Tryd.ntmps15
    go_wp2_with fail
    go_ret
    exact ⟨by rw [HS.out]; rfl, Below.refl _ _⟩
  · have d : decide (16 < n) = false := by simpa using h
    have HS := Lib.hid (show spaceF n = wsbaL by unfold spaceF; rw [if_neg h])
    clear h
    go_enter Tryd.func15, Tryd.ntmps15
    go_wp2_with fail
    go_ret
    exact ⟨by rw [HS.out]; rfl, Below.refl _ _⟩
theorem refaction_any (n : Int) (w : World) :
    Calls Tryd.prog 6 #[.int .i64 n] w (Gives w (.string (bs (actF n)))) := by
  have l1 := spaceF_len n
  have l2 := kindF_len n
  go_enter Tryd.func6, Tryd.ntmps6
  go_wp2_with fail
  refine (refKind_any n w).mono ?_
  rintro e w1 ⟨rfl, hb1⟩
  rw [show nameF kindsL n = kindF n from rfl]
  by_cases hk : kindF n = []
  · have hA := Lib.hid (show actF n = [] by unfold actF; rw [if_pos hk])
    rw [hk]
    clear hk
    go_wp2_with fail
    go_ret
    exact ⟨by rw [hA.out]; rfl, hb1⟩
  · have hA := Lib.hid (show actF n = spaceF n ++ [47] ++ kindF n by unfold actF; rw [if_neg hk])
    have g1 : (kindF n == []) = false := by simpa using hk
    have g2 : (kindF n).isEmpty = false := by simpa using hk
    clear hk
    go_wp2_with fail
    refine (refspace_any n w1).mono ?_
    rintro e w2 ⟨rfl, hb2'⟩
    have hb2 := hb1.trans (hb2'.mono hb1.size)
    clear hb2'
    go_wp2_with fail
    refine (refKind_any n w2).mono ?_
    rintro e w3 ⟨rfl, hb3'⟩
    have hb3 := hb2.trans (hb3'.mono hb2.size)
    clear hb3'
    rw [show nameF kindsL n = kindF n from rfl]
    go_wp2_with fail
    go_ret
    exact ⟨by rw [hA.out, ← bs_append, ← bs_append]; rfl, hb3⟩
end Go.Proofs.YtdhcflghijeloaaDoor
