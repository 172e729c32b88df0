/-
  FltWalk: the document's order by ranks.
-/
import Derived.Test.YtejdnpbkljdahaaDoorFltWalk0
namespace Go.Proofs.YtejdnpbkljdahaaDoor
open Go.RowKit

theorem rank_any (x : Nat) (hx : x < 18446744073709551616) (w : World) :
    Calls Tryd.prog 44 #[.float .f64 x] w (Gives w (.tuple #[.bool (rankF x), .int .u64 (rankN x)])) := by
  go_enter Tryd.func44, Tryd.ntmps44
  go_wp2_with fail
  refine (refnan_any x w).mono ?_
  rintro e w1 ⟨rfl, hb1⟩
  cases hn : isNan x
  · go_wp2_with fail
    refine (raw_any x w1).mono ?_
    rintro e w2 ⟨rfl, hb2⟩
    have hb := hb1.trans (hb2.mono hb1.size)
    by_cases h3 : 9223372036854775808 ≤ x
    · have hd : decide ((9223372036854775808 : Int) ≤ (x : Int)) = true := by simp; omega
      have HC := Lib.hid (show rankF x = false ∧ rankN x = 9223372036854775807 - ((x : Int) - 9223372036854775808) by unfold rankF rankN; rw [hn, if_pos h3]; simp; omega)
      have HX := Lib.hid hx
      go_wp2_with fail
      go_ret2
      exact ⟨by rw [HC.out.1, HC.out.2]; rfl, hb⟩
    · have hd : decide ((9223372036854775808 : Int) ≤ (x : Int)) = false := by simp; omega
      have HC := Lib.hid (show rankF x = true ∧ rankN x = (x : Int) by unfold rankF rankN; rw [hn, if_neg h3]; simp; omega)
      go_wp2_with fail
      go_ret2
      exact ⟨by rw [HC.out.1, HC.out.2]; rfl, hb⟩
  · have HC := Lib.hid (show rankF x = true ∧ rankN x = 18446744073709551615 by unfold rankF rankN; rw [hn]; simp)
    go_wp2_with fail
    go_ret2
    exact ⟨by rw [HC.out.1, HC.out.2]; rfl, hb1⟩
def refPick (p q : Bool) (c : Int) : Int := if !p && q then -1 else if p && !q then 1 else c
theorem reforder_any (x y : Nat) (hx : x < 18446744073709551616) (hy : y < 18446744073709551616) (w : World) :
    Calls Tryd.prog 33 #[.float .f64 x, .float .f64 y] w (Gives w (.int .i64 (cmpI (place x) (place y)))) := by
  rw [← refOrdN_eq hx hy]
  go_enter Tryd.func33, Tryd.ntmps33
  go_wp2_with fail
  refine (rank_any x hx w).mono ?_
  rintro e w1 ⟨rfl, hb1⟩
  go_wp2_with fail
  refine (rank_any y hy w1).mono ?_
  rintro e w2 ⟨rfl, hb2⟩
  have hb := hb1.trans (hb2.mono hb1.size)
  have HC := Lib.hid (show refOrdN x y = refPick (rankF x) (rankF y) (cmpI (rankN x) (rankN y)) from rfl)
  generalize rankF x = p at *
  generalize rankF y = q at *
  generalize rankN x = m at *
  generalize rankN y = n at *
  cases p <;> cases q
  case false.true =>
    go_wp2_with fail
    go_ret
    exact ⟨by rw [HC.out]; rfl, hb⟩
  case true.false =>
    go_wp2_with fail
    go_ret
    exact ⟨by rw [HC.out]; rfl, hb⟩
  all_goals
    by_cases h1 : m < n
    · have d1 : decide (m < n) = true := by simp [h1]
      have HD := Lib.hid (show cmpI m n = -1 by unfold cmpI; rw [if_pos h1])
      clear h1
      go_wp2_with fail
      go_ret
      exact ⟨by rw [HC.out, HD.out]; rfl, hb⟩
    · have d1 : decide (m < n) = false := by simp; omega
      by_cases h2 : n < m
      · have d2 : decide (n < m) = true := by simp [h2]
        have HD := Lib.hid (show cmpI m n = 1 by unfold cmpI; rw [if_neg h1, if_pos h2])
        clear h1 h2
        go_wp2_with fail
        go_ret
        exact ⟨by rw [HC.out, HD.out]; rfl, hb⟩
      · have d2 : decide (n < m) = false := by simp; omega
        have HD := Lib.hid (show cmpI m n = 0 by unfold cmpI; rw [if_neg h1, if_neg h2])
        clear h1 h2
        go_wp2_with fail
        go_ret
        exact ⟨by rw [HC.out, HD.out]; rfl, hb⟩
end Go.Proofs.YtejdnpbkljdahaaDoor
