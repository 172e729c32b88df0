/-
  RefXA: bytes and signs of names and texts: the document's walks.
  RefXB: names and signs: the document's walks.
-/
import Derived.Test.YtkghpmpmcafhkaaGreatDoorPB
import Derived.Test.YtkghpmpmcafhkaaGreatDoorPA
namespace Go.Proofs.YtkghpmpmcafhkaaGreatDoor
open Go.RowKit

theorem rletter_any (c : UInt8) (w : World) : Calls Tryz.prog 144 #[.int .u8 c.toNat] w fun e w' => e = .returned (.bool (letB c)) ∧ w' = w := by
  have HX := Lib.hid (letB_I c)
  generalize ho : letB c = o at *
  clear ho
  generalize hz : (c.toNat : Int) = z at *
  clear hz
  cases h1 : decide (97 ≤ z) <;> cases h2 : decide (z ≤ 122) <;> cases h3 : decide (65 ≤ z) <;> cases h4 : decide (z ≤ 90) <;> cases h5 : (z == 95) <;> rw [h1, h2, h3, h4, h5] at HX
  all_goals
    obtain rfl : o = _ := HX.out
    clear HX
    go_enter Tryz.func144, Tryz.ntmps144
    go_wp2_with fail
    go_ret
    exact ⟨rfl, rfl⟩
theorem rmore_any (c : UInt8) (w : World) : Calls Tryz.prog 143 #[.int .u8 c.toNat] w fun e w' => e = .returned (.bool (sgnB c)) ∧ w' = w := by
  have HX := Lib.hid (sgnB_I c)
  have HL := Lib.hid (rletter_any c w)
  generalize ho : sgnB c = o at *
  clear ho
  generalize hl : letB c = b at *
  clear hl
  generalize hz : (c.toNat : Int) = z at *
  clear hz
  cases b <;> cases h2 : decide (48 ≤ z) <;> cases h3 : decide (z ≤ 57) <;> cases h4 : (z == 45) <;> cases h5 : (z == 46) <;> rw [h2, h3, h4, h5] at HX
  all_goals
    obtain rfl : o = _ := HX.out
    clear HX
    go_enter Tryz.func143, Tryz.ntmps143
    go_wp2_with (go_at_call 144; refine HL.out.mono ?_)
    rintro e w1 ⟨rfl, rfl⟩
    go_wp2_with fail
    go_ret
    exact ⟨rfl, rfl⟩
end Go.Proofs.YtkghpmpmcafhkaaGreatDoor

namespace Go.Proofs.YtkghpmpmcafhkaaGreatDoor
open Go.RowKit

theorem mayB_J (r : Nat) : mayB r = (((r : Int) == 9) || ((r : Int) == 10) || ((r : Int) == 13) || (decide (32 ≤ (r : Int)) && decide ((r : Int) < 55296)) || (decide (57343 < (r : Int)) && decide ((r : Int) ≤ 1114111) && ((r : Int) != 65534) && ((r : Int) != 65535))) := by
  rw [Bool.eq_iff_iff]
  unfold mayB
  simp only [Bool.or_eq_true, Bool.and_eq_true, beq_iff_eq, decide_eq_true_eq, bne_iff_ne]
  omega
theorem ne_I {z k : Int} {b : Bool} (h : (z == k) = b) : (z != k) = !b := by rw [← h]; rfl
set_option maxHeartbeats 2000000 in
theorem rmay_any (r : Nat) (w : World) : Calls Tryz.prog 62 #[.int .i64 r] w fun e w' => e = .returned (.bool (mayB r)) ∧ w' = w := by
  have HX := Lib.hid (mayB_J r)
  generalize ho : mayB r = o at *
  clear ho
  generalize hz : (r : Int) = z at *
  clear hz
  cases h1 : (z == 9)
  rotate_left 1
  · rw [h1] at HX
    obtain rfl : o = true := HX.out
    clear HX
    go_enter Tryz.func62, Tryz.ntmps62
    go_wp2_with fail
    go_ret
    exact ⟨rfl, rfl⟩
  cases h2 : (z == 10)
  rotate_left 1
  · rw [h1, h2] at HX
    obtain rfl : o = true := HX.out
    clear HX
    go_enter Tryz.func62, Tryz.ntmps62
    go_wp2_with fail
    go_ret
    exact ⟨rfl, rfl⟩
  cases h3 : (z == 13)
  rotate_left 1
  · rw [h1, h2, h3] at HX
    obtain rfl : o = true := HX.out
    clear HX
    go_enter Tryz.func62, Tryz.ntmps62
    go_wp2_with fail
    go_ret
    exact ⟨rfl, rfl⟩
  rw [h1, h2, h3] at HX
  cases h4 : decide (32 ≤ z) <;> cases h5 : decide (z < 55296) <;> cases h6 : decide (57343 < z) <;> cases h7 : decide (z ≤ 1114111) <;> cases h8 : (z == 65534) <;> cases h9 : (z == 65535) <;> rw [h4, h5, h6, h7, ne_I h8, ne_I h9] at HX
  all_goals
    obtain rfl : o = _ := HX.out
    clear HX
    have n8 := ne_I h8
    have n9 := ne_I h9
    go_enter Tryz.func62, Tryz.ntmps62
    go_wp2_with fail
    go_ret
    exact ⟨rfl, rfl⟩
set_option maxHeartbeats 2000000 in
theorem rname_any (l : List UInt8) (hm : l.length ≤ 1099511627776) (w : World) : Calls Tryz.prog 114 #[.string (bs l)] w fun e w' => e = .returned (.bool (nameB l)) ∧ w' = w := by
  have hsz := bs_size l
  rw [← refN_name]
  obtain ⟨R, hR⟩ : ∃ R, refN l 1 0 = R := ⟨_, rfl⟩
  rw [hR]
  have HR := Lib.hid hR
  clear hR
  go_enter Tryz.func114, Tryz.ntmps114
  go_wp2_with fail
  go_loop [3, 4, 5] (fun p n i => ∃ pp nn k : Nat, k ≤ l.length ∧ nn ≤ 64 ∧ (pp = 1 ∨ pp = 2) ∧ p = .int .i64 pp ∧ n = .int .i64 nn ∧ i = .int .i64 k ∧ refN (l.drop k) pp nn = R) (fun p n i => l.length - (intOf i).toNat)
  case atStart => exact ⟨1, 0, 0, by omega, by omega, .inl rfl, rfl, rfl, rfl, HR.out⟩
  case round =>
    obtain ⟨pp, nn, k, hk, hn, hp, rfl, rfl, rfl, hgo⟩ := hrel
    by_cases hlt : k < l.length
    · have hki : (k : Int) < ((bs l).size : Int) := by rw [hsz]; omega
      have hlk : (bs l)[k]'(by rw [hsz]; exact hlt) = l[k] := rfl
      rw [List.drop_eq_getElem_cons hlt] at hgo
      have hgo2 : (if l[k] = 58 then (if nn = 0 ∨ pp = 2 then false else refN (l.drop (k + 1)) 2 0) else if sgnB l[k] = false ∨ (nn = 0 ∧ letB l[k] = false) ∨ nn = 64 then false else refN (l.drop (k + 1)) pp (nn + 1)) = R := by rw [← hgo]; rw [refN]
      clear hgo
      have hnz : ((nn : Int) == 0) = decide (nn = 0) := by rw [Bool.eq_iff_iff]; simp
      have hn64 : ((nn : Int) == 64) = decide (nn = 64) := by rw [Bool.eq_iff_iff]; simp; omega
      have hp2 : ((pp : Int) == 2) = decide (pp = 2) := by rw [Bool.eq_iff_iff]; simp; omega
      by_cases h58 : l[k] = 58
      · have hz : ((l[k].toNat : Int) == 58) = true := by rw [h58]; rfl
        rw [if_pos h58] at hgo2
        by_cases h0 : nn = 0
        · rw [if_pos (.inl h0)] at hgo2
          rw [decide_eq_true h0] at hnz
          clear hn64 hp2
          subst hgo2
          go_wp2_with fail
          go_ret
          exact ⟨rfl, rfl⟩
        rw [decide_eq_false h0] at hnz
        by_cases h2 : pp = 2
        · rw [if_pos (.inr h2)] at hgo2
          rw [decide_eq_true h2] at hp2
          clear hn64
          subst hgo2
          go_wp2_with fail
          go_ret
          exact ⟨rfl, rfl⟩
        rw [if_neg (by omega)] at hgo2
        rw [decide_eq_false h2] at hp2
        clear hn64
        go_wp2_with fail
        go_round
        case rel => exact ⟨2, 0, k + 1, by omega, by omega, .inr rfl, rfl, rfl, by go_num, hgo2⟩
        case measure => simp [intOf]; omega
      · have hz : ((l[k].toNat : Int) == 58) = false := by
          rw [beq_eq_false_iff_ne]
          intro h
          exact h58 (UInt8.toNat_inj.1 (by have : (58 : UInt8).toNat = 58 := rfl; omega))
        rw [if_neg h58] at hgo2
        have HS := Lib.hid (rmore_any l[k] w)
        have HL := Lib.hid (rletter_any l[k] w)
        clear hp2
        cases hs : sgnB l[k] <;> rw [hs] at HS hgo2
        · rw [if_pos (.inl rfl)] at hgo2
          subst hgo2
          clear HL hnz hn64
          go_wp2_with (go_at_call 143; refine HS.out.mono ?_; rintro e w2 ⟨rfl, rfl⟩)
          go_ret
          exact ⟨rfl, rfl⟩
        by_cases h0 : nn = 0
        · rw [decide_eq_true h0] at hnz
          have hn64' : ((nn : Int) == 64) = false := by rw [hn64]; exact decide_eq_false (by omega)
          clear hn64
          cases hl : letB l[k] <;> rw [hl] at HL hgo2
          · rw [if_pos (.inr (.inl ⟨h0, rfl⟩))] at hgo2
            subst hgo2
            go_wp2_with (first | (go_at_call 143; refine HS.out.mono ?_; rintro e w2 ⟨rfl, rfl⟩) | (go_at_call 144; refine HL.out.mono ?_; rintro e w2 ⟨rfl, rfl⟩))
            go_ret
            exact ⟨rfl, rfl⟩
          · rw [if_neg (by rintro (h | ⟨_, h⟩ | h); cases h; cases h; omega)] at hgo2
            go_wp2_with (first | (go_at_call 143; refine HS.out.mono ?_; rintro e w2 ⟨rfl, rfl⟩) | (go_at_call 144; refine HL.out.mono ?_; rintro e w2 ⟨rfl, rfl⟩))
            go_round
            case rel => exact ⟨pp, nn + 1, k + 1, by omega, by omega, hp, rfl, by go_num, by go_num, hgo2⟩
            case measure => simp [intOf]; omega
        rw [decide_eq_false h0] at hnz
        clear HL
        by_cases h64 : nn = 64
        · rw [if_pos (.inr (.inr h64))] at hgo2
          rw [decide_eq_true h64] at hn64
          subst hgo2
          go_wp2_with (go_at_call 143; refine HS.out.mono ?_; rintro e w2 ⟨rfl, rfl⟩)
          go_ret
          exact ⟨rfl, rfl⟩
        rw [decide_eq_false h64] at hn64
        rw [if_neg (by rintro (h | ⟨h, _⟩ | h); cases h; exact h0 h; exact h64 h)] at hgo2
        go_wp2_with (go_at_call 143; refine HS.out.mono ?_; rintro e w2 ⟨rfl, rfl⟩)
        go_round
        case rel => exact ⟨pp, nn + 1, k + 1, by omega, by omega, hp, rfl, by go_num, by go_num, hgo2⟩
        case measure => simp [intOf]; omega
    · obtain rfl : k = l.length := by omega
      rw [List.drop_of_length_le (Nat.le_refl _)] at hgo
      have hgo2 : decide (0 < nn) = R := by rw [← hgo]; rw [refN]
      clear hgo
      have HG2 := Lib.hid hgo2
      clear hgo2
      go_wp2_with fail
      go_ret
      exact ⟨congrArg (fun b => Ending.returned (Value.bool b)) HG2.out, rfl⟩
end Go.Proofs.YtkghpmpmcafhkaaGreatDoor
