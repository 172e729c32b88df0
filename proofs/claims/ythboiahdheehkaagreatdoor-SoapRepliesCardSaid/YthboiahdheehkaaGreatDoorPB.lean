/- XmlW0 -/
import Derived.Test.YthboiahdheehkaaGreatDoorPA
import Derived.Test.YthboiahdheehkaaGreatDoorProg
open Go.Lib renaming hid → hI
open Go.Proofs.Tryz renaming prog → pG
open Go.Ending renaming returned → R
namespace Go.Proofs.YthboiahdheehkaaGreatDoor
section
set_option maxHeartbeats 1000000
open Go.RowKit
theorem letB_I (c : UInt8) : letB c = ((decide (97 ≤ (c.toNat : Int)) && decide ((c.toNat : Int) ≤ 122)) || (decide (65 ≤ (c.toNat : Int)) && decide ((c.toNat : Int) ≤ 90)) || ((c.toNat : Int) == 95)) := by
 unfold letB
 congr 1
 ·congr 1 <;> (congr 1 <;> (rw [Bool.eq_iff_iff]; simp only [decide_eq_true_eq]; omega))
 ·rw [Bool.eq_iff_iff]
  simp only [beq_iff_eq]
  constructor
  ·rintro rfl; rfl
  ·intro h; exact UInt8.toNat_inj.1 (by have : (95 : UInt8).toNat = 95 := rfl; omega)
theorem letter_any (c : UInt8) (w : World) : Calls pG 217 #[.int .u8 c.toNat] w fun e w' => e = R (.bool (letB c)) ∧ w' = w := by
 have HX := hI (letB_I c)
 generalize ho : letB c = o at *
 clear ho
 generalize hz : (c.toNat : Int) = z at *
 clear hz
 cases h1 : decide (97 ≤ z) <;> cases h2 : decide (z ≤ 122) <;> cases h3 : decide (65 ≤ z) <;> cases h4 : decide (z ≤ 90) <;> cases h5 : (z == 95) <;> rw [h1, h2, h3, h4, h5] at HX
 all_goals
  obtain rfl : o = _ := HX.out
  clear HX
  go_enter Tryz.func217, Tryz.ntmps217
  go_wp2_with fail
  go_ret
  exact ⟨rfl, rfl⟩
theorem sgnB_I (c : UInt8) : sgnB c = (letB c || (decide (48 ≤ (c.toNat : Int)) && decide ((c.toNat : Int) ≤ 57)) || ((c.toNat : Int) == 45) || ((c.toNat : Int) == 46)) := by
 unfold sgnB
 congr 1
 ·congr 1
  ·congr 1
   congr 1 <;> (congr 1 <;> exact propext ⟨fun h => (by omega), fun h => (by omega)⟩)
  ·rw [Bool.eq_iff_iff]
   simp only [beq_iff_eq]
   constructor
   ·rintro rfl; rfl
   ·intro h; exact UInt8.toNat_inj.1 (by have : (45 : UInt8).toNat = 45 := rfl; omega)
 ·rw [Bool.eq_iff_iff]
  simp only [beq_iff_eq]
  constructor
  ·rintro rfl; rfl
  ·intro h; exact UInt8.toNat_inj.1 (by have : (46 : UInt8).toNat = 46 := rfl; omega)
theorem sign_any (c : UInt8) (w : World) : Calls pG 195 #[.int .u8 c.toNat] w fun e w' => e = R (.bool (sgnB c)) ∧ w' = w := by
 have HX := hI (sgnB_I c)
 have HL := hI (letter_any c w)
 generalize ho : sgnB c = o at *
 clear ho
 generalize hl : letB c = b at *
 clear hl
 generalize hz : (c.toNat : Int) = z at *
 clear hz
 cases b <;> cases h2 : decide (48 ≤ z) <;> cases h3 : decide (z ≤ 57) <;> cases h4 : (z == 45) <;> cases h5 : (z == 46) <;> rw [h2, h3, h4, h5] at HX
 all_goals
  obtain rfl : o = _ := HX.out
  clear HX
  go_enter Tryz.func195, Tryz.ntmps195
  go_wp2_with (go_at_call 217; refine HL.out.mono ?_)
  rintro e w1 ⟨rfl, rfl⟩
  go_wp2_with fail
  go_ret
  exact ⟨rfl, rfl⟩
end
section
set_option maxHeartbeats 1000000
open Go.RowKit
theorem valid_any (z : Int) (w : World) : Calls pG 220 #[.int .i32 z] w fun e w' => e = R (.bool ((decide (0 ≤ z) && decide (z < 55296)) || (decide (57343 < z) && decide (z ≤ 1114111)))) ∧ w' = w := by
 have HX := hI (rfl : ((decide (0 ≤ z) && decide (z < 55296)) || (decide (57343 < z) && decide (z ≤ 1114111))) = ((decide (0 ≤ z) && decide (z < 55296)) || (decide (57343 < z) && decide (z ≤ 1114111))))
 generalize ho : ((decide (0 ≤ z) && decide (z < 55296)) || (decide (57343 < z) && decide (z ≤ 1114111))) = o at HX ⊢
 rw [← ho] at HX
 have HX : RowKit.Hid (o = _) := hI (ho.symm)
 clear ho
 cases h1 : decide (0 ≤ z) <;> cases h2 : decide (z < 55296) <;> cases h3 : decide (57343 < z) <;> cases h4 : decide (z ≤ 1114111) <;> rw [h1, h2, h3, h4] at HX
 all_goals
  obtain rfl : o = _ := HX.out
  clear HX
  go_enter Tryz.func220, Tryz.ntmps220
  go_wp2_with fail
  go_ret
  exact ⟨rfl, rfl⟩
theorem mayB_I (r : Nat) : mayB r = if (r : Int) < 32 then (((r : Int) == 9) || ((r : Int) == 10) || ((r : Int) == 13)) else if ((r : Int) == 65534 || (r : Int) == 65535) = true then false else ((decide (0 ≤ (r : Int)) && decide ((r : Int) < 55296)) || (decide (57343 < (r : Int)) && decide ((r : Int) ≤ 1114111))) := by
 rw [Bool.eq_iff_iff]
 unfold mayB
 (repeat' split) <;> (simp only [Bool.or_eq_true, Bool.and_eq_true, beq_iff_eq, decide_eq_true_eq, bne_iff_ne, Bool.false_eq_true, iff_false] at *; omega)
theorem may_any (r : Nat) (w : World) : Calls pG 173 #[.int .i32 r] w fun e w' => e = R (.bool (mayB r)) ∧ w' = w := by
 have HX := hI (mayB_I r)
 have HV := hI (valid_any r w)
 generalize ho : mayB r = o at *
 clear ho
 generalize hz : (r : Int) = z at *
 clear hz
 by_cases h1 : z < 32
 ·have HX2 := hI (HX.out.trans (if_pos h1))
  clear HX
  have g1 : decide (z < 32) = true := decide_eq_true h1
  clear h1
  cases h2 : (z == 9) <;> cases h3 : (z == 10) <;> cases h4 : (z == 13) <;> rw [h2, h3, h4] at HX2
  all_goals
   obtain rfl : o = _ := HX2.out
   clear HX2
   go_enter Tryz.func173, Tryz.ntmps173
   go_wp2_with fail
   go_ret
   exact ⟨rfl, rfl⟩
 ·have HX2 := hI (HX.out.trans (if_neg h1))
  clear HX
  have g1 : decide (z < 32) = false := decide_eq_false h1
  clear h1
  cases h2 : (z == 65534) <;> cases h3 : (z == 65535) <;> rw [h2, h3] at HX2
  all_goals
   obtain rfl : o = _ := HX2.out
   clear HX2
   go_enter Tryz.func173, Tryz.ntmps173
   go_wp2_with (go_at_call 220; refine HV.out.mono ?_)
   first
    | (go_ret; exact ⟨rfl, rfl⟩)
    | (rintro e w1 ⟨rfl, rfl⟩
       go_wp2_with fail
       go_ret
       exact ⟨rfl, rfl⟩)
end
section
set_option maxHeartbeats 1000000
open Go.RowKit
theorem part_any (l : List UInt8) (hm : l.length ≤ 1099511627776) (w : World) : Calls pG 169 #[.string (bs l)] w fun e w' => e = R (.bool (partB l)) ∧ w' = w := by
 have hsz := bs_size l
 by_cases hl : l = []
 ·subst hl
  have hi : (bs []).toList.isEmpty = true := by rw [bs_toList]; rfl
  go_enter Tryz.func169, Tryz.ntmps169
  go_wp2_with fail
  go_ret
  exact ⟨rfl, rfl⟩
 ·have hi : (bs l).toList.isEmpty = false := by
   rw [bs_toList]
   cases l with
   | nil => exact absurd rfl hl
   | cons c t => rfl
  have h0 : 0 < l.length := List.length_pos_iff.2 hl
  by_cases h64 : l.length ≤ 64
  ·have g64 : decide ((64 : Int) < (l.length : Int)) = false := decide_eq_false (by omega)
   have HL := hI (letter_any l[0] w)
   have hl0 : (bs l)[0]'(by rw [hsz]; exact h0) = l[0] := rfl
   have hk0 : (0 : Int) < ((bs l).size : Int) := by rw [hsz]; omega
   have HX : RowKit.Hid (partB l = (letB l[0] && l.all sgnB)) := hI (by
    unfold partB
    cases l with
    | nil => exact absurd rfl hl
    | cons c t => simp only; rw [decide_eq_true h64, Bool.true_and]; rfl)
   cases hb : letB l[0] with
   | false =>
    rw [hb] at HL HX
    have HX2 : partB l = false := HX.out
    clear HX
    generalize partB l = o at *
    subst HX2
    go_enter Tryz.func169, Tryz.ntmps169
    go_wp2_with (go_at_call 217; refine HL.out.mono ?_)
    rintro e w1 ⟨rfl, rfl⟩
    go_wp2_with fail
    go_ret
    exact ⟨rfl, rfl⟩
   | true =>
    rw [hb] at HL HX
    have HX2 : partB l = l.all sgnB := HX.out.trans (by simp)
    clear HX
    rw [HX2]
    clear HX2
    go_enter Tryz.func169, Tryz.ntmps169
    go_wp2_with (go_at_call 217; refine HL.out.mono ?_)
    rintro e w1 ⟨rfl, rfl⟩
    go_wp2_with fail
    go_loop [19] (fun i => ∃ k : Nat, k ≤ l.length ∧ i = .int .i64 k ∧ (l.take k).all sgnB = true) (fun i => l.length - (intOf i).toNat)
    case atStart => exact ⟨0, by omega, rfl, rfl⟩
    case round =>
     obtain ⟨k, hk, rfl, hall⟩ := hrel
     by_cases hlt : k < l.length
     ·have hki : (k : Int) < ((bs l).size : Int) := by rw [hsz]; omega
      have hlk : (bs l)[k]'(by rw [hsz]; exact hlt) = l[k] := rfl
      have HS := hI (sign_any l[k] w1)
      have hsn : (l.take (k + 1)).all sgnB = sgnB l[k] := by
       rw [List.take_add_one, List.getElem?_eq_getElem hlt, Option.toList_some, List.all_append, hall]
       simp
      cases hs : sgnB l[k] with
      | false =>
       rw [hs] at HS hsn
       have HX2 : l.all sgnB = false := by
        cases ha : l.all sgnB with
        | false => rfl
        | true =>
         have := List.all_eq_true.1 ha l[k] (List.getElem_mem _)
         rw [hs] at this
         cases this
       go_wp2_with (go_at_call 195; refine HS.out.mono ?_)
       go_ret
       exact ⟨congrArg (fun b => R (Value.bool b)) HX2.symm, rfl⟩
      | true =>
       rw [hs] at HS hsn
       go_wp2_with (go_at_call 195; refine HS.out.mono ?_)
       go_round
       case rel => exact ⟨k + 1, by omega, by go_num, hsn⟩
       case measure => simp [intOf]; omega
     ·obtain rfl : k = l.length := by omega
      rw [List.take_of_length_le (Nat.le_refl _)] at hall
      go_wp2_with fail
      go_ret
      exact ⟨rfl, rfl⟩
  ·have g64 : decide ((64 : Int) < (l.length : Int)) = true := decide_eq_true (by omega)
   have HX : partB l = false := by
    unfold partB
    cases l with
    | nil => rfl
    | cons c t => simp only; rw [decide_eq_false h64]; rfl
   generalize partB l = o at *
   subst HX
   go_enter Tryz.func169, Tryz.ntmps169
   go_wp2_with fail
   go_ret
   exact ⟨rfl, rfl⟩
end
end Go.Proofs.YthboiahdheehkaaGreatDoor
