/-
  IdsR: package ids: digits, upTo, after, two.
-/
import Derived.Test.YtehdbiilbbbbpaaDoorIdsP2
import Derived.Test.YtehdbiilbbbbpaaDoorCheckP
import Derived.Test.YtehdbiilbbbbpaaDoorShelf
namespace Go.Proofs.YtehdbiilbbbbpaaDoor
open Go.RowKit Go.Extern.Stop Go.Stop Go.Extern

/-- ends with a value, or panics with the error told -/
def ExR {α : Type} (E : Nat → Addr) (x : Except Nat α) (V : α → Value) (w : World) (e : Ending) (w' : World) : Prop :=
  Below w.heap.size w w' ∧ ((∃ a, x = .ok a ∧ e = .returned (V a)) ∨ ∃ n, x = .error n ∧ n < 14 ∧ e = .panicked (panE E n))
def digX (l : List UInt8) : Except Nat Nat := match digT l with | some n => .ok n | none => .error 3
set_option maxRecDepth 20000 in
theorem digits_any (l : List UInt8) (hl : l.length ≤ 1000000) (w : World) (E : Nat → Addr) (he : Errs w E) :
    Calls Tryd.prog 34 #[.string (bs l)] w (ExR E (digX l) (fun n => .int .i64 (n : Int)) w) := by
  have cE := he.cell 3 (by omega)
  simp only [errVar, errAt, List.getD_cons_zero, List.getD_cons_succ] at cE
  have hsz := bs_size l
  by_cases h0 : l = []
  · subst h0
    have hem : (bs []).toList.isEmpty = true := by rw [bs_toList]; rfl
    go_enter Tryd.func34, Tryd.ntmps34
    go_wp2_with fail
    exact ⟨rfl, Below.refl _ _, .inr ⟨3, rfl, by omega, rfl⟩⟩
  have hpos : 0 < l.length := List.length_pos_iff.2 h0
  have hem : (bs l).toList.isEmpty = false := by
    rw [bs_toList]
    cases l with
    | nil => exact absurd rfl h0
    | cons x xs => rfl
  have hb0 := bs_get l 0 hpos
  have hsi : (0 : Int) < ((bs l).size : Int) := by rw [bs_size]; omega
  by_cases h1 : 1 < l.length ∧ l[0] = 48
  · have HX := Lib.hid (show digX l = .error 3 by
      have : headB l = false := by
        unfold headB
        have e : l.head? = some 48 := by rw [List.head?_eq_getElem?, List.getElem?_eq_getElem hpos, h1.2]
        simp [h1.1, e]
      unfold digX digT
      rw [if_neg (by rw [this]; simp)])
    obtain ⟨hl1, h48⟩ := h1
    have hx1 : ((l[0].toNat : Int) == 48) = true := by rw [h48]; rfl
    have hx2 : (l[0].toNat == 48) = true := by rw [h48]; rfl
    have hl2 : decide ((1 : Int) < ((bs l).size : Int)) = true := by rw [bs_size]; exact decide_eq_true (by omega)
    have hl3 : decide (1 < (bs l).size) = true := by rw [bs_size]; exact decide_eq_true hl1
    clear hsz h48
    go_enter Tryd.func34, Tryd.ntmps34
    go_wp2_with fail
    exact ⟨rfl, Below.refl _ _, .inr ⟨3, HX.out, by omega, rfl⟩⟩
  have HH0 := Lib.hid (show headB l = true by
    unfold headB
    have e : l.head? = some l[0] := by rw [List.head?_eq_getElem?, List.getElem?_eq_getElem hpos]
    rw [e]
    simp only [Bool.and_eq_true, Bool.not_eq_true', beq_eq_false_iff_ne, Bool.and_eq_false_iff, decide_eq_false_iff_not]
    refine ⟨h0, ?_⟩
    by_cases hl1 : 1 < l.length
    · exact .inr (fun he => h1 ⟨hl1, Option.some.inj he⟩)
    · exact .inl hl1)
  by_cases hl1 : 1 < l.length
  · have hl2 : decide ((1 : Int) < ((bs l).size : Int)) = true := by rw [bs_size]; exact decide_eq_true (by omega)
    have hl3 : decide (1 < (bs l).size) = true := by rw [bs_size]; exact decide_eq_true hl1
    have hx1 : ((l[0].toNat : Int) == 48) = false := by
      rw [beq_eq_false_iff_ne]
      intro e
      exact h1 ⟨hl1, UInt8.toNat_inj.1 (by show l[0].toNat = 48; omega)⟩
    have hx2 : (l[0].toNat == 48) = false := by
      rw [beq_eq_false_iff_ne]
      intro e
      exact h1 ⟨hl1, UInt8.toNat_inj.1 e⟩
    clear h1
    go_enter Tryd.func34, Tryd.ntmps34
    go_wp2_with fail
    clear hx1 hx2 hl1 hl2 hl3 hb0 hsi hem h0
    generalize ((l[0].toNat : Int) == 48) = b48
    generalize l[0].toNat = m0
    go_loopw [3, 20] (fun n i wr => ∃ k : Nat, k ≤ l.length ∧ i = .int .i64 k ∧ n = .int .i64 ((val7 ((l.take k).take 7) : Nat) : Int) ∧ (l.take k).all digitB = true ∧ w = wr) (fun _ i _ => l.length - (intOf i).toNat)
    case atStart => exact ⟨0, by omega, rfl, rfl, rfl, rfl⟩
    case round =>
      obtain ⟨k, hk, rfl, rfl, hall, rfl⟩ := hrel
      by_cases hlt : k < l.length
      · have hbk := bs_get l k hlt
        have hki : (k : Int) < ((bs l).size : Int) := by rw [bs_size]; omega
        have HA := Lib.hid (all_take_snoc l k hlt hall)
        have hv := val7_bd l k hall
        have HL := Lib.hid (val7_low l k hlt)
        have HH := Lib.hid (val7_high l k)
        have HNA := Lib.hid (not_all (l := l) hlt)
        have hd1 : decide ((k : Int) < ((bs l).size : Int)) = true := decide_eq_true hki
        by_cases hd : digitB l[k] = true
        · have h48 := digitB_le hd
          have h1 : decide ((l[k].toNat : Int) < 48) = false := decide_eq_false (by omega)
          have h2 : decide ((57 : Int) < (l[k].toNat : Int)) = false := decide_eq_false (by omega)
          have h3 : decide (l[k].toNat < 48) = false := decide_eq_false (by omega)
          have h4 : decide (57 < l[k].toNat) = false := decide_eq_false (by omega)
          rw [hd] at HA
          clear hd hall
          by_cases h7 : k < 7
          · have HL' := Lib.hid (HL.out h7)
            clear HL HH
            generalize val7 ((l.take k).take 7) = V at *
            obtain ⟨y, hy⟩ : ∃ y : Nat, l[k].toNat = 48 + y := ⟨l[k].toNat - 48, by omega⟩
            have hy9 : y ≤ 9 := by omega
            go_wp2_with fail
            go_roundw
            case rel => exact ⟨k + 1, by omega, by simp, by rw [HL'.out]; congr 1; omega, HA.out, by trivial⟩
            all_goals (simp [intOf]; try omega)
          · have e := HH.out (by omega)
            clear HL HH
            rw [← e] at hv ⊢
            have HV := Lib.hid (show val7 ((l.take (k + 1)).take 7) = val7 ((l.take (k + 1)).take 7) from rfl)
            generalize hg : val7 ((l.take (k + 1)).take 7) = V at *
            have HG := Lib.hid hg
            clear hg e
            go_wp2_with fail
            all_goals (go_roundw; (case rel => exact ⟨k + 1, by omega, by simp, by rw [HG.out], HA.out, by trivial⟩); all_goals (simp [intOf]; try omega))
        · have hdf : digitB l[k] = false := by simpa using hd
          have HX := Lib.hid (show digX l = .error 3 by
            unfold digX digT
            rw [if_neg (by rw [HNA.out hdf]; simp)])
          have hor : l[k].toNat < 48 ∨ 48 ≤ l[k].toNat ∧ 57 < l[k].toNat := by
            unfold digitB at hdf
            simp only [Bool.and_eq_false_iff, decide_eq_false_iff_not] at hdf
            omega
          clear hd hdf HL HH HNA HA
          rcases hor with h1 | ⟨h1, h2⟩
          · have d1 : decide ((l[k].toNat : Int) < 48) = true := decide_eq_true (by omega)
            have d2 : decide (l[k].toNat < 48) = true := decide_eq_true h1
            go_wp2_with fail
            exact ⟨rfl, Below.refl _ _, .inr ⟨3, HX.out, by omega, rfl⟩⟩
          · have d1 : decide ((l[k].toNat : Int) < 48) = false := decide_eq_false (by omega)
            have d2 : decide (l[k].toNat < 48) = false := decide_eq_false (by omega)
            have d3 : decide ((57 : Int) < (l[k].toNat : Int)) = true := decide_eq_true (by omega)
            have d4 : decide (57 < l[k].toNat) = true := decide_eq_true h2
            go_wp2_with fail
            exact ⟨rfl, Below.refl _ _, .inr ⟨3, HX.out, by omega, rfl⟩⟩
      · obtain rfl : k = l.length := by omega
        rw [List.take_length] at hall ⊢
        have HX := Lib.hid (show digX l = .ok (val7 (l.take 7)) by
          unfold digX digT
          rw [if_pos ⟨HH0.out, hall⟩])
        have hki : ¬ ((l.length : Int) < ((bs l).size : Int)) := by rw [bs_size]; omega
        go_wp2_with fail
        go_ret
        exact ⟨Below.refl _ _, .inl ⟨_, HX.out, rfl⟩⟩
  · have hl2 : decide ((1 : Int) < ((bs l).size : Int)) = false := by rw [bs_size]; exact decide_eq_false (by omega)
    have hl3 : decide (1 < (bs l).size) = false := by rw [bs_size]; exact decide_eq_false hl1
    clear h1
    go_enter Tryd.func34, Tryd.ntmps34
    go_wp2_with fail
    clear hl1 hl2 hl3 hb0 hsi hem h0
    go_loopw [3, 20] (fun n i wr => ∃ k : Nat, k ≤ l.length ∧ i = .int .i64 k ∧ n = .int .i64 ((val7 ((l.take k).take 7) : Nat) : Int) ∧ (l.take k).all digitB = true ∧ w = wr) (fun _ i _ => l.length - (intOf i).toNat)
    case atStart => exact ⟨0, by omega, rfl, rfl, rfl, rfl⟩
    case round =>
      obtain ⟨k, hk, rfl, rfl, hall, rfl⟩ := hrel
      by_cases hlt : k < l.length
      · have hbk := bs_get l k hlt
        have hki : (k : Int) < ((bs l).size : Int) := by rw [bs_size]; omega
        have HA := Lib.hid (all_take_snoc l k hlt hall)
        have hv := val7_bd l k hall
        have HL := Lib.hid (val7_low l k hlt)
        have HH := Lib.hid (val7_high l k)
        have HNA := Lib.hid (not_all (l := l) hlt)
        have hd1 : decide ((k : Int) < ((bs l).size : Int)) = true := decide_eq_true hki
        by_cases hd : digitB l[k] = true
        · have h48 := digitB_le hd
          have h1 : decide ((l[k].toNat : Int) < 48) = false := decide_eq_false (by omega)
          have h2 : decide ((57 : Int) < (l[k].toNat : Int)) = false := decide_eq_false (by omega)
          have h3 : decide (l[k].toNat < 48) = false := decide_eq_false (by omega)
          have h4 : decide (57 < l[k].toNat) = false := decide_eq_false (by omega)
          rw [hd] at HA
          clear hd hall
          by_cases h7 : k < 7
          · have HL' := Lib.hid (HL.out h7)
            clear HL HH
            generalize val7 ((l.take k).take 7) = V at *
            obtain ⟨y, hy⟩ : ∃ y : Nat, l[k].toNat = 48 + y := ⟨l[k].toNat - 48, by omega⟩
            have hy9 : y ≤ 9 := by omega
            go_wp2_with fail
            go_roundw
            case rel => exact ⟨k + 1, by omega, by simp, by rw [HL'.out]; congr 1; omega, HA.out, by trivial⟩
            all_goals (simp [intOf]; try omega)
          · have e := HH.out (by omega)
            clear HL HH
            rw [← e] at hv ⊢
            have HV := Lib.hid (show val7 ((l.take (k + 1)).take 7) = val7 ((l.take (k + 1)).take 7) from rfl)
            generalize hg : val7 ((l.take (k + 1)).take 7) = V at *
            have HG := Lib.hid hg
            clear hg e
            go_wp2_with fail
            all_goals (go_roundw; (case rel => exact ⟨k + 1, by omega, by simp, by rw [HG.out], HA.out, by trivial⟩); all_goals (simp [intOf]; try omega))
        · have hdf : digitB l[k] = false := by simpa using hd
          have HX := Lib.hid (show digX l = .error 3 by
            unfold digX digT
            rw [if_neg (by rw [HNA.out hdf]; simp)])
          have hor : l[k].toNat < 48 ∨ 48 ≤ l[k].toNat ∧ 57 < l[k].toNat := by
            unfold digitB at hdf
            simp only [Bool.and_eq_false_iff, decide_eq_false_iff_not] at hdf
            omega
          clear hd hdf HL HH HNA HA
          rcases hor with h1 | ⟨h1, h2⟩
          · have d1 : decide ((l[k].toNat : Int) < 48) = true := decide_eq_true (by omega)
            have d2 : decide (l[k].toNat < 48) = true := decide_eq_true h1
            go_wp2_with fail
            exact ⟨rfl, Below.refl _ _, .inr ⟨3, HX.out, by omega, rfl⟩⟩
          · have d1 : decide ((l[k].toNat : Int) < 48) = false := decide_eq_false (by omega)
            have d2 : decide (l[k].toNat < 48) = false := decide_eq_false (by omega)
            have d3 : decide ((57 : Int) < (l[k].toNat : Int)) = true := decide_eq_true (by omega)
            have d4 : decide (57 < l[k].toNat) = true := decide_eq_true h2
            go_wp2_with fail
            exact ⟨rfl, Below.refl _ _, .inr ⟨3, HX.out, by omega, rfl⟩⟩
      · obtain rfl : k = l.length := by omega
        rw [List.take_length] at hall ⊢
        have HX := Lib.hid (show digX l = .ok (val7 (l.take 7)) by
          unfold digX digT
          rw [if_pos ⟨HH0.out, hall⟩])
        have hki : ¬ ((l.length : Int) < ((bs l).size : Int)) := by rw [bs_size]; omega
        go_wp2_with fail
        go_ret
        exact ⟨Below.refl _ _, .inl ⟨_, HX.out, rfl⟩⟩
end Go.Proofs.YtehdbiilbbbbpaaDoor
