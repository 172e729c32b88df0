/-
  BctxD: package binding and the document's: numbers and hexadecimal digits that are read.
-/
import Derived.Test.YtgmiockaecklaaaGreatDoorBctxW
namespace Go.Proofs.YtgmiockaecklaaaGreatDoor
open Go.RowKit Go.Extern.Stop Go.Stop Go.Extern Ieee

/-- ends with a value, or panics with ErrForm -/
def OptV {α : Type} (E : Nat → Addr) (x : Option α) (V : α → Value) (w : World) (e : Ending) (w' : World) : Prop :=
  Below w.heap.size w w' ∧ ((∃ a, x = some a ∧ e = .returned (V a)) ∨ (x = none ∧ e = .panicked (panE E 3)))
theorem take_all {l : List UInt8} {p : UInt8 → Bool} {k : Nat} (hk : k < l.length) (h : (l.take k).all p = true) : (l.take (k + 1)).all p = p l[k] := by
  rw [List.take_add_one, List.getElem?_eq_getElem hk, Option.toList_some, List.all_append, h]
  simp
theorem all_not {l : List UInt8} {p : UInt8 → Bool} {k : Nat} (hk : k < l.length) (h : p l[k] = false) : l.all p = false := by
  rw [Bool.eq_false_iff]
  intro ha
  rw [List.all_eq_true] at ha
  rw [ha _ (List.getElem_mem hk)] at h
  cases h
theorem val7_step {l : List UInt8} {k : Nat} (hk : k < l.length) : val7 (l.take (k + 1)) = 10 * val7 (l.take k) + (l[k].toNat - 48) := by
  rw [List.take_add_one, List.getElem?_eq_getElem hk, Option.toList_some, val7_snoc]
theorem val7_bd9 {l : List UInt8} {k : Nat} (hl : l.length ≤ 9) (h : (l.take k).all digitB = true) : val7 (l.take k) < 1000000000 := by
  have h1 := val7_lt (l.take k) h
  have h2 : (l.take k).length ≤ 9 := by rw [List.length_take]; omega
  have := Nat.pow_le_pow_right (n := 10) (by omega) h2
  omega
theorem head_zero {l : List UInt8} (hpos : 0 < l.length) : headB l = (l == [48] || !(l[0] == 48)) := by
  obtain ⟨x, xs, rfl⟩ : ∃ x xs, l = x :: xs := by
    cases l with
    | nil => simp at hpos
    | cons x xs => exact ⟨x, xs, rfl⟩
  unfold headB
  cases xs with
  | nil => simp
  | cons y ys => simp
theorem fail_y (w : World) : Calls Tryz.prog 40 #[.bool true] w (fun e w' => e = .returned (.tuple #[]) ∧ w = w') := (fail_yes w).mono fun _ _ h => ⟨h.1, h.2.symm⟩
theorem fail_n (w : World) (E : Nat → Addr) (he : Errs w E) : Calls Tryz.prog 40 #[.bool false] w (fun e w' => e = .panicked (panE E 3) ∧ w = w') := (fail_no w E he).mono fun _ _ h => ⟨h.1, h.2.symm⟩
attribute [local go_sem] bs_toList bs_size
set_option maxRecDepth 20000 in
set_option maxHeartbeats 1000000 in
theorem bdigits_any (l : List UInt8) (hl : l.length ≤ 1000000) (w : World) (E : Nat → Addr) (he : Errs w E) :
    Calls Tryz.prog 44 #[.string (bs l)] w (OptV E (dig9 l) (fun n => .int .i64 (n : Int)) w) := by
  have HE := Lib.hid he
  clear he
  by_cases h0 : l = []
  · subst h0
    have HX := Lib.hid (show dig9 [] = none from rfl)
    have hem : (bs []).toList.isEmpty = true := by rw [bs_toList]; rfl
    have hf := Lib.hid (fail_n w E HE.out)
    go_enter Tryz.func44, Tryz.ntmps44
    go_wp2_with fail
    (first | rw [hx9] | (erw [hx9]; trace "ERW") | (simp [hx9]; trace "SIMP") | skip)
    refine hf.out.mono ?_
    rintro e w1 ⟨rfl, rfl⟩
    unfold panE errAt
    go_wp2_with fail
    exact ⟨rfl, Below.refl _ _, .inr ⟨HX.out, rfl⟩⟩
  have hpos : 0 < l.length := List.length_pos_iff.2 h0
  have hem : l.isEmpty = false := by
    cases l with
    | nil => exact absurd rfl h0
    | cons x xs => rfl
  have hem3 : l ≠ [] := h0
  by_cases hl9 : l.length ≤ 9
  · have d0 : decide ((l.length : Int) ≤ 9) = true := decide_eq_true (by omega)
    have d0' : decide (l.length ≤ 9) = true := decide_eq_true hl9
    have hb0 := bs_get l 0 hpos
    have hz := head_zero hpos
    cases h1 : (l == [48])
    · cases h2 : (l[0] == 48)
      · have HH0 := Lib.hid (show headB l = true by rw [hz, h1, h2]; rfl)
        have hx1 : ((l[0].toNat : Int) != 48) = true := by
          rw [bne_iff_ne]
          intro e
          rw [beq_eq_false_iff_ne] at h2
          exact h2 (UInt8.toNat_inj.1 (by show l[0].toNat = 48; omega))
        have hx9 : ∀ h : 0 < l.length, (((l[0]'h).toNat : Int) != 48) = true := fun _ => hx1
        have hx2 : (l[0].toNat != 48) = true := by
          rw [bne_iff_ne]
          intro e
          rw [beq_eq_false_iff_ne] at h2
          exact h2 (UInt8.toNat_inj.1 e)
        have hx3 : (l[0].toNat == 48) = false := by simpa using hx2
        have hx4 : ((l[0].toNat : Int) == 48) = false := by simpa using hx1
        have hf := Lib.hid (fail_y w)
        clear hz h2
        go_enter Tryz.func44, Tryz.ntmps44
        go_wp2_with fail
        (first | rw [hx9] | (erw [hx9]; trace "ERW") | (simp [hx9]; trace "SIMP") | skip)
        refine hf.out.mono ?_
        rintro e w1 ⟨rfl, rfl⟩
        clear hx1 hx2 hx3 hx4 hx9 h1 hb0 d0 d0' hem hem3 h0
        go_wp2_with fail
        go_loopw [3, 24] (fun n i wr => ∃ k : Nat, k ≤ l.length ∧ i = .int .i64 k ∧ n = .int .i64 ((val7 (l.take k) : Nat) : Int) ∧ (l.take k).all digitB = true ∧ w = wr) (fun _ i _ => l.length - (intOf i).toNat)
        case atStart => exact ⟨0, by omega, rfl, rfl, rfl, rfl⟩
        case round =>
          obtain ⟨k, hk, rfl, rfl, hall, rfl⟩ := hrel
          by_cases hlt : k < l.length
          · have hbk := bs_get l k hlt
            have hki : (k : Int) < (l.length : Int) := by omega
            have HA := Lib.hid (take_all hlt hall)
            have hv := val7_bd9 hl9 hall
            have HL := Lib.hid (val7_step hlt)
            have HNA := Lib.hid (all_not (l := l) (p := digitB) hlt)
            generalize val7 (l.take k) = V at *
            clear hall
            by_cases hd : digitB l[k] = true
            · have h48 := digitB_le hd
              have h1 : decide (48 ≤ (l[k].toNat : Int)) = true := decide_eq_true (by omega)
              have h2 : decide ((l[k].toNat : Int) ≤ 57) = true := decide_eq_true (by omega)
              have h3 : decide (48 ≤ l[k].toNat) = true := decide_eq_true (by omega)
              have h4 : decide (l[k].toNat ≤ 57) = true := decide_eq_true (by omega)
              rw [hd] at HA
              clear hd
              have hf := Lib.hid (fail_y w)
              have h5 : ∀ h : k < l.length, decide (((l[k]'h).toNat : Int) ≤ 57) = true := fun _ => h2
              go_wp2_with fail
              (first | rw [h5] | erw [h5] | simp [h5] | skip)
              refine hf.out.mono ?_
              rintro e w1 ⟨rfl, rfl⟩
              clear h1 h2 h3 h4 h5
              obtain ⟨y, hy⟩ : ∃ y : Nat, l[k].toNat = 48 + y := ⟨l[k].toNat - 48, by omega⟩
              have hy9 : y ≤ 9 := by omega
              go_wp2_with fail
              go_roundw
              case rel => exact ⟨k + 1, by omega, by simp, by rw [HL.out]; congr 1; omega, HA.out, by trivial⟩
              all_goals (simp [intOf]; try omega)
            · have hdf : digitB l[k] = false := by simpa using hd
              have HX := Lib.hid (show dig9 l = none by
                unfold dig9
                rw [if_neg (by rw [HNA.out hdf]; simp)])
              have hor : l[k].toNat < 48 ∨ 48 ≤ l[k].toNat ∧ 57 < l[k].toNat := by
                unfold digitB at hdf
                simp only [Bool.and_eq_false_iff, decide_eq_false_iff_not] at hdf
                omega
              clear hd hdf HL HNA HA
              have hf := Lib.hid (fail_n w E HE.out)
              rcases hor with h1 | ⟨h1, h2⟩
              · have d1 : decide (48 ≤ (l[k].toNat : Int)) = false := decide_eq_false (by omega)
                have d2 : decide (48 ≤ l[k].toNat) = false := decide_eq_false (by omega)
                have h5 : ∀ h : k < l.length, decide (48 ≤ ((l[k]'h).toNat : Int)) = false := fun _ => d1
                go_wp2_with fail
                (first | rw [h5] | erw [h5] | simp [h5] | skip)
                refine hf.out.mono ?_
                rintro e w1 ⟨rfl, rfl⟩
                unfold panE errAt
                go_wp2_with fail
                exact ⟨rfl, Below.refl _ _, .inr ⟨HX.out, rfl⟩⟩
              · have d1 : decide (48 ≤ (l[k].toNat : Int)) = true := decide_eq_true (by omega)
                have d2 : decide (48 ≤ l[k].toNat) = true := decide_eq_true (by omega)
                have d3 : decide ((l[k].toNat : Int) ≤ 57) = false := decide_eq_false (by omega)
                have d4 : decide (l[k].toNat ≤ 57) = false := decide_eq_false (by omega)
                have h5 : ∀ h : k < l.length, decide (((l[k]'h).toNat : Int) ≤ 57) = false := fun _ => d3
                go_wp2_with fail
                (first | rw [h5] | erw [h5] | simp [h5] | skip)
                refine hf.out.mono ?_
                rintro e w1 ⟨rfl, rfl⟩
                unfold panE errAt
                go_wp2_with fail
                exact ⟨rfl, Below.refl _ _, .inr ⟨HX.out, rfl⟩⟩
          · obtain rfl : k = l.length := by omega
            rw [List.take_length] at hall ⊢
            have HX := Lib.hid (show dig9 l = some (val7 l) by
              unfold dig9
              rw [if_pos ⟨HH0.out, hl9, hall⟩])
            go_wp2_with fail
            go_ret
            exact ⟨Below.refl _ _, .inl ⟨_, HX.out, rfl⟩⟩
      · have HX := Lib.hid (show dig9 l = none by
          unfold dig9
          rw [if_neg (by rw [hz, h1, h2]; simp)])
        have hx0 : l[0] = 48 := by simpa using h2
        have hx1 : ((l[0].toNat : Int) != 48) = false := by rw [hx0]; rfl
        have hx9 : ∀ h : 0 < l.length, (((l[0]'h).toNat : Int) != 48) = false := fun _ => hx1
        have hx2 : (l[0].toNat != 48) = false := by rw [hx0]; rfl
        have hx3 : (l[0].toNat == 48) = true := by rw [hx0]; rfl
        have hx4 : ((l[0].toNat : Int) == 48) = true := by rw [hx0]; rfl
        clear hz h2 hx0
        have hf := Lib.hid (fail_n w E HE.out)
        go_enter Tryz.func44, Tryz.ntmps44
        go_wp2_with fail
        (first | rw [hx9] | (erw [hx9]; trace "ERW") | (simp [hx9]; trace "SIMP") | skip)
        refine hf.out.mono ?_
        rintro e w1 ⟨rfl, rfl⟩
        unfold panE errAt
        go_wp2_with fail
        exact ⟨rfl, Below.refl _ _, .inr ⟨HX.out, rfl⟩⟩
    · have HH0 := Lib.hid (show headB l = true by rw [hz, h1]; rfl)
      have hf := Lib.hid (fail_y w)
      clear hz
      go_enter Tryz.func44, Tryz.ntmps44
      go_wp2_with fail
      refine hf.out.mono ?_
      rintro e w1 ⟨rfl, rfl⟩
      clear h1 hb0 d0 d0' hem hem3 h0
      go_wp2_with fail
      go_loopw [3, 24] (fun n i wr => ∃ k : Nat, k ≤ l.length ∧ i = .int .i64 k ∧ n = .int .i64 ((val7 (l.take k) : Nat) : Int) ∧ (l.take k).all digitB = true ∧ w = wr) (fun _ i _ => l.length - (intOf i).toNat)
      case atStart => exact ⟨0, by omega, rfl, rfl, rfl, rfl⟩
      case round =>
        obtain ⟨k, hk, rfl, rfl, hall, rfl⟩ := hrel
        by_cases hlt : k < l.length
        · have hbk := bs_get l k hlt
          have hki : (k : Int) < (l.length : Int) := by omega
          have HA := Lib.hid (take_all hlt hall)
          have hv := val7_bd9 hl9 hall
          have HL := Lib.hid (val7_step hlt)
          have HNA := Lib.hid (all_not (l := l) (p := digitB) hlt)
          generalize val7 (l.take k) = V at *
          clear hall
          by_cases hd : digitB l[k] = true
          · have h48 := digitB_le hd
            have h1 : decide (48 ≤ (l[k].toNat : Int)) = true := decide_eq_true (by omega)
            have h2 : decide ((l[k].toNat : Int) ≤ 57) = true := decide_eq_true (by omega)
            have h3 : decide (48 ≤ l[k].toNat) = true := decide_eq_true (by omega)
            have h4 : decide (l[k].toNat ≤ 57) = true := decide_eq_true (by omega)
            rw [hd] at HA
            clear hd
            have hf := Lib.hid (fail_y w)
            have h5 : ∀ h : k < l.length, decide (((l[k]'h).toNat : Int) ≤ 57) = true := fun _ => h2
            go_wp2_with fail
            (first | rw [h5] | erw [h5] | simp [h5] | skip)
            refine hf.out.mono ?_
            rintro e w1 ⟨rfl, rfl⟩
            clear h1 h2 h3 h4 h5
            obtain ⟨y, hy⟩ : ∃ y : Nat, l[k].toNat = 48 + y := ⟨l[k].toNat - 48, by omega⟩
            have hy9 : y ≤ 9 := by omega
            go_wp2_with fail
            go_roundw
            case rel => exact ⟨k + 1, by omega, by simp, by rw [HL.out]; congr 1; omega, HA.out, by trivial⟩
            all_goals (simp [intOf]; try omega)
          · have hdf : digitB l[k] = false := by simpa using hd
            have HX := Lib.hid (show dig9 l = none by
              unfold dig9
              rw [if_neg (by rw [HNA.out hdf]; simp)])
            have hor : l[k].toNat < 48 ∨ 48 ≤ l[k].toNat ∧ 57 < l[k].toNat := by
              unfold digitB at hdf
              simp only [Bool.and_eq_false_iff, decide_eq_false_iff_not] at hdf
              omega
            clear hd hdf HL HNA HA
            have hf := Lib.hid (fail_n w E HE.out)
            rcases hor with h1 | ⟨h1, h2⟩
            · have d1 : decide (48 ≤ (l[k].toNat : Int)) = false := decide_eq_false (by omega)
              have d2 : decide (48 ≤ l[k].toNat) = false := decide_eq_false (by omega)
              have h5 : ∀ h : k < l.length, decide (48 ≤ ((l[k]'h).toNat : Int)) = false := fun _ => d1
              go_wp2_with fail
              (first | rw [h5] | erw [h5] | simp [h5] | skip)
              refine hf.out.mono ?_
              rintro e w1 ⟨rfl, rfl⟩
              unfold panE errAt
              go_wp2_with fail
              exact ⟨rfl, Below.refl _ _, .inr ⟨HX.out, rfl⟩⟩
            · have d1 : decide (48 ≤ (l[k].toNat : Int)) = true := decide_eq_true (by omega)
              have d2 : decide (48 ≤ l[k].toNat) = true := decide_eq_true (by omega)
              have d3 : decide ((l[k].toNat : Int) ≤ 57) = false := decide_eq_false (by omega)
              have d4 : decide (l[k].toNat ≤ 57) = false := decide_eq_false (by omega)
              have h5 : ∀ h : k < l.length, decide (((l[k]'h).toNat : Int) ≤ 57) = false := fun _ => d3
              go_wp2_with fail
              (first | rw [h5] | erw [h5] | simp [h5] | skip)
              refine hf.out.mono ?_
              rintro e w1 ⟨rfl, rfl⟩
              unfold panE errAt
              go_wp2_with fail
              exact ⟨rfl, Below.refl _ _, .inr ⟨HX.out, rfl⟩⟩
        · obtain rfl : k = l.length := by omega
          rw [List.take_length] at hall ⊢
          have HX := Lib.hid (show dig9 l = some (val7 l) by
            unfold dig9
            rw [if_pos ⟨HH0.out, hl9, hall⟩])
          go_wp2_with fail
          go_ret
          exact ⟨Below.refl _ _, .inl ⟨_, HX.out, rfl⟩⟩
  · have d0 : decide ((l.length : Int) ≤ 9) = false := decide_eq_false (by omega)
    have d0' : decide (l.length ≤ 9) = false := decide_eq_false hl9
    have HX := Lib.hid (show dig9 l = none by
      unfold dig9
      rw [if_neg (by omega)])
    have hf := Lib.hid (fail_n w E HE.out)
    go_enter Tryz.func44, Tryz.ntmps44
    go_wp2_with fail
    (first | rw [hx9] | (erw [hx9]; trace "ERW") | (simp [hx9]; trace "SIMP") | skip)
    refine hf.out.mono ?_
    rintro e w1 ⟨rfl, rfl⟩
    unfold panE errAt
    go_wp2_with fail
    exact ⟨rfl, Below.refl _ _, .inr ⟨HX.out, rfl⟩⟩
end Go.Proofs.YtgmiockaecklaaaGreatDoor
