/-
  BctxE: hexadecimal digits: unhex; the document's hex and digits.
-/
import Derived.Test.YtgmiockaecklaaaGreatDoorBctxD
namespace Go.Proofs.YtgmiockaecklaaaGreatDoor
open Go.RowKit Go.Extern.Stop Go.Stop Go.Extern Ieee
attribute [local go_sem] bs_toList bs_size

theorem valH_step {l : List UInt8} {k : Nat} (hk : k < l.length) : valH (l.take (k + 1)) = 16 * valH (l.take k) + hexV l[k] := by
  rw [List.take_add_one, List.getElem?_eq_getElem hk, Option.toList_some, valH_snoc]
theorem valH_bd {l : List UInt8} {k : Nat} (hk : k < 16) (hl : l.length = 16) (h : (l.take k).all hexB = true) : valH (l.take k) < 1152921504606846976 := by
  have h1 := (valH_lt (l.take k).length (l.take k) rfl h).1
  have h2 : (l.take k).length ≤ 15 := by rw [List.length_take]; omega
  have := Nat.pow_le_pow_right (n := 16) (by omega) h2
  omega
theorem or_16 (a d : Nat) (h : d < 16) (ha : a < 1152921504606846976) : bits .or .u64 ((16 * a : Nat) : Int) (d : Int) = ((16 * a + d : Nat) : Int) := by
  show IntKind.u64.wrap ((BitVec.ofInt 64 ((16 * a : Nat) : Int) ||| BitVec.ofInt 64 (d : Int)).toNat : Int) = _
  rw [BitVec.toNat_or, BitVec.ofInt_natCast, BitVec.ofInt_natCast, BitVec.toNat_ofNat, BitVec.toNat_ofNat, Nat.mod_eq_of_lt (by omega), Nat.mod_eq_of_lt (by omega), IntKind.wrap_u64, show 16 * a = a <<< 4 by rw [Nat.shiftLeft_eq]; omega, ← Nat.shiftLeft_add_eq_or_of_lt (by omega : d < 2 ^ 4)]
  rw [Nat.shiftLeft_eq]
  omega
theorem hexV_lt {c : UInt8} (h : hexB c = true) : hexV c < 16 := (hexV_D h).2
theorem idx_byte (c : UInt8) (w : World) : Calls Tryz.prog 75 #[.string ⟨#[48, 49, 50, 51, 52, 53, 54, 55, 56, 57, 97, 98, 99, 100, 101, 102]⟩, .int .u8 (c.toNat : Int)] w fun e w' => e = .returned (.int .i64 (if hexB c = true then (hexV c : Int) else -1)) ∧ w = w' := by
  refine (Tryz.strings_IndexByte _ _ w).mono ?_
  rintro e w' ⟨rfl, rfl⟩
  refine ⟨?_, rfl⟩
  rw [← idx_hex]
  congr 2
  simp [hexesL]
set_option maxRecDepth 20000 in
set_option maxHeartbeats 1000000 in
theorem unhex_any (l : List UInt8) (hl : l.length ≤ 1000000) (w : World) (E : Nat → Addr) (he : Errs w E) :
    Calls Tryz.prog 46 #[.string (bs l)] w (OptV E (unhT l) (fun x => .int .u64 (x : Int)) w) := by
  have HE := Lib.hid he
  clear he
  by_cases h16 : l.length = 16
  rotate_left 1
  · have HX := Lib.hid (show unhT l = none by unfold unhT; rw [if_neg (fun h => h16 h.1)])
    have d0 : ((l.length : Int) == 16) = false := by rw [beq_eq_false_iff_ne]; omega
    have hf := Lib.hid (fail_n w E HE.out)
    go_enter Tryz.func46, Tryz.ntmps46
    go_wp2_with fail
    refine hf.out.mono ?_
    rintro e w1 ⟨rfl, rfl⟩
    unfold panE errAt
    go_wp2_with fail
    exact ⟨rfl, Below.refl _ _, .inr ⟨HX.out, rfl⟩⟩
  have d0 : ((l.length : Int) == 16) = true := by rw [beq_iff_eq]; omega
  have H16 := Lib.hid h16
  have hl16 : l.length ≤ 16 := by omega
  have hf := Lib.hid (fail_y w)
  clear h16 hl
  go_enter Tryz.func46, Tryz.ntmps46
  go_wp2_with fail
  refine hf.out.mono ?_
  rintro e w1 ⟨rfl, rfl⟩
  clear d0
  go_wp2_with fail
  go_loopw [3, 12] (fun n i wr => ∃ k : Nat, k ≤ l.length ∧ i = .int .i64 k ∧ n = .int .u64 ((valH (l.take k) : Nat) : Int) ∧ (l.take k).all hexB = true ∧ w = wr) (fun _ i _ => l.length - (intOf i).toNat)
  case atStart => exact ⟨0, by omega, rfl, rfl, rfl, rfl⟩
  case round =>
    obtain ⟨k, hk, rfl, rfl, hall, rfl⟩ := hrel
    by_cases hlt : k < l.length
    · have hbk := bs_get l k hlt
      have hki : (k : Int) < (l.length : Int) := by omega
      have HA := Lib.hid (take_all hlt hall)
      have hv := valH_bd (by omega) H16.out hall
      have HL := Lib.hid (valH_step hlt)
      have HNA := Lib.hid (all_not (l := l) (p := hexB) hlt)
      have HI := Lib.hid (fun h : k < l.length => idx_byte (l[k]'h) w)
      generalize valH (l.take k) = V at *
      clear hall
      cases hd : hexB l[k]
      · have HX := Lib.hid (show unhT l = none by
          unfold unhT
          rw [if_neg (by rw [HNA.out hd]; simp)])
        have hf := Lib.hid (fail_n w E HE.out)
        have HI2 := Lib.hid (fun h : k < l.length => show Calls Tryz.prog 75 #[.string ⟨#[48, 49, 50, 51, 52, 53, 54, 55, 56, 57, 97, 98, 99, 100, 101, 102]⟩, .int .u8 ((l[k]'h).toNat : Int)] w fun e w' => e = .returned (.int .i64 (-1)) ∧ w = w' from by
          have := HI.out h
          rw [hd, if_neg (by decide)] at this
          exact this)
        clear hd HI HA HL HNA
        go_wp2_with fail
        refine (HI2.out _).mono ?_
        rintro e w1 ⟨rfl, rfl⟩
        go_wp2_with fail
        refine hf.out.mono ?_
        rintro e w1 ⟨rfl, rfl⟩
        unfold panE errAt
        go_wp2_with fail
        exact ⟨rfl, Below.refl _ _, .inr ⟨HX.out, rfl⟩⟩
      · have hd16 := hexV_lt hd
        have hf := Lib.hid (fail_y w)
        have HI2 := Lib.hid (fun h : k < l.length => show Calls Tryz.prog 75 #[.string ⟨#[48, 49, 50, 51, 52, 53, 54, 55, 56, 57, 97, 98, 99, 100, 101, 102]⟩, .int .u8 ((l[k]'h).toNat : Int)] w fun e w' => e = .returned (.int .i64 (hexV (l[k]'hlt) : Int)) ∧ w = w' from by
          have := HI.out h
          rw [hd, if_pos rfl] at this
          exact this)
        rw [hd] at HA
        generalize hexV l[k] = D at *
        have HO := Lib.hid (show bits .or .u64 ((V : Int) * 16) (D : Int) = ((16 * V + D : Nat) : Int) by rw [← or_16 V D hd16 hv]; congr 1; omega)
        have hwd : IntKind.u64.wrap (D : Int) = (D : Int) := by rw [IntKind.wrap_u64]; omega
        clear hd HI HNA
        go_wp2_with fail
        refine (HI2.out _).mono ?_
        rintro e w1 ⟨rfl, rfl⟩
        have d5 : decide ((0 : Int) ≤ (D : Int)) = true := decide_eq_true (by omega)
        go_wp2_with fail
        refine hf.out.mono ?_
        rintro e w1 ⟨rfl, rfl⟩
        clear d5
        go_wp2_with fail
        rw [HO.out]
        go_roundw
        case rel => exact ⟨k + 1, by omega, by simp, by rw [HL.out], HA.out, by trivial⟩
        all_goals (simp [intOf]; try omega)
    · obtain rfl : k = l.length := by omega
      rw [List.take_length] at hall ⊢
      have HX := Lib.hid (show unhT l = some (valH l) by
        unfold unhT
        rw [if_pos ⟨H16.out, hall⟩])
      go_wp2_with fail
      go_ret
      exact ⟨Below.refl _ _, .inl ⟨_, HX.out, rfl⟩⟩
end Go.Proofs.YtgmiockaecklaaaGreatDoor
