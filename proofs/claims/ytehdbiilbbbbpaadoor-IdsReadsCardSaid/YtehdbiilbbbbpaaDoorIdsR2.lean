/-
  IdsR2: package ids: upTo, after, two; strings.Cut at one byte.
-/
import Derived.Test.YtehdbiilbbbbpaaDoorIdsR
import Derived.BigCall
import Derived.BigGuard
import Derived.Deep.Draws
import Derived.Laws.Strings3
namespace Go.Proofs.YtehdbiilbbbbpaaDoor
open Go.RowKit Go.Extern.Stop Go.Stop Go.Extern

theorem upTo_any (n : Nat) (m : Int) (w : World) (E : Nat → Addr) (he : Errs w E) :
    Calls Tryd.prog 36 #[.int .i64 (n : Int), .int .i64 m] w fun e w' => w = w' ∧ (((n : Int) ≤ m ∧ e = .returned (.tuple #[])) ∨ (m < (n : Int) ∧ e = .panicked (panE E 0))) := by
  have cE := he.cell 0 (by omega)
  simp only [errVar, errAt, List.getD_cons_zero, List.getD_cons_succ] at cE
  by_cases h : m < (n : Int)
  · have d : decide (m < (n : Int)) = true := decide_eq_true h
    have HD := Lib.hid h
    clear h
    go_enter Tryd.func36, Tryd.ntmps36
    go_wp2_with fail
    exact ⟨rfl, rfl, .inr ⟨HD.out, rfl⟩⟩
  · have d : decide (m < (n : Int)) = false := decide_eq_false h
    have HD := Lib.hid (show (n : Int) ≤ m by omega)
    clear h cE
    go_enter Tryd.func36, Tryd.ntmps36
    go_wp2_with fail
    go_end0
    exact ⟨rfl, .inl ⟨HD.out, rfl⟩⟩
/-- what is behind the sign c -/
def afterT (c : UInt8) (l : List UInt8) : Except Nat (List UInt8) := match l with | [] => .error 3 | x :: xs => if x = c then .ok xs else .error 3
theorem afterT_pre (c : UInt8) (l : List UInt8) : (Lib.hasPrefix l [c] = true ∧ afterT c l = .ok (Lib.trimPrefix l [c])) ∨ (Lib.hasPrefix l [c] = false ∧ afterT c l = .error 3) := by
  cases l with
  | nil => exact .inr ⟨rfl, rfl⟩
  | cons x xs =>
    by_cases h : x = c
    · subst h
      refine .inl ⟨by simp [Lib.hasPrefix, List.isPrefixOf], ?_⟩
      unfold afterT Lib.trimPrefix
      dsimp only
      rw [if_pos rfl, if_pos (by simp [Lib.hasPrefix, List.isPrefixOf])]
      rfl
    · refine .inr ⟨?_, ?_⟩
      · simp [Lib.hasPrefix, List.isPrefixOf, Ne.symm h]
      · unfold afterT
        dsimp only
        rw [if_neg h]
theorem after_any (c : UInt8) (l : List UInt8) (w : World) (E : Nat → Addr) (he : Errs w E) :
    Calls Tryd.prog 35 #[.string (bs l), .string ⟨#[c]⟩] w (ExR E (afterT c l) (fun m => .string (bs m)) w) := by
  have cE := he.cell 3 (by omega)
  simp only [errVar, errAt, List.getD_cons_zero, List.getD_cons_succ] at cE
  have HC := Lib.hid (Tryd.strings_CutPrefix (bs l) ⟨#[c]⟩ w)
  rw [show (bs l).data.toList = l from by simp [bs], show (⟨#[c]⟩ : ByteArray).data.toList = [c] from rfl] at HC
  rcases afterT_pre c l with ⟨h1, h2⟩ | ⟨h1, h2⟩
  · rw [h1] at HC
    have HX := Lib.hid h2
    clear h1 h2 cE
    go_enter Tryd.func35, Tryd.ntmps35
    go_wp2_with fail
    refine HC.out.mono ?_
    rintro e w1 ⟨rfl, rfl⟩
    go_wp2_with fail
    go_ret
    exact ⟨Below.refl _ _, .inl ⟨_, HX.out, rfl⟩⟩
  · rw [h1] at HC
    have HX := Lib.hid h2
    clear h1 h2
    go_enter Tryd.func35, Tryd.ntmps35
    go_wp2_with fail
    refine HC.out.mono ?_
    rintro e w1 ⟨rfl, rfl⟩
    go_wp2_with fail
    exact ⟨rfl, Below.refl _ _, .inr ⟨3, HX.out, by omega, rfl⟩⟩
/-- what stands ahead of the first sign c, and behind it -/
def cutT (c : UInt8) : List UInt8 → Option (List UInt8 × List UInt8)
  | [] => none
  | x :: xs => if x = c then some ([], xs) else (cutT c xs).map fun p => (x :: p.1, p.2)
theorem cutT_index (c : UInt8) (l : List UInt8) : (Lib.indexByte l c = -1 ∧ cutT c l = none) ∨ ∃ i : Nat, Lib.indexByte l c = (i : Int) ∧ i < l.length ∧ cutT c l = some (l.take i, l.drop (i + 1)) := by
  induction l with
  | nil => exact .inl ⟨rfl, rfl⟩
  | cons x xs ih =>
    unfold Lib.indexByte cutT
    by_cases h : x = c
    · subst h
      exact .inr ⟨0, by simp, by simp, by simp⟩
    · have hb : (x == c) = false := by rw [beq_eq_false_iff_ne]; exact h
      rw [if_neg h, hb]
      rcases ih with ⟨h1, h2⟩ | ⟨i, h1, h2, h3⟩
      · exact .inl ⟨by rw [h1]; rfl, by rw [h2]; rfl⟩
      · refine .inr ⟨i + 1, ?_, by simp; omega, by rw [h3]; simp⟩
        have hn : (Lib.indexByte xs c == -1) = false := by rw [h1, beq_eq_false_iff_ne]; omega
        simp only [hn, Bool.false_eq_true, if_false]
        rw [h1]; rfl
def cutV (o : Option (List UInt8 × List UInt8)) (l : List UInt8) : Value := match o with | some p => .tuple #[.string (bs p.1), .string (bs p.2), .bool true] | none => .tuple #[.string (bs l), .string (bs []), .bool false]
set_option maxHeartbeats 2000000 in
theorem lcut_any (c : UInt8) (l : List UInt8) (hl : l.length ≤ 1000000) (w : World) :
    Calls Tryd.prog 55 #[.string (bs l), .string ⟨#[c]⟩] w fun e w' => e = .returned (cutV (cutT c l) l) ∧ Below w.heap.size w w' := by
  have HI := Lib.hid (Tryd.stringslite_Index_one (bs l) c w)
  rw [show (bs l).data.toList = l from by simp [bs]] at HI
  rcases cutT_index c l with ⟨h1, h2⟩ | ⟨i, h1, h2, h3⟩
  · rw [h1] at HI
    rw [h2]
    unfold cutV
    clear h1 h2
    go_enter Tryd.func55, Tryd.ntmps55
    go_wp2_with fail
    refine HI.out.mono ?_
    rintro e w1 ⟨rfl, rfl⟩
    go_wp2_with fail
    go_ret3
    exact ⟨rfl, Below.refl _ _⟩
  · rw [h1] at HI
    rw [h3]
    unfold cutV
    have hs := bs_size l
    have c1 : (0 : Int) ≤ (i : Int) := by omega
    have c2 : (i : Int) ≤ ((bs l).size : Int) := by omega
    have c3 : (0 : Int) ≤ (i : Int) + 1 := by omega
    have c4 : (i : Int) + 1 ≤ ((bs l).size : Int) := by omega
    clear h1 h3
    go_enter Tryd.func55, Tryd.ntmps55
    go_wp2_with fail
    refine HI.out.mono ?_
    rintro e w1 ⟨rfl, rfl⟩
    go_wp2_with fail
    go_region
    go_wp2_with fail
    go_ret3
    refine ⟨?_, (Below.refl _ _).drew⟩
    rw [bs_extract, bs_extract, List.drop_zero, Nat.sub_zero, show (l.drop (i + 1)).take (l.length - (i + 1)) = l.drop (i + 1) from List.take_of_length_le (by rw [List.length_drop]; exact Nat.le_refl _)]
    rfl
theorem cut_any (c : UInt8) (l : List UInt8) (hl : l.length ≤ 1000000) (w : World) :
    Calls Tryd.prog 42 #[.string (bs l), .string ⟨#[c]⟩] w fun e w' => e = .returned (cutV (cutT c l) l) ∧ Below w.heap.size w w' := by
  have HI := Lib.hid (lcut_any c l hl w)
  cases hc : cutT c l with
  | none =>
    rw [hc] at HI
    unfold cutV at HI ⊢
    go_enter Tryd.func42, Tryd.ntmps42
    go_wp2_with fail
    refine HI.out.mono ?_
    rintro e w1 ⟨rfl, hb⟩
    have HB := Lib.hid hb
    clear hb
    go_wp2_with fail
    go_ret3
    exact ⟨rfl, HB.out⟩
  | some p =>
    rw [hc] at HI
    unfold cutV at HI ⊢
    go_enter Tryd.func42, Tryd.ntmps42
    go_wp2_with fail
    refine HI.out.mono ?_
    rintro e w1 ⟨rfl, hb⟩
    have HB := Lib.hid hb
    clear hb
    go_wp2_with fail
    go_ret3
    exact ⟨rfl, HB.out⟩
theorem cutT_len {c : UInt8} {l : List UInt8} {p : List UInt8 × List UInt8} (h : cutT c l = some p) : p.1.length + p.2.length < l.length := by
  rcases cutT_index c l with ⟨_, h2⟩ | ⟨i, _, h2, h3⟩
  · rw [h] at h2; cases h2
  · rw [h] at h3
    cases h3
    simp; omega
/-- two numbers with the sign c between -/
def twoT (c : UInt8) (l : List UInt8) : Except Nat (Nat × Nat) :=
  match cutT c l with
  | none => .error 3
  | some p => match digX p.1 with
    | .error n => .error n
    | .ok a => match digX p.2 with
      | .error n => .error n
      | .ok b => .ok (a, b)
theorem two_any (c : UInt8) (l : List UInt8) (hl : l.length ≤ 1000000) (w : World) (E : Nat → Addr) (he : Errs w E) :
    Calls Tryd.prog 39 #[.string (bs l), .string ⟨#[c]⟩] w (ExR E (twoT c l) (fun p => .tuple #[.int .i64 (p.1 : Int), .int .i64 (p.2 : Int)]) w) := by
  have HC := Lib.hid (cut_any c l hl w)
  have HE := Lib.hid he
  cases hc : cutT c l with
  | none =>
    rw [hc] at HC
    unfold cutV at HC
    have HX := Lib.hid (show twoT c l = .error 3 by unfold twoT; rw [hc])
    clear hc he
    go_enter Tryd.func39, Tryd.ntmps39
    go_wp2_with fail
    refine HC.out.mono ?_
    rintro e w1 ⟨rfl, hb⟩
    have HB := Lib.hid hb
    have cE := (HE.out.below hb).cell 3 (by omega)
    simp only [errVar, errAt, List.getD_cons_zero, List.getD_cons_succ] at cE
    clear hb
    go_wp2_with fail
    exact ⟨rfl, HB.out, .inr ⟨3, HX.out, by omega, rfl⟩⟩
  | some p =>
    rw [hc] at HC
    unfold cutV at HC
    have hlen := cutT_len hc
    have HD1 := Lib.hid (fun w he => digits_any p.1 (by omega) w E he)
    have HD2 := Lib.hid (fun w he => digits_any p.2 (by omega) w E he)
    have HX := Lib.hid (show twoT c l = match digX p.1 with | .error n => .error n | .ok a => match digX p.2 with | .error n => .error n | .ok b => .ok (a, b) by unfold twoT; rw [hc])
    clear hc he hlen
    go_enter Tryd.func39, Tryd.ntmps39
    go_wp2_with fail
    refine HC.out.mono ?_
    rintro e w1 ⟨rfl, hb⟩
    have HB := Lib.hid hb
    clear hb
    go_wp2_with fail
    refine (HD1.out w1 (HE.out.below HB.out)).mono ?_
    rintro e w2 ⟨hb2, ⟨a, ha, rfl⟩ | ⟨n, ha, hn, rfl⟩⟩
    · have HB2 := Lib.hid (HB.out.trans (hb2.mono HB.out.size))
      have HA := Lib.hid ha
      clear hb2 ha
      go_wp2_with fail
      refine (HD2.out w2 (HE.out.below HB2.out)).mono ?_
      rintro e w3 ⟨hb3, ⟨b, hb', rfl⟩ | ⟨n, hb', hn, rfl⟩⟩
      · have HB3 := Lib.hid (HB2.out.trans (hb3.mono HB2.out.size))
        have HA' := Lib.hid hb'
        clear hb3 hb'
        go_wp2_with fail
        go_ret2
        exact ⟨HB3.out, .inl ⟨(a, b), by rw [HX.out, HA.out, HA'.out], rfl⟩⟩
      · have HB3 := Lib.hid (HB2.out.trans (hb3.mono HB2.out.size))
        have HA' := Lib.hid hb'
        have HN := Lib.hid hn
        clear hb3 hb' hn
        unfold panE errAt
        go_wp2_with fail
        exact ⟨rfl, HB3.out, .inr ⟨n, by rw [HX.out, HA.out, HA'.out], HN.out, rfl⟩⟩
    · have HB2 := Lib.hid (HB.out.trans (hb2.mono HB.out.size))
      have HA := Lib.hid ha
      have HN := Lib.hid hn
      clear hb2 ha hn
      unfold panE errAt
      go_wp2_with fail
      exact ⟨rfl, HB2.out, .inr ⟨n, by rw [HX.out, HA.out], HN.out, rfl⟩⟩
end Go.Proofs.YtehdbiilbbbbpaaDoor
