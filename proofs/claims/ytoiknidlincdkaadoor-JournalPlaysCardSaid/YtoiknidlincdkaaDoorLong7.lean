/-
  Long7: rows of ops as the walks meet them, and the walk of liaisonlaw07.long.
-/
import Derived.Test.YtoiknidlincdkaaDoorJA
namespace Go.Proofs.YtoiknidlincdkaaDoor
open Go.RowKit

/-- an op: kind, number, rows -/
abbrev OpJ := Int × Int × List (List UInt8)
/-- THE SLICE VALUE v IS THE ROW os OF OPS in w. -/
def OpLJ (w : World) (v : Value) (os : List OpJ) : Prop :=
  ∃ p cap, v = .slice p os.length cap ∧ os.length ≤ cap ∧ cap ≤ maxLen ∧
    ∀ (i : Nat) (o : OpJ), os[i]? = some o → ∃ b off q c, p = some ⟨b, off, none⟩ ∧ w.cell? ⟨b, off + i * 3, none⟩ = some (.int .i64 o.1) ∧ w.cell? ⟨b, off + i * 3 + 1, none⟩ = some (.int .i64 o.2.1) ∧
      w.cell? ⟨b, off + i * 3 + 2, none⟩ = some (.slice q o.2.2.length c) ∧ BytL w (.slice q o.2.2.length c) o.2.2
theorem OpLJ.keep {w w' : World} {v : Value} {os : List OpJ} (h : OpLJ w v os) (hk : ∀ a v, w.cell? a = some v → w'.cell? a = some v) : OpLJ w' v os := by
  obtain ⟨p, cap, rfl, h1, h2, h3⟩ := h
  refine ⟨p, cap, rfl, h1, h2, fun i o ho => ?_⟩
  obtain ⟨b, off, q, c, e, g1, g2, g3, g4⟩ := h3 i o ho
  exact ⟨b, off, q, c, e, hk _ _ g1, hk _ _ g2, hk _ _ g3, g4.keep hk⟩
def longRow (rs : List (List UInt8)) : Bool := decide (10 < rs.length) || rs.any fun r => decide (300 < r.length)
def longR (os : List OpJ) : Bool := decide (60 < os.length) || os.any fun o => longRow o.2.2
theorem longR_take (os : List OpJ) (k : Nat) (hk : k < os.length) (h : (os.take k).any (fun o => longRow o.2.2) = false) (h2 : longRow os[k].2.2 = false) : (os.take (k + 1)).any (fun o => longRow o.2.2) = false := by
  rw [List.take_succ_eq_append_getElem hk, List.any_append, h]
  simpa using h2
theorem longR_hit (os : List OpJ) (k : Nat) (hk : k < os.length) (h : longRow os[k].2.2 = true) : longR os = true := by
  unfold longR
  have : (os.any fun o => longRow o.2.2) = true := List.any_eq_true.2 ⟨os[k], List.getElem_mem hk, h⟩
  rw [this]; simp
theorem longRow_take (rs : List (List UInt8)) (k : Nat) (hk : k < rs.length) (h : (rs.take k).any (fun r => decide (300 < r.length)) = false) (h2 : ¬ 300 < rs[k].length) : (rs.take (k + 1)).any (fun r => decide (300 < r.length)) = false := by
  rw [List.take_succ_eq_append_getElem hk, List.any_append, h]
  simp; omega
theorem longRow_hit (rs : List (List UInt8)) (k : Nat) (hk : k < rs.length) (h : 300 < rs[k].length) : longRow rs = true := by
  unfold longRow
  have : (rs.any fun r => decide (300 < r.length)) = true := List.any_eq_true.2 ⟨rs[k], List.getElem_mem hk, by simpa using h⟩
  rw [this]; simp
theorem longRow_no {rs : List (List UInt8)} (h : longRow rs = false) : rs.length ≤ 10 ∧ ∀ r ∈ rs, r.length ≤ 300 := by
  unfold longRow at h
  rw [Bool.or_eq_false_iff, decide_eq_false_iff_not, List.any_eq_false] at h
  exact ⟨by omega, fun r hr => by have := h.2 r hr; simpa using this⟩
theorem longR_no {os : List OpJ} (h : longR os = false) : os.length ≤ 60 ∧ ∀ o ∈ os, longRow o.2.2 = false := by
  unfold longR at h
  rw [Bool.or_eq_false_iff, decide_eq_false_iff_not, List.any_eq_false] at h
  exact ⟨by omega, fun o ho => by have := h.2 o ho; simpa using this⟩
theorem opInfo : (Tryd.prog.info? 49).map (fun i => (i.zero, i.size, i.bytes)) = some (some (.agg #[.int .i64 0, .int .i64 0, .slice none 0 0]), 3, 40) := by kernel_rfl
set_option maxRecDepth 20000 in
set_option maxHeartbeats 2000000 in
theorem long_any (v : Value) (os : List OpJ) (w : World) (hv : OpLJ w v os) :
    Calls Tryd.prog 21 #[v] w (fun e w' => e = .returned (.bool (longR os)) ∧ Below w.heap.size w w') := by
  obtain ⟨p, cap, rfl, h1, h2, h3⟩ := hv
  obtain ⟨i0, hi, hz0, hz1, hz2⟩ := info_parts opInfo
  have H3 := Lib.hid h3
  unfold maxLen at h2
  clear h3
  by_cases h40 : os.length ≤ 60
  · have d0 : decide (60 < (os.length : Int)) = false := by simp; omega
    have d0' : decide (60 < os.length) = false := by simp; omega
    go_enter Tryd.func21, Tryd.ntmps21
    go_wp2_with fail
    go_loopw [12] (fun i wr => ∃ k : Nat, k ≤ os.length ∧ i = .int .i64 k ∧ (os.take k).any (fun o => longRow o.2.2) = false ∧ Below w.heap.size w wr) (fun i _ => os.length - (intOf i).toNat)
    case atStart => exact ⟨0, by omega, rfl, rfl, Below.refl _ _⟩
    case round =>
      obtain ⟨k, hk, rfl, hno, hbw⟩ := hrel
      have HNO := Lib.hid hno
      clear hno
      by_cases hlt : k < os.length
      · obtain ⟨b, off, q, c, rfl, hc1, hc2, hc3, hby⟩ := H3.out k os[k] (by simp [hlt])
        have g1 := Below.keeps hbw _ _ hc1
        have g2 := Below.keeps hbw _ _ hc2
        have g3 := Below.keeps hbw _ _ hc3
        have HHIT := Lib.hid (longR_hit os k hlt)
        have HST := Lib.hid (longR_take os k hlt HNO.out)
        have hby2 := hby.keep (Below.keeps hbw)
        clear hc1 hc2 hc3 hby
        generalize os[k] = o at *
        obtain ⟨kind, n, rs⟩ := o
        simp only at g1 g2 g3 HHIT HST hby2
        have hbw2 := below_alloc hbw (.cells #[.int .i64 kind, .int .i64 n, .slice q rs.length c] 49)
        have HBW2 := Lib.hid hbw2
        have HYL := Lib.hid (hby2.keep (keep_alloc wr (.cells #[.int .i64 kind, .int .i64 n, .slice q rs.length c] 49)))
        obtain ⟨q9, c9, vs, e9, r1, r2, r3, r4, r5⟩ := hby2
        cases e9
        unfold maxLen at r2
        clear r3 r4 r5 hbw2
        by_cases c3 : rs.length ≤ 10
        · have d3 : decide (10 < (rs.length : Int)) = false := by simp; omega
          have d4 : decide (10 < rs.length) = false := by simp; omega
          go_wp2_with fail
          generalize hwx : wr.alloc (.cells #[.int .i64 kind, .int .i64 n, .slice q rs.length c] 49) = wx at *
          clear hwx g1 g2 g3
          obtain ⟨q9, c9, vs, e9, _, _, r3, r4, r5⟩ := HYL.out
          cases e9
          have R3 := Lib.hid r3
          have R5 := Lib.hid r5
          clear r3 r4 r5
          obtain ⟨wo, rfl⟩ : ∃ wo, wo = wr := ⟨_, rfl⟩
          go_loopw [23] (fun i wr => ∃ j : Nat, j ≤ rs.length ∧ i = .int .i64 j ∧ (rs.take j).any (fun r => decide (300 < r.length)) = false ∧ wr = wx) (fun i _ => rs.length - (intOf i).toNat)
          case atStart => exact ⟨0, by omega, rfl, rfl, rfl⟩
          case round =>
            obtain ⟨j, hj, rfl, hno2, rfl⟩ := hrel
            have HNO2 := Lib.hid hno2
            clear hno2
            by_cases hlt2 : j < rs.length
            · obtain ⟨b2, off2, q2, cq2, rfl, hcc, hq1, hq2, hq3⟩ := bytL_cell R3.out R5.out hlt2
              have HH2 := Lib.hid (longRow_hit rs j hlt2)
              have HS2 := Lib.hid (longRow_take rs j hlt2 HNO2.out)
              clear hq3
              generalize rs[j] = r at *
              by_cases c5 : r.length ≤ 300
              · have d5 : decide (300 < (r.length : Int)) = false := by simp; omega
                have d6 : decide (300 < r.length) = false := by simp; omega
                have HS3 := Lib.hid (HS2.out (by omega))
                clear HH2 HS2
                go_wp2_with fail
                go_roundw
                case rel => exact ⟨j + 1, by omega, by go_num, HS3.out, by trivial⟩
                case measure => simp [intOf]; omega
              · have d5 : decide (300 < (r.length : Int)) = true := by simp; omega
                have d6 : decide (300 < r.length) = true := by simp; omega
                have HS3 := Lib.hid (HHIT.out (HH2.out (by omega)))
                clear HH2 HS2
                go_wp2_with fail
                go_ret
                exact ⟨by rw [HS3.out]; rfl, HBW2.out⟩
            · obtain rfl : j = rs.length := by omega
              have HS3 := Lib.hid (HST.out (by
                have := HNO2.out
                rw [List.take_length] at this
                unfold longRow
                rw [this, d4]
                rfl))
              clear HHIT HST
              go_wp2_with fail
              go_roundw
              case rel => exact ⟨k + 1, by omega, by go_num, HS3.out, HBW2.out⟩
              case measure => simp [intOf]; omega
        · have d3 : decide (10 < (rs.length : Int)) = true := by simp; omega
          have d4 : decide (10 < rs.length) = true := by simp; omega
          have HH := Lib.hid (HHIT.out (by unfold longRow; rw [d4]; rfl))
          clear HST HHIT
          go_wp2_with fail
          go_ret
          exact ⟨(by rw [HH.out]; rfl), HBW2.out⟩
      · obtain rfl : k = os.length := by omega
        have HR := Lib.hid (show longR os = false by
          have := HNO.out
          rw [List.take_length] at this
          unfold longR; rw [this]; simp; omega)
        go_wp2_with fail
        go_ret
        exact ⟨(by rw [HR.out]; rfl), hbw⟩
  · have d0 : decide (60 < (os.length : Int)) = true := by simp; omega
    have d0' : decide (60 < os.length) = true := by simp; omega
    have HR := Lib.hid (show longR os = true by unfold longR; rw [d0']; rfl)
    go_enter Tryd.func21, Tryd.ntmps21
    go_wp2_with fail
    go_ret
    exact ⟨(by rw [HR.out]; rfl), Below.refl _ _⟩
end Go.Proofs.YtoiknidlincdkaaDoor
