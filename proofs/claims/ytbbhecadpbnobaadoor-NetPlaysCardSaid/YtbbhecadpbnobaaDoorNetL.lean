/-
  NetL: rows of a net's ops as the walks meet them, and the walk of liaisonlaw12.long.
-/
import Derived.Test.YtbbhecadpbnobaaDoorNetT2
namespace Go.Proofs.YtbbhecadpbnobaaDoor
open Go.RowKit

structure OpN where
  kind : Int
  at_ : Int
  frm : Int
  to_ : Int
  is : Bool
  dat : List UInt8
/-- THE SLICE VALUE v IS THE ROW os OF OPS in w. -/
def OpLN (w : World) (v : Value) (os : List OpN) : Prop :=
  ∃ p cap, v = .slice p os.length cap ∧ os.length ≤ cap ∧ cap ≤ maxLen ∧
    ∀ (i : Nat) (o : OpN), os[i]? = some o → ∃ b off q c, p = some ⟨b, off, none⟩ ∧ w.cell? ⟨b, off + i * 6, none⟩ = some (.int .i64 o.kind) ∧ w.cell? ⟨b, off + i * 6 + 1, none⟩ = some (.int .i64 o.at_) ∧
      w.cell? ⟨b, off + i * 6 + 2, none⟩ = some (.int .i64 o.frm) ∧ w.cell? ⟨b, off + i * 6 + 3, none⟩ = some (.int .i64 o.to_) ∧ w.cell? ⟨b, off + i * 6 + 4, none⟩ = some (.bool o.is) ∧
      w.cell? ⟨b, off + i * 6 + 5, none⟩ = some (.slice q o.dat.length c) ∧ Byt w (.slice q o.dat.length c) o.dat
theorem OpLN.keep {w w' : World} {v : Value} {os : List OpN} (h : OpLN w v os) (hk : ∀ a v, w.cell? a = some v → w'.cell? a = some v) : OpLN w' v os := by
  obtain ⟨p, cap, rfl, h1, h2, h3⟩ := h
  refine ⟨p, cap, rfl, h1, h2, fun i o ho => ?_⟩
  obtain ⟨b, off, q, c, e, g1, g2, g3, g4, g5, g6, g7⟩ := h3 i o ho
  exact ⟨b, off, q, c, e, hk _ _ g1, hk _ _ g2, hk _ _ g3, hk _ _ g4, hk _ _ g5, hk _ _ g6, g7.keep hk⟩
def longN (os : List OpN) : Bool := decide (120 < os.length) || os.any fun o => decide (1200 < o.dat.length)
theorem longN_take (os : List OpN) (k : Nat) (hk : k < os.length) (h : (os.take k).any (fun o => decide (1200 < o.dat.length)) = false) (h2 : ¬ 1200 < os[k].dat.length) : (os.take (k + 1)).any (fun o => decide (1200 < o.dat.length)) = false := by
  rw [List.take_succ_eq_append_getElem hk, List.any_append, h]
  simp; omega
theorem longN_hit (os : List OpN) (k : Nat) (hk : k < os.length) (h : 1200 < os[k].dat.length) : longN os = true := by
  unfold longN
  have : (os.any fun o => decide (1200 < o.dat.length)) = true := List.any_eq_true.2 ⟨os[k], List.getElem_mem hk, by simpa using h⟩
  rw [this]; simp
theorem longN_el {os : List OpN} (h : longN os = false) : os.length ≤ 120 ∧ ∀ o ∈ os, o.dat.length ≤ 1200 := by
  unfold longN at h
  simp only [Bool.or_eq_false_iff, decide_eq_false_iff_not, List.any_eq_false] at h
  refine ⟨by omega, fun o ho => ?_⟩
  have := h.2 o ho
  simp only [decide_eq_true_eq] at this
  omega
theorem opNInfo : (Tryd.prog.info? 55).map (fun i => (i.zero, i.size, i.bytes)) = some (some (.agg #[.int .i64 0, .int .i64 0, .int .i64 0, .int .i64 0, .bool false, .slice none 0 0]), 6, 64) := by kernel_rfl
set_option maxRecDepth 20000 in
set_option maxHeartbeats 1000000 in
theorem longN_any (v : Value) (os : List OpN) (w : World) (hv : OpLN w v os) :
    Calls Tryd.prog 17 #[v] w (fun e w' => e = .returned (.bool (longN os)) ∧ Below w.heap.size w w') := by
  obtain ⟨p, cap, rfl, h1, h2, h3⟩ := hv
  obtain ⟨i0, hi, hz0, hz1, hz2⟩ := info_parts opNInfo
  have H3 := Lib.hid h3
  unfold maxLen at h2
  clear h3
  by_cases h40 : os.length ≤ 120
  · have d0 : decide (120 < (os.length : Int)) = false := by simp; omega
    have d0' : decide (120 < os.length) = false := by simp; omega
    go_enter Tryd.func17, Tryd.ntmps17
    go_wp2_with fail
    go_loopw [10] (fun i wr => ∃ k : Nat, k ≤ os.length ∧ i = .int .i64 k ∧ (os.take k).any (fun o => decide (1200 < o.dat.length)) = false ∧ Below w.heap.size w wr) (fun i _ => os.length - (intOf i).toNat)
    case atStart => exact ⟨0, by omega, rfl, rfl, Below.refl _ _⟩
    case round =>
      obtain ⟨k, hk, rfl, hno, hbw⟩ := hrel
      have HNO := Lib.hid hno
      clear hno
      by_cases hlt : k < os.length
      · obtain ⟨b, off, q, c, rfl, hc1, hc2, hc3, hc4, hc5, hc6, hby⟩ := H3.out k os[k] (by simp [hlt])
        have g1 := Below.keeps hbw _ _ hc1
        have g2 := Below.keeps hbw _ _ hc2
        have g3 := Below.keeps hbw _ _ hc3
        have g4 := Below.keeps hbw _ _ hc4
        have g5 := Below.keeps hbw _ _ hc5
        have g6 := Below.keeps hbw _ _ hc6
        have HHIT := Lib.hid (longN_hit os k hlt)
        have HST := Lib.hid (longN_take os k hlt HNO.out)
        clear hc1 hc2 hc3 hc4 hc5 hc6 hby
        generalize os[k] = o at *
        obtain ⟨kind, at_, f, t, is, dat⟩ := o
        simp only at g1 g2 g3 g4 g5 g6 HHIT HST
        have hbw2 := below_alloc hbw (.cells #[.int .i64 kind, .int .i64 at_, .int .i64 f, .int .i64 t, .bool is, .slice q dat.length c] 55)
        by_cases c3 : dat.length ≤ 1200
        · have d3 : decide (1200 < (dat.length : Int)) = false := by simp; omega
          have d4 : decide (1200 < dat.length) = false := by simp; omega
          have HST2 := Lib.hid (HST.out (by omega))
          clear HST HHIT
          go_wp2_with fail
          go_roundw
          case rel => exact ⟨k + 1, by omega, by go_num, HST2.out, hbw2⟩
          case measure => simp [intOf]; omega
        · have d3 : decide (1200 < (dat.length : Int)) = true := by simp; omega
          have d4 : decide (1200 < dat.length) = true := by simp; omega
          have HH := Lib.hid (HHIT.out (by omega))
          clear HST HHIT
          go_wp2_with fail
          go_ret
          exact ⟨(by rw [HH.out]; rfl), hbw2⟩
      · obtain rfl : k = os.length := by omega
        have HR := Lib.hid (show longN os = false by
          have := HNO.out
          rw [List.take_length] at this
          unfold longN; rw [this]; simp; omega)
        go_wp2_with fail
        go_ret
        exact ⟨(by rw [HR.out]; rfl), hbw⟩
  · have d0 : decide (120 < (os.length : Int)) = true := by simp; omega
    have d0' : decide (120 < os.length) = true := by simp; omega
    have HR := Lib.hid (show longN os = true by unfold longN; rw [d0']; rfl)
    go_enter Tryd.func17, Tryd.ntmps17
    go_wp2_with fail
    go_ret
    exact ⟨(by rw [HR.out]; rfl), Below.refl _ _⟩
end Go.Proofs.YtbbhecadpbnobaaDoor
