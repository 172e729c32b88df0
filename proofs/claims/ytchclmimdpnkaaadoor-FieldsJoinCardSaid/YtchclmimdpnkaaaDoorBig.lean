/-
  Big: the walk of liaisonlaw03.big.
-/
import Derived.Test.YtchclmimdpnkaaaDoorCutLaw
namespace Go.Proofs.YtchclmimdpnkaaaDoor
open Go.RowKit

def bigR (fs : List (Int × List UInt8)) : Bool := decide (40 < fs.length) || fs.any fun f => decide (400 < f.2.length)
theorem bigR_take (fs : List (Int × List UInt8)) (k : Nat) (hk : k < fs.length) (h : (fs.take k).any (fun f => decide (400 < f.2.length)) = false) (h2 : ¬ 400 < fs[k].2.length) : (fs.take (k + 1)).any (fun f => decide (400 < f.2.length)) = false := by
  rw [List.take_succ_eq_append_getElem hk, List.any_append, h]
  simp; omega
theorem bigR_hit (fs : List (Int × List UInt8)) (k : Nat) (hk : k < fs.length) (h : 400 < fs[k].2.length) : bigR fs = true := by
  unfold bigR
  have : (fs.any fun f => decide (400 < f.2.length)) = true := List.any_eq_true.2 ⟨fs[k], List.getElem_mem hk, by simpa using h⟩
  rw [this]; simp
set_option maxRecDepth 20000 in
set_option maxHeartbeats 1000000 in
theorem big_any (v : Value) (fs : List (Int × List UInt8)) (w : World) (hv : FldL w v fs) :
    Calls Tryd.prog 29 #[v] w (fun e w' => e = .returned (.bool (bigR fs)) ∧ Below w.heap.size w w') := by
  obtain ⟨p, cap, us, rfl, h1, h2, h3, h4, h5⟩ := hv
  obtain ⟨i0, hi, hz0, hz1, hz2⟩ := info_parts fldInfo
  have H4 := Lib.hid h4
  have H5 := Lib.hid h5
  unfold maxLen at h2
  clear h4 h5 h3
  by_cases h40 : fs.length ≤ 40
  · have d0 : decide (40 < (fs.length : Int)) = false := by simp; omega
    have d0' : decide (40 < fs.length) = false := by simp; omega
    go_enter Tryd.func29, Tryd.ntmps29
    go_wp2_with fail
    go_loopw [10] (fun i wr => ∃ k : Nat, k ≤ fs.length ∧ i = .int .i64 k ∧ (fs.take k).any (fun f => decide (400 < f.2.length)) = false ∧ Below w.heap.size w wr) (fun i _ => fs.length - (intOf i).toNat)
    case atStart => exact ⟨0, by omega, rfl, rfl, Below.refl _ _⟩
    case round =>
      obtain ⟨k, hk, rfl, hno, hbw⟩ := hrel
      have HNO := Lib.hid hno
      clear hno
      by_cases hlt : k < fs.length
      · obtain ⟨b, off, q, c, rfl, hc1, hc2, hby⟩ := fldL_cell H4.out H5.out hlt
        have g1 := Below.keeps hbw _ _ hc1
        have g2 := Below.keeps hbw _ _ hc2
        have HHIT := Lib.hid (bigR_hit fs k hlt)
        have HST := Lib.hid (bigR_take fs k hlt HNO.out)
        clear hc1 hc2 hby
        generalize fs[k] = f at *
        obtain ⟨tag, dat⟩ := f
        simp only at g1 g2 HHIT HST
        have hbw2 := below_alloc hbw (.cells #[.int .i64 tag, .slice q dat.length c] 60)
        by_cases c3 : dat.length ≤ 400
        · have d3 : decide (400 < (dat.length : Int)) = false := by simp; omega
          have d4 : decide (400 < dat.length) = false := by simp; omega
          have HST2 := Lib.hid (HST.out (by omega))
          clear HST HHIT
          go_wp2_with fail
          go_roundw
          case rel => exact ⟨k + 1, by omega, by go_num, HST2.out, hbw2⟩
          case measure => simp [intOf]; omega
        · have d3 : decide (400 < (dat.length : Int)) = true := by simp; omega
          have d4 : decide (400 < dat.length) = true := by simp; omega
          have HH := Lib.hid (HHIT.out (by omega))
          clear HST HHIT
          go_wp2_with fail
          go_ret
          exact ⟨(by rw [HH.out]; rfl), hbw2⟩
      · obtain rfl : k = fs.length := by omega
        have HR := Lib.hid (show bigR fs = false by
          have := HNO.out
          rw [List.take_length] at this
          unfold bigR; rw [this]; simp; omega)
        go_wp2_with fail
        go_ret
        exact ⟨(by rw [HR.out]; rfl), hbw⟩
  · have d0 : decide (40 < (fs.length : Int)) = true := by simp; omega
    have d0' : decide (40 < fs.length) = true := by simp; omega
    have HR := Lib.hid (show bigR fs = true by unfold bigR; rw [d0']; rfl)
    go_enter Tryd.func29, Tryd.ntmps29
    go_wp2_with fail
    go_ret
    exact ⟨(by rw [HR.out]; rfl), Below.refl _ _⟩
end Go.Proofs.YtchclmimdpnkaaaDoor
