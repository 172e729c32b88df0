/-
  Opl: rows of ops as the walks meet them, and the walk of liaisonlaw06.long.
-/
import Derived.Test.YtehoenojjdgphaaDoorTapeDo3
namespace Go.Proofs.YtehoenojjdgphaaDoor
open Go.RowKit

/-- an op: kind, number, data -/
abbrev OpD := Int × Int × List UInt8
/-- THE SLICE VALUE v IS THE ROW os OF OPS in w. -/
def OpL (w : World) (v : Value) (os : List OpD) : Prop :=
  ∃ p cap, v = .slice p os.length cap ∧ os.length ≤ cap ∧ cap ≤ maxLen ∧
    ∀ (i : Nat) (o : OpD), os[i]? = some o → ∃ b off q c, p = some ⟨b, off, none⟩ ∧ w.cell? ⟨b, off + i * 3, none⟩ = some (.int .i64 o.1) ∧ w.cell? ⟨b, off + i * 3 + 1, none⟩ = some (.int .i64 o.2.1) ∧
      w.cell? ⟨b, off + i * 3 + 2, none⟩ = some (.slice q o.2.2.length c) ∧ Byt w (.slice q o.2.2.length c) o.2.2
theorem OpL.keep {w w' : World} {v : Value} {os : List OpD} (h : OpL w v os) (hk : ∀ a v, w.cell? a = some v → w'.cell? a = some v) : OpL w' v os := by
  obtain ⟨p, cap, rfl, h1, h2, h3⟩ := h
  refine ⟨p, cap, rfl, h1, h2, fun i o ho => ?_⟩
  obtain ⟨b, off, q, c, e, g1, g2, g3, g4⟩ := h3 i o ho
  exact ⟨b, off, q, c, e, hk _ _ g1, hk _ _ g2, hk _ _ g3, g4.keep hk⟩
def longR (os : List OpD) : Bool := decide (100 < os.length) || os.any fun o => decide (400 < o.2.2.length)
theorem longR_take (os : List OpD) (k : Nat) (hk : k < os.length) (h : (os.take k).any (fun o => decide (400 < o.2.2.length)) = false) (h2 : ¬ 400 < os[k].2.2.length) : (os.take (k + 1)).any (fun o => decide (400 < o.2.2.length)) = false := by
  rw [List.take_succ_eq_append_getElem hk, List.any_append, h]
  simp; omega
theorem longR_hit (os : List OpD) (k : Nat) (hk : k < os.length) (h : 400 < os[k].2.2.length) : longR os = true := by
  unfold longR
  have : (os.any fun o => decide (400 < o.2.2.length)) = true := List.any_eq_true.2 ⟨os[k], List.getElem_mem hk, by simpa using h⟩
  rw [this]; simp
theorem opInfo : (Tryd.prog.info? 50).map (fun i => (i.zero, i.size, i.bytes)) = some (some (.agg #[.int .i64 0, .int .i64 0, .slice none 0 0]), 3, 40) := by kernel_rfl
set_option maxRecDepth 20000 in
set_option maxHeartbeats 1000000 in
theorem long_any (v : Value) (os : List OpD) (w : World) (hv : OpL w v os) :
    Calls Tryd.prog 19 #[v] w (fun e w' => e = .returned (.bool (longR os)) ∧ Below w.heap.size w w') := by
  obtain ⟨p, cap, rfl, h1, h2, h3⟩ := hv
  obtain ⟨i0, hi, hz0, hz1, hz2⟩ := info_parts opInfo
  have H3 := Lib.hid h3
  unfold maxLen at h2
  clear h3
  by_cases h40 : os.length ≤ 100
  · have d0 : decide (100 < (os.length : Int)) = false := by simp; omega
    have d0' : decide (100 < os.length) = false := by simp; omega
    go_enter Tryd.func19, Tryd.ntmps19
    go_wp2_with fail
    go_loopw [10] (fun i wr => ∃ k : Nat, k ≤ os.length ∧ i = .int .i64 k ∧ (os.take k).any (fun o => decide (400 < o.2.2.length)) = false ∧ Below w.heap.size w wr) (fun i _ => os.length - (intOf i).toNat)
    case atStart => exact ⟨0, by omega, rfl, rfl, Below.refl _ _⟩
    case round =>
      obtain ⟨k, hk, rfl, hno, hbw⟩ := hrel
      have HNO := Lib.hid hno
      clear hno
      by_cases hlt : k < os.length
      · obtain ⟨b, off, q, c, rfl, hc1, hc2, hc3, hby⟩ := H3.out k os[k] (by simp [hlt])
        have g1 := Below.keeps hbw _ _ hc1
        have g2 := Below.keeps hbw _ _ hc2
        have g3 := Below.keeps hbw _ _ hc3
        have HHIT := Lib.hid (longR_hit os k hlt)
        have HST := Lib.hid (longR_take os k hlt HNO.out)
        clear hc1 hc2 hc3 hby
        generalize os[k] = o at *
        obtain ⟨kind, n, dat⟩ := o
        simp only at g1 g2 g3 HHIT HST
        have hbw2 := below_alloc hbw (.cells #[.int .i64 kind, .int .i64 n, .slice q dat.length c] 50)
        by_cases c3 : dat.length ≤ 400
        · have d3 : decide (400 < (dat.length : Int)) = false := by simp; omega
          have d4 : decide (400 < dat.length) = false := by simp; omega
          have HST2 := Lib.hid (HST.out (by omega))
          clear HST HHIT
          go_wp2_with fail
          go_roundw
          case rel => exact ⟨k + 1, by omega, by go_num, HST2.out, hbw2⟩
          case measure => simp [intOf]; omega
        · have d3 : decide (400 < (dat.length : Int)) = true := by simp; omega
          have d4 : decide (400 < dat.length) = true := by simp; omega
          have HH := Lib.hid (HHIT.out (by omega))
          clear HST HHIT
          go_wp2_with fail
          go_ret
          exact ⟨(by rw [HH.out]; rfl), hbw2⟩
      · obtain rfl : k = os.length := by omega
        have HR := Lib.hid (show longR os = false by
          have := HNO.out
          rw [List.take_length] at this
          unfold longR; rw [this]; simp; omega)
        go_wp2_with fail
        go_ret
        exact ⟨(by rw [HR.out]; rfl), hbw⟩
  · have d0 : decide (100 < (os.length : Int)) = true := by simp; omega
    have d0' : decide (100 < os.length) = true := by simp; omega
    have HR := Lib.hid (show longR os = true by unfold longR; rw [d0']; rfl)
    go_enter Tryd.func19, Tryd.ntmps19
    go_wp2_with fail
    go_ret
    exact ⟨(by rw [HR.out]; rfl), Below.refl _ _⟩
end Go.Proofs.YtehoenojjdgphaaDoor
