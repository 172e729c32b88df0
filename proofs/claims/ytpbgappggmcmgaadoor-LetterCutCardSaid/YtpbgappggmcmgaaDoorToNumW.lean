/-
  ToNumW: the walks of fields.ToNumber and of the reference's.
-/
import Derived.Test.YtpbgappggmcmgaaDoorToNum
import Derived.Test.YtpbgappggmcmgaaDoorFldOne
namespace Go.Proofs.YtpbgappggmcmgaaDoor
open Go.RowKit

theorem ten_err {l : List UInt8} {w w' : World} {E : Nat → Addr} (n : Nat) (h : toNumE l = n + 1) (hb : Below w.heap.size w w') :
    (fun e w' => e = Ending.returned (.tuple #[.int .i64 (toNumF l : Int), errV E (toNumE l)]) ∧ Below w.heap.size w w') (.returned (.tuple #[.int .i64 0, errAt (E n)])) w' := by
  have h0 : toNumF l = 0 := by unfold toNumF; rw [h]; rfl
  rw [h0, h]
  exact ⟨rfl, hb⟩
set_option maxRecDepth 20000 in
set_option maxHeartbeats 1000000 in
theorem tonumber_any (v : Value) (l : List UInt8) (w : World) (E : Nat → Addr) (he : ErrsOn [0, 3] w E) (hv : Byt w v l) :
    Calls Tryd.prog 53 #[v] w fun e w' => e = .returned (.tuple #[.int .i64 (toNumF l : Int), errV E (toNumE l)]) ∧ Below w.heap.size w w' := by
  have e0 := he.cell 0 rfl
  have e3 := he.cell 3 rfl
  simp only [errVar, List.getD_cons_zero, List.getD_cons_succ, errAt] at e0 e3
  obtain ⟨p, cap, rfl, h1, h2, h3⟩ := hv
  unfold maxLen at h2
  have H3 := Lib.hid h3
  clear h3 he
  have hcase : l = [] ∨ ∃ c m, l = c :: m := by cases l <;> simp
  rcases hcase with h0 | ⟨c, m, hcm⟩
  · have HF := Lib.hid (show toNumF l = valB l ∧ toNumE l = 0 by subst h0; exact ⟨rfl, rfl⟩)
    have hl8 : l.length ≤ 8 := by subst h0; simp
    have hl63 : valB l ≤ 9223372036854775807 := by subst h0; rw [valB_nil]; omega
    have d1 : decide ((0 : Int) < (l.length : Int)) = false := by subst h0; rfl
    have d1' : decide (0 < l.length) = false := by subst h0; rfl
    have d8 : decide ((8 : Int) < (l.length : Int)) = false := by subst h0; rfl
    have d8' : decide (8 < l.length) = false := by subst h0; rfl
    have e8 : ((l.length : Int) == 8) = false := by subst h0; rfl
    clear h0
    go_enter Tryd.func53, Tryd.ntmps53
    go_wp2_with fail
    go_loop [4, 36] (fun n i => ∃ k : Nat, k ≤ l.length ∧ i = .int .i64 k ∧ n = .int .i64 (valB (l.take k) : Int)) (fun _ i => l.length - (intOf i).toNat)
    case atStart => exact ⟨0, by omega, rfl, rfl⟩
    case round =>
      obtain ⟨k, hk, rfl, rfl⟩ := hrel
      by_cases hlt : k < l.length
      · obtain ⟨b2, off2, hp2, hck⟩ := byt_cell H3.out hlt
        have hpre := valB_pre l hl8 k hlt
        have HT := Lib.hid (valB_take l k hlt)
        have hle := valB_mono l (k + 1) (by omega)
        rw [HT.out] at hle
        have hor := or_byte (valB (l.take k)) l[k].toNat l[k].toNat_lt hpre (by omega)
        have hc8 := l[k].toNat_lt
        first | (cases hp2; skip) | (subst hp2; skip)
        generalize valB (l.take k) = u at *
        generalize l[k].toNat = x at *
        go_wp2_with fail
        go_round
        case rel => exact ⟨k + 1, by omega, by go_num, by rw [HT.out]; go_num⟩
        case measure => simp [intOf]; omega
      · obtain rfl : k = l.length := by omega
        rw [List.take_of_length_le (Nat.le_refl _)]
        go_wp2_with fail
        go_ret2
        rw [HF.out.1, HF.out.2]
        exact ⟨rfl, Below.refl _ _⟩
  · have hpos : 0 < l.length := by rw [hcm]; simp
    obtain ⟨b, off, rfl, hc⟩ := byt_cell H3.out hpos
    have hc0 : w.cell? ⟨b, off, none⟩ = some (.int .u8 (c.toNat : Int)) := by
      have : l[0] = c := by simp [hcm]
      rw [← this]; exact hc
    clear hc
    have d1 : decide ((0 : Int) < (l.length : Int)) = true := by simp; omega
    have d1' : decide (0 < l.length) = true := by simp; omega
    have hc256 := c.toNat_lt
    by_cases hz : c.toNat = 0
    · have dz : ((c.toNat : Int) == 0) = true := by simp [hz]
      have HE := Lib.hid (show toNumE l = 3 + 1 by unfold toNumE; rw [hcm, if_pos]; rw [List.head?_cons]; congr 1; exact UInt8.toNat_inj.1 hz)
      clear hcm hz
      go_enter Tryd.func53, Tryd.ntmps53
      go_wp2_with fail
      go_quiet (fail)
      go_wp2_with fail
      go_ret2
      exact ten_err 3 HE.out (below_drewN _ _)
    · have dz : ((c.toNat : Int) == 0) = false := by simp [hz]
      have hhead : ¬ l.head? = some 0 := by
        rw [hcm, List.head?_cons]; intro e; apply hz; rw [Option.some.inj e]; rfl
      by_cases h8 : 8 < l.length
      · have d8 : decide ((8 : Int) < (l.length : Int)) = true := by simp; omega
        have d8' : decide (8 < l.length) = true := by simp; omega
        have HE := Lib.hid (show toNumE l = 0 + 1 by unfold toNumE; rw [if_neg hhead, if_pos (.inl h8)])
        clear hcm hz hhead
        go_enter Tryd.func53, Tryd.ntmps53
        go_wp2_with fail
        go_quiet (fail)
        go_wp2_with fail
        go_ret2
        exact ten_err 0 HE.out (below_drewN _ _)
      · have d8 : decide ((8 : Int) < (l.length : Int)) = false := by simp; omega
        have d8' : decide (8 < l.length) = false := by simp; omega
        by_cases h7 : l.length = 8 ∧ 127 < c.toNat
        · have e8 : ((l.length : Int) == 8) = true := by simp; omega
          have d127 : decide ((127 : Int) < (c.toNat : Int)) = true := by simp; omega
          have HE := Lib.hid (show toNumE l = 0 + 1 by
            have h9 := (valB_8 c m (by have := h7.1; rw [hcm] at this; simpa using this)).2 h7.2
            rw [← hcm] at h9
            unfold toNumE; rw [if_neg hhead, if_pos (.inr ⟨h7.1, h9⟩)])
          clear hcm hz hhead h7
          go_enter Tryd.func53, Tryd.ntmps53
          go_wp2_with fail
          go_quiet (fail)
          go_wp2_with fail
          go_ret2
          exact ten_err 0 HE.out (below_drewN _ _)
        · have hE0 : toNumE l = 0 := by
            unfold toNumE; rw [if_neg hhead, if_neg]
            rintro (h | ⟨h, h'⟩)
            · exact h8 h
            · apply h7
              refine ⟨h, ?_⟩
              rw [hcm] at h h'
              exact (valB_8 c m (by simpa using h)).1 h'
          have HF := Lib.hid (show toNumF l = valB l ∧ toNumE l = 0 by unfold toNumF; rw [if_pos hE0]; exact ⟨rfl, hE0⟩)
          have hl8 : l.length ≤ 8 := by omega
          have hl63 : valB l ≤ 9223372036854775807 := by
            by_cases h : l.length = 8
            · have : ¬ 127 < c.toNat := fun h' => h7 ⟨h, h'⟩
              rw [hcm] at h ⊢
              have := (valB_8 c m (by simpa using h))
              omega
            · have := valB_7 l (by omega)
              omega
          by_cases h : l.length = 8
          · have e8 : ((l.length : Int) == 8) = true := by simp; omega
            have d127 : decide ((127 : Int) < (c.toNat : Int)) = false := by simp; omega
            clear hcm hz hhead h7 hE0 h
            go_enter Tryd.func53, Tryd.ntmps53
            go_wp2_with fail
            go_loop [4, 36] (fun n i => ∃ k : Nat, k ≤ l.length ∧ i = .int .i64 k ∧ n = .int .i64 (valB (l.take k) : Int)) (fun _ i => l.length - (intOf i).toNat)
            case atStart => exact ⟨0, by omega, rfl, rfl⟩
            case round =>
              obtain ⟨k, hk, rfl, rfl⟩ := hrel
              by_cases hlt : k < l.length
              · obtain ⟨b2, off2, hp2, hck⟩ := byt_cell H3.out hlt
                have hpre := valB_pre l hl8 k hlt
                have HT := Lib.hid (valB_take l k hlt)
                have hle := valB_mono l (k + 1) (by omega)
                rw [HT.out] at hle
                have hor := or_byte (valB (l.take k)) l[k].toNat l[k].toNat_lt hpre (by omega)
                have hc8 := l[k].toNat_lt
                first | (cases hp2; skip) | (subst hp2; skip)
                generalize valB (l.take k) = u at *
                generalize l[k].toNat = x at *
                go_wp2_with fail
                go_round
                case rel => exact ⟨k + 1, by omega, by go_num, by rw [HT.out]; go_num⟩
                case measure => simp [intOf]; omega
              · obtain rfl : k = l.length := by omega
                rw [List.take_of_length_le (Nat.le_refl _)]
                go_wp2_with fail
                go_ret2
                rw [HF.out.1, HF.out.2]
                exact ⟨rfl, Below.refl _ _⟩
          · have e8 : ((l.length : Int) == 8) = false := by simp; omega
            clear hcm hz hhead h7 hE0 h
            go_enter Tryd.func53, Tryd.ntmps53
            go_wp2_with fail
            go_loop [4, 36] (fun n i => ∃ k : Nat, k ≤ l.length ∧ i = .int .i64 k ∧ n = .int .i64 (valB (l.take k) : Int)) (fun _ i => l.length - (intOf i).toNat)
            case atStart => exact ⟨0, by omega, rfl, rfl⟩
            case round =>
              obtain ⟨k, hk, rfl, rfl⟩ := hrel
              by_cases hlt : k < l.length
              · obtain ⟨b2, off2, hp2, hck⟩ := byt_cell H3.out hlt
                have hpre := valB_pre l hl8 k hlt
                have HT := Lib.hid (valB_take l k hlt)
                have hle := valB_mono l (k + 1) (by omega)
                rw [HT.out] at hle
                have hor := or_byte (valB (l.take k)) l[k].toNat l[k].toNat_lt hpre (by omega)
                have hc8 := l[k].toNat_lt
                first | (cases hp2; skip) | (subst hp2; skip)
                generalize valB (l.take k) = u at *
                generalize l[k].toNat = x at *
                go_wp2_with fail
                go_round
                case rel => exact ⟨k + 1, by omega, by go_num, by rw [HT.out]; go_num⟩
                case measure => simp [intOf]; omega
              · obtain rfl : k = l.length := by omega
                rw [List.take_of_length_le (Nat.le_refl _)]
                go_wp2_with fail
                go_ret2
                rw [HF.out.1, HF.out.2]
                exact ⟨rfl, Below.refl _ _⟩
end Go.Proofs.YtpbgappggmcmgaaDoor
