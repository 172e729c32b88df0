/-
  BctxF: the document's hex and digits.
-/
import Derived.Test.YtgmiockaecklaaaGreatDoorBctxE
namespace Go.Proofs.YtgmiockaecklaaaGreatDoor
open Go.RowKit Go.Extern.Stop Go.Stop Go.Extern Ieee
attribute [local go_sem] bs_toList bs_size

theorem hexD_lo {d : Nat} (h : d < 10) : ((hexD d).toNat : Int) = (d : Int) + 48 := by
  unfold hexD
  rw [if_pos h, UInt8.toNat_ofNat']
  omega
theorem hexD_hi {d : Nat} (h : ¬ d < 10) (h2 : d < 16) : ((hexD d).toNat : Int) = (d : Int) + 87 := by
  unfold hexD
  rw [if_neg h, UInt8.toNat_ofNat']
  omega
set_option maxRecDepth 20000 in
set_option maxHeartbeats 1000000 in
theorem refhex_any (x : Nat) (hx : x < 18446744073709551616) (w : World) : Calls Tryz.prog 34 #[.int .u64 (x : Int)] w (Gives w (.string (bs (hexN 16 x)))) := by
  go_enter Tryz.func34, Tryz.ntmps34
  go_wp2_with fail
  go_loopw [0, 3, 4] (fun n o i wr => ∃ k : Nat, k ≤ 16 ∧ i = .int .i64 k ∧ n = .int .u64 ((x / 16 ^ k : Nat) : Int) ∧ o = .string (bs (hexN k x)) ∧ Below w.heap.size w wr) (fun _ _ i _ => (16 - intOf i).toNat)
  case atStart => exact ⟨0, by omega, rfl, by simp, rfl, Below.refl _ _⟩
  case round =>
    obtain ⟨k, hk, rfl, rfl, rfl, hbw⟩ := hrel
    by_cases hlt : k < 16
    · have HS := Lib.hid (hexN_cons k x)
      have HN := Lib.hid (show x / 16 ^ (k + 1) = x / 16 ^ k / 16 by rw [Nat.div_div_eq_div_mul, ← Nat.pow_succ])
      have hnb : x / 16 ^ k < 18446744073709551616 := Nat.lt_of_le_of_lt (Nat.div_le_self _ _) hx
      have hlen : (hexN k x).length ≤ 16 := by rw [hexN_len]; omega
      generalize hexN k x = O at *
      generalize x / 16 ^ k = N at *
      have hd16 : N % 16 < 16 := Nat.mod_lt _ (by omega)
      have hlt' : (k : Int) < 16 := by omega
      have q2 : (N : Int).tmod 16 = ((N % 16 : Nat) : Int) := by rw [Int.tmod_eq_emod_of_nonneg (by omega)]; omega
      have q1 : (N : Int).tdiv 16 = ((N / 16 : Nat) : Int) := by rw [Int.tdiv_eq_ediv_of_nonneg (by omega)]; omega
      have HBW := Lib.hid hbw
      by_cases h10 : N % 16 < 10
      · have d1 : decide (((N % 16 : Nat) : Int) < 10) = true := decide_eq_true (by omega)
        have hc := Lib.hid (hexD_lo h10)
        generalize hexD (N % 16) = c at *
        have hby := byt_one wr c 5 (0, 0) wr.heap.size rfl
        have hcv := run_str (P := Tryz.prog) Tryz.underlying110 Tryz.underlying5 Tryz.underlying9 hby
        rw [show (c.toNat : Int) = (N : Int) % 16 + 48 from by rw [hc.out]; omega] at hcv
        have hsa := fun w => run_str_add (P := Tryz.prog) w [c] O (by simp; omega)
        have B2 := Lib.hid (below_alloc HBW.out (.cells #[.int .u8 ((N : Int) % 16 + 48)] 5))
        clear hbw hby
        go_wp2_with fail
        go_roundw
        case rel => exact ⟨k + 1, by omega, by simp, by rw [HN.out]; (try simp), by rw [HS.out]; (try rfl), B2.out⟩
        all_goals (simp [intOf]; try omega)
      · have d1 : decide (((N % 16 : Nat) : Int) < 10) = false := decide_eq_false (by omega)
        have hc := Lib.hid (hexD_hi h10 hd16)
        generalize hexD (N % 16) = c at *
        have hby := byt_one wr c 5 (0, 0) wr.heap.size rfl
        have hcv := run_str (P := Tryz.prog) Tryz.underlying110 Tryz.underlying5 Tryz.underlying9 hby
        rw [show (c.toNat : Int) = (N : Int) % 16 + 87 from by rw [hc.out]; omega] at hcv
        have hsa := fun w => run_str_add (P := Tryz.prog) w [c] O (by simp; omega)
        have B2 := Lib.hid (below_alloc HBW.out (.cells #[.int .u8 ((N : Int) % 16 + 87)] 5))
        clear hbw hby
        go_wp2_with fail
        go_roundw
        case rel => exact ⟨k + 1, by omega, by simp, by rw [HN.out]; (try simp), by rw [HS.out]; (try rfl), B2.out⟩
        all_goals (simp [intOf]; try omega)
    · obtain rfl : k = 16 := by omega
      go_wp2_with fail
      go_ret
      exact ⟨rfl, hbw⟩
set_option maxRecDepth 20000 in
set_option maxHeartbeats 1000000 in
theorem refdigits_any (l : List UInt8) (hl : l.length ≤ 1000000) (w : World) :
    Calls Tryz.prog 49 #[.string (bs l)] w (fun e w' => e = .returned (.int .i64 (refD l)) ∧ w = w') := by
  by_cases h0 : l = []
  · subst h0
    have HX := Lib.hid (show refD [] = -1 from rfl)
    go_enter Tryz.func49, Tryz.ntmps49
    go_wp2_with fail
    go_ret
    exact ⟨by rw [HX.out]; rfl, rfl⟩
  have hpos : 0 < l.length := List.length_pos_iff.2 h0
  have e0 : decide ((l.length : Int) < 1) = false := decide_eq_false (by omega)
  have e0' : decide (l.length < 1) = false := decide_eq_false (by omega)
  by_cases hl9 : l.length ≤ 9
  · have d0 : decide ((9 : Int) < (l.length : Int)) = false := decide_eq_false (by omega)
    have d0' : decide (9 < l.length) = false := decide_eq_false (by omega)
    have hb0 := bs_get l 0 hpos
    by_cases h1 : 1 < l.length
    · have f1 : decide ((1 : Int) < (l.length : Int)) = true := decide_eq_true (by omega)
      have f1' : decide (1 < l.length) = true := decide_eq_true h1
      have hz := head_zero hpos
      have hz1 : (l == [48]) = false := by rw [beq_eq_false_iff_ne]; intro e; rw [e] at h1; simp at h1
      rw [hz1, Bool.false_or] at hz
      cases h2 : (l[0] == 48)
      · have HH0 := Lib.hid (show headB l = true by rw [hz, h2]; rfl)
        have hx2 : (l[0].toNat == 48) = false := by
          rw [beq_eq_false_iff_ne]
          intro e
          rw [beq_eq_false_iff_ne] at h2
          exact h2 (UInt8.toNat_inj.1 e)
        have hx1 : ((l[0].toNat : Int) == 48) = false := by
          rw [beq_eq_false_iff_ne] at hx2 ⊢
          intro e
          exact hx2 (by omega)
        clear hz h2 hz1
        go_enter Tryz.func49, Tryz.ntmps49
        go_wp2_with fail
        clear hx1 hx2 hb0 d0 d0' h0 f1 f1' e0 e0'
        generalize ((l[0].toNat : Int) == 48) = b48
        generalize l[0].toNat = m0
        go_loopw [3, 4] (fun n i wr => ∃ k : Nat, k ≤ l.length ∧ i = .int .i64 k ∧ n = .int .i64 ((val7 (l.take k) : Nat) : Int) ∧ (l.take k).all digitB = true ∧ w = wr) (fun _ i _ => l.length - (intOf i).toNat)
        case atStart => exact ⟨0, by omega, rfl, rfl, rfl, rfl⟩
        case round =>
          obtain ⟨k, hk, rfl, rfl, hall, rfl⟩ := hrel
          by_cases hlt : k < l.length
          · have hbk := bs_get l k hlt
            have hki : (k : Int) < (l.length : Int) := by omega
            have HA := Lib.hid (take_all hlt hall)
            have hv := val7_bd9 hl9 hall
            have HL := Lib.hid (val7_step hlt)
            have HNA := Lib.hid (all_not (l := l) (p := digitB) hlt)
            generalize val7 (l.take k) = V at *
            clear hall
            by_cases hd : digitB l[k] = true
            · have h48 := digitB_le hd
              have h1 : decide ((l[k].toNat : Int) < 48) = false := decide_eq_false (by omega)
              have h2 : decide ((57 : Int) < (l[k].toNat : Int)) = false := decide_eq_false (by omega)
              have h3 : decide (l[k].toNat < 48) = false := decide_eq_false (by omega)
              have h4 : decide (57 < l[k].toNat) = false := decide_eq_false (by omega)
              rw [hd] at HA
              clear hd
              obtain ⟨y, hy⟩ : ∃ y : Nat, l[k].toNat = 48 + y := ⟨l[k].toNat - 48, by omega⟩
              have hy9 : y ≤ 9 := by omega
              go_wp2_with fail
              go_roundw
              case rel => exact ⟨k + 1, by omega, by simp, by rw [HL.out]; congr 1; omega, HA.out, by trivial⟩
              all_goals (simp [intOf]; try omega)
            · have hdf : digitB l[k] = false := by simpa using hd
              have HX := Lib.hid (show refD l = -1 by
                unfold refD dig9
                rw [if_neg (by rw [HNA.out hdf]; simp)])
              have hor : l[k].toNat < 48 ∨ 48 ≤ l[k].toNat ∧ 57 < l[k].toNat := by
                unfold digitB at hdf
                simp only [Bool.and_eq_false_iff, decide_eq_false_iff_not] at hdf
                omega
              clear hd hdf HL HNA HA
              rcases hor with h1 | ⟨h1, h2⟩
              · have d1 : decide ((l[k].toNat : Int) < 48) = true := decide_eq_true (by omega)
                have d2 : decide (l[k].toNat < 48) = true := decide_eq_true (by omega)
                go_wp2_with fail
                go_ret
                exact ⟨by rw [HX.out]; rfl, rfl⟩
              · have d1 : decide ((l[k].toNat : Int) < 48) = false := decide_eq_false (by omega)
                have d2 : decide (l[k].toNat < 48) = false := decide_eq_false (by omega)
                have d3 : decide ((57 : Int) < (l[k].toNat : Int)) = true := decide_eq_true (by omega)
                have d4 : decide (57 < l[k].toNat) = true := decide_eq_true (by omega)
                go_wp2_with fail
                go_ret
                exact ⟨by rw [HX.out]; rfl, rfl⟩
          · obtain rfl : k = l.length := by omega
            rw [List.take_length] at hall ⊢
            have HX := Lib.hid (show refD l = (val7 l : Nat) by
              unfold refD dig9
              rw [if_pos ⟨HH0.out, hl9, hall⟩])
            go_wp2_with fail
            go_ret
            exact ⟨by rw [HX.out]; rfl, rfl⟩
      · have HX := Lib.hid (show refD l = -1 by
          unfold refD dig9
          rw [if_neg (by rw [hz, h2]; simp)])
        have hx0 : l[0] = 48 := by simpa using h2
        have hx3 : (l[0].toNat == 48) = true := by rw [hx0]; rfl
        have hx4 : ((l[0].toNat : Int) == 48) = true := by rw [hx0]; rfl
        clear hz h2 hx0
        go_enter Tryz.func49, Tryz.ntmps49
        go_wp2_with fail
        go_ret
        exact ⟨by rw [HX.out]; rfl, rfl⟩
    · have f1 : decide ((1 : Int) < (l.length : Int)) = false := decide_eq_false (by omega)
      have f1' : decide (1 < l.length) = false := decide_eq_false h1
      have HH0 := Lib.hid (show headB l = true by
        unfold headB
        rw [f1', beq_eq_false_iff_ne.2 h0]
        rfl)
      go_enter Tryz.func49, Tryz.ntmps49
      go_wp2_with fail
      clear hb0 d0 d0' h0 f1 f1' e0 e0'
      go_loopw [3, 4] (fun n i wr => ∃ k : Nat, k ≤ l.length ∧ i = .int .i64 k ∧ n = .int .i64 ((val7 (l.take k) : Nat) : Int) ∧ (l.take k).all digitB = true ∧ w = wr) (fun _ i _ => l.length - (intOf i).toNat)
      case atStart => exact ⟨0, by omega, rfl, rfl, rfl, rfl⟩
      case round =>
        obtain ⟨k, hk, rfl, rfl, hall, rfl⟩ := hrel
        by_cases hlt : k < l.length
        · have hbk := bs_get l k hlt
          have hki : (k : Int) < (l.length : Int) := by omega
          have HA := Lib.hid (take_all hlt hall)
          have hv := val7_bd9 hl9 hall
          have HL := Lib.hid (val7_step hlt)
          have HNA := Lib.hid (all_not (l := l) (p := digitB) hlt)
          generalize val7 (l.take k) = V at *
          clear hall
          by_cases hd : digitB l[k] = true
          · have h48 := digitB_le hd
            have h1 : decide ((l[k].toNat : Int) < 48) = false := decide_eq_false (by omega)
            have h2 : decide ((57 : Int) < (l[k].toNat : Int)) = false := decide_eq_false (by omega)
            have h3 : decide (l[k].toNat < 48) = false := decide_eq_false (by omega)
            have h4 : decide (57 < l[k].toNat) = false := decide_eq_false (by omega)
            rw [hd] at HA
            clear hd
            obtain ⟨y, hy⟩ : ∃ y : Nat, l[k].toNat = 48 + y := ⟨l[k].toNat - 48, by omega⟩
            have hy9 : y ≤ 9 := by omega
            go_wp2_with fail
            go_roundw
            case rel => exact ⟨k + 1, by omega, by simp, by rw [HL.out]; congr 1; omega, HA.out, by trivial⟩
            all_goals (simp [intOf]; try omega)
          · have hdf : digitB l[k] = false := by simpa using hd
            have HX := Lib.hid (show refD l = -1 by
              unfold refD dig9
              rw [if_neg (by rw [HNA.out hdf]; simp)])
            have hor : l[k].toNat < 48 ∨ 48 ≤ l[k].toNat ∧ 57 < l[k].toNat := by
              unfold digitB at hdf
              simp only [Bool.and_eq_false_iff, decide_eq_false_iff_not] at hdf
              omega
            clear hd hdf HL HNA HA
            rcases hor with h1 | ⟨h1, h2⟩
            · have d1 : decide ((l[k].toNat : Int) < 48) = true := decide_eq_true (by omega)
              have d2 : decide (l[k].toNat < 48) = true := decide_eq_true (by omega)
              go_wp2_with fail
              go_ret
              exact ⟨by rw [HX.out]; rfl, rfl⟩
            · have d1 : decide ((l[k].toNat : Int) < 48) = false := decide_eq_false (by omega)
              have d2 : decide (l[k].toNat < 48) = false := decide_eq_false (by omega)
              have d3 : decide ((57 : Int) < (l[k].toNat : Int)) = true := decide_eq_true (by omega)
              have d4 : decide (57 < l[k].toNat) = true := decide_eq_true (by omega)
              go_wp2_with fail
              go_ret
              exact ⟨by rw [HX.out]; rfl, rfl⟩
        · obtain rfl : k = l.length := by omega
          rw [List.take_length] at hall ⊢
          have HX := Lib.hid (show refD l = (val7 l : Nat) by
            unfold refD dig9
            rw [if_pos ⟨HH0.out, hl9, hall⟩])
          go_wp2_with fail
          go_ret
          exact ⟨by rw [HX.out]; rfl, rfl⟩
  · have d0 : decide ((9 : Int) < (l.length : Int)) = true := decide_eq_true (by omega)
    have d0' : decide (9 < l.length) = true := decide_eq_true (by omega)
    have HX := Lib.hid (show refD l = -1 by
      unfold refD dig9
      rw [if_neg (by omega)])
    go_enter Tryz.func49, Tryz.ntmps49
    go_wp2_with fail
    go_ret
    exact ⟨by rw [HX.out]; rfl, rfl⟩
end Go.Proofs.YtgmiockaecklaaaGreatDoor
