/-
  LawLeast: the walk of FloatsLeast.
-/
import Derived.Test.YteoiedlffifpoaaDoorFltList
namespace Go.Proofs.YteoiedlffifpoaaDoor
open Go.RowKit Ieee
attribute [local go_sem] flt_def fgt_def feq_def fne_def

theorem place_le (m : Nat) (hm : m < 18446744073709551616) : place m ≤ 18446744073709551616 := by
  unfold place; repeat' split
  all_goals omega
theorem step_nan {m x : Nat} (hm : m < 18446744073709551616) (hx : isNan x = true) : leastStep m x = m := by
  unfold leastStep
  rw [place_nan hx, if_neg]
  have := place_le m hm
  unfold cmpI; repeat' split
  all_goals omega
set_option maxRecDepth 20000 in
set_option maxHeartbeats 1000000 in
theorem floatsleast_any (v : Value) (l : List Nat) (w : World) (E : Nat → Addr) (he : ErrsOn [0, 3] w E) (hv : Fl w v l) :
    Calls Tryd.prog 5 #[v] w (Gives w (.bool true)) := by
  have HA := alive_any w E he
  have HV := Lib.hid hv
  obtain ⟨⟨p, cap, rfl, h1, h2, h3⟩, h4⟩ := hv
  have H3 := Lib.hid h3
  have H4 := Lib.hid h4
  clear h3 h4 he
  unfold maxLen at h2
  go_enter Tryd.func5, Tryd.ntmps5
  go_wp2_with fail
  refine HA.mono ?_
  rintro e w1 ⟨rfl, hb1⟩
  by_cases hl : l.length ≤ 500
  · have hld : decide (500 < (l.length : Int)) = false := decide_eq_false (by omega)
    have hld' : decide (500 < l.length) = false := decide_eq_false (by omega)
    go_wp2_with fail
    refine (inf_any w1).mono ?_
    rintro e w2 ⟨rfl, hb2'⟩
    have hb2 := hb1.trans (hb2'.mono hb1.size)
    clear hb2'
    go_wp2_with fail
    go_loopw [3, 14] (fun m i wr => ∃ k : Nat, k ≤ l.length ∧ i = .int .i64 k ∧ m = .float .f64 (leastF (l.take k)) ∧ Below w.heap.size w wr) (fun _ i _ => l.length - (intOf i).toNat)
    case atStart => exact ⟨0, by omega, rfl, rfl, hb2⟩
    case round =>
      obtain ⟨k, hk, rfl, rfl, hbw⟩ := hrel
      by_cases hlt : k < l.length
      · obtain ⟨b, off, rfl, hc⟩ := fl_cell H3.out hlt
        have hcw := Below.keeps hbw _ _ hc
        have HS := Lib.hid (least_take l k hlt)
        have hx : l[k] < 18446744073709551616 := H4.out _ (List.getElem_mem hlt)
        have hm := least_pre l H4.out k
        generalize leastF (l.take k) = m at *
        generalize l[k] = x at *
        clear hc
        go_wp2_with fail
        refine (refnan_any x wr).mono ?_
        rintro e w5 ⟨rfl, hb5'⟩
        have hb5 := hbw.trans (hb5'.mono hbw.size)
        clear hb5'
        cases hn : isNan x
        · go_wp2_with fail
          refine (reforder_any x m hx hm w5).mono ?_
          rintro e w6 ⟨rfl, hb6'⟩
          have hb6 := hb5.trans (hb6'.mono hb5.size)
          clear hb6'
          by_cases hneg : cmpI (place x) (place m) < 0
          · have HL := Lib.hid (show leastStep m x = x by unfold leastStep; rw [if_pos hneg])
            have d1 := decide_eq_true hneg
            clear hneg
            go_wp2_with fail
            go_roundw
            case rel => exact ⟨k + 1, by omega, by go_num, by rw [HS.out, HL.out], hb6⟩
            case measure => simp [intOf]; omega
          · have HL := Lib.hid (show leastStep m x = m by unfold leastStep; rw [if_neg hneg])
            have d1 := decide_eq_false hneg
            clear hneg
            go_wp2_with fail
            go_roundw
            case rel => exact ⟨k + 1, by omega, by go_num, by rw [HS.out, HL.out], hb6⟩
            case measure => simp [intOf]; omega
        · have HL := Lib.hid (step_nan hm hn)
          go_wp2_with fail
          go_roundw
          case rel => exact ⟨k + 1, by omega, by go_num, by rw [HS.out, HL.out], hb5⟩
          case measure => simp [intOf]; omega
      · obtain rfl : k = l.length := by omega
        rw [List.take_of_length_le (Nat.le_refl _)]
        have hm := leastF_lt l H4.out
        have HLE := fun w hv => least_any (.slice p l.length cap) l w (by omega) hv
        generalize leastF l = m at *
        go_wp2_with fail
        refine (HLE wr (HV.out.keep (Below.keeps hbw))).mono ?_
        rintro e w5 ⟨rfl, hb5'⟩
        have hb5 := hbw.trans (hb5'.mono hbw.size)
        clear hb5'
        go_wp2_with fail
        refine (refplain_any m hm w5).mono ?_
        rintro e w6 ⟨rfl, hb6'⟩
        have hb6 := hb5.trans (hb6'.mono hb5.size)
        clear hb6'
        generalize plainN m = q at *
        go_wp2_with fail
        refine (same_any q q w6).mono ?_
        rintro e w7 ⟨rfl, hb7'⟩
        have hb7 := hb6.trans (hb7'.mono hb6.size)
        clear hb7'
        have hs : ((q : Int) == (q : Int)) = true := by simp
        rw [hs]
        go_wp2_with fail
        go_ret
        exact ⟨rfl, hb7⟩
  · have hld : decide (500 < (l.length : Int)) = true := decide_eq_true (by omega)
    have hld' : decide (500 < l.length) = true := decide_eq_true (by omega)
    go_wp2_with fail
    go_ret
    exact ⟨rfl, hb1⟩
end Go.Proofs.YteoiedlffifpoaaDoor
