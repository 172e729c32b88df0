/-
  PlayDo3: the walk of play.do: SetRoom and Crash.
-/
import Derived.Test.YtoiknidlincdkaaDoorPlayDo2
namespace Go.Proofs.YtoiknidlincdkaaDoor
open Go.RowKit
attribute [local irreducible] wpPhi

set_option maxRecDepth 20000 in
set_option maxHeartbeats 4000000 in
theorem do4_any (w : World) (E : Nat → Addr) (B P a g j m : Nat) (p o q : Option Nat) (st : JSt) (mr : MJr) (n : Int) (vl : Value) (ls : List (List UInt8)) (hv : OldL B w vl ls) (h : PlayW B w E P a g j m p o q st mr) (N : Nat) (hN : st.rows.length ≤ N) :
    Calls Tryd.prog 30 #[.pointer (some ⟨P, 0, none⟩), .agg #[.int .i64 4, .int .i64 n, vl]] w (DoJ B E P a g (N + 10) w) := by
  by_cases hn : 0 ≤ n ∧ n ≤ 65536
  · have d1 : decide (0 ≤ n) = true := by rw [decide_eq_true_eq]; exact hn.1
    have d2 : decide (n ≤ 65536) = true := by rw [decide_eq_true_eq]; exact hn.2
    have HN := Lib.hid hn
    clear hn
    have HGL := Lib.hid h.duo.jg.glob
    obtain ⟨pl, cl, vs, rfl, _⟩ := hv
    have hbx := Blk.new w 49 #[.int .i64 4, .int .i64 n, .slice pl ls.length cl]
    have hkx := below_alloc1 w (.cells #[.int .i64 4, .int .i64 n, .slice pl ls.length cl] 49)
    have HX := Lib.hid hbx
    have HKX := Lib.hid (hkx.mono h.duo.jg.hB)
    have HBX := Lib.hid (Nat.le_trans h.duo.jg.hB hkx.size)
    have HDU := Lib.hid (h.duo.below hkx)
    have hpl := h.pl.below hkx h.pl.lt
    have HPL := Lib.hid hpl
    have HR := Lib.hid h.rel
    have HP := Lib.hid h.hP
    have c0 := (hbx.cell 0).trans rfl
    have c1 := (hbx.cell 1).trans rfl
    have k0 := (hpl.cell 0).trans rfl
    have k2 := (hpl.cell 2).trans rfl
    clear h hbx hkx hpl
    go_enter Tryd.func30, Tryd.ntmps30
    go_wp2_with fail
    generalize w.alloc (.cells #[.int .i64 4, .int .i64 n, .slice pl ls.length cl] 49) = w3 at *
    clear d1 d2 c0 c1 k0 k2
    have hbb : Below w3.heap.size w3 w3 := Below.refl _ _
    have HC3 := Lib.hid (show w3.cell? ⟨m, 0, none⟩ = some (.pointer (some ⟨g, 0, none⟩)) from HDU.out.mn.cells.choose_spec.choose_spec.choose_spec.1)
    refine wp_phi_tail (List.take 11 _) (List.drop 11 _) (List.take_append_drop 11 _).symm (fun w' => (Blk w' P 67 #[.pointer (some ⟨a, 0, none⟩), .pointer (some ⟨j, 0, none⟩), .pointer (some ⟨m, 0, none⟩)]) ∧ (Blk w' w.heap.size 49 #[.int .i64 4, .int .i64 n, .slice pl ls.length cl]) ∧ (w'.cell? ⟨m, 0, none⟩ = some (.pointer (some ⟨g, 0, none⟩))) ∧ Below w3.heap.size w3 w') [] [] (by kernel_rfl) (by kernel_rfl) ?_ ?_ ⟨HPL.out, HX.out, HC3.out, (hbb).drew⟩ ?_
    · rintro w1' w2' ⟨gP, gX, gc, hIB⟩ hb
      exact ⟨(by first | exact gP.below hb | exact gP.keep (Below.keeps hb) | exact Below.keeps hb _ _ gP | exact Blk.below gP hb (Blk.lt gP)), (by first | exact gX.below hb | exact gX.keep (Below.keeps hb) | exact Below.keeps hb _ _ gX | exact Blk.below gX hb (Blk.lt gX)), (by first | exact gc.below hb | exact gc.keep (Below.keeps hb) | exact Below.keeps hb _ _ gc | exact Blk.below gc hb (Blk.lt gc)), hIB.trans (hb.mono hIB.size)⟩
    · intro p hp; cases hp
    simp only [List.take_succ_cons, List.take_zero, List.drop_succ_cons, List.drop_zero]
    repeat (first | (refine phi_skipK rfl (fun K hK => ?_); simp only [Act.put, List.setIfInBounds_toArray, List.set_cons_succ, List.set_cons_zero]; (try simp only [List.cons_append]); (try simp only [List.nil_append]); apply hK; clear hK K) | (refine phi_pureK rfl rfl (fun K hK => ?_); apply Exists.intro; constructor; (focus (rintro w' ⟨gP, gX, gc, hIB⟩; have q0 := (gP.cell 2).trans rfl; have q1 := (gX.cell 1).trans rfl; clear gP gX hIB; first | (go_simp; done) | (go_simp; (try go_bits); (try go_simp); rfl) | go_simp)); simp only [Act.put, List.setIfInBounds_toArray, List.set_cons_succ, List.set_cons_zero]; (try simp only [List.cons_append]); (try simp only [List.nil_append]); apply hK; clear hK K))
    refine phi_done ?_
    rintro w4 ⟨gP, gX, gc, hb4⟩ _
    have HD4 := Lib.hid (HDU.out.below hb4)
    have HP4 := Lib.hid gP
    have HX4 := Lib.hid gX
    have HK4 := Lib.hid (HKX.out.trans (hb4.mono HBX.out))
    have r2 := HD4.out.mn.tape.cells.c2
    have f2 := HD4.out.mn.tape.frozen 2
    clear gP gX gc hb4 hbb HX HPL HDU HKX HC3 HBX
    go_wp2_with fail
    have HT5 := Lib.hid (show MB (w4.setCell ⟨g, 2, none⟩ (.int .i64 n)) g { mr.m with room := n } from HD4.out.mn.tape.set_ 2 (.int .i64 n))
    have hms : mr.m.setRoom n = { mr.m with room := n } := by unfold MSt.setRoom; rw [if_neg (by have := HN.out; omega)]
    have hss : st.t.setRoom n = { st.t with room := n } := by unfold TSt.setRoom; rw [if_neg (by have := HN.out; omega)]
    have hse : TSt.setRoomE n = 0 := by unfold TSt.setRoomE; rw [if_neg (by have := HN.out; omega)]
    obtain ⟨hd5, hs5⟩ := HD4.out.mtape HT5.out ((Only.refl _ _).set_ 2 _) ⟨_, hms ▸ HR.out.tape.setRoom n⟩
    have HD5 := Lib.hid hd5
    have HX5 := Lib.hid (hs5.blk HX4.out (by decide) (by decide) (by decide))
    have HP5 := Lib.hid (hs5.blk HP4.out (by decide) (by decide) (by decide))
    have HK5 := Lib.hid (HK4.out.trans hs5.below)
    have HMS := Lib.hid hms
    have HSE := Lib.hid hse
    generalize w4.setCell ⟨g, 2, none⟩ (.int .i64 n) = w5 at *
    clear hd5 hs5 HX4 HP4 HD4 HK4 r2 f2 HT5 hms hss hse
    have hbb : Below w5.heap.size w5 w5 := Below.refl _ _
    refine wp_phi_tail (List.take 6 _) (List.drop 6 _) (List.take_append_drop 6 _).symm (fun w' => (Blk w' P 67 #[.pointer (some ⟨a, 0, none⟩), .pointer (some ⟨j, 0, none⟩), .pointer (some ⟨m, 0, none⟩)]) ∧ (Blk w' w.heap.size 49 #[.int .i64 4, .int .i64 n, .slice pl ls.length cl]) ∧ Below w5.heap.size w5 w') [] [] (by kernel_rfl) (by kernel_rfl) ?_ ?_ ⟨HP5.out, HX5.out, (hbb).drew⟩ ?_
    · rintro w1' w2' ⟨gP, gX, hIB⟩ hb
      exact ⟨(by first | exact gP.below hb | exact gP.keep (Below.keeps hb) | exact Below.keeps hb _ _ gP | exact Blk.below gP hb (Blk.lt gP)), (by first | exact gX.below hb | exact gX.keep (Below.keeps hb) | exact Below.keeps hb _ _ gX | exact Blk.below gX hb (Blk.lt gX)), hIB.trans (hb.mono hIB.size)⟩
    · intro p hp; cases hp
    simp only [List.take_succ_cons, List.take_zero, List.drop_succ_cons, List.drop_zero]
    repeat (first | (refine phi_skipK rfl (fun K hK => ?_); simp only [Act.put, List.setIfInBounds_toArray, List.set_cons_succ, List.set_cons_zero]; (try simp only [List.cons_append]); (try simp only [List.nil_append]); apply hK; clear hK K) | (refine phi_pureK rfl rfl (fun K hK => ?_); apply Exists.intro; constructor; (focus (rintro w' ⟨gP, gX, hIB⟩; have q0 := (gP.cell 0).trans rfl; have q1 := (gX.cell 1).trans rfl; clear gP gX hIB; first | (go_simp; done) | (go_simp; (try go_bits); (try go_simp); rfl) | go_simp)); simp only [Act.put, List.setIfInBounds_toArray, List.set_cons_succ, List.set_cons_zero]; (try simp only [List.cons_append]); (try simp only [List.nil_append]); apply hK; clear hK K))
    refine phi_done ?_
    rintro w6 ⟨gP, gX, hb6⟩ _
    have HD6 := Lib.hid (HD5.out.below hb6)
    have HP6 := Lib.hid gP
    have HK6 := Lib.hid (HK5.out.trans (hb6.mono HD5.out.jg.hB))
    clear gP gX hb6 hbb HX5 HP5 HD5 HK5
    go_wp2_with fail
    refine (setRoom_any w6 E a o st.t n ((HGL.out.errs w6 HK6.out).on [0] rfl) HD6.out.jg.jn.tape).mono ?_
    rintro e w7 ⟨rfl, ht7, k7⟩
    rw [HSE.out, errV_zero]
    obtain ⟨⟨o7, hd7⟩, hs7⟩ := HD6.out.tape ht7 k7
    have HD7 := Lib.hid hd7
    have HP7 := Lib.hid (hs7.blk HP6.out (by decide) (by decide) (by decide) (by decide))
    have HK7 := Lib.hid (HK6.out.trans hs7.below)
    clear ht7 k7 hd7 hs7 HP6 HD6 HK6
    go_wp2_with fail
    go_ret
    refine ⟨rfl, ⟨j, m, p, o7, q, _, _, ⟨HD7.out, HP7.out, ⟨?_, HR.out.rows, HR.out.dead, HR.out.ok⟩, HP.out⟩, by simpa using Nat.le_trans hN (by omega)⟩, HK7.out⟩
    rw [← HMS.out]
    exact HR.out.tape.setRoom n
  · have d : (decide (0 ≤ n) = false) ∨ (decide (0 ≤ n) = true ∧ decide (n ≤ 65536) = false) := by
      simp only [decide_eq_true_eq, decide_eq_false_iff_not]; omega
    clear hn
    rcases d with d1 | ⟨d1, d2⟩
    all_goals
      have HGL := Lib.hid h.duo.jg.glob
      obtain ⟨pl, cl, vs, rfl, _⟩ := hv
      have hbx := Blk.new w 49 #[.int .i64 4, .int .i64 n, .slice pl ls.length cl]
      have hkx := below_alloc1 w (.cells #[.int .i64 4, .int .i64 n, .slice pl ls.length cl] 49)
      have HX := Lib.hid hbx
      have HKX := Lib.hid (hkx.mono h.duo.jg.hB)
      have HBX := Lib.hid (Nat.le_trans h.duo.jg.hB hkx.size)
      have HDU := Lib.hid (h.duo.below hkx)
      have hpl := h.pl.below hkx h.pl.lt
      have HPL := Lib.hid hpl
      have HR := Lib.hid h.rel
      have HP := Lib.hid h.hP
      have c0 := (hbx.cell 0).trans rfl
      have c1 := (hbx.cell 1).trans rfl
      have k0 := (hpl.cell 0).trans rfl
      have k2 := (hpl.cell 2).trans rfl
      clear h hbx hkx hpl
      go_enter Tryd.func30, Tryd.ntmps30
      go_wp2_with fail
      go_ret
      exact ⟨rfl, ⟨j, m, p, o, q, _, _, ⟨HDU.out, HPL.out, HR.out, HP.out⟩, by omega⟩, HKX.out⟩
end Go.Proofs.YtoiknidlincdkaaDoor
