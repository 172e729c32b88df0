/-
  PlayDo2: the walk of play.do: Arm, SetRoom, and kinds that are none.
-/
import Derived.Test.YtoiknidlincdkaaDoorPlayDo
namespace Go.Proofs.YtoiknidlincdkaaDoor
open Go.RowKit
attribute [local irreducible] wpPhi

theorem off_any7 (w : World) (a : Nat) (o : Option Nat) (s : TSt) (ht : Tp w a o s) : Calls Tryd.prog 48 #[.pointer (some ⟨a, 0, none⟩)] w (TapeQ w (.bool s.off)) := by
  obtain ⟨v, hB, hb, _, _⟩ := ht
  obtain ⟨c0, c1, c2, c3, c4, c5⟩ := hb.cells
  clear hb
  go_enter Tryd.func48, Tryd.ntmps48
  go_wp2_with fail
  go_ret
  exact ⟨rfl, Below.refl _ _⟩
theorem Duo.tape {B : Nat} {w w' : World} {E : Nat → Addr} {a g j m : Nat} {p o q : Option Nat} {st : JSt} {mr : MJr} {s' : TSt} (h : Duo B w E a g j m p o q st mr) (ht : Tp w' a o s') (k : But (a :: o.toList) w w') :
    (∃ o', Duo B w' E a g j m p o' q ⟨s', st.rows, st.dead⟩ mr) ∧ JStep B E a g j m w w' := by
  obtain ⟨o', hn, hj⟩ := h.jg.jn.tapes ⟨o, .inl rfl, ht⟩ k
  have kk := k.wider (jS_tape j a p o)
  have hg := h.jg.new kk hj (.inl rfl) hn
  exact ⟨⟨o', h.jstep hg (.inl rfl) hn kk⟩, _, _, _, _, _, _, _, _, h, hg, .inl rfl, hn, kk⟩
theorem Duo.mtape {B : Nat} {w w' : World} {E : Nat → Addr} {a g j m : Nat} {p o q : Option Nat} {st : JSt} {mr : MJr} {m' : MSt} (h : Duo B w E a g j m p o q st mr) (hm : MB w' g m') (k : Only g w w') (hr : ∃ s, Rel s m') :
    Duo B w' E a g j m p o q st ⟨m', mr.rows, mr.dead⟩ ∧ MStepJ B E a g j m w w' := by
  have h2 := h.mn.only k hm hr
  have kk := (But.of_only k).wider (mS_tape m g q)
  exact ⟨h.mstep h2 (.inl rfl) kk, _, _, _, _, _, _, _, h, h2, .inl rfl, kk⟩
set_option maxRecDepth 20000 in
set_option maxHeartbeats 4000000 in
theorem do0_any (w : World) (E : Nat → Addr) (B P a g j m : Nat) (p o q : Option Nat) (st : JSt) (mr : MJr) (kd n : Int) (vl : Value) (ls : List (List UInt8)) (hv : OldL B w vl ls) (h : PlayW B w E P a g j m p o q st mr) (N : Nat) (hN : st.rows.length ≤ N) (hk : kd ≠ 1 ∧ kd ≠ 2 ∧ kd ≠ 3 ∧ kd ≠ 4 ∧ kd ≠ 5) :
    Calls Tryd.prog 30 #[.pointer (some ⟨P, 0, none⟩), .agg #[.int .i64 kd, .int .i64 n, vl]] w (DoJ B E P a g (N + 10) w) := by
  have d1 : (kd == 1) = false := by rw [beq_eq_false_iff_ne]; exact hk.1
  have d2 : (kd == 2) = false := by rw [beq_eq_false_iff_ne]; exact hk.2.1
  have d3 : (kd == 3) = false := by rw [beq_eq_false_iff_ne]; exact hk.2.2.1
  have d4 : (kd == 4) = false := by rw [beq_eq_false_iff_ne]; exact hk.2.2.2.1
  have d5 : (kd == 5) = false := by rw [beq_eq_false_iff_ne]; exact hk.2.2.2.2
  clear hk
  have HGL := Lib.hid h.duo.jg.glob
  obtain ⟨pl, cl, vs, rfl, _⟩ := hv
  have hbx := Blk.new w 49 #[.int .i64 kd, .int .i64 n, .slice pl ls.length cl]
  have hkx := below_alloc1 w (.cells #[.int .i64 kd, .int .i64 n, .slice pl ls.length cl] 49)
  have HX := Lib.hid hbx
  have HKX := Lib.hid (hkx.mono h.duo.jg.hB)
  have HBX := Lib.hid (Nat.le_trans h.duo.jg.hB hkx.size)
  have HDU := Lib.hid (h.duo.below hkx)
  have hpl := h.pl.below hkx h.pl.lt
  have HPL := Lib.hid hpl
  have HR := Lib.hid h.rel
  have HP := Lib.hid h.hP
  have c0 := (hbx.cell 0).trans rfl
  have c1 := (hbx.cell 1).trans rfl
  have k0 := (hpl.cell 0).trans rfl
  have k2 := (hpl.cell 2).trans rfl
  clear h hbx hkx hpl
  go_enter Tryd.func30, Tryd.ntmps30
  go_wp2_with fail
  go_ret
  exact ⟨rfl, ⟨j, m, p, o, q, _, _, ⟨HDU.out, HPL.out, HR.out, HP.out⟩, by omega⟩, HKX.out⟩
set_option maxRecDepth 20000 in
set_option maxHeartbeats 4000000 in
theorem do3_any (w : World) (E : Nat → Addr) (B P a g j m : Nat) (p o q : Option Nat) (st : JSt) (mr : MJr) (n : Int) (hn : -9223372036854775808 ≤ n ∧ n ≤ 9223372036854775807) (vl : Value) (ls : List (List UInt8)) (hv : OldL B w vl ls) (h : PlayW B w E P a g j m p o q st mr) (N : Nat) (hN : st.rows.length ≤ N) :
    Calls Tryd.prog 30 #[.pointer (some ⟨P, 0, none⟩), .agg #[.int .i64 3, .int .i64 n, vl]] w (DoJ B E P a g (N + 10) w) := by
  have HN := Lib.hid hn
  clear hn
  have HGL := Lib.hid h.duo.jg.glob
  obtain ⟨pl, cl, vs, rfl, _⟩ := hv
  have hbx := Blk.new w 49 #[.int .i64 3, .int .i64 n, .slice pl ls.length cl]
  have hkx := below_alloc1 w (.cells #[.int .i64 3, .int .i64 n, .slice pl ls.length cl] 49)
  have HX := Lib.hid hbx
  have HKX := Lib.hid (hkx.mono h.duo.jg.hB)
  have HBX := Lib.hid (Nat.le_trans h.duo.jg.hB hkx.size)
  have HDU := Lib.hid (h.duo.below hkx)
  have hpl := h.pl.below hkx h.pl.lt
  have HPL := Lib.hid hpl
  have HR := Lib.hid h.rel
  have HP := Lib.hid h.hP
  have c0 := (hbx.cell 0).trans rfl
  have c1 := (hbx.cell 1).trans rfl
  have k0 := (hpl.cell 0).trans rfl
  have k2 := (hpl.cell 2).trans rfl
  clear h hbx hkx hpl
  go_enter Tryd.func30, Tryd.ntmps30
  go_wp2_with fail
  generalize w.alloc (.cells #[.int .i64 3, .int .i64 n, .slice pl ls.length cl] 49) = wx at *
  refine (off_any7 wx a o st.t HDU.out.jg.jn.tape).mono ?_
  rintro e w1 ⟨rfl, hb1⟩
  have HD1 := Lib.hid (HDU.out.below hb1)
  have HX1 := Lib.hid (HX.out.below hb1 HX.out.lt)
  have HP1 := Lib.hid (HPL.out.below hb1 HPL.out.lt)
  have HK1 := Lib.hid (HKX.out.trans (hb1.mono HBX.out))
  clear hb1 c0 c1 k0 k2 HDU HX HPL HKX
  cases hoff : st.t.off with
  | true =>
    clear hoff
    go_wp2_with fail
    go_ret
    exact ⟨rfl, ⟨j, m, p, o, q, _, _, ⟨HD1.out, HP1.out, HR.out, HP.out⟩, by omega⟩, HK1.out⟩
  | false =>
    clear hoff
    go_wp2_with fail
    have hbb : Below w1.heap.size w1 w1 := Below.refl _ _
    refine wp_phi_tail (List.take 8 _) (List.drop 8 _) (List.take_append_drop 8 _).symm (fun w' => (Blk w' P 67 #[.pointer (some ⟨a, 0, none⟩), .pointer (some ⟨j, 0, none⟩), .pointer (some ⟨m, 0, none⟩)]) ∧ (Blk w' w.heap.size 49 #[.int .i64 3, .int .i64 n, .slice pl ls.length cl]) ∧ Below w1.heap.size w1 w') [] [] (by kernel_rfl) (by kernel_rfl) ?_ ?_ ⟨HP1.out, HX1.out, (hbb).drew⟩ ?_
    · rintro w1' w2' ⟨gP, gX, hIB⟩ hb
      exact ⟨(by first | exact gP.below hb | exact gP.keep (Below.keeps hb) | exact Below.keeps hb _ _ gP | exact Blk.below gP hb (Blk.lt gP)), (by first | exact gX.below hb | exact gX.keep (Below.keeps hb) | exact Below.keeps hb _ _ gX | exact Blk.below gX hb (Blk.lt gX)), hIB.trans (hb.mono hIB.size)⟩
    · intro p hp; cases hp
    simp only [List.take_succ_cons, List.take_zero, List.drop_succ_cons, List.drop_zero]
    repeat (first | (refine phi_skipK rfl (fun K hK => ?_); simp only [Act.put, List.setIfInBounds_toArray, List.set_cons_succ, List.set_cons_zero]; (try simp only [List.cons_append]); (try simp only [List.nil_append]); apply hK; clear hK K) | (refine phi_pureK rfl rfl (fun K hK => ?_); apply Exists.intro; constructor; (focus (rintro w' ⟨gP, gX, hIB⟩; have q0 := (gP.cell 0).trans rfl; have q1 := (gX.cell 1).trans rfl; clear gP gX hIB; first | (go_simp; done) | (go_simp; (try go_bits); (try go_simp); rfl) | go_simp)); simp only [Act.put, List.setIfInBounds_toArray, List.set_cons_succ, List.set_cons_zero]; (try simp only [List.cons_append]); (try simp only [List.nil_append]); apply hK; clear hK K))
    refine phi_done ?_
    rintro w2 ⟨gP, gX, hb2⟩ _
    have HD2 := Lib.hid (HD1.out.below hb2)
    have HX2 := Lib.hid gX
    have HP2 := Lib.hid gP
    have HK2 := Lib.hid (HK1.out.trans (hb2.mono (Nat.le_trans HD1.out.jg.hB (Nat.le_refl _))))
    clear gP gX hb2 hbb HX1 HP1 HD1 HK1
    go_wp2_with fail
    refine (arm_any w2 a o st.t n HN.out HD2.out.jg.jn.tape).mono ?_
    rintro e w3 ⟨rfl, ht3, k3⟩
    obtain ⟨⟨o3, hd3⟩, hs3⟩ := HD2.out.tape ht3 k3
    have HD3 := Lib.hid hd3
    have HX3 := Lib.hid (hs3.blk HX2.out (by decide) (by decide) (by decide) (by decide))
    have HP3 := Lib.hid (hs3.blk HP2.out (by decide) (by decide) (by decide) (by decide))
    have HK3 := Lib.hid (HK2.out.trans hs3.below)
    clear ht3 k3 hd3 hs3 HX2 HP2 HD2 HK2
    go_wp2_with fail
    have hbb : Below w3.heap.size w3 w3 := Below.refl _ _
    have HC3 := Lib.hid (show w3.cell? ⟨m, 0, none⟩ = some (.pointer (some ⟨g, 0, none⟩)) from HD3.out.mn.cells.choose_spec.choose_spec.choose_spec.1)
    refine wp_phi_tail (List.take 9 _) (List.drop 9 _) (List.take_append_drop 9 _).symm (fun w' => (Blk w' P 67 #[.pointer (some ⟨a, 0, none⟩), .pointer (some ⟨j, 0, none⟩), .pointer (some ⟨m, 0, none⟩)]) ∧ (Blk w' w.heap.size 49 #[.int .i64 3, .int .i64 n, .slice pl ls.length cl]) ∧ (w'.cell? ⟨m, 0, none⟩ = some (.pointer (some ⟨g, 0, none⟩))) ∧ Below w3.heap.size w3 w') [] [] (by kernel_rfl) (by kernel_rfl) ?_ ?_ ⟨HP3.out, HX3.out, HC3.out, (hbb).drew⟩ ?_
    · rintro w1' w2' ⟨gP, gX, gc, hIB⟩ hb
      exact ⟨(by first | exact gP.below hb | exact gP.keep (Below.keeps hb) | exact Below.keeps hb _ _ gP | exact Blk.below gP hb (Blk.lt gP)), (by first | exact gX.below hb | exact gX.keep (Below.keeps hb) | exact Below.keeps hb _ _ gX | exact Blk.below gX hb (Blk.lt gX)), (by first | exact gc.below hb | exact gc.keep (Below.keeps hb) | exact Below.keeps hb _ _ gc | exact Blk.below gc hb (Blk.lt gc)), hIB.trans (hb.mono hIB.size)⟩
    · intro p hp; cases hp
    simp only [List.take_succ_cons, List.take_zero, List.drop_succ_cons, List.drop_zero]
    repeat (first | (refine phi_skipK rfl (fun K hK => ?_); simp only [Act.put, List.setIfInBounds_toArray, List.set_cons_succ, List.set_cons_zero]; (try simp only [List.cons_append]); (try simp only [List.nil_append]); apply hK; clear hK K) | (refine phi_pureK rfl rfl (fun K hK => ?_); apply Exists.intro; constructor; (focus (rintro w' ⟨gP, gX, gc, hIB⟩; have q0 := (gP.cell 2).trans rfl; have q1 := (gX.cell 1).trans rfl; clear gP gX hIB; first | (go_simp; done) | (go_simp; (try go_bits); (try go_simp); rfl) | go_simp)); simp only [Act.put, List.setIfInBounds_toArray, List.set_cons_succ, List.set_cons_zero]; (try simp only [List.cons_append]); (try simp only [List.nil_append]); apply hK; clear hK K))
    refine phi_done ?_
    rintro w4 ⟨gP, gX, gc, hb4⟩ _
    have HD4 := Lib.hid (HD3.out.below hb4)
    have HP4 := Lib.hid gP
    have HK4 := Lib.hid (HK3.out.trans (hb4.mono HD3.out.jg.hB))
    clear gP gX gc hb4 hbb HX3 HP3 HD3 HK3 HC3
    go_wp2_with fail
    refine (marm_any w4 g mr.m n HD4.out.mn.tape).mono ?_
    rintro e w5 ⟨rfl, hm5, k5⟩
    obtain ⟨hd5, hs5⟩ := HD4.out.mtape hm5 k5 ⟨_, HR.out.tape.arm n HN.out⟩
    have HD5 := Lib.hid hd5
    have HP5 := Lib.hid (hs5.blk HP4.out (by decide) (by decide) (by decide))
    have HK5 := Lib.hid (HK4.out.trans hs5.below)
    clear hm5 k5 hd5 hs5 HP4 HD4 HK4
    go_wp2_with fail
    go_ret
    exact ⟨rfl, ⟨j, m, p, o3, q, _, _, ⟨HD5.out, HP5.out, ⟨HR.out.tape.arm n HN.out, HR.out.rows, HR.out.dead, HR.out.ok⟩, HP.out⟩, by simpa using Nat.le_trans hN (by omega)⟩, HK5.out⟩
end Go.Proofs.YtoiknidlincdkaaDoor
