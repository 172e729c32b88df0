/-
  FactR2: the document's bytes of a fact; which are the same.
-/
import Derived.Test.YtjklcbdlfmmllaaGreatDoorFactR
import Derived.Test.YtjklcbdlfmmllaaGreatDoorYI
namespace Go.Proofs.YtjklcbdlfmmllaaGreatDoor
open Go.RowKit Go.Extern.Stop Go.Stop Go.Extern Ieee
attribute [local go_sem] flt_def fgt_def feq_def fne_def

theorem numb_ref (x : Int) (h : 0 ≤ x) : ∃ n : Nat, x = (n : Int) := ⟨x.toNat, by omega⟩
set_option maxRecDepth 20000 in
set_option maxHeartbeats 4000000 in
theorem refbytes14_any (f : Fct) (hr : rightF f = true) (w : World) : Calls Tryz.prog 11 #[fctV f] w (Bytes1 w (encL f)) := by
  have HNM := Lib.hid (fun w' => numbers_any f w')
  have HN := Lib.hid ((right_ok hr).nums)
  have HL := Lib.hid (show encL f = joinL (rowF f) by unfold encL; rw [if_pos hr])
  have HRR := Lib.hid (rowF_right hr)
  have hlen : f.l.length = 13 := rfl
  have HX := Lib.hid (right_ok hr).time
  have HRC := Lib.hid (show rowF f = tagRow 0 f.l ++ (if f.k = 1 then [(14, eightB f.x)] else []) from rfl)
  obtain ⟨i0, hi, hz0, hz1, hz2⟩ := info_parts fldInfo
  have B := Lib.hid (below_alloc (below_alloc1 w (.cells #[.int .i64 f.k, .int .i64 f.n, .int .i64 f.s, .int .i64 f.r, .int .i64 f.nd, .int .i64 f.p, .int .i64 f.q, .int .i64 f.o, .int .i64 f.d, .int .i64 f.pa, .int .i64 f.st, .int .i64 f.hw, .int .i64 f.dc, .float .f64 f.x] 28)) (.cells #[] 54))
  have N := Lib.hid (((Blk.new w 28 #[.int .i64 f.k, .int .i64 f.n, .int .i64 f.s, .int .i64 f.r, .int .i64 f.nd, .int .i64 f.p, .int .i64 f.q, .int .i64 f.o, .int .i64 f.d, .int .i64 f.pa, .int .i64 f.st, .int .i64 f.hw, .int .i64 f.dc, .float .f64 f.x]).alloc (.cells #[] 54)))
  have OW := Lib.hid (World.ownsRow_lit (base := w.heap.size) (e := 54) (size := 2) (w.alloc (.cells #[.int .i64 f.k, .int .i64 f.n, .int .i64 f.s, .int .i64 f.r, .int .i64 f.nd, .int .i64 f.p, .int .i64 f.q, .int .i64 f.o, .int .i64 f.d, .int .i64 f.pa, .int .i64 f.st, .int .i64 f.hw, .int .i64 f.dc, .float .f64 f.x] 28)) #[] 0 (below_alloc1 w _).size (by unfold maxLen; omega) rfl)
  have n0 := (N.out.cell 0).trans rfl
  have n1 := (N.out.cell 1).trans rfl
  have n2 := (N.out.cell 2).trans rfl
  have n3 := (N.out.cell 3).trans rfl
  have n4 := (N.out.cell 4).trans rfl
  have n5 := (N.out.cell 5).trans rfl
  have n6 := (N.out.cell 6).trans rfl
  have n7 := (N.out.cell 7).trans rfl
  have n8 := (N.out.cell 8).trans rfl
  have n9 := (N.out.cell 9).trans rfl
  have n10 := (N.out.cell 10).trans rfl
  have n11 := (N.out.cell 11).trans rfl
  have n12 := (N.out.cell 12).trans rfl
  have n13 := (N.out.cell 13).trans rfl
  clear hr
  unfold fctV fctA at HNM ⊢
  go_enter Tryz.func11, Tryz.ntmps11
  go_wp2_with fail
  refine (HNM.out _).mono ?_
  rintro e w1 ⟨g, rfl, hg, hb⟩
  have B1 := Lib.hid (B.out.trans (hb.mono B.out.size))
  have OW1 := Lib.hid (owns_below OW.out hb)
  have HB := Lib.hid hg
  have N1 := Lib.hid (N.out.below hb N.out.lt)
  clear hb hg B N OW n0 n1 n2 n3 n4 n5 n6 n7 n8 n9 n10 n11 n12 n13 HNM
  generalize f.l = l at *
  go_wp2_with fail
  go_loopw [3, 10] (fun o i wr => ∃ k : Nat, k ≤ 13 ∧ i = .int .i64 k ∧ OutF wr w.heap.size o (tagRow 0 (l.take k)) ∧ Below w.heap.size w wr ∧ Blk wr g 3 (ivL l) ∧ Blk wr w.heap.size 28 #[.int .i64 f.k, .int .i64 f.n, .int .i64 f.s, .int .i64 f.r, .int .i64 f.nd, .int .i64 f.p, .int .i64 f.q, .int .i64 f.o, .int .i64 f.d, .int .i64 f.pa, .int .i64 f.st, .int .i64 f.hw, .int .i64 f.dc, .float .f64 f.x]) (fun _ i _ => 13 - (intOf i).toNat)
  case atStart =>
    exact ⟨0, by omega, rfl, ⟨[], rfl, by simpa [fcells, tagRow] using OW1.out, by simp [tagRow]⟩, B1.out, HB.out, N1.out⟩
  case round =>
    obtain ⟨k, hk, rfl, hout, hbw, hg, hn⟩ := hrel
    have HGB := Lib.hid hg
    have HNB := Lib.hid hn
    clear hg hn
    by_cases hlt : k < 13
    · have hkl : k < l.length := by omega
      have hc : wr.cell? ⟨g, k, none⟩ = some (.int .i64 l[k]) := by
        rw [HGB.out.cell k]; exact ivL_get l k hkl
      have hstep := Lib.hid (tagRow_take l k hkl)
      have hx := HN.out l[k] (List.getElem_mem hkl)
      have HO := Lib.hid hout
      clear hout
      generalize l[k] = x at *
      by_cases h0 : x = 0
      · have d1 : (x == 0) = true := by simpa using h0
        go_wp2_with fail
        go_roundw
        case rel => exact ⟨k + 1, by omega, by go_num, by rw [hstep.out, if_pos h0, List.append_nil]; exact HO.out, hbw, HGB.out, HNB.out⟩
        case measure => simp [intOf]; omega
      · have d1 : (x == 0) = false := by simpa using h0
        obtain ⟨n, rfl⟩ := numb_ref x hx.1
        have hn8 := numB_len8 hx.2
        rw [Int.toNat_natCast] at hn8
        go_wp2_with fail
        refine (refnumber_any n wr (by omega)).mono ?_
        rintro e w2 ⟨v, rfl, ho2, hb2⟩
        have hbw2 := hbw.trans (hb2.mono hbw.size)
        have HO2 := Lib.hid (OutF.below HO.out hb2)
        have HG2 := Lib.hid (HGB.out.below hb2 HGB.out.lt)
        have HN2 := Lib.hid (HNB.out.below hb2 HNB.out.lt)
        obtain ⟨p, c, rfl, hp1, hp2, hp3⟩ := owns_rd ho2
        have HD := Lib.hid (owns_lower ho2 hbw.size)
        clear hc hb2 hp1 hp2 hp3 ho2
        obtain ⟨us, hus, hown, hel⟩ := HO2.out
        obtain ⟨po, co, rfl, _, _, _⟩ := owns_rd hown
        have HEL := Lib.hid hel
        have hown4 := owns_below hown (below_alloc1 w2 (.cells #[.int .i64 ((k : Int) + 1), .slice p (numB n).length c] 54))
        have hs3 := (below_alloc hbw2 (.cells #[.int .i64 ((k : Int) + 1), .slice p (numB n).length c] 54)).size
        have htl : (tagRow 0 (l.take k)).length ≤ 13 := Nat.le_trans (tagRow_len _ _) (by rw [List.length_take]; omega)
        have hst2 : tagRow 0 (l.take (k + 1)) = tagRow 0 (l.take k) ++ [((k : Int) + 1, numB n)] := by rw [hstep.out, if_neg h0, Int.toNat_natCast]
        have HST := Lib.hid hst2
        clear hown hel hstep hst2
        generalize numB n = dd at *
        go_wp2_with (at_builtin; refine wpList_app (.tmp 17) (.tmp 23) 47 rfl rfl w.heap.size 54 i0 (.agg #[.int .i64 0, .slice none 0 0]) 2 32 Tryz.underlying47 hi hz0 hz1 hz2 rfl (by decide) _ _ _ rfl hown4 _ _ _ [.int .i64 ((k : Int) + 1), .slice p dd.length c] rfl rfl (rd_at _ #[_, _] _ _ _ rfl) ?b1 ?b2 ?b3 hs3 ?_)
        case b1 => first | exact ⟨rfl, rfl⟩ | simp [Value.oneCell']
        case b2 => unfold maxLen; omega
        case b3 => omega
        intro v4 w4 ho4 hg4
        have hal4 := below_alloc1 w2 (.cells #[.int .i64 ((k : Int) + 1), .slice p dd.length c] 54)
        have hbw4 := (below_alloc hbw2 (.cells #[.int .i64 ((k : Int) + 1), .slice p dd.length c] 54)).grown hg4 hs3 (fun j hj => (hown4.lt j hj).1)
        have HO4 := Lib.hid (show OutF w4 w.heap.size v4 (tagRow 0 (l.take k) ++ [((k : Int) + 1, dd)]) from by
          refine OutF.add (f := ((k : Int) + 1, dd)) hus ho4 hown4 hg4 (fun i f hf => ?_) ?_
          · obtain ⟨u, hu, ho⟩ := HEL.out i f hf
            exact ⟨u, hu, owns_below ho hal4⟩
          · exact owns_below HD.out hal4)
        have HG4 := Lib.hid (grown_blk hg4 hown4 (HG2.out.alloc (.cells #[.int .i64 ((k : Int) + 1), .slice p dd.length c] 54)) (by decide))
        have HN4 := Lib.hid (grown_blk hg4 hown4 (HN2.out.alloc (.cells #[.int .i64 ((k : Int) + 1), .slice p dd.length c] 54)) (by decide))
        clear hown4 ho4 hg4 hal4 hs3
        go_wp2_with fail
        go_roundw
        case rel => exact ⟨k + 1, by omega, by go_num, by rw [HST.out]; exact HO4.out, hbw4, HG4.out, HN4.out⟩
        case measure => simp [intOf]; omega
    · obtain rfl : k = 13 := by omega
      have hl9 : l.take 13 = l := List.take_of_length_le (by omega)
      rw [hl9] at hout
      have n0 := (HNB.out.cell 0).trans rfl
      by_cases hkk : f.k = 1
      · have dk : (f.k == 1) = true := by simpa using hkk
        rw [if_pos hkk] at HRC
        clear hkk
        have HO := Lib.hid hout
        obtain ⟨us0, hus0, hown0, hel0⟩ := hout
        obtain ⟨po0, co0, rfl, _, _, _⟩ := owns_rd hown0
        have hx63 : f.x < 18446744073709551616 := by have := HX.out; unfold infR at this; omega
        have hpx := plain_small HX.out
        have n13 := (HNB.out.cell 13).trans rfl
        have HFL := Lib.hid (fun w' => reffloat_any f.x hx63 w')
        rw [hpx] at HFL
        clear hus0 hown0 hel0 hx63 hpx
        go_wp2_with fail
        refine (HFL.out _).mono ?_
        rintro e w2 ⟨v, rfl, ho2, hb2⟩
        have hbw2 := hbw.trans (hb2.mono hbw.size)
        have HO2 := Lib.hid (OutF.below HO.out hb2)
        obtain ⟨p, c2, rfl, hp1, hp2, hp3⟩ := owns_rd ho2
        have HD := Lib.hid (owns_lower ho2 hbw.size)
        clear n0 n13 hb2 hp1 hp2 hp3 ho2 HO
        obtain ⟨us, hus, hown, hel⟩ := HO2.out
        have HEL := Lib.hid hel
        have hown4 := owns_below hown (below_alloc1 w2 (.cells #[.int .i64 14, .slice p (eightB f.x).length c2] 54))
        have hs3 := (below_alloc hbw2 (.cells #[.int .i64 14, .slice p (eightB f.x).length c2] 54)).size
        have htl : (tagRow 0 l).length ≤ 13 := Nat.le_trans (tagRow_len _ _) (by omega)
        clear hown hel
        generalize hdd : eightB f.x = dd at *
        go_wp2_with (at_builtin; refine wpList_app (.tmp 29) (.tmp 34) 47 rfl rfl w.heap.size 54 i0 (.agg #[.int .i64 0, .slice none 0 0]) 2 32 Tryz.underlying47 hi hz0 hz1 hz2 rfl (by decide) _ _ _ rfl hown4 _ _ _ [.int .i64 14, .slice p dd.length c2] rfl rfl (rd_at _ #[_, _] _ _ _ rfl) ?d1 ?d2 ?d3 hs3 ?_)
        case d1 => first | exact ⟨rfl, rfl⟩ | simp [Value.oneCell']
        case d2 => unfold maxLen; omega
        case d3 => omega
        intro v4 w4 ho4 hg4
        have hal4 := below_alloc1 w2 (.cells #[.int .i64 14, .slice p dd.length c2] 54)
        have hbw4 := (below_alloc hbw2 (.cells #[.int .i64 14, .slice p dd.length c2] 54)).grown hg4 hs3 (fun j hj => (hown4.lt j hj).1)
        have HO4 := Lib.hid (show OutF w4 w.heap.size v4 (tagRow 0 l ++ [(14, dd)]) from by
          refine OutF.add (f := (14, dd)) hus ho4 hown4 hg4 (fun i f hf => ?_) ?_
          · obtain ⟨u, hu, ho⟩ := HEL.out i f hf
            exact ⟨u, hu, owns_below ho hal4⟩
          · exact owns_below HD.out hal4)
        clear hown4 ho4 hg4 hal4 hs3
        rw [← HRC.out] at HO4
        have HF := Lib.hid HO4.out.fld
        obtain ⟨us4, hus4, hown5, hel5⟩ := HO4.out
        obtain ⟨po4, co4, rfl, _, _, _⟩ := owns_rd hown5
        clear hus4 hown5 hel5
        go_wp2_with fail
        refine (refjoin_any _ (rowF f) w4 HF.out HRR.out).mono ?_
        rintro e w5 ⟨p5, c5, rfl, hy, hb5⟩
        have B5 := Lib.hid (hbw4.trans (hb5.mono hbw4.size))
        have HY := Lib.hid hy
        clear hb5 hy
        go_wp2_with fail
        go_ret
        rw [HL.out]
        exact ⟨p5, c5, rfl, HY.out, B5.out⟩
      · have dk : (f.k == 1) = false := by simpa using hkk
        rw [if_neg hkk, List.append_nil] at HRC
        rw [← HRC.out] at hout
        clear hkk
        have HF := Lib.hid hout.fld
        obtain ⟨us, hus, hown, hel⟩ := hout
        obtain ⟨po, co, rfl, _, _, _⟩ := owns_rd hown
        clear hown hel hus
        go_wp2_with fail
        refine (refjoin_any _ (rowF f) wr HF.out HRR.out).mono ?_
        rintro e w2 ⟨p, c, rfl, hy, hb2⟩
        have B2 := Lib.hid (hbw.trans (hb2.mono hbw.size))
        have HY := Lib.hid hy
        clear hb2 hy
        go_wp2_with fail
        go_ret
        rw [HL.out]
        exact ⟨p, c, rfl, HY.out, B2.out⟩
theorem sameints_any (l m : List Int) (g g2 : Nat) (w : World) (hl : l.length = m.length) (hle : l.length ≤ 1000) (hb : Blk w g 3 (ivL l)) (hb2 : Blk w g2 3 (ivL m)) :
    Calls Tryz.prog 39 #[.slice (some ⟨g, 0, none⟩) l.length l.length, .slice (some ⟨g2, 0, none⟩) m.length m.length] w fun e w' => e = .returned (.bool (decide (l = m))) ∧ Below w.heap.size w w' := by
  have HB := Lib.hid hb
  have HB2 := Lib.hid hb2
  have HL := Lib.hid hl
  have d0 : ((l.length : Int) == (m.length : Int)) = true := by rw [beq_iff_eq]; omega
  have d0' : ((l.length : Int) != (m.length : Int)) = false := by simp [hl]
  clear hb hb2 hl
  go_enter Tryz.func39, Tryz.ntmps39
  go_wp2_with fail
  go_loopw [13] (fun i wr => ∃ k : Nat, k ≤ l.length ∧ i = .int .i64 k ∧ l.take k = m.take k ∧ Below w.heap.size w wr) (fun i _ => l.length - (intOf i).toNat)
  case atStart => exact ⟨0, by omega, rfl, rfl, Below.refl _ _⟩
  case round =>
    obtain ⟨k, hk, rfl, hyes, hbw⟩ := hrel
    have HYES := Lib.hid hyes
    clear hyes
    by_cases hlt : k < l.length
    · have hlt2 : k < m.length := by have := HL.out; omega
      have hi1 : (k : Int) < (l.length : Int) := by omega
      have hi2 : (k : Int) < (m.length : Int) := by omega
      have hc : wr.cell? ⟨g, k, none⟩ = some (.int .i64 l[k]) := by
        rw [(HB.out.below hbw HB.out.lt).cell k]; exact ivL_get l k hlt
      have hc2 : wr.cell? ⟨g2, k, none⟩ = some (.int .i64 m[k]) := by
        rw [(HB2.out.below hbw HB2.out.lt).cell k]; exact ivL_get m k hlt2
      have HT := Lib.hid (show l.take (k + 1) = l.take k ++ [l[k]] from List.take_succ_eq_append_getElem hlt)
      have HT2 := Lib.hid (show m.take (k + 1) = m.take k ++ [m[k]] from List.take_succ_eq_append_getElem hlt2)
      generalize l[k] = y at *
      generalize m[k] = z at *
      cases hy : (y == z)
      · have HNO := Lib.hid (show decide (l = m) = false by
          rw [decide_eq_false_iff_not]
          intro h9
          have h1 : l.take (k + 1) = m.take (k + 1) := by rw [h9]
          rw [HT.out, HT2.out, HYES.out] at h1
          have h2 := List.append_cancel_left h1
          rw [List.cons.injEq] at h2
          rw [beq_eq_false_iff_ne] at hy
          exact hy h2.1)
        have hy2 : (y != z) = true := by simp [bne, hy]
        go_wp2_with fail
        go_quiet (fail)
        go_wp2_with fail
        go_ret
        exact ⟨by rw [HNO.out] <;> rfl, hbw.trans ((below_drewN _ _).mono hbw.size)⟩
      · have HYZ := Lib.hid (beq_iff_eq.1 hy)
        have hy2 : (y != z) = false := by simp [bne, hy]
        go_wp2_with fail
        go_quiet (fail)
        go_wp2_with fail
        go_roundw
        case rel => exact ⟨k + 1, by omega, by go_num, by rw [HT.out, HT2.out, HYES.out, HYZ.out], hbw.trans ((below_drewN _ _).mono hbw.size)⟩
        case measure => simp [intOf]; omega
    · obtain rfl : k = l.length := by omega
      have HY := Lib.hid (show decide (l = m) = true by
        have h1 := HYES.out
        rw [List.take_of_length_le (Nat.le_refl _), HL.out, List.take_of_length_le (Nat.le_refl _)] at h1
        exact decide_eq_true h1)
      go_wp2_with fail
      go_ret
      exact ⟨by rw [HY.out] <;> rfl, hbw⟩
end Go.Proofs.YtjklcbdlfmmllaaGreatDoor
