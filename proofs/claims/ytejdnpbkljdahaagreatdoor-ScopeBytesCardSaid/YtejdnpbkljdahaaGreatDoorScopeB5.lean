/-
  ScopeB5: the document's bytes of a context, and back.
-/
import Derived.Test.YtejdnpbkljdahaaGreatDoorScopeB4
import Derived.Test.YtejdnpbkljdahaaGreatDoorZG
import Derived.Laws.MakeOwn
namespace Go.Proofs.YtejdnpbkljdahaaGreatDoor
open Go.RowKit Go.Extern.Stop Go.Stop Go.Extern Ieee
attribute [local go_sem] flt_def fgt_def feq_def fne_def
attribute [local go_sem] run_store_flt

def ivZ (l : List Int) : Array Value := (l.map (Value.int .i64)).toArray
theorem ivZ_get (l : List Int) (k : Nat) (hk : k < l.length) : (ivZ l)[k]? = some (.int .i64 l[k]) := by
  unfold ivZ
  simp [hk]
theorem ivZ_set (l : List Int) (j : Nat) (x : Int) : (ivZ l).setIfInBounds j (.int .i64 x) = ivZ (l.set j x) := by
  unfold ivZ
  simp
theorem numb_ref (x : Int) (h : 0 ≤ x) : ∃ n : Nat, x = (n : Int) := ⟨x.toNat, by omega⟩
set_option maxRecDepth 20000 in
set_option maxHeartbeats 4000000 in
theorem refencode_any (c : Ctx) (hr : rightC c = true) (w : World) : Calls Tryz.prog 9 #[ctxV c] w (Bytes1 w (encCL c)) := by
  have HN := Lib.hid (rightC_nums hr).1
  have HX := Lib.hid (rightC_nums hr).2
  have HL := Lib.hid (show encCL c = joinL (rowC c) by unfold encCL; rw [if_pos hr])
  have HRR := Lib.hid (rowC_right hr)
  have HRC := Lib.hid (show rowC c = tagRow 0 (ctxL c) ++ [(5, eightB c.x)] from rfl)
  have hlen : (ctxL c).length = 4 := rfl
  obtain ⟨i0, hi, hz0, hz1, hz2⟩ := info_parts fldInfo
  have B := Lib.hid (below_alloc (below_alloc (below_alloc1 w (.cells #[.int .i64 c.n, .int .i64 c.s, .int .i64 c.o, .int .i64 c.d, .float .f64 c.x] 26)) (.cells #[] 54)) (.cells (ivZ (ctxL c)) 3))
  have N0 := Lib.hid ((Blk.new w 26 #[.int .i64 c.n, .int .i64 c.s, .int .i64 c.o, .int .i64 c.d, .float .f64 c.x]).alloc (.cells #[] 54))
  have n0 := (N0.out.cell 0).trans rfl
  have n1 := (N0.out.cell 1).trans rfl
  have n2 := (N0.out.cell 2).trans rfl
  have n3 := (N0.out.cell 3).trans rfl
  have n4 := (N0.out.cell 4).trans rfl
  have N := Lib.hid (N0.out.alloc (.cells (ivZ (ctxL c)) 3))
  have ow0 := (owns_below (World.ownsRow_lit (base := w.heap.size) (e := 54) (size := 2) (w.alloc (.cells #[.int .i64 c.n, .int .i64 c.s, .int .i64 c.o, .int .i64 c.d, .float .f64 c.x] 26)) #[] 0 (below_alloc1 w _).size (by unfold maxLen; omega) rfl) (below_alloc1 _ (.cells (ivZ (ctxL c)) 3)))
  rw [World.size_alloc] at ow0
  have OW := Lib.hid ow0
  clear ow0
  have M := Lib.hid (show Blk (((w.alloc (.cells #[.int .i64 c.n, .int .i64 c.s, .int .i64 c.o, .int .i64 c.d, .float .f64 c.x] 26)).alloc (.cells #[] 54)).alloc (.cells (ivZ (ctxL c)) 3)) (w.heap.size + 1 + 1) 3 (ivZ (ctxL c)) from by
    have := Blk.new ((w.alloc (.cells #[.int .i64 c.n, .int .i64 c.s, .int .i64 c.o, .int .i64 c.d, .float .f64 c.x] 26)).alloc (.cells #[] 54)) 3 (ivZ (ctxL c))
    rwa [World.size_alloc, World.size_alloc] at this)
  clear hr
  unfold ctxV ctxA
  go_enter Tryz.func9, Tryz.ntmps9
  go_wp2_with fail
  go_loopw [3, 19] (fun o i wr => ∃ k : Nat, k ≤ 4 ∧ i = .int .i64 k ∧ OutF wr w.heap.size o (tagRow 0 ((ctxL c).take k)) ∧ Below w.heap.size w wr ∧ Blk wr (w.heap.size + 1 + 1) 3 (ivZ (ctxL c)) ∧ Blk wr w.heap.size 26 #[.int .i64 c.n, .int .i64 c.s, .int .i64 c.o, .int .i64 c.d, .float .f64 c.x]) (fun _ i _ => 4 - (intOf i).toNat)
  case atStart =>
    exact ⟨0, by omega, rfl, ⟨[], rfl, OW.out, by simp [tagRow]⟩, B.out, M.out, N.out⟩
  case round =>
    obtain ⟨k, hk, rfl, hout, hbw, hg, hn⟩ := hrel
    have HGB := Lib.hid hg
    have HNB := Lib.hid hn
    clear hg hn n0 n1 n2 n3 n4 N N0 M OW B
    by_cases hlt : k < 4
    · have hkl : k < (ctxL c).length := by omega
      have hc : wr.cell? ⟨w.heap.size + 1 + 1, k, none⟩ = some (.int .i64 (ctxL c)[k]) := by
        rw [HGB.out.cell k]; exact ivZ_get _ k hkl
      have hstep := Lib.hid (tagRow_take (ctxL c) k hkl)
      have hx := HN.out (ctxL c)[k] (List.getElem_mem hkl)
      have HO := Lib.hid hout
      clear hout
      generalize (ctxL c)[k] = x at *
      by_cases h0 : x = 0
      · have d1 : (x == 0) = true := by simpa using h0
        go_wp2_with fail
        go_roundw
        case rel => exact ⟨k + 1, by omega, by go_num, by rw [hstep.out, if_pos h0, List.append_nil]; exact HO.out, hbw, HGB.out, HNB.out⟩
        case measure => simp [intOf]; omega
      · have d1 : (x == 0) = false := by simpa using h0
        obtain ⟨n, rfl⟩ := numb_ref x hx.1
        have hn8 := numB_len8 hx.2
        rw [Int.toNat_natCast] at hn8
        go_wp2_with fail
        refine (refnumber_any n wr (by omega)).mono ?_
        rintro e w2 ⟨v, rfl, ho2, hb2⟩
        have hbw2 := hbw.trans (hb2.mono hbw.size)
        have HO2 := Lib.hid (OutF.below HO.out hb2)
        have HG2 := Lib.hid (HGB.out.below hb2 HGB.out.lt)
        have HN2 := Lib.hid (HNB.out.below hb2 HNB.out.lt)
        obtain ⟨p, c9, rfl, hp1, hp2, hp3⟩ := owns_rd ho2
        have HD := Lib.hid (owns_lower ho2 hbw.size)
        clear hc hb2 hp1 hp2 hp3 ho2
        obtain ⟨us, hus, hown, hel⟩ := HO2.out
        obtain ⟨po, co, rfl, _, _, _⟩ := owns_rd hown
        have HEL := Lib.hid hel
        have hown4 := owns_below hown (below_alloc1 w2 (.cells #[.int .i64 ((k : Int) + 1), .slice p (numB n).length c9] 54))
        have hs3 := (below_alloc hbw2 (.cells #[.int .i64 ((k : Int) + 1), .slice p (numB n).length c9] 54)).size
        have htl : (tagRow 0 ((ctxL c).take k)).length ≤ 4 := Nat.le_trans (tagRow_len _ _) (by rw [List.length_take]; omega)
        have HST := Lib.hid (show tagRow 0 ((ctxL c).take (k + 1)) = tagRow 0 ((ctxL c).take k) ++ [((k : Int) + 1, numB n)] by rw [hstep.out, if_neg h0, Int.toNat_natCast])
        clear hown hel hstep
        generalize numB n = dd at *
        go_wp2_with (at_builtin; refine wpList_app (.tmp 26) (.tmp 32) 46 rfl rfl w.heap.size 54 i0 (.agg #[.int .i64 0, .slice none 0 0]) 2 32 Tryz.underlying46 hi hz0 hz1 hz2 rfl (by decide) _ _ _ rfl hown4 _ _ _ [.int .i64 ((k : Int) + 1), .slice p dd.length c9] rfl rfl (rd_at _ #[_, _] _ _ _ rfl) ?b1 ?b2 ?b3 hs3 ?_)
        case b1 => first | exact ⟨rfl, rfl⟩ | simp [Value.oneCell']
        case b2 => unfold maxLen; omega
        case b3 => omega
        intro v4 w4 ho4 hg4
        have hal4 := below_alloc1 w2 (.cells #[.int .i64 ((k : Int) + 1), .slice p dd.length c9] 54)
        have hbw4 := (below_alloc hbw2 (.cells #[.int .i64 ((k : Int) + 1), .slice p dd.length c9] 54)).grown hg4 hs3 (fun j hj => (hown4.lt j hj).1)
        have HO4 := Lib.hid (show OutF w4 w.heap.size v4 (tagRow 0 ((ctxL c).take k) ++ [((k : Int) + 1, dd)]) from by
          refine OutF.add (f := ((k : Int) + 1, dd)) hus ho4 hown4 hg4 (fun i f hf => ?_) ?_
          · obtain ⟨u, hu, ho⟩ := HEL.out i f hf
            exact ⟨u, hu, owns_below ho hal4⟩
          · exact owns_below HD.out hal4)
        have HG4 := Lib.hid (grown_blk hg4 hown4 (HG2.out.alloc (.cells #[.int .i64 ((k : Int) + 1), .slice p dd.length c9] 54)) (by decide))
        have HN4 := Lib.hid (grown_blk hg4 hown4 (HN2.out.alloc (.cells #[.int .i64 ((k : Int) + 1), .slice p dd.length c9] 54)) (by decide))
        clear hown4 ho4 hg4 hal4 hs3
        go_wp2_with fail
        go_roundw
        case rel => exact ⟨k + 1, by omega, by go_num, by rw [HST.out]; exact HO4.out, hbw4, HG4.out, HN4.out⟩
        case measure => simp [intOf]; omega
    · obtain rfl : k = 4 := by omega
      have hl9 : (ctxL c).take 4 = ctxL c := List.take_of_length_le (by omega)
      rw [hl9] at hout
      have HO := Lib.hid hout
      obtain ⟨us0, hus0, hown0, hel0⟩ := hout
      obtain ⟨po0, co0, rfl, _, _, _⟩ := owns_rd hown0
      have hx63 : c.x < 18446744073709551616 := by have := HX.out; unfold infR at this; omega
      have hpx := plain_small HX.out
      have hcx : wr.cell? ⟨w.heap.size, 4, none⟩ = some (.float .f64 c.x) := (HNB.out.cell 4)
      have HFL := Lib.hid (fun w' => reffloat_any c.x hx63 w')
      rw [hpx] at HFL
      clear hus0 hown0 hel0 hx63 hpx
      go_wp2_with fail
      refine (HFL.out _).mono ?_
      rintro e w2 ⟨v, rfl, ho2, hb2⟩
      have hbw2 := hbw.trans (hb2.mono hbw.size)
      have HO2 := Lib.hid (OutF.below HO.out hb2)
      obtain ⟨p, c2, rfl, hp1, hp2, hp3⟩ := owns_rd ho2
      have HD := Lib.hid (owns_lower ho2 hbw.size)
      clear hcx hb2 hp1 hp2 hp3 ho2 HO
      obtain ⟨us, hus, hown, hel⟩ := HO2.out
      have HEL := Lib.hid hel
      have hown4 := owns_below hown (below_alloc1 w2 (.cells #[.int .i64 5, .slice p (eightB c.x).length c2] 54))
      have hs3 := (below_alloc hbw2 (.cells #[.int .i64 5, .slice p (eightB c.x).length c2] 54)).size
      have htl : (tagRow 0 (ctxL c)).length ≤ 4 := Nat.le_trans (tagRow_len _ _) (by omega)
      clear hown hel
      generalize hdd : eightB c.x = dd at *
      go_wp2_with (at_builtin; refine wpList_app (.tmp 35) (.tmp 40) 46 rfl rfl w.heap.size 54 i0 (.agg #[.int .i64 0, .slice none 0 0]) 2 32 Tryz.underlying46 hi hz0 hz1 hz2 rfl (by decide) _ _ _ rfl hown4 _ _ _ [.int .i64 5, .slice p dd.length c2] rfl rfl (rd_at _ #[_, _] _ _ _ rfl) ?d1 ?d2 ?d3 hs3 ?_)
      case d1 => first | exact ⟨rfl, rfl⟩ | simp [Value.oneCell']
      case d2 => unfold maxLen; omega
      case d3 => omega
      intro v4 w4 ho4 hg4
      have hal4 := below_alloc1 w2 (.cells #[.int .i64 5, .slice p dd.length c2] 54)
      have hbw4 := (below_alloc hbw2 (.cells #[.int .i64 5, .slice p dd.length c2] 54)).grown hg4 hs3 (fun j hj => (hown4.lt j hj).1)
      have HO4 := Lib.hid (show OutF w4 w.heap.size v4 (tagRow 0 (ctxL c) ++ [(5, dd)]) from by
        refine OutF.add (f := (5, dd)) hus ho4 hown4 hg4 (fun i f hf => ?_) ?_
        · obtain ⟨u, hu, ho⟩ := HEL.out i f hf
          exact ⟨u, hu, owns_below ho hal4⟩
        · exact owns_below HD.out hal4)
      clear hown4 ho4 hg4 hal4 hs3
      rw [← HRC.out] at HO4
      have HF := Lib.hid HO4.out.fld
      obtain ⟨us4, hus4, hown5, hel5⟩ := HO4.out
      obtain ⟨po4, co4, rfl, _, _, _⟩ := owns_rd hown5
      clear hown5 hel5 hus4
      go_wp2_with fail
      refine (refjoin_any _ (rowC c) w4 HF.out HRR.out).mono ?_
      rintro e w5 ⟨p5, c5, rfl, hy, hb5⟩
      have B5 := Lib.hid (hbw4.trans (hb5.mono hbw4.size))
      have HY := Lib.hid hy
      clear hb5 hy
      go_wp2_with fail
      go_ret
      rw [HL.out]
      exact ⟨p5, c5, rfl, HY.out, B5.out⟩
end Go.Proofs.YtejdnpbkljdahaaGreatDoor
