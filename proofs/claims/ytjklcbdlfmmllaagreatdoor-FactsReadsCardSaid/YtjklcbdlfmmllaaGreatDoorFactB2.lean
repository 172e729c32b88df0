/-
  FactB2: a fact's bytes: places, Bytes.
-/
import Derived.Test.YtjklcbdlfmmllaaGreatDoorFactS
namespace Go.Proofs.YtjklcbdlfmmllaaGreatDoor
open Go.RowKit Go.Extern.Stop Go.Stop Go.Extern Ieee

def ptrs13 (g : Nat) : Array Value := #[.pointer (some ⟨g, 0, none⟩), .pointer (some ⟨g, 1, none⟩), .pointer (some ⟨g, 2, none⟩), .pointer (some ⟨g, 3, none⟩), .pointer (some ⟨g, 4, none⟩), .pointer (some ⟨g, 5, none⟩), .pointer (some ⟨g, 6, none⟩), .pointer (some ⟨g, 7, none⟩), .pointer (some ⟨g, 8, none⟩), .pointer (some ⟨g, 9, none⟩), .pointer (some ⟨g, 10, none⟩), .pointer (some ⟨g, 11, none⟩), .pointer (some ⟨g, 12, none⟩)]
set_option maxRecDepth 20000 in
set_option maxHeartbeats 2000000 in
theorem places_any (g : Nat) (w : World) : Calls Tryz.prog 18 #[.pointer (some ⟨g, 0, none⟩)] w fun e w' => e = .returned (.agg (ptrs13 g)) ∧ Below w.heap.size w w' := by
  have B := Lib.hid (below_alloc1 w (.cells #[.pointer none, .pointer none, .pointer none, .pointer none, .pointer none, .pointer none, .pointer none, .pointer none, .pointer none, .pointer none, .pointer none, .pointer none, .pointer none] 49))
  have N := Lib.hid (Blk.new w 49 #[.pointer none, .pointer none, .pointer none, .pointer none, .pointer none, .pointer none, .pointer none, .pointer none, .pointer none, .pointer none, .pointer none, .pointer none, .pointer none])
  go_enter Tryz.func18, Tryz.ntmps18
  go_wp2_with fail
  refine wp_phi_tail (List.take 42 _) (List.drop 42 _) (List.take_append_drop 42 _).symm (fun w' => Below w.heap.size w w' ∧ Blk w' w.heap.size 49 #[.pointer none, .pointer none, .pointer none, .pointer none, .pointer none, .pointer none, .pointer none, .pointer none, .pointer none, .pointer none, .pointer none, .pointer none, .pointer none]) [] [] (by kernel_rfl) (by kernel_rfl) ?_ ?_ ⟨B.out.drew, N.out⟩ ?_
  · rintro w1 w2 ⟨a1, a2⟩ hb
    exact ⟨a1.trans (hb.mono a1.size), a2.below hb a2.lt⟩
  · intro p hp; cases hp
  simp only [List.take_succ_cons, List.take_zero, List.drop_succ_cons, List.drop_zero]
  repeat (first | (refine phi_skipK rfl (fun K hK => ?_); simp only [Act.put, List.setIfInBounds_toArray, List.set_cons_succ, List.set_cons_zero]; (try simp only [List.cons_append]); (try simp only [List.nil_append]); apply hK; clear hK K) | (refine phi_pureK rfl rfl (fun K hK => ?_); apply Exists.intro; constructor; (focus (rintro w' ⟨h0, hN⟩; (clear h0 hN); first | (go_simp; done) | (go_simp; (try go_bits); (try go_simp); rfl) | go_simp)); simp only [Act.put, List.setIfInBounds_toArray, List.set_cons_succ, List.set_cons_zero]; (try simp only [List.cons_append]); (try simp only [List.nil_append]); apply hK; clear hK K))
  refine phi_done ?_
  rintro w' ⟨hb, hN⟩ _
  have B' := Lib.hid hb
  have N' := Lib.hid hN
  clear hb hN B N
  refine wpList_store (.tmp 2) (.tmp 44) 49 rfl rfl w.heap.size 0 _ _ (ptrs13 g) rfl rfl N'.out (by kernel_rfl) (by simp [Value.oneCell', ptrs13]) (by simp [ptrs13]) ?_
  intro w7 hn7 ko7
  have h7 : Blk w7 w.heap.size 49 (ptrs13 g) := hn7
  have q0 := (h7.cell 0).trans rfl
  have q1 := (h7.cell 1).trans rfl
  have q2 := (h7.cell 2).trans rfl
  have q3 := (h7.cell 3).trans rfl
  have q4 := (h7.cell 4).trans rfl
  have q5 := (h7.cell 5).trans rfl
  have q6 := (h7.cell 6).trans rfl
  have q7 := (h7.cell 7).trans rfl
  have q8 := (h7.cell 8).trans rfl
  have q9 := (h7.cell 9).trans rfl
  have q10 := (h7.cell 10).trans rfl
  have q11 := (h7.cell 11).trans rfl
  have q12 := (h7.cell 12).trans rfl
  go_wp2_with fail
  refine bodyPost_ret (v := .agg (ptrs13 g)) (by simp [results, Tryz.results18, go_sem, ptrs13, q0, q1, q2, q3, q4, q5, q6, q7, q8, q9, q10, q11, q12]) rfl ?_
  exact ⟨rfl, B'.out.trans (ko7.below (Nat.le_refl _))⟩
theorem ptrs13_get (g k : Nat) (hk : k < 13) : (ptrs13 g)[k]? = some (.pointer (some ⟨g, k, none⟩)) :=
  match k, hk with
  | 0, _ => rfl
  | 1, _ => rfl
  | 2, _ => rfl
  | 3, _ => rfl
  | 4, _ => rfl
  | 5, _ => rfl
  | 6, _ => rfl
  | 7, _ => rfl
  | 8, _ => rfl
  | 9, _ => rfl
  | 10, _ => rfl
  | 11, _ => rfl
  | 12, _ => rfl
theorem ptrs13_index (g k : Nat) (hk : k < 13) (w : World) : (Instr.index 49 (.agg (ptrs13 g)) (.int .i64 (k : Int))).run Tryz.prog w = .ok (.pointer (some ⟨g, k, none⟩)) w :=
  match k, hk with
  | 0, _ => by kernel_rfl
  | 1, _ => by kernel_rfl
  | 2, _ => by kernel_rfl
  | 3, _ => by kernel_rfl
  | 4, _ => by kernel_rfl
  | 5, _ => by kernel_rfl
  | 6, _ => by kernel_rfl
  | 7, _ => by kernel_rfl
  | 8, _ => by kernel_rfl
  | 9, _ => by kernel_rfl
  | 10, _ => by kernel_rfl
  | 11, _ => by kernel_rfl
  | 12, _ => by kernel_rfl
theorem fct_get (f : Fct) (k : Nat) (hk : k < 13) (hl : k < f.l.length) : (fctA f)[k]? = some (.int .i64 f.l[k]) :=
  match k, hk with
  | 0, _ => rfl
  | 1, _ => rfl
  | 2, _ => rfl
  | 3, _ => rfl
  | 4, _ => rfl
  | 5, _ => rfl
  | 6, _ => rfl
  | 7, _ => rfl
  | 8, _ => rfl
  | 9, _ => rfl
  | 10, _ => rfl
  | 11, _ => rfl
  | 12, _ => rfl
set_option maxRecDepth 20000 in
set_option maxHeartbeats 4000000 in
theorem bytesF_any (f : Fct) (g : Nat) (w : World) (E : Nat → Addr) (he : Errs w E) (hb : Blk w g 26 (fctA f)) (hr : rightF f = true) :
    Calls Tryz.prog 17 #[.pointer (some ⟨g, 0, none⟩)] w fun e w' => ∃ v, e = .returned v ∧ w'.ownsRow w.heap.size 5 1 v (encL f).length (bvs (encL f)) ∧ Below w.heap.size w w' := by
  have HE := Lib.hid he
  have HB := Lib.hid hb
  have HN := Lib.hid (right_ok hr).nums
  have HL := Lib.hid (show encL f = joinL (rowF f) by unfold encL; rw [if_pos hr])
  have HRR := Lib.hid (rowF_right hr)
  have hlen : f.l.length = 13 := rfl
  have HX := Lib.hid (right_ok hr).time
  obtain ⟨i0, hi, hz0, hz1, hz2⟩ := info_parts fldInfo
  clear he hb hr
  have HCG := Lib.hid (fct_get f)
  have HRC := Lib.hid (show rowF f = tagRow 0 f.l ++ (if f.k = 1 then [(14, eightB f.x)] else []) from rfl)
  generalize f.l = l at *
  have HK := Lib.hid (show (fctA f)[0]? = some (.int .i64 f.k) from rfl)
  go_enter Tryz.func17, Tryz.ntmps17
  go_wp2_with fail
  refine (places_any g _).mono ?_
  rintro e w1 ⟨rfl, hb1⟩
  have HB1 := Lib.hid hb1
  clear hb1
  go_wp2_with fail
  go_loopw [2, 6] (fun o i wr => ∃ k : Nat, k ≤ 13 ∧ i = .int .i64 k ∧ OutF wr w.heap.size o (tagRow 0 (l.take k)) ∧ Below w.heap.size w wr) (fun _ i _ => 13 - (intOf i).toNat)
  case atStart =>
    have ho : w1.ownsRow w.heap.size 54 2 (.slice none 0 0) 0 [] := ⟨rfl, .inl ⟨rfl, rfl⟩⟩
    exact ⟨0, by omega, rfl, ⟨[], rfl, ho, by simp [tagRow]⟩, HB1.out⟩
  case round =>
    obtain ⟨k, hk, rfl, hout, hbw⟩ := hrel
    by_cases hlt : k < 13
    · have hkl : k < l.length := by omega
      have hc : wr.cell? ⟨g, k, none⟩ = some (.int .i64 l[k]) := by
        rw [(HB.out.below hbw HB.out.lt).cell k]; exact HCG.out k hlt hkl
      have hix := fun w => ptrs13_index g k hlt w
      have hstep := Lib.hid (tagRow_take l k hkl)
      have hx := HN.out l[k] (List.getElem_mem hkl)
      have HO := Lib.hid hout
      clear hout
      generalize l[k] = x at *
      by_cases h0 : x = 0
      · have d1 : (x == 0) = true := by simpa using h0
        go_wp2_with fail
        go_roundw
        case rel => exact ⟨k + 1, by omega, by go_num, by rw [hstep.out, if_pos h0, List.append_nil]; exact HO.out, hbw⟩
        case measure => simp [intOf]; omega
      · have d1 : (x == 0) = false := by simpa using h0
        have hE1 : ErrsOn [0] wr E := (HE.out.below hbw).on [0] rfl
        have hn8 := numB_len8 hx.2
        have NX := Lib.hid (show numR x = numB x.toNat by unfold numR; rw [if_neg (by omega)])
        have NE : numE x = 0 := by unfold numE; rw [if_neg (by omega)]
        go_wp2_with fail
        refine (number_r x wr E hx.2 hE1).mono ?_
        rintro e w2 ⟨v, rfl, ho2, hb2⟩
        rw [NE, errV_zero]
        rw [NX.out] at ho2
        have hbw2 := hbw.trans (hb2.mono hbw.size)
        have HO2 := Lib.hid (OutF.below HO.out hb2)
        obtain ⟨p, c, rfl, hp1, hp2, hp3⟩ := owns_rd ho2
        have HD := Lib.hid (owns_lower ho2 hbw.size)
        clear hc hb2 hp1 hp2 hp3 ho2 NE NX hE1
        go_wp2_with fail
        refine (mustB_any _ _ _ _).mono ?_
        rintro e w2' ⟨rfl, rfl⟩
        obtain ⟨us, hus, hown, hel⟩ := HO2.out
        obtain ⟨po, co, rfl, _, _, _⟩ := owns_rd hown
        have HEL := Lib.hid hel
        have hown4 := owns_below hown (below_alloc1 w2 (.cells #[.int .i64 ((k : Int) + 1), .slice p (numB x.toNat).length c] 54))
        have hs3 := (below_alloc hbw2 (.cells #[.int .i64 ((k : Int) + 1), .slice p (numB x.toNat).length c] 54)).size
        have htl : (tagRow 0 (l.take k)).length ≤ 13 := Nat.le_trans (tagRow_len _ _) (by rw [List.length_take]; omega)
        clear hown hel
        generalize hdd : numB x.toNat = dd at *
        go_wp2_with (at_builtin; refine wpList_app (.tmp 14) (.tmp 25) 47 rfl rfl w.heap.size 54 i0 (.agg #[.int .i64 0, .slice none 0 0]) 2 32 Tryz.underlying47 hi hz0 hz1 hz2 rfl (by decide) _ _ _ rfl hown4 _ _ _ [.int .i64 ((k : Int) + 1), .slice p dd.length c] rfl rfl (rd_at _ #[_, _] _ _ _ rfl) ?b1 ?b2 ?b3 hs3 ?_)
        case b1 => first | exact ⟨rfl, rfl⟩ | simp [Value.oneCell']
        case b2 => unfold maxLen; omega
        case b3 => omega
        intro v4 w4 ho4 hg4
        have hal4 := below_alloc1 w2 (.cells #[.int .i64 ((k : Int) + 1), .slice p dd.length c] 54)
        have hbw4 := (below_alloc hbw2 (.cells #[.int .i64 ((k : Int) + 1), .slice p dd.length c] 54)).grown hg4 hs3 (fun j hj => (hown4.lt j hj).1)
        have HO4 := Lib.hid (show OutF w4 w.heap.size v4 (tagRow 0 (l.take k) ++ [((k : Int) + 1, dd)]) from by
          refine OutF.add (f := ((k : Int) + 1, dd)) hus ho4 hown4 hg4 (fun i f hf => ?_) ?_
          · obtain ⟨u, hu, ho⟩ := HEL.out i f hf
            exact ⟨u, hu, owns_below ho hal4⟩
          · exact owns_below HD.out hal4)
        clear hown4 ho4 hg4 hal4 hs3
        go_wp2_with fail
        go_roundw
        case rel => exact ⟨k + 1, by omega, by go_num, by rw [hstep.out, if_neg h0]; exact HO4.out, hbw4⟩
        case measure => simp [intOf]; omega
    · obtain rfl : k = 13 := by omega
      have hl9 : l.take 13 = l := List.take_of_length_le (by omega)
      rw [hl9] at hout
      have hk0 : wr.cell? ⟨g, 0, none⟩ = some (.int .i64 f.k) := ((HB.out.below hbw HB.out.lt).cell 0)
      by_cases hkk : f.k = 1
      · have dk : (f.k == 1) = true := by simpa using hkk
        rw [if_pos hkk] at HRC
        clear hkk
        have HO := Lib.hid hout
        obtain ⟨us0, hus0, hown0, hel0⟩ := hout
        obtain ⟨po0, co0, rfl, _, _, _⟩ := owns_rd hown0
        have hx63 : f.x < 18446744073709551616 := by have := HX.out; unfold infR at this; omega
        have hpx := plain_small HX.out
        have hcx : wr.cell? ⟨g, 13, none⟩ = some (.float .f64 f.x) := ((HB.out.below hbw HB.out.lt).cell 13)
        have HFL := Lib.hid (fun w' => float_any f.x hx63 w')
        rw [hpx] at HFL
        clear hus0 hown0 hel0 hx63 hpx
        go_wp2_with fail
        refine (HFL.out _).mono ?_
        rintro e w2 ⟨v, rfl, ho2, hb2⟩
        have hbw2 := hbw.trans (hb2.mono hbw.size)
        have HO2 := Lib.hid (OutF.below HO.out hb2)
        obtain ⟨p, c2, rfl, hp1, hp2, hp3⟩ := owns_rd ho2
        have HD := Lib.hid (owns_lower ho2 hbw.size)
        clear hcx hk0 hb2 hp1 hp2 hp3 ho2 HO
        obtain ⟨us, hus, hown, hel⟩ := HO2.out
        have HEL := Lib.hid hel
        have hown4 := owns_below hown (below_alloc1 w2 (.cells #[.int .i64 14, .slice p (eightB f.x).length c2] 54))
        have hs3 := (below_alloc hbw2 (.cells #[.int .i64 14, .slice p (eightB f.x).length c2] 54)).size
        have htl : (tagRow 0 l).length ≤ 13 := Nat.le_trans (tagRow_len _ _) (by omega)
        clear hown hel
        generalize hdd : eightB f.x = dd at *
        go_wp2_with (at_builtin; refine wpList_app (.tmp 31) (.tmp 36) 47 rfl rfl w.heap.size 54 i0 (.agg #[.int .i64 0, .slice none 0 0]) 2 32 Tryz.underlying47 hi hz0 hz1 hz2 rfl (by decide) _ _ _ rfl hown4 _ _ _ [.int .i64 14, .slice p dd.length c2] rfl rfl (rd_at _ #[_, _] _ _ _ rfl) ?d1 ?d2 ?d3 hs3 ?_)
        case d1 => first | exact ⟨rfl, rfl⟩ | simp [Value.oneCell']
        case d2 => unfold maxLen; omega
        case d3 => omega
        intro v4 w4 ho4 hg4
        have hal4 := below_alloc1 w2 (.cells #[.int .i64 14, .slice p dd.length c2] 54)
        have hbw4 := (below_alloc hbw2 (.cells #[.int .i64 14, .slice p dd.length c2] 54)).grown hg4 hs3 (fun j hj => (hown4.lt j hj).1)
        have HO4 := Lib.hid (show OutF w4 w.heap.size v4 (tagRow 0 l ++ [(14, dd)]) from by
          refine OutF.add (f := (14, dd)) hus ho4 hown4 hg4 (fun i f hf => ?_) ?_
          · obtain ⟨u, hu, ho⟩ := HEL.out i f hf
            exact ⟨u, hu, owns_below ho hal4⟩
          · exact owns_below HD.out hal4)
        clear hown4 ho4 hg4 hal4 hs3
        rw [← HRC.out] at HO4
        have HF := Lib.hid HO4.out.fld
        obtain ⟨us4, hus4, hown5, hel5⟩ := HO4.out
        obtain ⟨po4, co4, rfl, _, _, _⟩ := owns_rd hown5
        have hjE : joinE (rowF f) = 0 := by unfold joinE; rw [if_pos HRR.out]
        have hjR : joinR (rowF f) = joinL (rowF f) := by unfold joinR; rw [if_pos HRR.out]
        clear hown5 hel5 hus4
        go_wp2_with fail
        refine (join_any _ (rowF f) w4 E ((HE.out.below hbw4).on [3] rfl) HF.out).mono ?_
        rintro e w5 ⟨v, rfl, ho5, hb5⟩
        rw [hjE, errV_zero]
        rw [hjR] at ho5
        have hbw5 := hbw4.trans (hb5.mono hbw4.size)
        obtain ⟨p5, c5, rfl, hp1, hp2, hp3⟩ := owns_rd ho5
        have HD5 := Lib.hid (owns_lower ho5 hbw4.size)
        clear hb5 hp1 hp2 hp3 ho5 hjE hjR
        go_wp2_with fail
        refine (mustB_any _ _ _ _).mono ?_
        rintro e w5' ⟨rfl, rfl⟩
        go_wp2_with fail
        go_ret
        exact ⟨_, rfl, by rw [HL.out]; exact HD5.out, hbw5⟩
      · have dk : (f.k == 1) = false := by simpa using hkk
        rw [if_neg hkk, List.append_nil] at HRC
        clear hkk
        have HO4 := Lib.hid hout
        have hbwr := hbw
        rw [← HRC.out] at HO4
        have HF := Lib.hid HO4.out.fld
        obtain ⟨us4, hus4, hown5, hel5⟩ := HO4.out
        obtain ⟨po4, co4, rfl, _, _, _⟩ := owns_rd hown5
        have hjE : joinE (rowF f) = 0 := by unfold joinE; rw [if_pos HRR.out]
        have hjR : joinR (rowF f) = joinL (rowF f) := by unfold joinR; rw [if_pos HRR.out]
        clear hown5 hel5 hus4
        go_wp2_with fail
        refine (join_any _ (rowF f) wr E ((HE.out.below hbwr).on [3] rfl) HF.out).mono ?_
        rintro e w5 ⟨v, rfl, ho5, hb5⟩
        rw [hjE, errV_zero]
        rw [hjR] at ho5
        have hbw5 := hbwr.trans (hb5.mono hbwr.size)
        obtain ⟨p5, c5, rfl, hp1, hp2, hp3⟩ := owns_rd ho5
        have HD5 := Lib.hid (owns_lower ho5 hbwr.size)
        clear hb5 hp1 hp2 hp3 ho5 hjE hjR
        go_wp2_with fail
        refine (mustB_any _ _ _ _).mono ?_
        rintro e w5' ⟨rfl, rfl⟩
        go_wp2_with fail
        go_ret
        exact ⟨_, rfl, by rw [HL.out]; exact HD5.out, hbw5⟩
set_option maxRecDepth 20000 in
set_option maxHeartbeats 4000000 in
theorem fbytes_any (f : Fct) (hf : f.wf) (w : World) (E : Nat → Addr) (h : IdsG w E) :
    Calls Tryz.prog 6 #[fctV f] w (GivesB w E (encL f) (encE f)) := by
  have HG := Lib.hid (fun w' (hb : Below w.heap.size w w') => h.below hb)
  have HR := Lib.hid (fun w' h => fright_any f hf w' E h)
  unfold fctV fctA at HR
  have B := Lib.hid (below_alloc1 w (.cells (fctA f) 26))
  have N := Lib.hid (Blk.new w 26 (fctA f))
  have n0 := (N.out.cell 0).trans rfl
  have n1 := (N.out.cell 1).trans rfl
  have n2 := (N.out.cell 2).trans rfl
  have n3 := (N.out.cell 3).trans rfl
  have n4 := (N.out.cell 4).trans rfl
  have n5 := (N.out.cell 5).trans rfl
  have n6 := (N.out.cell 6).trans rfl
  have n7 := (N.out.cell 7).trans rfl
  have n8 := (N.out.cell 8).trans rfl
  have n9 := (N.out.cell 9).trans rfl
  have n10 := (N.out.cell 10).trans rfl
  have n11 := (N.out.cell 11).trans rfl
  have n12 := (N.out.cell 12).trans rfl
  have n13 := (N.out.cell 13).trans rfl
  clear h
  cases hr : rightF f
  · rw [hr] at HR
    have HE := Lib.hid (show encE f = 4 ∧ encL f = [] by unfold encE encL; rw [hr]; exact ⟨rfl, rfl⟩)
    clear hr
    unfold fctV fctA
    go_enter Tryz.func6, Tryz.ntmps6
    go_wp2_with fail
    refine (HR.out _ (HG.out _ B.out)).mono ?_
    rintro e w' ⟨rfl, hb⟩
    have B' := Lib.hid (B.out.trans (hb.mono B.out.size))
    have e3 := (HG.out _ B'.out).errs.cell 3 (by omega)
    simp only [errVar, List.getD_cons_zero, List.getD_cons_succ, errAt] at e3
    clear hb n0 n1 n2 n3 n4 n5 n6 n7 n8 n9 n10 n11 n12 n13 HR
    go_wp2_with fail
    go_quiet (fail)
    go_wp2_with fail
    go_ret2
    refine ⟨_, by rw [HE.out.1]; rfl, ?_, B'.out.trans ((below_drewN _ _).mono B'.out.size)⟩
    rw [HE.out.2]
    exact ⟨rfl, .inl ⟨rfl, rfl⟩⟩
  · rw [hr] at HR
    have HE := Lib.hid (show encE f = 0 by unfold encE; rw [if_pos hr])
    have HF := Lib.hid (fun w' (h : IdsG w' E) (hb : Blk w' w.heap.size 26 (fctA f)) => bytesF_any f w.heap.size w' E h.errs hb hr)
    clear hr
    unfold fctV fctA
    go_enter Tryz.func6, Tryz.ntmps6
    go_wp2_with fail
    refine (HR.out _ (HG.out _ B.out)).mono ?_
    rintro e w' ⟨rfl, hb⟩
    have B' := Lib.hid (B.out.trans (hb.mono B.out.size))
    have N' := Lib.hid (N.out.below hb N.out.lt)
    have G' := Lib.hid (HG.out _ B'.out)
    clear hb n0 n1 n2 n3 n4 n5 n6 n7 n8 n9 n10 n11 n12 n13 HR
    go_wp2_with fail
    refine (tryY_any w' E 17 #[.pointer (some ⟨w.heap.size, 0, none⟩)] [] (fun w1 v w2 => w2.ownsRow w1.heap.size 5 1 v (encL f).length (bvs (encL f))) (fun _ _ _ => False) (by simp) (fun w2 hb => (G'.out.below hb.nil_below).errs) ?_ ?_ ?_).mono ?_
    · intro w1 v w2 ho
      obtain ⟨p, c9, rfl, _⟩ := owns_rd ho
      exact ⟨_, _, _, rfl⟩
    · intro w; rfl
    · intro w1 hb hs
      refine (HF.out w1 (G'.out.below hb) (N'.out.below hb N'.out.lt)).mono ?_
      rintro e w2 ⟨v, rfl, ho, hb2⟩
      exact ⟨.inl ⟨v, rfl, ho⟩, But.of_below hb2⟩
    · rintro e w3 ⟨hb0, w1, w2, hs, hb1, hb2, hb3, hor⟩
      rcases hor with ⟨v, rfl, ho⟩ | ⟨n, _, hq, _⟩
      · have ho3 := But.owns (S := [w'.heap.size, w'.heap.size + 1, w'.heap.size + 2]) hb3 (by simp; omega) ho
        have ho4 := owns_lower ho3 (base' := w.heap.size) (by have := B'.out.size; omega)
        have B3 := Lib.hid (B'.out.trans (hb0.nil_below.mono B'.out.size))
        obtain ⟨p, c9, rfl, _, _, _⟩ := owns_rd ho4
        have HO := Lib.hid ho4
        clear ho ho3 ho4 hb0 hb1 hb2 hb3 hs
        go_wp2_with fail
        go_ret2
        exact ⟨_, by rw [HE.out]; rfl, HO.out, B3.out⟩
      · exact hq.elim
end Go.Proofs.YtjklcbdlfmmllaaGreatDoor
