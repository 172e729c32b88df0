/-
  LetterE: a message's numbers by tag, and its bytes.
  LetterE2: the closure of letter.Encode: a right message's bytes.
-/
import Derived.Test.YtpbgappggmcmgaaDoorLetterW
import Derived.Test.YtpbgappggmcmgaaDoorEncP
import Derived.Test.YtpbgappggmcmgaaDoorJoinW
namespace Go.Proofs.YtpbgappggmcmgaaDoor
open Go.RowKit Go.Extern.Stop Go.Stop Go.Extern

def ptrs (g : Nat) : Array Value := #[.pointer (some ⟨g, 0, none⟩), .pointer (some ⟨g, 1, none⟩), .pointer (some ⟨g, 2, none⟩), .pointer (some ⟨g, 3, none⟩), .pointer (some ⟨g, 4, none⟩), .pointer (some ⟨g, 5, none⟩), .pointer (some ⟨g, 6, none⟩), .pointer (some ⟨g, 7, none⟩), .pointer (some ⟨g, 8, none⟩)]
set_option maxRecDepth 20000 in
set_option maxHeartbeats 2000000 in
theorem places_any (g : Nat) (w : World) : Calls Tryd.prog 25 #[.pointer (some ⟨g, 0, none⟩)] w fun e w' => e = .returned (.agg (ptrs g)) ∧ Below w.heap.size w w' := by
  have B := Lib.hid (below_alloc1 w (.cells #[.pointer none, .pointer none, .pointer none, .pointer none, .pointer none, .pointer none, .pointer none, .pointer none, .pointer none] 51))
  have N := Lib.hid (Blk.new w 51 #[.pointer none, .pointer none, .pointer none, .pointer none, .pointer none, .pointer none, .pointer none, .pointer none, .pointer none])
  go_enter Tryd.func25, Tryd.ntmps25
  go_wp2_with fail
  refine wp_phi_tail (List.take 30 _) (List.drop 30 _) (List.take_append_drop 30 _).symm (fun w' => Below w.heap.size w w' ∧ Blk w' w.heap.size 51 #[.pointer none, .pointer none, .pointer none, .pointer none, .pointer none, .pointer none, .pointer none, .pointer none, .pointer none]) [] [] (by kernel_rfl) (by kernel_rfl) ?_ ?_ ⟨B.out.drew, N.out⟩ ?_
  · rintro w1 w2 ⟨a1, a2⟩ hb
    exact ⟨a1.trans (hb.mono a1.size), a2.below hb a2.lt⟩
  · intro p hp; cases hp
  simp only [List.take_succ_cons, List.take_zero, List.drop_succ_cons, List.drop_zero]
  repeat (first | (refine phi_skipK rfl (fun K hK => ?_); simp only [Act.put, List.setIfInBounds_toArray, List.set_cons_succ, List.set_cons_zero]; (try simp only [List.cons_append]); (try simp only [List.nil_append]); apply hK; clear hK K) | (refine phi_pureK rfl rfl (fun K hK => ?_); apply Exists.intro; constructor; (focus (rintro w' ⟨h0, hN⟩; (clear h0 hN); first | (go_simp; done) | (go_simp; (try go_bits); (try go_simp); rfl) | go_simp)); simp only [Act.put, List.setIfInBounds_toArray, List.set_cons_succ, List.set_cons_zero]; (try simp only [List.cons_append]); (try simp only [List.nil_append]); apply hK; clear hK K))
  refine phi_done ?_
  rintro w' ⟨hb, hN⟩ _
  have B' := Lib.hid hb
  have N' := Lib.hid hN
  clear hb hN B N
  refine wpList_store (.tmp 2) (.tmp 32) 51 rfl rfl w.heap.size 0 _ _ (ptrs g) rfl rfl N'.out (by kernel_rfl) (by simp [Value.oneCell', ptrs]) (by simp [ptrs]) ?_
  intro w7 hn7 ko7
  have h7 : Blk w7 w.heap.size 51 (ptrs g) := hn7
  have q0 := (h7.cell 0).trans rfl
  have q1 := (h7.cell 1).trans rfl
  have q2 := (h7.cell 2).trans rfl
  have q3 := (h7.cell 3).trans rfl
  have q4 := (h7.cell 4).trans rfl
  have q5 := (h7.cell 5).trans rfl
  have q6 := (h7.cell 6).trans rfl
  have q7 := (h7.cell 7).trans rfl
  have q8 := (h7.cell 8).trans rfl
  go_wp2_with fail
  refine bodyPost_ret (v := .agg (ptrs g)) (by simp [results, Tryd.results25, go_sem, ptrs, q0, q1, q2, q3, q4, q5, q6, q7, q8]) rfl ?_
  exact ⟨rfl, B'.out.trans (ko7.below (Nat.le_refl _))⟩
end Go.Proofs.YtpbgappggmcmgaaDoor

namespace Go.Proofs.YtpbgappggmcmgaaDoor
open Go.RowKit Go.Extern.Stop Go.Stop Go.Extern

theorem ptrs_index (g k : Nat) (hk : k < 9) (w : World) : (Instr.index 51 (.agg (ptrs g)) (.int .i64 (k : Int))).run Tryd.prog w = .ok (.pointer (some ⟨g, k, none⟩)) w :=
  match k, hk with
  | 0, _ => by kernel_rfl
  | 1, _ => by kernel_rfl
  | 2, _ => by kernel_rfl
  | 3, _ => by kernel_rfl
  | 4, _ => by kernel_rfl
  | 5, _ => by kernel_rfl
  | 6, _ => by kernel_rfl
  | 7, _ => by kernel_rfl
  | 8, _ => by kernel_rfl
theorem ivL_get (l : List Int) (k : Nat) (hk : k < l.length) : (ivL l)[k]? = some (.int .i64 l[k]) := by
  unfold ivL
  simp [hk]
set_option maxRecDepth 20000 in
set_option maxHeartbeats 4000000 in
theorem encF_any (m : Msg) (g : Nat) (w : World) (E : Nat → Addr) (he : Errs w E) (hb : Blk w g 25 (ivL m.l)) (hr : rightM m = true) :
    Calls Tryd.prog 24 #[.pointer (some ⟨g, 0, none⟩)] w fun e w' => ∃ v, e = .returned v ∧ w'.ownsRow w.heap.size 5 1 v (encL m).length (bvs (encL m)) ∧ Below w.heap.size w w' := by
  have HE := Lib.hid he
  have HB := Lib.hid hb
  have HN := Lib.hid (right_nums hr)
  have HL := Lib.hid (show encL m = joinL (tagRow 0 m.l) by unfold encL; rw [if_pos hr])
  have HRR := Lib.hid (row_right hr)
  have hlen : m.l.length = 9 := rfl
  obtain ⟨i0, hi, hz0, hz1, hz2⟩ := info_parts fldInfo
  clear he hb hr
  generalize m.l = l at *
  go_enter Tryd.func24, Tryd.ntmps24
  go_wp2_with fail
  refine (places_any g _).mono ?_
  rintro e w1 ⟨rfl, hb1⟩
  have HB1 := Lib.hid hb1
  clear hb1
  go_wp2_with fail
  go_loopw [2, 6] (fun o i wr => ∃ k : Nat, k ≤ 9 ∧ i = .int .i64 k ∧ OutF wr w.heap.size o (tagRow 0 (l.take k)) ∧ Below w.heap.size w wr) (fun _ i _ => 9 - (intOf i).toNat)
  case atStart =>
    have ho : w1.ownsRow w.heap.size 57 2 (.slice none 0 0) 0 [] := ⟨rfl, .inl ⟨rfl, rfl⟩⟩
    exact ⟨0, by omega, rfl, ⟨[], rfl, ho, by simp [tagRow]⟩, HB1.out⟩
  case round =>
    obtain ⟨k, hk, rfl, hout, hbw⟩ := hrel
    by_cases hlt : k < 9
    · have hkl : k < l.length := by omega
      have hc : wr.cell? ⟨g, k, none⟩ = some (.int .i64 l[k]) := by
        rw [(HB.out.below hbw HB.out.lt).cell k]; exact ivL_get l k hkl
      have hix := fun w => ptrs_index g k hlt w
      have hstep := Lib.hid (tagRow_take l k hkl)
      have hx := HN.out l[k] (List.getElem_mem hkl)
      have HO := Lib.hid hout
      clear hout
      generalize l[k] = x at *
      by_cases h0 : x = 0
      · have d1 : (x == 0) = true := by simpa using h0
        go_wp2_with fail
        go_roundw
        case rel => exact ⟨k + 1, by omega, by go_num, by rw [hstep.out, if_pos h0, List.append_nil]; exact HO.out, hbw⟩
        case measure => simp [intOf]; omega
      · have d1 : (x == 0) = false := by simpa using h0
        have hE1 : ErrsOn [0] wr E := (HE.out.below hbw).on [0] rfl
        have hn8 := numB_len8 hx.2
        have NX := Lib.hid (show numR x = numB x.toNat by unfold numR; rw [if_neg (by omega)])
        have NE : numE x = 0 := by unfold numE; rw [if_neg (by omega)]
        go_wp2_with fail
        refine (number_r x wr E hx.2 hE1).mono ?_
        rintro e w2 ⟨v, rfl, ho2, hb2⟩
        rw [NE, errV_zero]
        rw [NX.out] at ho2
        have hbw2 := hbw.trans (hb2.mono hbw.size)
        have HO2 := Lib.hid (OutF.below HO.out hb2)
        obtain ⟨p, c, rfl, hp1, hp2, hp3⟩ := owns_rd ho2
        have HD := Lib.hid (owns_lower ho2 hbw.size)
        clear hc hb2 hp1 hp2 hp3 ho2 NE NX hE1
        go_wp2_with fail
        refine (mustB_any _ _ _ _).mono ?_
        rintro e w2' ⟨rfl, rfl⟩
        obtain ⟨us, hus, hown, hel⟩ := HO2.out
        obtain ⟨po, co, rfl, _, _, _⟩ := owns_rd hown
        have HEL := Lib.hid hel
        have hown4 := owns_below hown (below_alloc1 w2 (.cells #[.int .i64 ((k : Int) + 1), .slice p (numB x.toNat).length c] 57))
        have hs3 := (below_alloc hbw2 (.cells #[.int .i64 ((k : Int) + 1), .slice p (numB x.toNat).length c] 57)).size
        have htl : (tagRow 0 (l.take k)).length ≤ 9 := Nat.le_trans (tagRow_len _ _) (by rw [List.length_take]; omega)
        clear hown hel
        generalize hdd : numB x.toNat = dd at *
        go_wp2_with (at_builtin; refine wpList_app (.tmp 14) (.tmp 25) 49 rfl rfl w.heap.size 57 i0 (.agg #[.int .i64 0, .slice none 0 0]) 2 32 Tryd.underlying49 hi hz0 hz1 hz2 rfl (by decide) _ _ _ rfl hown4 _ _ _ [.int .i64 ((k : Int) + 1), .slice p dd.length c] rfl rfl (rd_at _ #[_, _] _ _ _ rfl) ?b1 ?b2 ?b3 hs3 ?_)
        case b1 => first | exact ⟨rfl, rfl⟩ | simp [Value.oneCell']
        case b2 => unfold maxLen; omega
        case b3 => omega
        intro v4 w4 ho4 hg4
        have hal4 := below_alloc1 w2 (.cells #[.int .i64 ((k : Int) + 1), .slice p dd.length c] 57)
        have hbw4 := (below_alloc hbw2 (.cells #[.int .i64 ((k : Int) + 1), .slice p dd.length c] 57)).grown hg4 hs3 (fun j hj => (hown4.lt j hj).1)
        have HO4 := Lib.hid (show OutF w4 w.heap.size v4 (tagRow 0 (l.take k) ++ [((k : Int) + 1, dd)]) from by
          refine OutF.add (f := ((k : Int) + 1, dd)) hus ho4 hown4 hg4 (fun i f hf => ?_) ?_
          · obtain ⟨u, hu, ho⟩ := HEL.out i f hf
            exact ⟨u, hu, owns_below ho hal4⟩
          · exact owns_below HD.out hal4)
        clear hown4 ho4 hg4 hal4 hs3
        go_wp2_with fail
        go_roundw
        case rel => exact ⟨k + 1, by omega, by go_num, by rw [hstep.out, if_neg h0]; exact HO4.out, hbw4⟩
        case measure => simp [intOf]; omega
    · obtain rfl : k = 9 := by omega
      have hl9 : l.take 9 = l := List.take_of_length_le (by omega)
      rw [hl9] at hout
      have HF := Lib.hid hout.fld
      obtain ⟨us, hus, hown, hel⟩ := hout
      obtain ⟨po, co, rfl, _, _, _⟩ := owns_rd hown
      have hjE : joinE (tagRow 0 l) = 0 := by unfold joinE; rw [if_pos HRR.out]
      have hjR : joinR (tagRow 0 l) = joinL (tagRow 0 l) := by unfold joinR; rw [if_pos HRR.out]
      clear hown hel hus
      go_wp2_with fail
      refine (join_any _ (tagRow 0 l) wr E ((HE.out.below hbw).on [3] rfl) HF.out).mono ?_
      rintro e w2 ⟨v, rfl, ho2, hb2⟩
      rw [hjE, errV_zero]
      rw [hjR] at ho2
      have hbw2 := hbw.trans (hb2.mono hbw.size)
      obtain ⟨p, c, rfl, hp1, hp2, hp3⟩ := owns_rd ho2
      have HD := Lib.hid (owns_lower ho2 hbw.size)
      clear hb2 hp1 hp2 hp3 ho2 hjE hjR
      go_wp2_with fail
      refine (mustB_any _ _ _ _).mono ?_
      rintro e w2' ⟨rfl, rfl⟩
      go_wp2_with fail
      go_ret
      exact ⟨_, rfl, by rw [HL.out]; exact HD.out, hbw2⟩
end Go.Proofs.YtpbgappggmcmgaaDoor
