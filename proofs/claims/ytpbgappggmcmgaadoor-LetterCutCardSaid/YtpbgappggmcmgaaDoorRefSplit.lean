/-
  RefSplit: the walks of liaisonref03.Split and Same.
-/
import Derived.Test.YtpbgappggmcmgaaDoorSplitW
import Derived.IntWalk
namespace Go.Proofs.YtpbgappggmcmgaaDoor
open Go.RowKit
attribute [local go_sem] bs_toList

theorem OutF.add {w2 w3 : World} {B : Nat} {v v3 : Value} {fs : List (Int × List UInt8)} {us : List Value} {f : Int × List UInt8} {u : Value} (hus : us.length = fs.length)
    (ho3 : w3.ownsRow B 57 2 v3 (fs.length + 1) (fcells fs us ++ [.int .i64 f.1, u])) (hown : w2.ownsRow B 57 2 v fs.length (fcells fs us)) (hg3 : w2.grownBy w3 v.ownBlock)
    (hel : ∀ (i : Nat) (f : Int × List UInt8), fs[i]? = some f → ∃ u, us[i]? = some u ∧ w2.ownsRow B 5 1 u f.2.length (bvs f.2)) (hu : w2.ownsRow B 5 1 u f.2.length (bvs f.2)) : OutF w3 B v3 (fs ++ [f]) := by
  refine ⟨us ++ [u], by simp [hus], ?_, fun i f' hf => ?_⟩
  · rw [fcells_app _ _ _ _ hus, List.length_append]
    exact ho3
  · by_cases hi : i < fs.length
    · rw [List.getElem?_append_left hi] at hf
      obtain ⟨u', hu', ho⟩ := hel i f' hf
      exact ⟨u', by rw [List.getElem?_append_left (by omega)]; exact hu', grown_owns hg3 hown ho (by decide)⟩
    · rw [List.getElem?_append_right (by omega)] at hf
      have hi0 : i - fs.length = 0 := by
        have := (List.getElem?_eq_some_iff.1 hf).1
        simp at this; omega
      rw [hi0] at hf
      obtain rfl : f = f' := by simpa using hf
      exact ⟨_, by rw [List.getElem?_append_right (by omega), hus, hi0]; rfl, grown_owns hg3 hown hu (by decide)⟩
/-- a row that was there before the fresh block alone grew -/
theorem grown_new {w w' : World} {B size n : Nat} {e : TypeId} {v : Value} {xs : List Value} {o : Obj} (hg : (w.alloc o).grownBy w' (some w.heap.size)) (h : w.ownsRow B e size v n xs) : w'.ownsRow B e size v n xs := by
  refine ⟨h.1, ?_⟩
  rcases h.2 with h2 | ⟨g, cap, cur, hv, hB, hh, r⟩
  · exact .inl h2
  · have hlt : g < w.heap.size := (Array.getElem?_eq_some_iff.1 hh).1
    refine .inr ⟨g, cap, cur, hv, hB, (hg.block g (by rw [World.size_alloc]; omega) (fun e => ?_)).trans ((Below.heap_alloc w o g hlt).trans hh), r⟩
    injection e with e
    omega
theorem getD_drop (b : List UInt8) (k i : Nat) (h : k + i < b.length) : (b.drop k).getD i 0 = b[k + i] := by
  rw [List.getD, List.getElem?_drop, List.getElem?_eq_getElem h]; rfl
def RefSplitR (w : World) (b : List UInt8) (e : Ending) (w' : World) : Prop :=
  ∃ v, e = .returned (.tuple #[v, .int .i64 (splitE b : Int)]) ∧ FldL w' v (splitL b) ∧ Below w.heap.size w w'
theorem refsplit_bad {w w' : World} {b : List UInt8} (n : Nat) (h : (splitF 0 0 b).2 = some n) (hb : Below w.heap.size w w') : RefSplitR w b (.returned (.tuple #[.slice none 0 0, .int .i64 ((n + 1 : Nat) : Int)])) w' := by
  have HN : splitE b = n + 1 ∧ splitL b = [] := by unfold splitE splitL; rw [h]; exact ⟨rfl, rfl⟩
  refine ⟨_, by rw [HN.1], ?_, hb⟩
  rw [HN.2]
  exact ⟨none, 0, [], rfl, Nat.le_refl _, by unfold maxLen; omega, rfl, .inl rfl, by simp⟩
set_option maxRecDepth 20000 in
set_option maxHeartbeats 4000000 in
theorem refsplit_any (w : World) (v : Value) (b : List UInt8) (hy : Byt w v b) (hbl : b.length ≤ 1099511627776) :
    Calls Tryd.prog 43 #[v] w (RefSplitR w b) := by
  have HY := Lib.hid hy
  obtain ⟨p, c, rfl, k1, k2, k3⟩ := hy
  obtain ⟨i0, hi, hz0, hz1, hz2⟩ := info_parts fldInfo
  obtain ⟨i1, hi', hz0', hz1', hz2'⟩ := info_parts byt8Info
  have K3 := Lib.hid k3
  unfold maxLen at k2
  clear k3
  go_enter Tryd.func43, Tryd.ntmps43
  go_wp2_with fail
  go_loopw [4, 5, 6] (fun out l a wr => ∃ (fs : List (Int × List UInt8)) (at_ : Nat) (last : Int), at_ ≤ b.length ∧ fs.length ≤ 16 ∧ (0 ≤ last ∧ last ≤ 255) ∧ l = .int .i64 last ∧ a = .int .i64 (at_ : Int) ∧
    splitF 0 0 b = (fs ++ (splitF last fs.length (b.drop at_)).1, (splitF last fs.length (b.drop at_)).2) ∧ OutF wr w.heap.size out fs ∧ Below w.heap.size w wr) (fun _ _ a _ => b.length - (intOf a).toNat)
  case atStart =>
    have ho := World.ownsRow_lit (base := w.heap.size) (e := 57) (size := 2) w #[] 0 (Nat.le_refl _) (by unfold maxLen; omega) rfl
    exact ⟨[], 0, 0, Nat.zero_le _, by simp, by decide, rfl, rfl, rfl, ⟨[], rfl, by simpa [fcells] using ho, by simp⟩, below_alloc1 _ _⟩
  case round =>
    obtain ⟨fs, at_, last, hat, hfl, hlast, rfl, rfl, heq, hout, hbw⟩ := hrel
    have HEQ := Lib.hid heq
    have HO := Lib.hid hout
    clear heq hout
    have hdl : (b.drop at_).length = b.length - at_ := List.length_drop
    by_cases hlt : at_ < b.length
    · have d1 : decide ((at_ : Int) < (b.length : Int)) = true := by simp; omega
      have d1' : decide (at_ < b.length) = true := by simp; omega
      have hne : b.drop at_ ≠ [] := by intro e; rw [e] at hdl; simp at hdl; omega
      have HNE := Lib.hid hne
      clear hne
      by_cases h3 : b.length - at_ < 3
      · have hfb := splitF_bad HNE.out (show fieldBad last fs.length (b.drop at_) = some 1 by unfold fieldBad; rw [if_pos (by omega)])
        have HF := Lib.hid (show (splitF 0 0 b).2 = some 1 by rw [HEQ.out, hfb])
        have d2 : decide ((b.length : Int) - (at_ : Int) < 3) = true := by simp; omega
        clear hfb hdl
        go_wp2_with fail
        go_ret2
        exact refsplit_bad 1 HF.out hbw
      · have d2 : decide ((b.length : Int) - (at_ : Int) < 3) = false := by simp; omega
        obtain ⟨bb, off, hp, hcell⟩ := byt_cell K3.out (k := at_) (by omega)
        obtain ⟨bb1, off1, hp1, hcell1⟩ := byt_cell K3.out (k := at_ + 1) (by omega)
        obtain ⟨bb2, off2, hp2, hcell2⟩ := byt_cell K3.out (k := at_ + 2) (by omega)
        subst hp
        cases hp1
        cases hp2
        have c0 := Below.keeps hbw _ _ hcell
        have c1 := Below.keeps hbw _ _ hcell1
        have c2 := Below.keeps hbw _ _ hcell2
        rw [← Nat.add_assoc] at c1 c2
        have ht : tagOf (b.drop at_) = (b[at_].toNat : Int) := by
          unfold tagOf; rw [getD_drop b at_ 0 (by omega)]; rfl
        have hs : sizeOfF (b.drop at_) = 256 * b[at_ + 1].toNat + b[at_ + 2].toNat := by
          unfold sizeOfF; rw [getD_drop b at_ 1 (by omega), getD_drop b at_ 2 (by omega)]
        have y0 := b[at_].toNat_lt
        have y1 := b[at_ + 1].toNat_lt
        have y2 := b[at_ + 2].toNat_lt
        have HT := Lib.hid ht
        have HS := Lib.hid hs
        clear hcell hcell1 hcell2 ht hs
        generalize b[at_].toNat = n0 at *
        generalize b[at_ + 1].toNat = n1 at *
        generalize b[at_ + 2].toNat = n2 at *
        have hlti : at_ + 1 < b.length := by omega
        have hltj : at_ + 2 < b.length := by omega
        go_wp2_with fail
        refine wp_phi (fun w' => (w'.cell? ⟨bb, off + at_, none⟩ = some (.int .u8 (n0 : Int))) ∧ (w'.cell? ⟨bb, off + at_ + 1, none⟩ = some (.int .u8 (n1 : Int))) ∧ (w'.cell? ⟨bb, off + at_ + 2, none⟩ = some (.int .u8 (n2 : Int))) ∧ (OutF w' w.heap.size u4 fs) ∧ Below w.heap.size w w') [] [] (by kernel_rfl) (by kernel_rfl) ?_ ?_ ⟨c0, c1, c2, HO.out, (hbw).drew⟩ ?_
        · rintro w1' w2' ⟨g0, g1, g2, g3, hIB⟩ hb
          exact ⟨(by first | exact g0.below hb | exact g0.keep (Below.keeps hb) | exact Below.keeps hb _ _ g0 | exact Blk.below g0 hb (Blk.lt g0)), (by first | exact g1.below hb | exact g1.keep (Below.keeps hb) | exact Below.keeps hb _ _ g1 | exact Blk.below g1 hb (Blk.lt g1)), (by first | exact g2.below hb | exact g2.keep (Below.keeps hb) | exact Below.keeps hb _ _ g2 | exact Blk.below g2 hb (Blk.lt g2)), (by first | exact g3.below hb | exact g3.keep (Below.keeps hb) | exact Below.keeps hb _ _ g3 | exact Blk.below g3 hb (Blk.lt g3)), hIB.trans (hb.mono hIB.size)⟩
        · intro p hp; cases hp
        repeat (first | (refine phi_skipK rfl (fun K hK => ?_); simp only [Act.put, List.setIfInBounds_toArray, List.set_cons_succ, List.set_cons_zero]; (try simp only [List.cons_append]); (try simp only [List.nil_append]); apply hK; clear hK K) | (refine phi_pureK rfl rfl (fun K hK => ?_); apply Exists.intro; constructor; (focus (rintro w' ⟨g0, g1, g2, g3, hIB⟩; have q5 : (0 : Int) ≤ (at_ : Int) + 1 := (by omega); have q6 : (0 : Int) ≤ (at_ : Int) + 2 := (by omega); have q7 : ((at_ : Int) + 1).toNat = at_ + 1 := (by omega); have q8 : ((at_ : Int) + 2).toNat = at_ + 2 := (by omega); have q9 : (at_ : Int) + 1 < (b.length : Int) := (by omega); have qa : (at_ : Int) + 2 < (b.length : Int) := (by omega); have G1 := g1; have G2 := g2; rw [Nat.add_assoc] at G1 G2; clear g3 hIB; first | (go_simp; done) | (go_simp; (try go_bits); (try go_simp); rfl) | go_simp)); simp only [Act.put, List.setIfInBounds_toArray, List.set_cons_succ, List.set_cons_zero]; (try simp only [List.cons_append]); (try simp only [List.nil_append]); apply hK; clear hK K))
        refine phi_done ?_
        rintro w2 ⟨g0, g1, g2, g3, hbw2⟩ _
        refine wpList_nil ?_
        clear g0 g1 g2 c0 c1 c2 hlti hltj
        rw [show ((n1 : Int) * 256 + (n2 : Int)) = ((256 * n1 + n2 : Nat) : Int) by omega]
        generalize 256 * n1 + n2 = sz at *
        obtain ⟨us, hus, hown, hel⟩ := g3
        obtain ⟨po, co, rfl, _, _, _⟩ := owns_rd hown
        by_cases hbad : (n0 : Int) ≤ last ∨ 200 < sz ∨ fs.length = 16
        · have hfb := splitF_bad HNE.out (show fieldBad last fs.length (b.drop at_) = some 3 by
            unfold fieldBad; rw [if_neg (by omega), if_pos]
            rw [HT.out, HS.out]; omega)
          have HF := Lib.hid (show (splitF 0 0 b).2 = some 3 by rw [HEQ.out, hfb])
          have hways : (decide ((n0 : Int) ≤ last) = true) ∨ (decide ((n0 : Int) ≤ last) = false ∧ decide ((200 : Int) < (sz : Int)) = true ∧ decide (200 < sz) = true) ∨
              (decide ((n0 : Int) ≤ last) = false ∧ decide ((200 : Int) < (sz : Int)) = false ∧ decide (200 < sz) = false ∧ ((fs.length : Int) == 16) = true) := by
            simp only [decide_eq_true_eq, decide_eq_false_iff_not, beq_iff_eq]; omega
          clear hbad hfb hdl hown hel
          rcases hways with a1 | ⟨a1, a2, a3⟩ | ⟨a1, a2, a3, a4⟩
          all_goals
            go_wp2_with fail
            go_ret2
            exact refsplit_bad 3 HF.out hbw2
        · have a1 : decide ((n0 : Int) ≤ last) = false := by simp; omega
          have a2 : decide ((200 : Int) < (sz : Int)) = false := by simp; omega
          have a3 : decide (200 < sz) = false := by simp; omega
          have a4 : ((fs.length : Int) == 16) = false := by rw [beq_eq_false_iff_ne]; omega
          by_cases hsz : b.length - at_ - 3 < sz
          · have hfb := splitF_bad HNE.out (show fieldBad last fs.length (b.drop at_) = some 1 by
              unfold fieldBad; rw [if_neg (by omega), HT.out, HS.out, if_neg (by omega), if_pos (by omega)])
            have HF := Lib.hid (show (splitF 0 0 b).2 = some 1 by rw [HEQ.out, hfb])
            have a5 : decide ((b.length : Int) - (at_ : Int) - 3 < (sz : Int)) = true := by simp; omega
            clear hfb hdl hown hel hbad hsz
            go_wp2_with fail
            go_ret2
            exact refsplit_bad 1 HF.out hbw2
          · have hfb := splitF_ok HNE.out (show fieldBad last fs.length (b.drop at_) = none by
              unfold fieldBad; rw [if_neg (by omega), HT.out, HS.out, if_neg (by omega), if_neg (by omega)])
            have hrest : restOf (b.drop at_) = b.drop (at_ + (3 + sz)) := by
              unfold restOf; rw [HS.out, List.drop_drop, List.drop_drop]
            have hdata : dataOf (b.drop at_) = (b.drop (at_ + 3)).take sz := by
              unfold dataOf; rw [HS.out, List.drop_drop]
            have HH := Lib.hid (show splitF 0 0 b = ((fs ++ [((n0 : Int), (b.drop (at_ + 3)).take sz)]) ++ (splitF (n0 : Int) (fs.length + 1) (b.drop (at_ + (3 + sz)))).1, (splitF (n0 : Int) (fs.length + 1) (b.drop (at_ + (3 + sz)))).2) by
              rw [HEQ.out, hfb, HT.out, hrest, hdata]; simp)
            have a5 : decide ((b.length : Int) - (at_ : Int) - 3 < (sz : Int)) = false := by simp; omega
            have hld : ((b.drop (at_ + 3)).take sz).length = sz := by rw [List.length_take, List.length_drop]; omega
            have hrd2 : Rd w2 (cutp (some ⟨bb, off, none⟩) (at_ + 3) c 1) (bvs ((b.drop (at_ + 3)).take sz)) := by
              have h := (K3.out.keep (Below.keeps hbw2)).cut (lo := at_ + 3) (s := 1) (cap := c) (by rw [bvs_len]; omega)
              rw [Nat.mul_one, ← bvs_drop] at h
              rw [bvs_take]
              exact h.take sz
            have hmid : ∀ w, (Instr.slice 27 (.slice (some ⟨bb, off, none⟩) b.length c) (some (.int .i64 ((at_ : Int) + 3))) (some (.int .i64 ((at_ : Int) + 3 + (sz : Int)))) none).run Tryd.prog w = .ok (.slice (cutp (some ⟨bb, off, none⟩) (at_ + 3) c 1) sz (c - (at_ + 3))) w := fun w => by
              have := run_slice_mid (P := Tryd.prog) Tryd.underlying27 hi' (some ⟨bb, off, none⟩) b.length c (at_ + 3) (at_ + 3 + sz) (by omega) (by omega) w
              rw [hz1', show at_ + 3 + sz - (at_ + 3) = sz by omega] at this
              rwa [show ((at_ + 3 + sz : Nat) : Int) = (at_ : Int) + 3 + (sz : Int) by omega, show ((at_ + 3 : Nat) : Int) = (at_ : Int) + 3 by omega] at this
            have HR2 := Lib.hid hrd2
            have HLD := Lib.hid hld
            have hgo : at_ + (3 + sz) ≤ b.length := by omega
            have hs200 : sz ≤ 200 := by omega
            have hf16 : fs.length < 16 := by omega
            have hown0 := World.ownsRow_lit (base := w.heap.size) (e := 5) (size := 1) w2 #[] 0 hbw2.size (by unfold maxLen; omega) rfl
            have hs2 := (below_alloc hbw2 (.cells #[] 5)).size
            have HR2' := Lib.hid (hrd2.keep (keep_alloc w2 (.cells #[] 5)))
            have HEL := Lib.hid hel
            have HOW := Lib.hid hown
            clear hfb hdl hbad hsz hrest hdata hrd2 hel hown hld
            generalize (b.drop (at_ + 3)).take sz = dd at *
            go_wp2_with (at_builtin; refine wpList_app (.tmp 59) (.tmp 67) 27 rfl rfl w.heap.size 5 i1 (.int .u8 0) 1 1 Tryd.underlying27 hi' hz0' hz1' hz2' rfl (by decide) _ _ _ rfl hown0 _ _ _ (bvs dd) rfl ?e0 HR2'.out bvs_one ?e1 ?e2 hs2 ?_)
            case e0 => rw [bvs_len, HLD.out]
            case e1 => unfold maxLen; omega
            case e2 => omega
            intro v3 w3 ho3 hg3
            have hal := below_alloc1 w2 (.cells #[] 5)
            have hbw3 := (below_alloc hbw2 (.cells #[] 5)).grown hg3 hs2 (fun j hj => (hown0.lt j hj).1)
            have hown3 := grown_owns hg3 hown0 (owns_below HOW.out hal) (by decide)
            have HEL3 := Lib.hid (fun (i : Nat) (f : Int × List UInt8) (hf : fs[i]? = some f) => show ∃ u, us[i]? = some u ∧ w3.ownsRow w.heap.size 5 1 u f.2.length (bvs f.2) from by
              obtain ⟨u, hu, ho⟩ := HEL.out i f hf
              exact ⟨u, hu, grown_new hg3 ho⟩)
            try simp only [Nat.zero_add, List.nil_append] at ho3
            obtain ⟨p3, c3, rfl, _, _, _⟩ := owns_rd ho3
            have HO3 := Lib.hid ho3
            have HOW3 := Lib.hid hown3
            clear ho3 hg3 hown0 hown3 hal
            have hown4 := owns_below HOW3.out (below_alloc1 w3 (.cells #[.int .i64 (n0 : Int), .slice p3 sz c3] 57))
            have hs3 := (below_alloc hbw3 (.cells #[.int .i64 (n0 : Int), .slice p3 sz c3] 57)).size
            go_wp2_with (at_builtin; refine wpList_app (.tmp 57) (.tmp 70) 49 rfl rfl w.heap.size 57 i0 (.agg #[.int .i64 0, .slice none 0 0]) 2 32 Tryd.underlying49 hi hz0 hz1 hz2 rfl (by decide) _ _ _ rfl hown4 _ _ _ [.int .i64 (n0 : Int), .slice p3 sz c3] rfl rfl (rd_at _ #[_, _] _ _ _ rfl) ?b1 ?b2 ?b3 hs3 ?_)
            case b1 => first | exact ⟨rfl, rfl⟩ | simp [Value.oneCell']
            case b2 => unfold maxLen; omega
            case b3 => omega
            intro v4 w4 ho4 hg4
            have hal4 := below_alloc1 w3 (.cells #[.int .i64 (n0 : Int), .slice p3 sz c3] 57)
            have hbw4 := (below_alloc hbw3 (.cells #[.int .i64 (n0 : Int), .slice p3 sz c3] 57)).grown hg4 hs3 (fun j hj => (hown4.lt j hj).1)
            have HO4 := Lib.hid (show OutF w4 w.heap.size v4 (fs ++ [((n0 : Int), dd)]) from by
              refine OutF.add (f := ((n0 : Int), dd)) hus ho4 hown4 hg4 (fun i f hf => ?_) ?_
              · obtain ⟨u, hu, ho⟩ := HEL3.out i f hf
                exact ⟨u, hu, owns_below ho hal4⟩
              · have := owns_below HO3.out hal4
                rw [show (((n0 : Int), dd) : Int × List UInt8).2.length = sz from HLD.out]
                exact this)
            clear hown4 ho4 hg4 hal4 hs3
            have e9 : (at_ : Int) + 3 + (sz : Int) = ((at_ + (3 + sz) : Nat) : Int) := by omega
            go_wp2_with fail
            go_roundw
            case measure => simp [intOf]; omega
            case rel => exact ⟨fs ++ [((n0 : Int), dd)], at_ + (3 + sz), (n0 : Int), hgo, by simp; omega, by omega, rfl, by first | rfl | (congr 1), by rw [List.length_append]; exact HH.out, HO4.out, hbw4⟩
    · obtain rfl : at_ = b.length := by omega
      have HSP := Lib.hid (show splitF 0 0 b = (fs, none) by rw [HEQ.out, List.drop_length, splitF_nil, List.append_nil])
      have HF := Lib.hid (show splitE b = 0 ∧ splitL b = fs by unfold splitE splitL; rw [HSP.out]; exact ⟨rfl, rfl⟩)
      obtain ⟨us, hus, hown, hel⟩ := id HO.out
      obtain ⟨po, co, rfl, _, _, _⟩ := owns_rd hown
      clear hus hown hel hdl
      have d1 : decide ((b.length : Int) < (b.length : Int)) = false := by simp
      go_wp2_with fail
      go_ret2
      exact ⟨_, by rw [HF.out.1]; rfl, by rw [HF.out.2]; exact HO.out.fld, hbw⟩
end Go.Proofs.YtpbgappggmcmgaaDoor
