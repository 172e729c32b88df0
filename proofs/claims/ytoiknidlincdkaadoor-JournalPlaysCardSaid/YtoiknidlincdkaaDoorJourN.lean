/-
  JourN: a journal's notes: that the power went; rows that are there now.
-/
import Derived.Test.YtoiknidlincdkaaDoorJourM
import Derived.Test.YtoiknidlincdkaaDoorJourA
import Derived.Test.YtoiknidlincdkaaDoorAppU
namespace Go.Proofs.YtoiknidlincdkaaDoor
open Go.RowKit

set_option maxHeartbeats 1000000 in
theorem note_any (w : World) (E : Nat → Addr) (j : Nat) (a v size : Value) (n : Nat) (hn : n < 14) (he : Errs w E) (hb : Blk w j 83 #[a, v, size, .bool false]) :
    Calls Tryd.prog 42 #[.pointer (some ⟨j, 0, none⟩), errAt (E n)] w fun e w' => e = .returned (errAt (E n)) ∧ w' = w.setCell ⟨j, 3, none⟩ (.bool (n == 6)) := by
  have HE := Lib.hid he
  have e6 := he.cell 6 (by omega)
  simp only [errVar, List.getD_cons_zero, List.getD_cons_succ, errAt] at e6
  have c3 := (hb.cell 3).trans rfl
  have f3 := hb.frozen 3
  clear he hb
  by_cases h6 : n = 6
  · have HI := Lib.hid (fun w => is_same (E 6) w)
    have HN := Lib.hid h6
    rw [h6]
    clear h6
    unfold errAt at *
    go_enter Tryd.func42, Tryd.ntmps42
    go_wp2_with fail
    refine (HI.out _).mono ?_
    rintro e w1 ⟨rfl, rfl⟩
    go_wp2_with fail
    go_ret
    exact ⟨rfl, rfl⟩
  · have HI := Lib.hid (is_other (E n) (E 6) w (HE.out.ne n 6 hn (by omega) h6) (HE.out.row n hn) (HE.out.row 6 (by omega)))
    have HN := Lib.hid (show (n == 6) = false from by simpa using h6)
    rw [HN.out]
    clear h6
    unfold errAt at *
    go_enter Tryd.func42, Tryd.ntmps42
    go_wp2_with fail
    refine HI.out.mono ?_
    rintro e w1 ⟨rfl, rfl⟩
    go_wp2_with fail
    go_ret
    exact ⟨rfl, rfl⟩
theorem rowInfo : (Tryd.prog.info? 22).map (fun i => (i.zero, i.size, i.bytes)) = some (some (.slice none 0 0), 1, 24) := by kernel_rfl
/-- a call that gives bytes of its own -/
def POwnB (B : Nat) (l : List UInt8) : Part := ⟨fun v => ∃ p cap, v = .slice p l.length cap, fun w v => w.ownsRow B 5 1 v l.length (bvs l)⟩
/-- a new row of one cell, that is bytes of the call's own -/
def PRow1 (B : Nat) (l : List UInt8) : Part := ⟨fun v => ∃ g, v = .slice (some ⟨g, 0, none⟩) 1 1, fun w v => ∀ g, v = .slice (some ⟨g, 0, none⟩) 1 1 → ∃ p c, Blk w g 22 #[.slice p l.length c] ∧ w.ownsRow B 5 1 (.slice p l.length c) l.length (bvs l)⟩
/-- rows that stay what they are, whatever turns in the blocks S -/
def StayL (S : List Nat) (w : World) (v : Value) (ls : List (List UInt8)) : Prop :=
  ∃ p cap vs, v = .slice p ls.length cap ∧ ls.length ≤ cap ∧ cap ≤ maxLen ∧ vs.length = ls.length ∧ ∀ w', But S w w' → Rd w' p vs ∧ ∀ (i : Nat) (l : List UInt8), ls[i]? = some l → ∃ u, vs[i]? = some u ∧ Byt w' u l
theorem StayL.bytl {S : List Nat} {w w' : World} {v : Value} {ls : List (List UInt8)} (h : StayL S w v ls) (k : But S w w') : BytL w' v ls := by
  obtain ⟨p, cap, vs, h1, h2, h3, h4, h5⟩ := h
  exact ⟨p, cap, vs, h1, h2, h3, (h5 w' k).1, h4, (h5 w' k).2⟩
theorem StayL.but {S : List Nat} {w w' : World} {v : Value} {ls : List (List UInt8)} (h : StayL S w v ls) (k : But S w w') : StayL S w' v ls := by
  obtain ⟨p, cap, vs, h1, h2, h3, h4, h5⟩ := h
  exact ⟨p, cap, vs, h1, h2, h3, h4, fun w'' k' => h5 w'' (k.trans k')⟩
theorem StayL.of_keep {S : List Nat} {W w : World} {v : Value} {ls : List (List UInt8)} (h : BytL W v ls) (k : ∀ w', But S w w' → ∀ a x, W.cell? a = some x → w'.cell? a = some x) : StayL S w v ls := by
  obtain ⟨p, cap, vs, h1, h2, h3, h4, h5, h6⟩ := h
  exact ⟨p, cap, vs, h1, h2, h3, h5, fun w' k' => ⟨h4.keep (k w' k'), fun i l hl => by
    obtain ⟨u, hu, hy⟩ := h6 i l hl
    exact ⟨u, hu, hy.keep (k w' k')⟩⟩⟩
/-- fewer blocks that turn -/
theorem StayL.less {S T : List Nat} {w : World} {v : Value} {ls : List (List UInt8)} (h : StayL T w v ls) (hs : ∀ g ∈ S, g ∈ T) : StayL S w v ls := by
  obtain ⟨p, cap, vs, h1, h2, h3, h4, h5⟩ := h
  exact ⟨p, cap, vs, h1, h2, h3, h4, fun w' k => h5 w' (k.wider hs)⟩
/-- other blocks, that were not there -/
theorem StayL.next {S T : List Nat} {w : World} {v : Value} {ls : List (List UInt8)} (h : StayL S w v ls) (hs : ∀ g ∈ T, g ∈ S ∨ w.heap.size ≤ g) : StayL T w v ls := by
  obtain ⟨p, cap, vs, h1, h2, h3, h4, h5⟩ := h
  refine ⟨p, cap, vs, h1, h2, h3, h4, fun w' k => h5 w' ⟨k.os, k.tape, k.output, k.size, fun g hg hn => k.block g hg ?_⟩⟩
  rw [Bool.eq_false_iff] at hn ⊢
  intro hc
  rcases hs g (List.contains_iff_mem.1 hc) with h | h
  · exact hn (List.contains_iff_mem.2 h)
  · omega
/-- the rows, with the cells of their row -/
structure RowsU (w : World) (X : List Nat) (v : Value) (ls : List (List UInt8)) (us : List Value) : Prop where
  len : us.length = ls.length
  own : w.ownsRow 0 22 1 v ls.length us
  el : ∀ (i : Nat) (l : List UInt8), ls[i]? = some l → ∃ u, us[i]? = some u ∧ w.ownsRow 0 5 1 u l.length (bvs l) ∧ ∀ g, u.ownBlock = some g → ¬ g ∈ X
theorem RowsU.below {w w' : World} {X : List Nat} {v : Value} {ls : List (List UInt8)} {us : List Value} (h : RowsU w X v ls us) (k : Below w.heap.size w w') : RowsU w' X v ls us :=
  ⟨h.len, owns_below h.own k, fun i l hl => by
    obtain ⟨u, hu, ho, hn⟩ := h.el i l hl
    exact ⟨u, hu, owns_below ho k, hn⟩⟩
/-- the rows that an append has made -/
def PRowsO (wr : World) (X : List Nat) (v : Value) (n : Nat) (ls : List (List UInt8)) : Part := ⟨fun v' => ∃ p c, v' = .slice p n c, fun w v' => RowsO w X v' ls ∧ Nx wr v.ownBlock v'.ownBlock⟩
/-- rows ls stand behind v's, in v' -/
def Added (w : World) (j : Nat) (a v : Value) (size : Int) (dead : Bool) (X Y : List Nat) (rs ls : List (List UInt8)) (n : Int) (e : Ending) (w' : World) : Prop :=
  e = .returned (.tuple #[]) ∧ (∃ v', Nx w v.ownBlock v'.ownBlock ∧ Blk w' j 83 #[a, v', .int .i64 (size + n), .bool dead] ∧ RowsO w' (X ++ Y) v' (rs ++ ls)) ∧ But (j :: v.ownBlock.toList) w w'
set_option maxRecDepth 20000 in
set_option maxHeartbeats 4000000 in
theorem add_any (w : World) (j : Nat) (a v : Value) (size n : Int) (dead : Bool) (X : List Nat) (rs ls : List (List UInt8)) (vl : Value) (hX : ∀ g ∈ X, g < w.heap.size) (hr1 : rs.length ≤ 1000000) (hl1 : ls.length ≤ 1000) (hl2 : ∀ l ∈ ls, l.length ≤ 200)
    (hs0 : 0 ≤ size ∧ size ≤ 1000000000) (hn0 : 0 ≤ n ∧ n ≤ 1000000000)
    (hb : Blk w j 83 #[a, v, .int .i64 size, .bool dead]) (hr : RowsO w X v rs) (hv : StayL (j :: v.ownBlock.toList) w vl ls) :
    Calls Tryd.prog 43 #[.pointer (some ⟨j, 0, none⟩), vl, .int .i64 n] w (Added w j a v size dead X [] rs ls n) := by
  have HX := Lib.hid hX
  have HL2 := Lib.hid hl2
  obtain ⟨pl, cl, us0, rfl, k1, k2, k3, hv'⟩ := hv
  have HV := Lib.hid hv'
  obtain ⟨i0, hi, hz0, hz1, hz2⟩ := info_parts rowInfo
  unfold maxLen at k2
  clear hX k3 hv' hl2
  have HB := Lib.hid hb
  have HR := Lib.hid hr
  clear hb hr
  go_enter Tryd.func43, Tryd.ntmps43
  go_wp2_with fail
  go_loopw [10] (fun i wr => ∃ (k : Nat) (v' : Value), k ≤ ls.length ∧ i = .int .i64 k ∧ Nx w v.ownBlock v'.ownBlock ∧ Blk wr j 83 #[a, v', .int .i64 size, .bool dead] ∧ RowsO wr X v' (rs ++ ls.take k) ∧ But (j :: v.ownBlock.toList) w wr) (fun i _ => ls.length - (intOf i).toNat)
  case atStart =>
    exact ⟨0, v, Nat.zero_le _, rfl, .inl rfl, HB.out, by rw [List.take_zero, List.append_nil]; exact HR.out, but_refl _ _⟩
  case round =>
    obtain ⟨k, v', hk, rfl, hnx, hbr, hrr, hkr⟩ := hrel
    have hkl : (rs ++ ls.take k).length ≤ 1001000 := by rw [List.length_append, List.length_take]; omega
    have HTK := Lib.hid (fun (hlt : k < ls.length) => show rs ++ ls.take (k + 1) = rs ++ ls.take k ++ [ls[k]] by rw [List.take_succ_eq_append_getElem hlt, List.append_assoc])
    have HTL := Lib.hid (fun (hge : k = ls.length) => show rs ++ ls.take k = rs ++ ls by rw [hge, List.take_of_length_le (Nat.le_refl _)])
    generalize rs ++ ls.take k = L at *
    obtain ⟨us, hus, hown0, hel⟩ := id hrr
    obtain ⟨pv, cv, rfl, _, _, _⟩ := owns_rd hown0
    have HOWN := Lib.hid hown0
    have HEL := Lib.hid hel
    have HUS := Lib.hid hus
    clear hus hown0 hel
    have HNX := Lib.hid hnx
    have HBR := Lib.hid hbr
    have HRR := Lib.hid hrr
    have HKR := Lib.hid hkr
    clear hnx hbr hrr hkr
    by_cases hlt : k < ls.length
    · obtain ⟨m3, m5⟩ := HV.out wr HKR.out
      obtain ⟨u0, hu0, pu, cu, rfl, hq1, hq2, hq3⟩ := m5 k ls[k] (by simp [hlt])
      obtain ⟨b, off, hpl, hcs⟩ := m3.has (by intro e; subst e; simp at hu0)
      subst hpl
      have hcell := hcs k _ hu0
      have HBY := Lib.hid (fun w' (h : But (j :: v.ownBlock.toList) w w') => show Byt w' (.slice pu ls[k].length cu) ls[k] from by
        obtain ⟨u1, hu1, hy⟩ := (HV.out w' h).2 k ls[k] (by simp [hlt])
        rw [hu0] at hu1
        cases hu1
        exact hy)
      have hlen := HL2.out ls[k] (List.getElem_mem hlt)
      have HTK := Lib.hid (HTK.out hlt)
      clear m3 m5 hq1 hq2 hq3 hu0 hcs
      generalize ls[k] = l at *
      go_wp2_with fail
      refine wp_phiU_tail (List.take 11 _) (List.drop 11 _) (List.take_append_drop 11 _).symm (rAdd 8 22 (.slice pv L.length cv) L.length)
        (fun w' => Blk w' j 83 #[a, .slice pv L.length cv, .int .i64 size, .bool dead] ∧ But (j :: v.ownBlock.toList) w w' ∧ wr.heap.size ≤ w'.heap.size)
        [(6, POwnB wr.heap.size l), (7, PRow1 wr.heap.size l), (8, PRowsO wr X (.slice pv L.length cv) (L.length + 1) (L ++ [l]))] [(7, [6]), (8, [6, 7])] [(8, fun w' => RowsU w' X (.slice pv L.length cv) L us)] [(7, 8)] (by kernel_rfl) (by kernel_rfl) ?_ ?_ ?_ ?_ ⟨HBR.out.below (Below.refl _ _).drew HBR.out.lt, HKR.out.trans (But.of_below (Below.refl _ _).drew), Nat.le_refl _⟩ ?_
      · rintro p hp w1 w2 ⟨g1, g2, g3⟩ hR
        refine ⟨rAdd_blk hR g1 (by decide), rAdd_but hR g2 (fun g hg => ?_), ?_⟩
        · rcases HNX.out with h | h
          · exact .inl (List.mem_cons_of_mem _ (Option.mem_toList.2 (h.symm.trans hg)))
          · exact .inr (h g hg)
        · exact Nat.le_trans g3 (rAdd_size hR)
      · intro p hp p' hp' hne hks hns w1 w2 v hI hR hf
        simp only [List.mem_cons, List.not_mem_nil, or_false] at hp hp'
        rcases hp with rfl | rfl | rfl
        · rcases hp' with rfl | rfl | rfl
          · exact absurd rfl hne
          · have hR := rAdd_o (show (7 : Nat) ≠ 8 by decide) ▸ hR; exact owns_below hf hR
          · obtain ⟨⟨xs, ho⟩, hg⟩ := (rAdd_at (ja := 8)) ▸ hR
            exact grown_owns hg ho hf (by decide)
        · rcases hp' with rfl | rfl | rfl
          · exact absurd (show 6 ∈ needs [(7, [6]), (8, [6, 7])] 7 by decide) hns
          · exact absurd rfl hne
          · exact absurd rfl hks
        · rcases hp' with rfl | rfl | rfl
          · exact absurd (show 6 ∈ needs [(7, [6]), (8, [6, 7])] 8 by decide) hns
          · exact absurd (show 7 ∈ needs [(7, [6]), (8, [6, 7])] 8 by decide) hns
          · exact absurd rfl hne
      · intro p hp u hu hne w1 w2 hI hR hf
        simp only [List.mem_cons, List.not_mem_nil, or_false] at hp hu
        subst hu
        rcases hp with rfl | rfl | rfl
        · have hR := rAdd_o (show (6 : Nat) ≠ 8 by decide) ▸ hR; exact hf.below hR
        · have hR := rAdd_o (show (7 : Nat) ≠ 8 by decide) ▸ hR; exact hf.below hR
        · exact absurd rfl hne
      · intro u hu
        simp only [List.mem_cons, List.not_mem_nil, or_false] at hu
        subst hu
        exact RowsU.below ⟨HUS.out, HOWN.out, HEL.out⟩ (Below.refl _ _).drew
      simp only [List.take_succ_cons, List.take_zero, List.drop_succ_cons, List.drop_zero]
      repeat (first | (refine phiU_skipK rfl (fun K hK => ?_); simp only [Act.put, List.setIfInBounds_toArray, List.set_cons_succ, List.set_cons_zero]; (try simp only [List.cons_append]); (try simp only [List.nil_append]); apply hK; clear hK K) | (refine phiU_pureK rfl rfl (fun K hK => ?_); apply Exists.intro; constructor; (focus (rintro w' ⟨g1, g2, g3⟩; have q1 := (g1.cell 1).trans rfl; clear g1 g2 g3; first | (go_simp; done) | (go_simp; (try go_bits); (try go_simp); rfl) | go_simp)); simp only [Act.put, List.setIfInBounds_toArray, List.set_cons_succ, List.set_cons_zero]; (try simp only [List.cons_append]); (try simp only [List.nil_append]); apply hK; clear hK K))
      refine phiU_partK (POwnB wr.heap.size l) rfl rfl ⟨_, none, 0, rfl⟩ ?_ (fun K hK v hv => ?_)
      · rintro w' ⟨g1, g2, g3⟩ hf hu
        have hby := HBY.out w' g2
        unfold gives
        clear hf hu
        go_simp
        refine (clone_any _ l w' (by omega) hby).mono ?_
        rintro e w'' ⟨v, rfl, ho, hb⟩
        have ho' := ho
        obtain ⟨q, c, rfl, _⟩ := owns_rd ho'
        exact ⟨_, rfl, ⟨q, c, rfl⟩, owns_lower ho g3, by rw [rAdd_o (by decide)]; exact hb⟩
      obtain ⟨p_6, c_6, rfl⟩ := hv
      simp only [Act.put, List.setIfInBounds_toArray, List.set_cons_succ, List.set_cons_zero]; (try simp only [List.cons_append]); (try simp only [List.nil_append])
      apply hK
      clear hK K
      repeat (first | (refine phiU_skipK rfl (fun K hK => ?_); simp only [Act.put, List.setIfInBounds_toArray, List.set_cons_succ, List.set_cons_zero]; (try simp only [List.cons_append]); (try simp only [List.nil_append]); apply hK; clear hK K) | (refine phiU_pureK rfl rfl (fun K hK => ?_); apply Exists.intro; constructor; (focus (rintro w' ⟨g1, g2, g3⟩; have q1 := (g1.cell 1).trans rfl; clear g1 g2 g3; first | (go_simp; done) | (go_simp; (try go_bits); (try go_simp); rfl) | go_simp)); simp only [Act.put, List.setIfInBounds_toArray, List.set_cons_succ, List.set_cons_zero]; (try simp only [List.cons_append]); (try simp only [List.nil_append]); apply hK; clear hK K))
      refine phiU_partK (PRow1 wr.heap.size l) rfl rfl ⟨_, 0, rfl⟩ ?_ (fun K hK v hv => ?_)
      · rintro w' ⟨g1, g2, g3⟩ hf hu
        have ho := hf (6, fun w => (POwnB wr.heap.size l).fact w (.slice p_6 l.length c_6)) (by simp) (List.contains_iff_mem.1 rfl) rfl
        have ho : w'.ownsRow wr.heap.size 5 1 (.slice p_6 l.length c_6) l.length (bvs l) := ho
        have HO := Lib.hid ho
        unfold gives
        clear hf hu ho
        go_simp
        refine ⟨⟨_, rfl⟩, fun g hg => ?_, by rw [rAdd_o (by decide)]; exact below_alloc1 _ _⟩
        obtain rfl : w'.heap.size = g := by simpa using hg
        exact ⟨p_6, c_6, Blk.new _ _ _, owns_below HO.out (below_alloc1 _ _)⟩
      obtain ⟨g7, rfl⟩ := hv
      simp only [Act.put, List.setIfInBounds_toArray, List.set_cons_succ, List.set_cons_zero]; (try simp only [List.cons_append]); (try simp only [List.nil_append])
      apply hK
      clear hK K
      repeat (first | (refine phiU_skipK rfl (fun K hK => ?_); simp only [Act.put, List.setIfInBounds_toArray, List.set_cons_succ, List.set_cons_zero]; (try simp only [List.cons_append]); (try simp only [List.nil_append]); apply hK; clear hK K) | (refine phiU_pureK rfl rfl (fun K hK => ?_); apply Exists.intro; constructor; (focus (rintro w' ⟨g1, g2, g3⟩; have q1 := (g1.cell 1).trans rfl; clear g1 g2 g3; first | (go_simp; done) | (go_simp; (try go_bits); (try go_simp); rfl) | go_simp)); simp only [Act.put, List.setIfInBounds_toArray, List.set_cons_succ, List.set_cons_zero]; (try simp only [List.cons_append]); (try simp only [List.nil_append]); apply hK; clear hK K))
      refine phiU_partK (PRowsO wr X (.slice pv L.length cv) (L.length + 1) (L ++ [l])) rfl rfl ⟨_, none, 0, rfl⟩ ?_ (fun K hK v hv => ?_)
      · rintro w' ⟨g1, g2, g3⟩ hf hu
        have h7 := hf (7, fun w => (PRow1 wr.heap.size l).fact w (.slice (some ⟨g7, 0, none⟩) 1 1)) (by simp) (List.contains_iff_mem.1 rfl) rfl
        obtain ⟨p7, c7, hb7, ho7⟩ := h7 g7 rfl
        have hu8 : RowsU w' X (.slice pv L.length cv) L us := hu (8, fun w' => RowsU w' X (.slice pv L.length cv) L us) (by simp) rfl
        clear hf hu
        refine gives_appAt (.tmp 18) (.tmp 21) 39 rfl 0 22 i0 (.slice none 0 0) 1 24 Tryd.underlying39 hi hz0 hz1 hz2 rfl (by decide) _ _ _ rfl hu8.own _ _ _ [.slice p7 l.length c7] rfl rfl (.inr ⟨g7, 0, rfl, fun i u hiu => ?_⟩) (by simp [Value.oneCell']) (by unfold maxLen; omega) (by omega) (Nat.zero_le _) ?_
        · cases i with
          | zero =>
            obtain rfl : Value.slice p7 l.length c7 = u := by simpa using hiu
            exact (hb7.cell 0).trans rfl
          | succ i => simp at hiu
        intro v2 w2 ho2 hg2 hat2
        obtain ⟨p2, c2, rfl, _, _, _⟩ := owns_rd ho2
        refine ⟨⟨p2, c2, rfl⟩, ⟨?_, ?_⟩, ?_⟩
        · refine RowsO.add hu8.len ho2 hu8.own hg2 hu8.el (owns_lower ho7 (Nat.zero_le _)) (fun g hg hgx => ?_)
          have h1 := (ho7.lt g hg).1
          have h2 := HX.out g hgx
          have h3 := HKR.out.size
          omega
        · rcases hat2 with h | h
          · exact .inl h
          · exact .inr fun g hg => by
              rw [h] at hg
              cases hg
              exact g3
        · rw [rAdd_at]
          exact ⟨⟨us, hu8.own⟩, hg2⟩
      obtain ⟨p8, c8, rfl⟩ := hv
      simp only [Act.put, List.setIfInBounds_toArray, List.set_cons_succ, List.set_cons_zero]; (try simp only [List.cons_append]); (try simp only [List.nil_append])
      apply hK
      clear hK K
      repeat (first | (refine phiU_skipK rfl (fun K hK => ?_); simp only [Act.put, List.setIfInBounds_toArray, List.set_cons_succ, List.set_cons_zero]; (try simp only [List.cons_append]); (try simp only [List.nil_append]); apply hK; clear hK K) | (refine phiU_pureK rfl rfl (fun K hK => ?_); apply Exists.intro; constructor; (focus (rintro w' ⟨g1, g2, g3⟩; have q1 := (g1.cell 1).trans rfl; clear g1 g2 g3; first | (go_simp; done) | (go_simp; (try go_bits); (try go_simp); rfl) | go_simp)); simp only [Act.put, List.setIfInBounds_toArray, List.set_cons_succ, List.set_cons_zero]; (try simp only [List.cons_append]); (try simp only [List.nil_append]); apply hK; clear hK K))
      refine phiU_done ?_
      rintro w9 ⟨g1, g2, g3⟩ hf
      obtain ⟨hr9, hn9⟩ : RowsO w9 X (.slice p8 (L.length + 1) c8) (L ++ [l]) ∧ Nx wr (Value.slice pv L.length cv).ownBlock (Value.slice p8 (L.length + 1) c8).ownBlock := hf (8, fun w => (PRowsO wr X (.slice pv L.length cv) (L.length + 1) (L ++ [l])).fact w (.slice p8 (L.length + 1) c8)) (by simp) rfl
      clear hf
      have c1 := (g1.cell 1).trans rfl
      have f1 := g1.frozen 1
      have HR9 := Lib.hid hr9
      have HN9 := Lib.hid hn9
      have G1 := Lib.hid g1
      have G2 := Lib.hid g2
      clear hr9 hn9 g1 g2 g3
      go_wp2_with fail
      go_roundw
      case rel =>
        refine ⟨k + 1, .slice p8 (L.length + 1) c8, by omega, by go_num, HNX.out.trans HKR.out.size HN9.out, G1.out.set_ 1 _, ?_, G2.out.set_ j 1 _ (by simp)⟩
        rw [HTK.out]
        refine HR9.out.but ((but_refl [j] w9).set_ j 1 _ (by simp)) (fun g hg => ?_) (fun g hg => .inr fun cs hcs => ?_)
        · obtain ⟨us9, _, ho9, _⟩ := HR9.out
          rcases ho9.2 with ⟨h0, _⟩ | ⟨g9, cap, cur, h0, _, hh, _⟩
          · rw [h0] at hg; cases hg
          · rw [h0] at hg
            cases hg
            have hh' : Blk w9 g9 22 cur := hh
            have := Blk.ne_ hh' G1.out (by decide)
            simpa using this
        · obtain rfl : g = j := by simpa using hg
          exact Blk.ne_ hcs G1.out (by decide) rfl
      case measure => simp [intOf]; omega
    · obtain rfl : k = ls.length := by omega
      have HT := Lib.hid (HTL.out rfl)
      have c2 := (HBR.out.cell 2).trans rfl
      have f2 := HBR.out.frozen 2
      clear HTL HTK
      go_wp2_with fail
      go_end0
      refine ⟨rfl, ⟨.slice pv L.length cv, HNX.out, HBR.out.set_ 2 _, ?_⟩, HKR.out.set_ j 2 _ (by simp)⟩
      rw [List.append_nil, ← HT.out]
      refine HRR.out.but ((but_refl [j] wr).set_ j 2 _ (by simp)) (fun g hg => ?_) (fun g hg => .inr fun cs hcs => ?_)
      · rcases HOWN.out.2 with ⟨h0, _⟩ | ⟨g9, cap, cur, h0, _, hh, _⟩
        · rw [h0] at hg; cases hg
        · rw [h0] at hg
          cases hg
          have hh' : Blk wr g9 22 cur := hh
          have := Blk.ne_ hh' HBR.out (by decide)
          simpa using this
      · obtain rfl : g = j := by simpa using hg
        exact Blk.ne_ hcs HBR.out (by decide) rfl
end Go.Proofs.YtoiknidlincdkaaDoor
