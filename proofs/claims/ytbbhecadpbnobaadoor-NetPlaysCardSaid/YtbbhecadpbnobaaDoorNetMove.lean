/-
  NetMove: the walk of a net's Move.
-/
import Derived.Test.YtbbhecadpbnobaaDoorNetCopy
namespace Go.Proofs.YtbbhecadpbnobaaDoor
open Go.RowKit
attribute [local irreducible] wpPhiU

/-- what an operation at the place j may turn: the call (at 8) the block g; any other nothing -/
def rIns (g j : Nat) (w w' : World) : Prop := if j = 8 then But [g] w w' else Below w.heap.size w w'
theorem rIns_8 {g : Nat} {w w' : World} : rIns g 8 w w' = But [g] w w' := by unfold rIns; rw [if_pos rfl]
theorem rIns_o {g j : Nat} {w w' : World} (h : j ≠ 8) : rIns g j w w' = Below w.heap.size w w' := by unfold rIns; rw [if_neg h]
theorem rIns_but {g j : Nat} {w w' : World} (h : rIns g j w w') : But [g] w w' := by
  unfold rIns at h
  split at h
  · exact h
  · exact But.of_below h
def NSt.moved (st : NSt) (i t : Nat) (x : Lt) : NSt := ⟨st.nodes, (st.ls.eraseIdx i).take t ++ x :: (st.ls.eraseIdx i).drop t, st.cuts, st.lost⟩
/-- the row in which one letter stands ahead of the t-th -/
def PMov (wx : World) (g cap n : Nat) (us : List Value) : Part := ⟨fun v => v = .slice (some ⟨g, 0, none⟩) n cap, fun w _ => ∃ cur, Blk w g 37 cur ∧ cur.size = cap * 3 ∧ cur.toList.take (n * 3) = us⟩
def PBlk1 (B : Nat) (vs : Array Value) : Part := ⟨fun v => ∃ h, v = .slice (some ⟨h, 0, none⟩) 1 1, fun w v => ∀ h, v = .slice (some ⟨h, 0, none⟩) 1 1 → B ≤ h ∧ Blk w h 37 vs⟩
set_option maxRecDepth 20000 in
set_option maxHeartbeats 800000 in
theorem nmove_at (w : World) (n b : Nat) (p : Option Nat) (c : Nat) (st : NSt) (h : Nn w n b p c st) (i t : Nat) (x : Lt) (hx : st.ls[i]? = some x) (htl : t < st.ls.length) (hle : st.ls.length ≤ 1000) :
    Calls Tryd.prog 13 #[.pointer (some ⟨n, 0, none⟩), .int .i64 i, .int .i64 t] w (fun e w' => e = .returned .nilIface ∧ Nn w' n b p c (st.moved i t x) ∧ But (nS n b p) w w') := by
  have hi := (List.getElem?_eq_some_iff.1 hx).1
  obtain ⟨g, cap, cur, xs, rfl, hm, hb, hg, hc1, hc2, hc3, hc4, hel⟩ := h.row (by rintro e; rw [e] at hi; simp at hi)
  have hl : xs.length = st.ls.length := by rw [← hm, List.length_map]
  have hix : i < xs.length := by omega
  obtain ⟨y0, y1, y2⟩ := cel_get xs i hix
  have hx1 : xs[i].1 = x := by
    rw [← hm, List.getElem?_map, List.getElem?_eq_getElem hix] at hx
    simpa using hx
  have hrd : ∀ j u, j < xs.length * 3 → (cel xs)[j]? = some u → cur[j]? = some u := fun j u hj hu => by
    rw [← hc4, List.getElem?_take, if_pos hj, Array.getElem?_toList] at hu
    exact hu
  have z0 := hrd _ _ (by omega) y0
  have z1 := hrd _ _ (by omega) y1
  have z2 := hrd _ _ (by omega) y2
  have hux := hel xs[i] (List.getElem_mem hix)
  rw [hx1] at z0 z1 hux
  obtain ⟨u, hu⟩ : ∃ u, xs[i].2 = u := ⟨_, rfl⟩
  rw [hu] at z2 hux
  obtain ⟨qu, ku, hqu, _⟩ := owns_rd hux
  have H1 := Lib.hid (there_any _ n b (some g) c st h i)
  have H2 := Lib.hid (there_any _ n b (some g) c st h t)
  have d1 : (decide ((0 : Int) ≤ (i : Int)) && decide ((i : Int) < (st.ls.length : Int))) = true := by simp [hi]
  have d2 : (decide ((0 : Int) ≤ (t : Int)) && decide ((t : Int) < (st.ls.length : Int))) = true := by simp [htl]
  rw [d1] at H1
  rw [d2] at H2
  have a0 := (hg.cell (i * 3)).trans z0
  have a1 := (hg.cell (i * 3 + 1)).trans z1
  have a2 := (hg.cell (i * 3 + 2)).trans z2
  rw [hqu] at a2
  have k1 := (hb.cell 1).trans rfl
  have hz := below_alloc1 w (.cells #[.int .i64 x.1, .int .i64 x.2.1, .slice qu x.2.2.length ku] 37)
  have hbz := Blk.new w 37 #[.int .i64 x.1, .int .i64 x.2.1, .slice qu x.2.2.length ku]
  have k1z := ((hb.below hz hb.lt).cell 1).trans rfl
  have HX := Lib.hid hux
  have HIX := Lib.hid (show i < xs.length from hix)
  have HTL := Lib.hid (show t < xs.length from by omega)
  have HM := Lib.hid hm
  have HXS := Lib.hid hel
  have HG := Lib.hid (And.intro hc4 hc3)
  have HBN := Lib.hid hb
  have HBG := Lib.hid hg
  have HN := Lib.hid h
  have HBZ := Lib.hid hbz
  have HZ := Lib.hid hz
  have HHQ := Lib.hid hqu
  have HHL := Lib.hid hl
  clear h hm hb hg hc3 hc4 hel y0 y1 y2 hrd z0 z1 z2 hqu d1 d2 hl hi hx hx1 hux hu hix htl hz hbz
  go_enter Tryd.func13, Tryd.ntmps13
  go_wp2_with fail
  refine H1.out.mono ?_
  rintro e w1 ⟨rfl, hw1⟩
  rw [hw1]
  clear hw1 w1
  go_wp2_with fail
  refine H2.out.mono ?_
  rintro e w1 ⟨rfl, hw1⟩
  rw [hw1]
  clear hw1 w1
  go_wp2_with fail
  generalize w.alloc (.cells #[.int .i64 x.1, .int .i64 x.2.1, .slice qu x.2.2.length ku] 37) = wz at *
  obtain ⟨k, hk⟩ : ∃ k, k = i + 1 := ⟨_, rfl⟩
  have hw : wrap64 ((i : Int) + 1) = (k : Int) := by
    have := HIX.out
    have := HHL.out
    unfold wrap64
    omega
  rw [hw]
  refine (del_any wz g xs.length cap i k hk cur (HBG.out.below HZ.out HBG.out.lt) hc1 hc2 HG.out.2 HIX.out (by rw [HG.out.1]; exact cel_one xs HXS.out)).mono ?_
  rintro e w5 ⟨rfl, ⟨cur5, hg5, hs5, hc5⟩, k5⟩
  have hlt := HBG.out.lt
  have HK5 := Lib.hid ((But.of_below HZ.out : But [g] w wz).trans k5)
  have hb5 := k5.blk (HBN.out.below HZ.out HBN.out.lt) (by
    have := Blk.ne_ HBN.out HBG.out (by decide)
    simpa using this)
  have hz5 := k5.blk HBZ.out (by simp; omega)
  have q1 := (hb5.cell 1).trans rfl
  have r1 := hb5.frozen 1
  have hlen : (xs.eraseIdx i).length = xs.length - 1 := by rw [List.length_eraseIdx, if_pos HIX.out]
  have hel5 : ∀ y ∈ xs, w5.ownsRow 0 5 1 y.2 y.1.2.2.length (bvs y.1.2.2) := fun y hy => own_but (owns_below (HXS.out y hy) HZ.out) k5 (HBG.out.below HZ.out HBG.out.lt) (by decide)
  have hux5 := own_but (owns_below HX.out HZ.out) k5 (HBG.out.below HZ.out HBG.out.lt) (by decide)
  have hlu : LetU w5 (.slice (some ⟨g, 0, none⟩) (xs.length - 1) cap) (xs.eraseIdx i) := by
    refine ⟨⟨by rw [cel_len], .inr ⟨g, cap, cur5, by rw [hlen], Nat.zero_le _, hg5, by omega, hc2, hs5, ?_⟩⟩, fun y hy => hel5 y (List.mem_of_mem_eraseIdx hy)⟩
    rw [hlen, hc5, HG.out.1, cel_cut xs i HIX.out]
  have hst := HN.out.stored (by simpa using HK5.out) hlu (.inl rfl) (st.ls.eraseIdx i) (by rw [← HM.out]; simp only [List.eraseIdx_eq_take_drop_succ, List.map_append, List.map_take, List.map_drop])
  have HST := Lib.hid hst
  have k6 : But [n] w5 (w5.setCell ⟨n, 1, none⟩ (.slice (some ⟨g, 0, none⟩) (xs.length - 1) cap)) := (but_refl _ _).set_ n 1 _ (by simp)
  have hnw : n ≠ w.heap.size ∧ n ≠ g := ⟨by have := HBN.out.lt; omega, Blk.ne_ HBN.out HBG.out (by decide)⟩
  have HB6 := Lib.hid (hb5.set_ 1 (.slice (some ⟨g, 0, none⟩) (xs.length - 1) cap))
  have HZ6 := Lib.hid (k6.blk hz5 (by have := hnw.1; simp; omega))
  have HG6 := Lib.hid (k6.blk hg5 (by have := hnw.2; simp; omega))
  have HU6 := Lib.hid (own_but hux5 k6 hb5 (by decide))
  have HE6 := Lib.hid (fun y hy => own_but (hel5 y hy) k6 hb5 (by decide))
  have HC5 := Lib.hid (And.intro hs5 hc5)
  have HLE := Lib.hid hlen
  have HLT := Lib.hid (show g < w.heap.size ∧ w.heap.size < (w5.setCell ⟨n, 1, none⟩ (.slice (some ⟨g, 0, none⟩) (xs.length - 1) cap)).heap.size from ⟨hlt, HZ6.out.lt⟩)
  have HNW := Lib.hid hnw
  have HHK := Lib.hid (And.intro hk hw)
  clear hlen hel5 hux5 hlu hst k6 hnw hg5 hs5 hc5 hb5 hz5 k5 hw hk hlt k1z
  go_wp2_with fail
  clear q1 r1
  generalize w5.setCell ⟨n, 1, none⟩ (.slice (some ⟨g, 0, none⟩) (xs.length - 1) cap) = w6 at *
  refine wp_phiU_tail (List.take 11 _) (List.drop 11 _) (List.take_append_drop 11 _).symm (rIns g)
    (fun w' => Blk w' n 70 #[.int .i64 st.nodes, .slice (some ⟨g, 0, none⟩) (xs.length - 1) cap, .map (some b), .int .i64 st.lost] ∧ Blk w' w.heap.size 37 #[.int .i64 x.1, .int .i64 x.2.1, .slice qu x.2.2.length ku] ∧ But [g] w6 w' ∧ w6.heap.size ≤ w'.heap.size)
    [(7, PBlk1 w6.heap.size #[.int .i64 x.1, .int .i64 x.2.1, .slice qu x.2.2.length ku]), (8, PMov w6 g cap (xs.length - 1 + 1) (putAt (cel (xs.eraseIdx i)) [.int .i64 x.1, .int .i64 x.2.1, .slice qu x.2.2.length ku] t))] [(8, [7])] [(8, fun w' => Blk w' g 37 cur5)] [] (by kernel_rfl) (by kernel_rfl) ?_ ?_ ?_ ?_
    ⟨HB6.out.below (Below.refl _ _).drew HB6.out.lt, HZ6.out.below (Below.refl _ _).drew HZ6.out.lt, But.of_below (Below.refl _ _).drew, Nat.le_refl _⟩ ?_
  · rintro p1 hp1 w1 w2 ⟨g1, g2, g3, g4⟩ hR
    have hR := rIns_but hR
    exact ⟨hR.blk g1 (by have := HNW.out.2; simpa using this), hR.blk g2 (by have := HLT.out.1; simp; omega), g3.trans hR, Nat.le_trans g4 hR.size⟩
  · intro p1 hp p' hp' hne hks hns w1 w2 v hI hR hf
    simp only [List.mem_cons, List.not_mem_nil, or_false] at hp hp'
    rcases hp with rfl | rfl
    · rcases hp' with rfl | rfl
      · exact absurd rfl hne
      · have hR := rIns_but hR
        intro h hh
        obtain ⟨h1, h2⟩ := hf h hh
        exact ⟨h1, hR.blk h2 (by have := HLT.out; simp; omega)⟩
    · rcases hp' with rfl | rfl
      · exact absurd (show 7 ∈ needs [(8, [7])] 8 by decide) hns
      · exact absurd rfl hne
  · intro p1 hp u hu hne w1 w2 hI hR hf
    simp only [List.mem_cons, List.not_mem_nil, or_false] at hp hu
    subst hu
    rcases hp with rfl | rfl
    · have hR := rIns_o (show (7 : Nat) ≠ 8 by decide) ▸ hR
      exact Blk.below hf hR (Blk.lt hf)
    · exact absurd rfl hne
  · intro u hu
    simp only [List.mem_cons, List.not_mem_nil, or_false] at hu
    subst hu
    exact HG6.out.below (Below.refl _ _).drew HG6.out.lt
  simp only [List.take_succ_cons, List.take_zero, List.drop_succ_cons, List.drop_zero]
  repeat (first | (refine phiU_skipK rfl (fun K hK => ?_); simp only [Act.put, List.setIfInBounds_toArray, List.set_cons_succ, List.set_cons_zero]; (try simp only [List.cons_append]); (try simp only [List.nil_append]); apply hK; clear hK K) | (refine phiU_pureK rfl rfl (fun K hK => ?_); apply Exists.intro; constructor; (focus (rintro w' ⟨g1, g2, g3, g4⟩; have q1 := (g1.cell 1).trans rfl; have q2 := (g2.cell 0).trans rfl; have q3 := (g2.cell 1).trans rfl; have q4 := (g2.cell 2).trans rfl; clear g1 g2 g3 g4; first | (go_simp; done) | (go_simp; (try go_bits); (try go_simp); rfl) | go_simp)); simp only [Act.put, List.setIfInBounds_toArray, List.set_cons_succ, List.set_cons_zero]; (try simp only [List.cons_append]); (try simp only [List.nil_append]); apply hK; clear hK K))
  refine phiU_partK (PBlk1 w6.heap.size #[.int .i64 x.1, .int .i64 x.2.1, .slice qu x.2.2.length ku]) rfl rfl ⟨_, 0, rfl⟩ ?_ (fun K hK v hv => ?_)
  · rintro w' ⟨g1, g2, g3, g4⟩ hf hu
    unfold gives
    clear hf hu
    go_simp
    refine ⟨⟨_, rfl⟩, fun h hh => ?_, by rw [rIns_o (by decide)]; exact below_alloc1 _ _⟩
    obtain rfl : w'.heap.size = h := by simpa using hh
    exact ⟨g4, Blk.new _ _ _⟩
  obtain ⟨g7, rfl⟩ := hv
  simp only [Act.put, List.setIfInBounds_toArray, List.set_cons_succ, List.set_cons_zero]; (try simp only [List.cons_append]); (try simp only [List.nil_append])
  apply hK
  clear hK K
  repeat (first | (refine phiU_skipK rfl (fun K hK => ?_); simp only [Act.put, List.setIfInBounds_toArray, List.set_cons_succ, List.set_cons_zero]; (try simp only [List.cons_append]); (try simp only [List.nil_append]); apply hK; clear hK K) | (refine phiU_pureK rfl rfl (fun K hK => ?_); apply Exists.intro; constructor; (focus (rintro w' ⟨g1, g2, g3, g4⟩; have q1 := (g1.cell 1).trans rfl; have q2 := (g2.cell 0).trans rfl; have q3 := (g2.cell 1).trans rfl; have q4 := (g2.cell 2).trans rfl; clear g1 g2 g3 g4; first | (go_simp; done) | (go_simp; (try go_bits); (try go_simp); rfl) | go_simp)); simp only [Act.put, List.setIfInBounds_toArray, List.set_cons_succ, List.set_cons_zero]; (try simp only [List.cons_append]); (try simp only [List.nil_append]); apply hK; clear hK K))
  refine phiU_partK (PMov w6 g cap (xs.length - 1 + 1) (putAt (cel (xs.eraseIdx i)) [.int .i64 x.1, .int .i64 x.2.1, .slice qu x.2.2.length ku] t)) rfl rfl ⟨_, rfl⟩ ?_ (fun K hK v hv => ?_)
  · rintro w' ⟨g1, g2, g3, g4⟩ hf hu
    have h7 := hf (7, fun w1 => (PBlk1 w6.heap.size #[.int .i64 x.1, .int .i64 x.2.1, .slice qu x.2.2.length ku]).fact w1 (.slice (some ⟨g7, 0, none⟩) 1 1)) (by simp) (List.contains_iff_mem.1 rfl) rfl
    obtain ⟨h7b, hb7⟩ := h7 g7 rfl
    have hu8 : Blk w' g 37 cur5 := hu (8, fun w' => Blk w' g 37 cur5) (by simp) rfl
    have hcel : cur5.toList.take ((xs.length - 1) * 3) = cel (xs.eraseIdx i) := by rw [HC5.out.2, HG.out.1, cel_cut xs i HIX.out]
    unfold gives
    clear hf hu
    go_simp
    refine (ins_any w' g (xs.length - 1) cap t g7 cur5 [.int .i64 x.1, .int .i64 x.2.1, .slice qu x.2.2.length ku] hu8 hb7 (by have := HLT.out; omega) rfl (by have := HIX.out; omega) hc2 HC5.out.1 (by have := HTL.out; omega)
      (by rw [hcel]; exact cel_one _ fun y hy => HE6.out y (List.mem_of_mem_eraseIdx hy)) (by simp [Value.oneCell'])).mono ?_
    rintro e w'' ⟨rfl, ⟨cur7, hg7, hs7, hc7⟩, k7⟩
    exact ⟨_, rfl, rfl, ⟨cur7, hg7, hs7, by rw [hc7, hcel]⟩, by rw [rIns_8]; exact k7⟩
  obtain rfl : v = _ := hv
  simp only [Act.put, List.setIfInBounds_toArray, List.set_cons_succ, List.set_cons_zero]; (try simp only [List.cons_append]); (try simp only [List.nil_append])
  apply hK
  clear hK K
  repeat (first | (refine phiU_skipK rfl (fun K hK => ?_); simp only [Act.put, List.setIfInBounds_toArray, List.set_cons_succ, List.set_cons_zero]; (try simp only [List.cons_append]); (try simp only [List.nil_append]); apply hK; clear hK K) | (refine phiU_pureK rfl rfl (fun K hK => ?_); apply Exists.intro; constructor; (focus (rintro w' ⟨g1, g2, g3, g4⟩; have q1 := (g1.cell 1).trans rfl; have q2 := (g2.cell 0).trans rfl; have q3 := (g2.cell 1).trans rfl; have q4 := (g2.cell 2).trans rfl; clear g1 g2 g3 g4; first | (go_simp; done) | (go_simp; (try go_bits); (try go_simp); rfl) | go_simp)); simp only [Act.put, List.setIfInBounds_toArray, List.set_cons_succ, List.set_cons_zero]; (try simp only [List.cons_append]); (try simp only [List.nil_append]); apply hK; clear hK K))
  refine phiU_done ?_
  rintro w9 ⟨g1, g2, g3, g4⟩ hf
  obtain ⟨cur9, hg9, hs9, hc9⟩ : ∃ cur9, Blk w9 g 37 cur9 ∧ cur9.size = cap * 3 ∧ cur9.toList.take ((xs.length - 1 + 1) * 3) = putAt (cel (xs.eraseIdx i)) [.int .i64 x.1, .int .i64 x.2.1, .slice qu x.2.2.length ku] t := hf (8, fun w1 => (PMov w6 g cap (xs.length - 1 + 1) (putAt (cel (xs.eraseIdx i)) [.int .i64 x.1, .int .i64 x.2.1, .slice qu x.2.2.length ku] t)).fact w1 (.slice (some ⟨g, 0, none⟩) (xs.length - 1 + 1) cap)) (by simp) rfl
  clear hf
  have htl : t ≤ (xs.eraseIdx i).length := by have := HTL.out; have := HLE.out; omega
  rw [show [Value.int .i64 x.1, .int .i64 x.2.1, .slice qu x.2.2.length ku] = [.int .i64 (x, Value.slice qu x.2.2.length ku).1.1, .int .i64 (x, Value.slice qu x.2.2.length ku).1.2.1, (x, Value.slice qu x.2.2.length ku).2] from rfl, cel_put _ t htl] at hc9
  have hln : ((xs.eraseIdx i).take t ++ (x, Value.slice qu x.2.2.length ku) :: (xs.eraseIdx i).drop t).length = xs.length - 1 + 1 := by
    rw [List.length_append, List.length_cons, List.length_take, List.length_drop, HLE.out]
    have := HTL.out
    omega
  have hlu : LetU w9 (.slice (some ⟨g, 0, none⟩) (xs.length - 1 + 1) cap) ((xs.eraseIdx i).take t ++ (x, Value.slice qu x.2.2.length ku) :: (xs.eraseIdx i).drop t) := by
    refine ⟨⟨by rw [cel_len], .inr ⟨g, cap, cur9, by rw [hln], Nat.zero_le _, hg9, by rw [hln]; have := HIX.out; omega, hc2, hs9, by rw [hln]; exact hc9⟩⟩, fun y hy => own_but ?_ g3 HG6.out (by decide)⟩
    rcases List.mem_append.1 hy with hy | hy
    · exact HE6.out y (List.mem_of_mem_eraseIdx (List.mem_of_mem_take hy))
    · rcases List.mem_cons.1 hy with rfl | hy
      · have h9 := HU6.out
        rw [HHQ.out] at h9
        exact h9
      · exact HE6.out y (List.mem_of_mem_eraseIdx (List.mem_of_mem_drop hy))
  have hst9 := HST.out.1.stored (show But [g] w6 w9 from g3) hlu (.inl rfl) ((st.ls.eraseIdx i).take t ++ x :: (st.ls.eraseIdx i).drop t) (by rw [← HM.out]; simp only [List.eraseIdx_eq_take_drop_succ, List.map_append, List.map_take, List.map_drop, List.map_cons])
  have HST9 := Lib.hid hst9
  have c1 := (g1.cell 1).trans rfl
  have f1 := g1.frozen 1
  clear g1 g2 g3 g4 hg9 hs9 hc9 htl hln hlu hst9
  go_wp2_with fail
  go_ret
  exact ⟨rfl, HST9.out.1, HST.out.2.trans HST9.out.2⟩
theorem nmove_any (w : World) (n b : Nat) (p : Option Nat) (c : Nat) (st : NSt) (h : Nn w n b p c st) (i t : Nat) (x : Lt) (hx : st.ls[i]? = some x) (htl : t < st.ls.length) (hle : st.ls.length ≤ 1000) :
    Calls Tryd.prog 13 #[.pointer (some ⟨n, 0, none⟩), .int .i64 i, .int .i64 t] w (NOut n b p c (st.moved i t x) .nilIface w) :=
  (nmove_at w n b p c st h i t x hx htl hle).mono fun _ _ h => ⟨h.1, ⟨p, .inl rfl, h.2.1⟩, h.2.2⟩
end Go.Proofs.YtbbhecadpbnobaaDoor
