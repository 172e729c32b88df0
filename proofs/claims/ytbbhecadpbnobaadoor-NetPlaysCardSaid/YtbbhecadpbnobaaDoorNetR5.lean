/-
  NetR5: the walks of the document's net: Take, Move.
-/
import Derived.Test.YtbbhecadpbnobaaDoorNetR4
namespace Go.Proofs.YtbbhecadpbnobaaDoor
open Go.RowKit
attribute [local go_sem] bs_toList bs_size
attribute [local irreducible] wpPhi wpPhiU

theorem Mn.off {w w' : World} {m r : Nat} {q : Option Nat} {R : List Nat} {st : NSt} {cs : Array Value} (h : Mn w m q R st) (k : But [r] w w') (hb : Blk w r 62 cs) (hq : q ≠ some r) : Mn w' m q R st := by
  obtain ⟨⟨vL, vC, h1, h2, h3, h4⟩, h5, h6, h7⟩ := h
  refine ⟨⟨vL, vC, h1, k.blk h2 (by have := Blk.ne_ h2 hb (by decide); simpa using this), k.owns2 (fun g hg => ?_) h3, own_but h4 k hb (by decide)⟩, h5, h6, fun i hi => k.blk (h7 i hi) (by have := Blk.ne_ (h7 i hi) hb (by decide); simpa using this)⟩
  have : g ≠ r := fun e => hq (by rw [← h1, hg, e])
  simpa using this
theorem rtake_no (w : World) (m : Nat) (q : Option Nat) (R : List Nat) (st : NSt) (h : Mn w m q R st) (i : Int) (hi : (decide (0 ≤ i) && decide (i < (st.ls.length : Int))) = false) :
    Calls Tryd.prog 32 #[.pointer (some ⟨m, 0, none⟩), .int .i64 i] w (MOut m q R st (.tuple #[.agg #[.int .i64 0, .int .i64 0, .string (bs [])], .int .i64 1]) w) := by
  have HM := Lib.hid h
  have hk := below_alloc1 w (.cells #[.int .i64 0, .int .i64 0, .string ⟨#[]⟩] 62)
  have H1 := Lib.hid (rthere_any _ m q R st (h.below hk) i)
  rw [hi] at H1
  have hb := Blk.new w 62 #[.int .i64 0, .int .i64 0, .string ⟨#[]⟩]
  have c0 := (hb.cell 0).trans rfl
  have c1 := (hb.cell 1).trans rfl
  have c2 := (hb.cell 2).trans rfl
  have f0 := hb.frozen 0
  have f1 := hb.frozen 1
  have f2 := hb.frozen 2
  have HB := Lib.hid hb
  have HK := Lib.hid hk
  clear h hi hb hk
  go_enter Tryd.func32, Tryd.ntmps32
  go_wp2_with fail
  refine H1.out.mono ?_
  rintro e w1 ⟨rfl, hw1⟩
  rw [hw1]
  clear hw1 w1
  go_wp2_with fail
  refine bodyPost_ret (v := .tuple #[.agg #[.int .i64 0, .int .i64 0, .string (bs [])], .int .i64 1]) (by simp [results, Tryd.results32, go_sem, c0, c1, c2, bs]) rfl ?_
  exact ⟨rfl, ⟨q, .inl rfl, HM.out.below HK.out⟩, But.of_below HK.out⟩
set_option maxRecDepth 20000 in
set_option maxHeartbeats 2000000 in
theorem rtake_at (w : World) (m : Nat) (q : Option Nat) (R : List Nat) (st : NSt) (h : Mn w m q R st) (i : Nat) (x : Lt) (hx : st.ls[i]? = some x) (hle : st.ls.length ≤ 900) :
    Calls Tryd.prog 32 #[.pointer (some ⟨m, 0, none⟩), .int .i64 i] w (MOut m q R (st.cutOut i) (.tuple #[.agg #[.int .i64 x.1, .int .i64 x.2.1, .string (bs x.2.2)], .int .i64 0]) w) := by
  have hi := (List.getElem?_eq_some_iff.1 hx).1
  have HM := Lib.hid h
  have hk := below_alloc1 w (.cells #[.int .i64 0, .int .i64 0, .string ⟨#[]⟩] 62)
  have H1 := Lib.hid (rthere_any _ m q R st (h.below hk) i)
  have d1 : (decide ((0 : Int) ≤ (i : Int)) && decide ((i : Int) < (st.ls.length : Int))) = true := by simp [hi]
  rw [d1] at H1
  have HB := Lib.hid (Blk.new w 62 #[.int .i64 0, .int .i64 0, .string ⟨#[]⟩])
  have HK := Lib.hid hk
  obtain ⟨vL, vC, hvp, hbm, hoL, hoC⟩ := (h.below hk).ex
  obtain ⟨pL, cL, rfl, _, _, hrL⟩ := owns_rd hoL
  obtain ⟨pC, cC, rfl, _, _, hrC⟩ := owns_rd hoC
  obtain ⟨gL, offL, rfl, _⟩ := hrL.has (by intro e; have := congrArg List.length e; rw [cel_len, toS_len, List.length_nil] at this; omega)
  obtain ⟨a0, a1, a2⟩ := cells12 hrL hx
  have m1 := (hbm.cell 1).trans rfl
  have hkz := below_alloc1 (w.alloc (.cells #[.int .i64 0, .int .i64 0, .string ⟨#[]⟩] 62)) (.cells #[.int .i64 x.1, .int .i64 x.2.1, .string (bs x.2.2)] 62)
  have HBZ := Lib.hid (Blk.new (w.alloc (.cells #[.int .i64 0, .int .i64 0, .string ⟨#[]⟩] 62)) 62 #[.int .i64 x.1, .int .i64 x.2.1, .string (bs x.2.2)])
  have HB2 := Lib.hid (HB.out.below hkz HB.out.lt)
  have HM2 := Lib.hid ((h.below hk).below hkz)
  have HK2 := Lib.hid (hk.trans (hkz.mono hk.size))
  have HI := Lib.hid hi
  clear h hk hvp hbm hoL hoC hrL hrC d1 hkz hi hx HB
  go_enter Tryd.func32, Tryd.ntmps32
  go_wp2_with fail
  refine H1.out.mono ?_
  rintro e w1 ⟨rfl, hw1⟩
  rw [hw1]
  clear hw1 w1
  go_wp2_with fail
  clear a0 a1 a2 m1
  rw [World.size_alloc] at HBZ
  generalize (w.alloc (.cells #[.int .i64 0, .int .i64 0, .string ⟨#[]⟩] 62)).alloc (.cells #[.int .i64 x.1, .int .i64 x.2.1, .string (bs x.2.2)] 62) = w2 at *
  refine (rwithout_any w2 m q R st HM2.out i HI.out hle).mono ?_
  rintro e w3 ⟨v, rfl, hz, hb3⟩
  have HB3 := Lib.hid (HB2.out.below hb3 HB2.out.lt)
  have HBZ3 := Lib.hid (HBZ.out.below hb3 HBZ.out.lt)
  have HM3 := Lib.hid (HM2.out.below hb3)
  have HK3 := Lib.hid (HK2.out.trans (hb3.mono HK2.out.size))
  obtain ⟨gv, cv, rfl⟩ := hz.val
  have HST := Lib.hid (HM3.out.stored (v' := .slice (some ⟨gv, 0, none⟩) (st.ls.length - 1) cv) (ls := st.ls.eraseIdx i) (But.of_below (Below.refl _ _)) (by rw [List.length_eraseIdx, if_pos HI.out]; exact owns_lower hz.own (Nat.zero_le _)))
  have HGV := Lib.hid (show w2.heap.size ≤ gv ∧ w.heap.size < w2.heap.size from by
    obtain ⟨g9, _, _, he, hB9, _⟩ := hz
    cases he
    exact ⟨hB9, HB2.out.lt⟩)
  obtain ⟨_, _, _, hbm3, _⟩ := HM3.out.ex
  have f1 := hbm3.frozen 1
  have c1 := (hbm3.cell 1).trans rfl
  have k4 : But [m] w3 (w3.setCell ⟨m, 1, none⟩ (.slice (some ⟨gv, 0, none⟩) (st.ls.length - 1) cv)) := (but_refl _ _).set_ m 1 _ (by simp)
  have hmw : m < w.heap.size := HM.out.lt m (mem_mS.2 (.inl rfl))
  have HB4 := Lib.hid (k4.blk HB3.out (by simp; omega))
  have HBZ4 := Lib.hid (k4.blk HBZ3.out (by simp; omega))
  have y0 := (HBZ4.out.cell 0).trans rfl
  have y1 := (HBZ4.out.cell 1).trans rfl
  have y2 := (HBZ4.out.cell 2).trans rfl
  have r0 := (HB4.out.cell 0).trans rfl
  have r1 := (HB4.out.cell 1).trans rfl
  have r2 := (HB4.out.cell 2).trans rfl
  have s0 := HB4.out.frozen 0
  have s1 := HB4.out.frozen 1
  have s2 := HB4.out.frozen 2
  clear hz hb3 hbm3 k4
  go_wp2_with fail
  clear c1 f1
  have HK4 := Lib.hid ((But.of_below HK3.out).trans HST.out.2)
  have hms := HST.out.1
  generalize w3.setCell ⟨m, 1, none⟩ (.slice (some ⟨gv, 0, none⟩) (st.ls.length - 1) cv) = w4 at *
  have h3 := ((HB4.out.set_ 0 (.int .i64 x.1)).set_ 1 (.int .i64 x.2.1)).set_ 2 (.string (bs x.2.2))
  have k3 : But [w.heap.size] w4 (((w4.setCell ⟨w.heap.size, 0, none⟩ (.int .i64 x.1)).setCell ⟨w.heap.size, 1, none⟩ (.int .i64 x.2.1)).setCell ⟨w.heap.size, 2, none⟩ (.string (bs x.2.2))) := (((but_refl _ _).set_ _ 0 _ (by simp)).set_ _ 1 _ (by simp)).set_ _ 2 _ (by simp)
  have z0 := (h3.cell 0).trans rfl
  have z1 := (h3.cell 1).trans rfl
  have z2 := (h3.cell 2).trans rfl
  clear h3 y0 y1 y2 r0 r1 r2 s0 s1 s2
  generalize (((w4.setCell ⟨w.heap.size, 0, none⟩ (.int .i64 x.1)).setCell ⟨w.heap.size, 1, none⟩ (.int .i64 x.2.1)).setCell ⟨w.heap.size, 2, none⟩ (.string (bs x.2.2))) = w5 at *
  refine bodyPost_ret (v := .tuple #[.agg #[.int .i64 x.1, .int .i64 x.2.1, .string (bs x.2.2)], .int .i64 0]) (by simp [results, Tryd.results32, go_sem, z0, z1, z2]) rfl ?_
  have hg1 := HGV.out.1
  have hg2 := HGV.out.2
  refine ⟨rfl, ⟨some gv, .inr fun g hg => by have e := Option.some.inj hg; omega, hms.off k3 HB4.out (fun e => by have e : gv = w.heap.size := Option.some.inj e; omega)⟩, HK4.out.after k3 (Nat.le_refl _)⟩
theorem rmove_no (w : World) (m : Nat) (q : Option Nat) (R : List Nat) (st : NSt) (h : Mn w m q R st) (i t : Int) (hi : ((decide (0 ≤ i) && decide (i < (st.ls.length : Int))) && (decide (0 ≤ t) && decide (t < (st.ls.length : Int)))) = false) :
    Calls Tryd.prog 34 #[.pointer (some ⟨m, 0, none⟩), .int .i64 i, .int .i64 t] w (MOut m q R st (.int .i64 1) w) := by
  have HM := Lib.hid h
  cases d1 : (decide (0 ≤ i) && decide (i < (st.ls.length : Int))) with
  | false =>
    have H1 := Lib.hid (rthere_any w m q R st h i)
    rw [d1] at H1
    clear h hi d1
    go_enter Tryd.func34, Tryd.ntmps34
    go_wp2_with fail
    refine H1.out.mono ?_
    rintro e w1 ⟨rfl, hw1⟩
    rw [hw1]
    clear hw1 w1
    go_wp2_with fail
    go_ret
    exact MOut.same HM.out (Below.refl _ _)
  | true =>
    rw [d1, Bool.true_and] at hi
    have H1 := Lib.hid (rthere_any w m q R st h i)
    rw [d1] at H1
    have H2 := Lib.hid (rthere_any w m q R st h t)
    rw [hi] at H2
    clear h hi d1
    go_enter Tryd.func34, Tryd.ntmps34
    go_wp2_with fail
    refine H1.out.mono ?_
    rintro e w1 ⟨rfl, hw1⟩
    rw [hw1]
    clear hw1 w1
    go_wp2_with fail
    refine H2.out.mono ?_
    rintro e w1 ⟨rfl, hw1⟩
    rw [hw1]
    clear hw1 w1
    go_wp2_with fail
    go_ret
    exact MOut.same HM.out (Below.refl _ _)
set_option maxRecDepth 20000 in
set_option maxHeartbeats 4000000 in
theorem rmove_at (w : World) (m : Nat) (q : Option Nat) (R : List Nat) (st : NSt) (h : Mn w m q R st) (i t : Nat) (x : Lt) (hx : st.ls[i]? = some x) (ht : t < st.ls.length) (hle : st.ls.length ≤ 900) :
    Calls Tryd.prog 34 #[.pointer (some ⟨m, 0, none⟩), .int .i64 i, .int .i64 t] w (MOut m q R (st.moved i t x) (.int .i64 0) w) := by
  have hi := (List.getElem?_eq_some_iff.1 hx).1
  have HM := Lib.hid h
  have H1 := Lib.hid (rthere_any _ m q R st h i)
  have H2 := Lib.hid (rthere_any _ m q R st h t)
  have d1 : (decide ((0 : Int) ≤ (i : Int)) && decide ((i : Int) < (st.ls.length : Int))) = true := by simp [hi]
  have d2 : (decide ((0 : Int) ≤ (t : Int)) && decide ((t : Int) < (st.ls.length : Int))) = true := by simp [ht]
  rw [d1] at H1
  rw [d2] at H2
  obtain ⟨vL, vC, hvp, hbm, hoL, hoC⟩ := h.ex
  obtain ⟨pL, cL, rfl, _, _, hrL⟩ := owns_rd hoL
  obtain ⟨pC, cC, rfl, _, _, hrC⟩ := owns_rd hoC
  obtain ⟨gL, offL, rfl, _⟩ := hrL.has (by intro e; have := congrArg List.length e; rw [cel_len, toS_len, List.length_nil] at this; omega)
  obtain ⟨a0, a1, a2⟩ := cells12 hrL hx
  have m1 := (hbm.cell 1).trans rfl
  have hk := below_alloc1 w (.cells #[.int .i64 x.1, .int .i64 x.2.1, .string (bs x.2.2)] 62)
  have HBZ := Lib.hid (Blk.new w 62 #[.int .i64 x.1, .int .i64 x.2.1, .string (bs x.2.2)])
  have HM2 := Lib.hid (h.below hk)
  have HK2 := Lib.hid hk
  have HI := Lib.hid (And.intro hi ht)
  clear h hk hvp hbm hoL hoC hrL hrC d1 d2 hx
  go_enter Tryd.func34, Tryd.ntmps34
  go_wp2_with fail
  refine H1.out.mono ?_
  rintro e w1 ⟨rfl, hw1⟩
  rw [hw1]
  clear hw1 w1
  go_wp2_with fail
  refine H2.out.mono ?_
  rintro e w1 ⟨rfl, hw1⟩
  rw [hw1]
  clear hw1 w1
  go_wp2_with fail
  clear a0 a1 a2 m1
  generalize w.alloc (.cells #[.int .i64 x.1, .int .i64 x.2.1, .string (bs x.2.2)] 62) = w2 at *
  refine (rwithout_any w2 m q R st HM2.out i HI.out.1 hle).mono ?_
  rintro e w3 ⟨v, rfl, hz, hb3⟩
  have HBZ3 := Lib.hid (HBZ.out.below hb3 HBZ.out.lt)
  have HM3 := Lib.hid (HM2.out.below hb3)
  have HK3 := Lib.hid (HK2.out.trans (hb3.mono HK2.out.size))
  obtain ⟨gv, cv, rfl⟩ := hz.val
  have HZ := Lib.hid hz
  clear hz hb3
  go_wp2_with fail
  have hn1 : (st.ls.eraseIdx i).length = st.ls.length - 1 := by rw [List.length_eraseIdx, if_pos HI.out.1]
  have hZr := owns_rd HZ.out.own
  obtain ⟨p9, c9, he9, hcv, hcm, hrz⟩ := hZr
  cases he9
  have htn : t ≤ st.ls.length - 1 := by omega
  have HRZ := Lib.hid hrz
  obtain ⟨i0, hi0, hz0, hz1, hz2⟩ := info_parts let12
  have hs1 := fun w => run_slice_to (P := Tryd.prog) Tryd.underlying57 hi0 (some ⟨gv, 0, none⟩) (st.ls.length - 1) cv t (Nat.le_trans htn hcv) w
  have hs2 := fun w => run_slice_from (P := Tryd.prog) Tryd.underlying57 hi0 (some ⟨gv, 0, none⟩) (st.ls.length - 1) cv t htn w
  rw [hz1] at hs2
  have HN1 := Lib.hid (show (cel (toS ((st.ls.eraseIdx i).take t))).length = t * 3 ∧ ∀ w', Rd w' (some ⟨gv, 0, none⟩) (cel (toS (st.ls.eraseIdx i))) → Rd w' (some ⟨gv, 0, none⟩) (cel (toS ((st.ls.eraseIdx i).take t))) from by
    refine ⟨by rw [cel_len, toS_len, List.length_take]; omega, fun w' hr => ?_⟩
    have := hr.take (3 * t)
    rw [cel_take _ t (by rw [toS_len]; omega), ← toS_take] at this
    exact this)
  have HN2 := Lib.hid (show (cel (toS ((st.ls.eraseIdx i).drop t))).length = (st.ls.length - 1 - t) * 3 ∧ ∀ w', Rd w' (some ⟨gv, 0, none⟩) (cel (toS (st.ls.eraseIdx i))) → Rd w' (cutp (some ⟨gv, 0, none⟩) t cv 3) (cel (toS ((st.ls.eraseIdx i).drop t))) from by
    refine ⟨by rw [cel_len, toS_len, List.length_drop, hn1], fun w' hr => ?_⟩
    have := hr.cut (lo := t) (cap := cv) (s := 3) (by rw [cel_len, toS_len, hn1]; omega)
    rw [Nat.mul_comm t 3, cel_drop _ t (by rw [toS_len]; omega), ← toS_drop] at this
    exact this)
  have HEQ := Lib.hid (show (st.moved i t x).ls = (st.ls.eraseIdx i).take t ++ [x] ++ (st.ls.eraseIdx i).drop t ∧ t + 1 + (st.ls.length - 1 - t) = st.ls.length from by
    refine ⟨?_, by omega⟩
    unfold NSt.moved
    simp only [List.append_assoc, List.singleton_append])
  have HIT := Lib.hid (show t + st.ls.length ≤ 1800 ∧ t ≤ st.ls.length - 1 by omega)
  clear hrz hn1 hcm hi ht
  generalize hL1 : (st.ls.eraseIdx i).take t = L1 at *
  generalize hL2 : (st.ls.eraseIdx i).drop t = L2 at *
  refine wp_phiK_tail (List.take 15 _) (List.drop 15 _) (List.take_append_drop 15 _).symm (fun j w1 w2 => if j = 1 ∨ j = 7 then Below w1.heap.size w1 w2 else Rz w3.heap.size w1 w2)
    (fun w' => Below w3.heap.size w3 w' ∧ w3.heap.size ≤ w'.heap.size)
    [(1, PZ w3.heap.size 0 []), (5, PZ w3.heap.size t (cel (toS L1))), (7, PL12 w3.heap.size (x.1) (x.2.1) (x.2.2)), (8, PZ w3.heap.size (t + 1) (cel (toS (L1 ++ [x])))), (12, PZ w3.heap.size st.ls.length (cel (toS (L1 ++ [x] ++ L2))))]
    [(5, [1]), (8, [1, 5, 7]), (12, [1, 5, 7, 8])] [] [(5, 8), (8, 12)] (by kernel_rfl) (by kernel_rfl) ?_ ?_ ?_ ?_ ⟨(Below.refl _ _).drew, Nat.le_refl _⟩ ?_
  · rintro p1 hp1 w1 w2 ⟨g1, g2⟩ hR
    have hR : Rz w3.heap.size w1 w2 := by
      split at hR
      · exact Rz.of_below hR g2
      · exact hR
    exact ⟨g1.trans hR.1, Nat.le_trans g2 hR.2.1⟩
  · intro p1 hp p' hp' hne hks hns hkk w1 w2 v hI hR hf
    have hRz : Rz w3.heap.size w1 w2 := by
      split at hR
      · exact Rz.of_below hR hI.2
      · exact hR
    simp only [List.mem_cons, List.not_mem_nil, or_false] at hp hp'
    rcases hp with rfl | rfl | rfl | rfl | rfl
    · exact RowZ.rz hf hRz
    · rcases hp' with rfl | rfl | rfl | rfl | rfl
      · exact absurd (show 1 ∈ needs [(5, [1]), (8, [1, 5, 7]), (12, [1, 5, 7, 8])] 5 by decide) hns
      · exact absurd rfl hne
      · exact RowZ.below hf hR
      · exact absurd rfl hks
      · exact absurd (show 8 ∈ needs [(5, [1]), (8, [1, 5, 7]), (12, [1, 5, 7, 8])] 12 by decide) (hkk 8 rfl)
    · intro g hg
      obtain ⟨h1, h2⟩ := hf g hg
      exact ⟨h1, hRz.2.2 g _ h2 (by simp)⟩
    · rcases hp' with rfl | rfl | rfl | rfl | rfl
      · exact absurd (show 1 ∈ needs [(5, [1]), (8, [1, 5, 7]), (12, [1, 5, 7, 8])] 8 by decide) hns
      · exact absurd (show 5 ∈ needs [(5, [1]), (8, [1, 5, 7]), (12, [1, 5, 7, 8])] 8 by decide) hns
      · exact absurd (show 7 ∈ needs [(5, [1]), (8, [1, 5, 7]), (12, [1, 5, 7, 8])] 8 by decide) hns
      · exact absurd rfl hne
      · exact absurd rfl hks
    · rcases hp' with rfl | rfl | rfl | rfl | rfl
      · exact absurd (show 1 ∈ needs [(5, [1]), (8, [1, 5, 7]), (12, [1, 5, 7, 8])] 12 by decide) hns
      · exact absurd (show 5 ∈ needs [(5, [1]), (8, [1, 5, 7]), (12, [1, 5, 7, 8])] 12 by decide) hns
      · exact absurd (show 7 ∈ needs [(5, [1]), (8, [1, 5, 7]), (12, [1, 5, 7, 8])] 12 by decide) hns
      · exact absurd (show 8 ∈ needs [(5, [1]), (8, [1, 5, 7]), (12, [1, 5, 7, 8])] 12 by decide) hns
      · exact absurd rfl hne
  · intro p1 hp u hu
    cases hu
  · intro u hu
    cases hu
  simp only [List.take_succ_cons, List.take_zero, List.drop_succ_cons, List.drop_zero]
  repeat (first | (refine phiU_skipK rfl (fun K hK => ?_); simp only [Act.put, List.setIfInBounds_toArray, List.set_cons_succ, List.set_cons_zero]; (try simp only [List.cons_append]); (try simp only [List.nil_append]); apply hK; clear hK K) | (refine phiU_pureK rfl rfl (fun K hK => ?_); apply Exists.intro; constructor; (focus (rintro w' hI; have hbz := HBZ3.out.below hI.1 HBZ3.out.lt; have q1 := (hbz.cell 0).trans rfl; have q2 := (hbz.cell 1).trans rfl; have q3 := (hbz.cell 2).trans rfl; clear hI hbz; first | (go_simp; done) | (go_simp; (try go_bits); (try go_simp); rfl) | go_simp)); simp only [Act.put, List.setIfInBounds_toArray, List.set_cons_succ, List.set_cons_zero]; (try simp only [List.cons_append]); (try simp only [List.nil_append]); apply hK; clear hK K))
  refine phiU_partK (PZ w3.heap.size 0 []) rfl rfl ⟨_, 0, 0, rfl⟩ ?_ (fun K hK v hv => ?_)
  · rintro w' ⟨g1, g2⟩ hf hu
    unfold gives
    clear hf hu
    go_simp
    exact ⟨⟨_, _, rfl⟩, RowZ.new _ _ g2, below_alloc1 _ _⟩
  obtain ⟨ga, ca, rfl⟩ := hv
  simp only [Act.put, List.setIfInBounds_toArray, List.set_cons_succ, List.set_cons_zero]; (try simp only [List.cons_append]); (try simp only [List.nil_append])
  apply hK
  clear hK K
  repeat (first | (refine phiU_skipK rfl (fun K hK => ?_); simp only [Act.put, List.setIfInBounds_toArray, List.set_cons_succ, List.set_cons_zero]; (try simp only [List.cons_append]); (try simp only [List.nil_append]); apply hK; clear hK K) | (refine phiU_pureK rfl rfl (fun K hK => ?_); apply Exists.intro; constructor; (focus (rintro w' hI; have hbz := HBZ3.out.below hI.1 HBZ3.out.lt; have q1 := (hbz.cell 0).trans rfl; have q2 := (hbz.cell 1).trans rfl; have q3 := (hbz.cell 2).trans rfl; clear hI hbz; first | (go_simp; done) | (go_simp; (try go_bits); (try go_simp); rfl) | go_simp)); simp only [Act.put, List.setIfInBounds_toArray, List.set_cons_succ, List.set_cons_zero]; (try simp only [List.cons_append]); (try simp only [List.nil_append]); apply hK; clear hK K))
  refine phiU_partK (PZ w3.heap.size t (cel (toS L1))) rfl rfl ⟨_, 0, 0, rfl⟩ ?_ (fun K hK v hv => ?_)
  · rintro w' ⟨g1, g2⟩ hf hu
    have h0 : RowZ w3.heap.size w' (.slice (some ⟨ga, 0, none⟩) 0 ca) 0 [] := hf (1, fun w1 => (PZ w3.heap.size 0 []).fact w1 (.slice (some ⟨ga, 0, none⟩) 0 ca)) (by simp) (List.contains_iff_mem.1 rfl) rfl
    clear hf hu
    refine gives_appZ (.tmp 30) (.tmp 33) rfl w3.heap.size _ 0 [] rfl h0 (some ⟨gv, 0, none⟩) t cv (cel (toS L1)) rfl HN1.out.1 (HN1.out.2 w' (HRZ.out.below g1)) (cels_one _) (by have := HIT.out; omega) g2 ?_
    intro v2 w2 hz2 hr2
    rw [Nat.zero_add, List.nil_append] at hz2
    exact ⟨hz2.val, hz2, hr2⟩
  obtain ⟨gb, cb, rfl⟩ := hv
  simp only [Act.put, List.setIfInBounds_toArray, List.set_cons_succ, List.set_cons_zero]; (try simp only [List.cons_append]); (try simp only [List.nil_append])
  apply hK
  clear hK K
  repeat (first | (refine phiU_skipK rfl (fun K hK => ?_); simp only [Act.put, List.setIfInBounds_toArray, List.set_cons_succ, List.set_cons_zero]; (try simp only [List.cons_append]); (try simp only [List.nil_append]); apply hK; clear hK K) | (refine phiU_pureK rfl rfl (fun K hK => ?_); apply Exists.intro; constructor; (focus (rintro w' hI; have hbz := HBZ3.out.below hI.1 HBZ3.out.lt; have q1 := (hbz.cell 0).trans rfl; have q2 := (hbz.cell 1).trans rfl; have q3 := (hbz.cell 2).trans rfl; clear hI hbz; first | (go_simp; done) | (go_simp; (try go_bits); (try go_simp); rfl) | go_simp)); simp only [Act.put, List.setIfInBounds_toArray, List.set_cons_succ, List.set_cons_zero]; (try simp only [List.cons_append]); (try simp only [List.nil_append]); apply hK; clear hK K))
  refine phiU_partK (PL12 w3.heap.size (x.1) (x.2.1) (x.2.2)) rfl rfl ⟨_, 0, rfl⟩ ?_ (fun K hK v hv => ?_)
  · rintro w' ⟨g1, g2⟩ hf hu
    unfold gives
    clear hf hu
    go_simp
    refine ⟨⟨_, rfl⟩, fun g hg => ?_, below_alloc1 _ _⟩
    obtain rfl : w'.heap.size = g := by simpa using hg
    exact ⟨g2, Blk.new _ _ _⟩
  obtain ⟨gl, rfl⟩ := hv
  simp only [Act.put, List.setIfInBounds_toArray, List.set_cons_succ, List.set_cons_zero]; (try simp only [List.cons_append]); (try simp only [List.nil_append])
  apply hK
  clear hK K
  repeat (first | (refine phiU_skipK rfl (fun K hK => ?_); simp only [Act.put, List.setIfInBounds_toArray, List.set_cons_succ, List.set_cons_zero]; (try simp only [List.cons_append]); (try simp only [List.nil_append]); apply hK; clear hK K) | (refine phiU_pureK rfl rfl (fun K hK => ?_); apply Exists.intro; constructor; (focus (rintro w' hI; have hbz := HBZ3.out.below hI.1 HBZ3.out.lt; have q1 := (hbz.cell 0).trans rfl; have q2 := (hbz.cell 1).trans rfl; have q3 := (hbz.cell 2).trans rfl; clear hI hbz; first | (go_simp; done) | (go_simp; (try go_bits); (try go_simp); rfl) | go_simp)); simp only [Act.put, List.setIfInBounds_toArray, List.set_cons_succ, List.set_cons_zero]; (try simp only [List.cons_append]); (try simp only [List.nil_append]); apply hK; clear hK K))
  refine phiU_partK (PZ w3.heap.size (t + 1) (cel (toS (L1 ++ [x])))) rfl rfl ⟨_, 0, 0, rfl⟩ ?_ (fun K hK v hv => ?_)
  · rintro w' ⟨g1, g2⟩ hf hu
    have h0 : RowZ w3.heap.size w' (.slice (some ⟨gb, 0, none⟩) t cb) t (cel (toS L1)) := hf (5, fun w1 => (PZ w3.heap.size t (cel (toS L1))).fact w1 (.slice (some ⟨gb, 0, none⟩) t cb)) (by simp) (List.contains_iff_mem.1 rfl) rfl
    obtain ⟨_, hbl⟩ := hf (7, fun w1 => (PL12 w3.heap.size (x.1) (x.2.1) (x.2.2)).fact w1 (.slice (some ⟨gl, 0, none⟩) 1 1)) (by simp) (List.contains_iff_mem.1 rfl) rfl gl rfl
    clear hf hu
    refine gives_appZ (.tmp 34) (.tmp 36) rfl w3.heap.size _ t _ rfl h0 (some ⟨gl, 0, none⟩) 1 1 [.int .i64 x.1, .int .i64 x.2.1, .string (bs x.2.2)] rfl rfl (.inr ⟨gl, 0, rfl, fun i u hiu => ?_⟩) (by simp [Value.oneCell']) (by have := HIT.out; omega) g2 ?_
    · rw [Nat.zero_add, hbl.cell]
      simpa using hiu
    intro v2 w2 hz2 hr2
    rw [show cel (toS L1) ++ [.int .i64 x.1, .int .i64 x.2.1, .string (bs x.2.2)] = cel (toS (L1 ++ [x])) from by rw [toS_app, cel_app]; rfl] at hz2
    exact ⟨hz2.val, hz2, hr2⟩
  obtain ⟨gc, cc, rfl⟩ := hv
  simp only [Act.put, List.setIfInBounds_toArray, List.set_cons_succ, List.set_cons_zero]; (try simp only [List.cons_append]); (try simp only [List.nil_append])
  apply hK
  clear hK K
  repeat (first | (refine phiU_skipK rfl (fun K hK => ?_); simp only [Act.put, List.setIfInBounds_toArray, List.set_cons_succ, List.set_cons_zero]; (try simp only [List.cons_append]); (try simp only [List.nil_append]); apply hK; clear hK K) | (refine phiU_pureK rfl rfl (fun K hK => ?_); apply Exists.intro; constructor; (focus (rintro w' hI; have hbz := HBZ3.out.below hI.1 HBZ3.out.lt; have q1 := (hbz.cell 0).trans rfl; have q2 := (hbz.cell 1).trans rfl; have q3 := (hbz.cell 2).trans rfl; clear hI hbz; first | (go_simp; done) | (go_simp; (try go_bits); (try go_simp); rfl) | go_simp)); simp only [Act.put, List.setIfInBounds_toArray, List.set_cons_succ, List.set_cons_zero]; (try simp only [List.cons_append]); (try simp only [List.nil_append]); apply hK; clear hK K))
  refine phiU_partK (PZ w3.heap.size st.ls.length (cel (toS (L1 ++ [x] ++ L2)))) rfl rfl ⟨_, 0, 0, rfl⟩ ?_ (fun K hK v hv => ?_)
  · rintro w' ⟨g1, g2⟩ hf hu
    have h0 : RowZ w3.heap.size w' (.slice (some ⟨gc, 0, none⟩) (t + 1) cc) (t + 1) (cel (toS (L1 ++ [x]))) := hf (8, fun w1 => (PZ w3.heap.size (t + 1) (cel (toS (L1 ++ [x])))).fact w1 (.slice (some ⟨gc, 0, none⟩) (t + 1) cc)) (by simp) (List.contains_iff_mem.1 rfl) rfl
    clear hf hu
    refine gives_appZ (.tmp 37) (.tmp 40) rfl w3.heap.size _ (t + 1) _ rfl h0 (cutp (some ⟨gv, 0, none⟩) t cv 3) (st.ls.length - 1 - t) (cv - t) (cel (toS L2)) rfl HN2.out.1 (HN2.out.2 w' (HRZ.out.below g1)) (cels_one _) (by have := HEQ.out.2; omega) g2 ?_
    intro v2 w2 hz2 hr2
    rw [← cel_app, ← toS_app, HEQ.out.2] at hz2
    exact ⟨hz2.val, hz2, hr2⟩
  obtain ⟨gd, cd, rfl⟩ := hv
  simp only [Act.put, List.setIfInBounds_toArray, List.set_cons_succ, List.set_cons_zero]; (try simp only [List.cons_append]); (try simp only [List.nil_append])
  apply hK
  clear hK K
  repeat (first | (refine phiU_skipK rfl (fun K hK => ?_); simp only [Act.put, List.setIfInBounds_toArray, List.set_cons_succ, List.set_cons_zero]; (try simp only [List.cons_append]); (try simp only [List.nil_append]); apply hK; clear hK K) | (refine phiU_pureK rfl rfl (fun K hK => ?_); apply Exists.intro; constructor; (focus (rintro w' hI; have hbz := HBZ3.out.below hI.1 HBZ3.out.lt; have q1 := (hbz.cell 0).trans rfl; have q2 := (hbz.cell 1).trans rfl; have q3 := (hbz.cell 2).trans rfl; clear hI hbz; first | (go_simp; done) | (go_simp; (try go_bits); (try go_simp); rfl) | go_simp)); simp only [Act.put, List.setIfInBounds_toArray, List.set_cons_succ, List.set_cons_zero]; (try simp only [List.cons_append]); (try simp only [List.nil_append]); apply hK; clear hK K))
  refine phiU_done ?_
  rintro w9 ⟨g1, g2⟩ hf
  have h9 : RowZ w3.heap.size w9 (.slice (some ⟨gd, 0, none⟩) st.ls.length cd) st.ls.length (cel (toS (L1 ++ [x] ++ L2))) := hf (12, fun w1 => (PZ w3.heap.size st.ls.length (cel (toS (L1 ++ [x] ++ L2)))).fact w1 (.slice (some ⟨gd, 0, none⟩) st.ls.length cd)) (by simp) rfl
  rw [← HEQ.out.1] at h9
  have hml : (st.moved i t x).ls.length = st.ls.length := by
    have := h9.own.1
    rw [cel_len, toS_len] at this
    omega
  have HST := Lib.hid (HM3.out.stored (v' := .slice (some ⟨gd, 0, none⟩) st.ls.length cd) (ls := (st.moved i t x).ls) (But.of_below g1) (by rw [hml]; exact owns_lower h9.own (Nat.zero_le _)))
  have HGD := Lib.hid (show w3.heap.size ≤ gd from by
    obtain ⟨g9, _, _, he, hB9, _⟩ := h9
    cases he
    exact hB9)
  obtain ⟨_, _, _, hbm3, _⟩ := (HM3.out.below g1).ex
  have f1 := hbm3.frozen 1
  have c1 := (hbm3.cell 1).trans rfl
  clear hf h9 g1 g2 hml hbm3 hs1 hs2
  go_wp2_with fail
  go_ret
  exact ⟨rfl, ⟨some gd, .inr fun g hg => by have e := Option.some.inj hg; have := HGD.out; have := HK3.out.size; omega, HST.out.1⟩, (But.of_below HK3.out).trans HST.out.2⟩
end Go.Proofs.YtbbhecadpbnobaaDoor
