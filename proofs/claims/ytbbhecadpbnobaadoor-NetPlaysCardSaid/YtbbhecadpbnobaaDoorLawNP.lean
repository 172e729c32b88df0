/-
  LawNP: NetPlays answers true.
-/
import Derived.Test.YtbbhecadpbnobaaDoorNetP
namespace Go.Proofs.YtbbhecadpbnobaaDoor
open Go.RowKit
attribute [local go_sem] bs_toList bs_size Oper.semAt_some
attribute [local irreducible] wpPhi wpPhiU

/-- the last of the first j letters to the node -/
def LastOk (ls : List Lt) (node : Int) (j : Nat) (z : Int) : Prop := -1 ≤ z ∧ z < (ls.length : Int) ∧ cntT ls node (z + 1).toNat = j
/-- between two rounds of the range over To -/
structure JT (wA : World) (bl b1 n : Nat) (node : Int) (ls : List Lt) (j : Nat) (W : World) : Prop where
  low : Below wA.heap.size wA W
  last : ∃ z : Int, Blk W bl 3 #[.int .i64 z] ∧ LastOk ls node j z
  box1 : Blk W b1 26 #[.pointer (some ⟨n, 0, none⟩)]
  box2 : Blk W (b1 + 1) 3 #[.int .i64 node]
theorem JT.sees {B : Nat} {wA : World} {bl b1 n : Nat} {node : Int} {ls : List Lt} {j : Nat} {W W' : World} (h : JT wA bl b1 n node ls j W) (hB : wA.heap.size ≤ B) (s : Sees B W W') : JT wA bl b1 n node ls j W' := by
  obtain ⟨h1, ⟨z, h2, h3⟩, h4, h5⟩ := h
  exact ⟨s.below hB h1 h1.size, ⟨z, s.blk h2, h3⟩, s.blk h4, s.blk h5⟩
/-- a round of the range over To has begun -/
def BdT (bl gm go : Nat) (node : Int) (ls : List Lt) (k : Nat) (_ : Array Value) (a' : Act) (_ W : World) : Prop :=
  ∃ (i : Nat) (x : Lt) (u : Value) (g5 : Nat), ls[i]? = some x ∧ (x.2.1 == node) = true ∧ cntT ls node i = k ∧ a'.tmps.size = 162 ∧ a'.tmps.getD 7 undef = .pointer (some ⟨gm, 0, none⟩) ∧ a'.tmps.getD 9 undef = .pointer (some ⟨go, 0, none⟩) ∧ a'.tmps.getD 13 undef = .pointer (some ⟨bl, 0, none⟩) ∧
    a'.tmps.getD 14 undef = .int .i64 (i : Int) ∧ a'.tmps.getD 15 undef = .pointer (some ⟨g5, 0, none⟩) ∧ a'.defers = [] ∧ Blk W g5 37 #[.int .i64 x.1, .int .i64 x.2.1, u] ∧ W.ownsRow 0 5 1 u x.2.2.length (bvs x.2.2)
theorem BdT.sees {B bl gm go : Nat} {node : Int} {ls : List Lt} {k : Nat} {args : Array Value} {a' : Act} {A W W' : World} (h : BdT bl gm go node ls k args a' A W) (s : Sees B W W') : BdT bl gm go node ls k args a' A W' := by
  obtain ⟨i, x, u, g5, h1, h2, h3, h4, h5, h6, h7, h8, h9, h10, h11, h12⟩ := h
  exact ⟨i, x, u, g5, h1, h2, h3, h4, h5, h6, h7, h8, h9, h10, s.blk h11, s.owns h12⟩
/-- the letters that were handed out: those from j on are as they were -/
structure L2 (w9 : World) (v : Value) (xs : List (Lt × Value)) (j : Nat) (wr : World) : Prop where
  low : Below w9.heap.size w9 wr
  own : wr.ownsRow w9.heap.size 37 3 v xs.length (cel xs)
  dat : ∀ y ∈ xs.drop j, wr.ownsRow w9.heap.size 5 1 y.2 y.1.2.2.length (bvs y.1.2.2)
  apart : xs.Pairwise fun a b => ∀ g, a.2.ownBlock = some g → b.2.ownBlock ≠ some g
theorem row_at {B : Nat} {w : World} {g m c : Nat} {xs : List (Lt × Value)} {ls : List Lt} (h : w.ownsRow B 37 3 (.slice (some ⟨g, 0, none⟩) m c) xs.length (cel xs)) (hx : xs.map (·.1) = ls) {k : Nat} {x : Lt} (hk : ls[k]? = some x) :
    ∃ hlt : k < xs.length, xs[k].1 = x ∧ w.cell? ⟨g, k * 3, none⟩ = some (.int .i64 x.1) ∧ w.cell? ⟨g, k * 3 + 1, none⟩ = some (.int .i64 x.2.1) ∧ w.cell? ⟨g, k * 3 + 2, none⟩ = some xs[k].2 := by
  have hlt : k < xs.length := by
    have := (List.getElem?_eq_some_iff.1 hk).1
    rw [← hx, List.length_map] at this
    exact this
  have hx1 : xs[k].1 = x := by
    rw [← hx, List.getElem?_map, List.getElem?_eq_getElem hlt] at hk
    simpa using hk
  obtain ⟨y0, y1, y2⟩ := cel_get xs k hlt
  rw [hx1] at y0 y1
  obtain ⟨p, c9, he, _, _, hr⟩ := owns_rd h
  obtain ⟨rfl, _, rfl⟩ : some ⟨g, 0, none⟩ = p ∧ m = xs.length ∧ c = c9 := by simpa using he
  obtain ⟨g9, off9, hg9, hc⟩ := hr.has (by intro e; rw [e] at y0; simp at y0)
  cases hg9
  refine ⟨hlt, hx1, ?_, ?_, ?_⟩
  · have := hc _ _ y0; rwa [Nat.zero_add] at this
  · have := hc _ _ y1; rwa [Nat.zero_add] at this
  · have := hc _ _ y2; rwa [Nat.zero_add] at this
theorem L2.below {w9 w w' : World} {v : Value} {xs : List (Lt × Value)} {j : Nat} (h : L2 w9 v xs j w) (k : Below w.heap.size w w') : L2 w9 v xs j w' :=
  ⟨h.low.trans (k.mono h.low.size), owns_below h.own k, fun y hy => owns_below (h.dat y hy) k, h.apart⟩
theorem L2.next {w9 w w' : World} {v : Value} {xs : List (Lt × Value)} {j : Nat} (h : L2 w9 v xs j w) (hj : j < xs.length) (k : But xs[j].2.ownBlock.toList w w') : L2 w9 v xs (j + 1) w' := by
  have hdj := h.dat xs[j] (by rw [List.drop_eq_getElem_cons hj]; exact List.mem_cons_self)
  have hB : ∀ g, xs[j].2.ownBlock = some g → w9.heap.size ≤ g ∧ ∃ cs, Blk w g 5 cs := fun g hg => by
    refine ⟨(hdj.lt g hg).1, ?_⟩
    rcases hdj.2 with ⟨h0, _⟩ | ⟨g9, cap, cur, h0, _, hh, _⟩
    · rw [h0] at hg; cases hg
    · rw [h0] at hg
      cases hg
      exact ⟨cur, hh⟩
  refine ⟨h.low.trans (k.below (fun s hs => (hB s (by simpa using hs)).1) h.low.size), k.owns2 (fun g hg => ?_) h.own, fun y hy => k.owns2 (fun g hg => ?_) (h.dat y ?_), h.apart⟩
  · rw [Bool.eq_false_iff]
    intro hc
    obtain ⟨_, cs, hcs⟩ := hB g (by simpa using hc)
    rcases h.own.2 with ⟨h0, _⟩ | ⟨g9, cap, cur, h0, _, hh, _⟩
    · rw [h0] at hg; cases hg
    · rw [h0] at hg
      cases hg
      exact Blk.ne_ hcs (show Blk w _ 37 cur from hh) (by decide) rfl
  · rw [Bool.eq_false_iff]
    intro hc
    have he : xs[j].2.ownBlock = some g := by simpa using hc
    have hap := h.apart
    rw [← List.take_append_drop j xs, List.drop_eq_getElem_cons hj, List.pairwise_append] at hap
    exact (List.pairwise_cons.1 hap.2.1).1 y hy g he hg
  · rw [List.drop_eq_getElem_cons hj]
    exact List.mem_cons_of_mem _ hy
def PLen (k : Nat) : Part := ⟨fun v => ∃ p c, v = .slice p k c, fun _ _ => True⟩
/-- between two ops -/
structure PlayW (w : World) (N M g0 gm : Nat) (R : List Nat) (k : Nat) (p q : Option Nat) (c : Nat) (st : NSt) (Ds : List Nat) (wr : World) : Prop where
  nn : Nn wr (N + 1) N p c st
  mn : Mn wr M q R st
  ok : OkS st
  lost : st.lost ≤ k
  cc : c ≤ k
  sn : ∀ g ∈ nS (N + 1) N p, w.heap.size ≤ g
  sm : ∀ g ∈ mS M q R, w.heap.size ≤ g
  res : Blk wr g0 4 #[.bool false]
  resB : w.heap.size ≤ g0 ∧ g0 ∉ R
  box : Blk wr gm 52 #[.pointer (some ⟨M, 0, none⟩)]
  marks : MarksOk w.heap.size wr Ds
  low : Below w.heap.size w wr
theorem PlayW.below {w w1 w2 : World} {N M g0 gm : Nat} {R : List Nat} {k : Nat} {p q : Option Nat} {c : Nat} {st : NSt} {Ds : List Nat} (h : PlayW w N M g0 gm R k p q c st Ds w1) (k' : Below w1.heap.size w1 w2) : PlayW w N M g0 gm R k p q c st Ds w2 :=
  { nn := h.nn.below k', mn := h.mn.below k', ok := h.ok, lost := h.lost, cc := h.cc, sn := h.sn, sm := h.sm, res := h.res.below k' h.res.lt, resB := h.resB, box := h.box.below k' h.box.lt, marks := h.marks.below k', low := h.low.trans (k'.mono h.low.size) }
/-- a frame between two ops -/
def PlayI (w : World) (N M g0 gm : Nat) (R : List Nat) (os : List OpN) (po : Option Addr) (co : Nat) (a : Act) (wr : World) : Prop :=
  ∃ (k : Nat) (p q : Option Nat) (c : Nat) (st : NSt) (Ds : List Nat), k ≤ os.length ∧ a.tmps.size = 162 ∧ a.tmps.getD 4 undef = .pointer (some ⟨g0, 0, none⟩) ∧ a.tmps.getD 5 undef = .pointer (some ⟨N + 1, 0, none⟩) ∧ a.tmps.getD 7 undef = .pointer (some ⟨gm, 0, none⟩) ∧
    a.tmps.getD 47 undef = .slice po os.length co ∧ a.tmps.getD 48 undef = .int .i64 (os.length : Int) ∧ a.tmps.getD 49 undef = .int .i64 (k : Int) ∧ a.defers = Ds.map mkD ∧ PlayW w N M g0 gm R k p q c st Ds wr
set_option maxRecDepth 20000 in
set_option maxHeartbeats 8000000 in
theorem nplays_any (w : World) (E : Nat → Addr) (he : Errs w E) (K : Int) (vo : Value) (os : List OpN) (hvo : OpLN w vo os) (hos : ∀ o ∈ os, In64 o.frm ∧ In64 o.to_) :
    Calls Tryd.prog 6 #[.int .i64 K, vo] w (fun e w' => e = .returned (.bool true) ∧ Below w.heap.size w w') := by
  have HE := Lib.hid he
  have HVO := Lib.hid hvo
  have HOS := Lib.hid hos
  obtain ⟨po, co, rfl, hlo0, hco, hvo9⟩ := hvo
  unfold maxLen at hco
  clear he hos hvo9
  have HG1 := Lib.hid (Blk.new w 4 #[.bool false])
  have HK1 := Lib.hid (below_alloc1 w (.cells #[.bool false] 4))
  refine (callsIn_wide (n := 5)).1 (callsIn_of_wp_marks (F := Fence.wide) Tryd.func6 rfl trivial (wpIn_wide.2 ?_))
  simp only [Tryd.ntmps6, List.size_toArray, List.length_cons, List.length_nil, Nat.reduceAdd, Nat.reduceSub, Array.replicate_succ, Array.replicate_zero, List.push_toArray, List.append_toArray, List.nil_append, List.cons_append]
  go_wp2_with fail
  generalize w.alloc (.cells #[.bool false] 4) = w1 at *
  refine (nalive_any w1 E ((HE.out.below HK1.out).on [0, 2, 5] rfl)).mono ?_
  rintro e w2 ⟨rfl, hb2⟩
  have HK2 := Lib.hid (HK1.out.trans (hb2.mono HK1.out.size))
  have HG2 := Lib.hid (HG1.out.below hb2 HG1.out.lt)
  clear hb2
  go_wp2_with fail
  refine (longN_any _ os w2 (HVO.out.keep (Below.keeps HK2.out))).mono ?_
  rintro e w3 ⟨rfl, hb3⟩
  have HK3 := Lib.hid (HK2.out.trans (hb3.mono HK2.out.size))
  have HG3 := Lib.hid (HG2.out.below hb3 HG2.out.lt)
  clear hb3 HK1 HG1 HK2 HG2
  have z0 := (HG3.out.cell 0).trans rfl
  have f0 := HG3.out.frozen 0
  cases hlo : longN os with
  | true =>
    clear hlo
    go_wp2_with fail
    have HRB := Lib.hid (HG3.out.set_ 0 (.bool true))
    have HRW := Lib.hid (HK3.out.setCell (p := ⟨w.heap.size, 0, none⟩) (Nat.le_refl _) (.bool true))
    refine leaves_marks (B := w.heap.size) [] _ ⟨List.nodup_nil, nofun⟩ fun w' hs => ?_
    have hz := ((hs.blk HRB.out).cell 0).trans rfl
    exact ⟨.bool true, by simp [results, Tryd.results6, go_sem, hz], rfl, hs.below (Nat.le_refl _) HRW.out HRW.out.size⟩
  | false =>
  have HEL := Lib.hid (longN_el hlo)
  clear hlo
  by_cases hK : 1 ≤ K ∧ K ≤ 4
  · obtain ⟨kk, rfl⟩ : ∃ kk : Nat, K = (kk : Int) := ⟨K.toNat, by omega⟩
    have HKK := Lib.hid (show kk ≤ 4 by omega)
    have HNW := Lib.hid (nnew_any w3 (kk : Int) hK)
    have d1 : decide ((kk : Int) < 1) = false := by rw [decide_eq_false_iff_not]; omega
    have d2 : decide (4 < (kk : Int)) = false := by rw [decide_eq_false_iff_not]; omega
    have d3 : ¬ kk < 1 := by omega
    have d4 : ¬ 4 < kk := by omega
    clear hK z0 f0
    go_wp2_with fail
    refine HNW.out.mono ?_
    rintro e w4 ⟨rfl, hn4, hb4⟩
    have HN4 := Lib.hid hn4
    have HK4 := Lib.hid (HK3.out.trans (hb4.mono HK3.out.size))
    have HG4 := Lib.hid (HG3.out.below hb4 HG3.out.lt)
    have HSZ := Lib.hid (show w.heap.size < w3.heap.size from HG3.out.lt)
    clear hn4 hb4 HNW
    generalize w3.heap.size = N at *
    go_wp2_with fail
    refine (rnew_any w4 kk HKK.out).mono ?_
    rintro e w5 ⟨rfl, ⟨R, hR, hm5⟩, hb5⟩
    have HZ5 := Lib.hid (show w.heap.size < w4.heap.size from HG4.out.lt)
    have hk6 := below_alloc1 w5 (.cells #[.pointer (some ⟨w4.heap.size, 0, none⟩)] 52)
    have HP6 := Lib.hid (show PlayW w N w4.heap.size w.heap.size w5.heap.size R 0 none none 0 (NSt.new kk) [] (w5.alloc (.cells #[.pointer (some ⟨w4.heap.size, 0, none⟩)] 52)) from
      { nn := (HN4.out.below hb5).below hk6
        mn := hm5.below hk6
        ok := ⟨by simp [NSt.new], by simp [NSt.new], by simp [NSt.new]⟩
        lost := by simp [NSt.new]
        cc := Nat.le_refl _
        sn := nS_low (Nat.le_of_lt HSZ.out) nofun
        sm := fun g hg => by
          rcases mem_mS.1 hg with rfl | hg | hg
          · exact Nat.le_of_lt HZ5.out
          · exact Nat.le_trans (Nat.le_of_lt HZ5.out) (hR g hg)
          · cases hg
        res := (HG4.out.below hb5 HG4.out.lt).below hk6 (HG4.out.below hb5 HG4.out.lt).lt
        resB := ⟨Nat.le_refl _, fun h => by have := hR _ h; have := HZ5.out; omega⟩
        box := Blk.new _ _ _
        marks := ⟨List.nodup_nil, nofun⟩
        low := (HK4.out.trans (hb5.mono HK4.out.size)).trans (hk6.mono (HK4.out.trans (hb5.mono HK4.out.size)).size) })
    clear hR hm5 hb5 hk6
    clear d1 d2 d3 d4
    go_wp2_with fail
    generalize w5.alloc (.cells #[.pointer (some ⟨w4.heap.size, 0, none⟩)] 52) = w6 at *
    generalize w5.heap.size = gm at *
    generalize w4.heap.size = M at *
    generalize hg0 : w.heap.size = g0 at HP6 ⊢
    clear HN4 HK4 HG4 HKK HK3 HG3 HZ5
    refine wp_loop (PlayI w N M g0 gm R os po co) (fun a' _ => os.length - (intOf (a'.tmps.getD 49 undef)).toNat) ?_ ?_
    · exact ⟨0, none, none, 0, NSt.new kk, [], by omega, rfl, rfl, rfl, rfl, rfl, rfl, rfl, rfl, HP6.out⟩
    · clear HP6
      rintro a wr ⟨k, p, q, c, st, Ds, hk, hs, h4, h5, h7, h47, h48, h49, hds, hpw⟩
      obtain ⟨tm, df⟩ := a
      simp only at hs h4 h5 h7 h47 h48 h49 hds
      obtain ⟨g, rfl, hgd⟩ := tmps_lit tm hs
      have e4 := (hgd 4).trans h4
      have e5 := (hgd 5).trans h5
      have e7 := (hgd 7).trans h7
      have e47 := (hgd 47).trans h47
      have e48 := (hgd 48).trans h48
      have e49 := (hgd 49).trans h49
      clear h4 h5 h7 h47 h48 h49 hgd hs
      subst hds
      rw [e4, e5, e7, e47, e48, e49]
      clear e4 e5 e7 e47 e48 e49
      have HW := Lib.hid hpw
      clear hpw
      by_cases hlt : k < os.length
      · obtain ⟨p9, c9, e9, _, _, hops⟩ := HVO.out
        cases e9
        obtain ⟨b, off, qd, cd, rfl, hc0, hc1, hc2, hc3, hc4, hc5, hby⟩ := hops k os[k] (List.getElem?_eq_getElem hlt)
        have hin := HOS.out os[k] (List.getElem_mem hlt)
        have hdl := HEL.out.2 os[k] (List.getElem_mem hlt)
        have hkeep := Below.keeps HW.out.low
        have o0 := hkeep _ _ hc0
        have o1 := hkeep _ _ hc1
        have o2 := hkeep _ _ hc2
        have o3 := hkeep _ _ hc3
        have o4 := hkeep _ _ hc4
        have o5 := hkeep _ _ hc5
        generalize os[k] = o at *
        obtain ⟨kind, at_, f, t, is, dat⟩ := o
        simp only at o0 o1 o2 o3 o4 o5 hin hdl hby
        have HIN := Lib.hid hin
        have HDL := Lib.hid hdl
        have HBY := Lib.hid hby
        have hz := below_alloc1 wr (.cells #[.int .i64 kind, .int .i64 at_, .int .i64 f, .int .i64 t, .bool is, .slice qd dat.length cd] 55)
        have HZ := Lib.hid hz
        have HOB := Lib.hid (Blk.new wr 55 #[.int .i64 kind, .int .i64 at_, .int .i64 f, .int .i64 t, .bool is, .slice qd dat.length cd])
        clear hc0 hc1 hc2 hc3 hc4 hc5 hin hdl hby hops hkeep hz
        go_wp2_with fail
        clear o0 o1 o2 o3 o4 o5
        generalize hwo : wr.alloc (.cells #[.int .i64 kind, .int .i64 at_, .int .i64 f, .int .i64 t, .bool is, .slice qd dat.length cd] 55) = wo at *
        clear hwo
        have HN := Lib.hid (HW.out.nn.below HZ.out)
        have HM := Lib.hid (HW.out.mn.below HZ.out)
        have HBX := Lib.hid (HW.out.box.below HZ.out HW.out.box.lt)
        have HRS := Lib.hid (HW.out.res.below HZ.out HW.out.res.lt)
        have HMK := Lib.hid (HW.out.marks.below HZ.out)
        have HLW := Lib.hid (HW.out.low.trans (HZ.out.mono HW.out.low.size))
        have HS := Lib.hid (show ∀ s ∈ nS (N + 1) N p ++ mS M q R, w.heap.size ≤ s from fun s hs => by
          rcases List.mem_append.1 hs with h | h
          · exact HW.out.sn s h
          · exact HW.out.sm s h)
        have hnot : ∀ x T cs, Blk wo x T cs → T ≠ 70 → T ≠ 37 → T ≠ 60 → T ≠ 62 → T ≠ 4 → (nS (N + 1) N p ++ mS M q R).contains x = false := fun x T cs hx h1 h2 h3 h4 h5 => by
          rw [Bool.eq_false_iff]
          intro hc
          rcases List.mem_append.1 (List.contains_iff_mem.1 hc) with hc | hc
          · obtain ⟨⟨cn, tn⟩, tp, hne⟩ := HN.out.ty
            rcases mem_nS.1 hc with e | e | e
            · exact Blk.ne_ hx tn h1 e
            · exact hne _ _ _ hx e.symm
            · obtain ⟨cs', hcs⟩ := tp x e
              exact Blk.ne_ hx hcs h2 rfl
          · obtain ⟨T', cs', hb, hT⟩ := HM.out.ty x hc
            refine Blk.ne_ hx hb ?_ rfl
            rcases hT with rfl | rfl | rfl
            · exact h3
            · exact h4
            · exact h5
        have HGM := Lib.hid (hnot gm _ _ HBX.out (by decide) (by decide) (by decide) (by decide) (by decide))
        have HGO := Lib.hid (hnot wr.heap.size _ _ HOB.out (by decide) (by decide) (by decide) (by decide) (by decide))
        have HG0 := Lib.hid (show (nS (N + 1) N p ++ mS M q R).contains g0 = false from by
          rw [Bool.eq_false_iff]
          intro hc
          rcases List.mem_append.1 (List.contains_iff_mem.1 hc) with hc | hc
          · obtain ⟨⟨cn, tn⟩, tp, hne⟩ := HN.out.ty
            rcases mem_nS.1 hc with e | e | e
            · exact Blk.ne_ HRS.out tn (by decide) e
            · exact hne _ _ _ HRS.out e.symm
            · obtain ⟨cs', hcs⟩ := tp g0 e
              exact Blk.ne_ HRS.out hcs (by decide) rfl
          · rcases mem_mS.1 hc with e | e | e
            · obtain ⟨_, _, _, hb, _⟩ := HM.out.ex
              exact Blk.ne_ HRS.out hb (by decide) e
            · exact HW.out.resB.2 e
            · obtain ⟨vL, vC, hvp, _, hoL, _⟩ := HM.out.ex
              rcases hoL.2 with ⟨h0, _⟩ | ⟨g9, cap, cur, h0, _, hh, _⟩
              · rw [h0] at hvp
                rw [← hvp] at e
                cases e
              · rw [h0] at hvp
                rw [← hvp] at e
                cases e
                exact Blk.ne_ HRS.out (show Blk wo _ 62 cur from hh) (by decide) rfl)
        obtain ⟨sx, hsx⟩ : ∃ sx, sx = stepN st kind at_ f t is dat := ⟨_, rfl⟩
        have HSX := Lib.hid hsx
        have HOX := Lib.hid (show OkN st sx from hsx ▸ stepN_ok HW.out.ok kind at_ f t is dat)
        clear hsx hnot
        refine wp_phiU (rNet 3 (nS (N + 1) N p ++ mS M q R)) (fun w' => Below w.heap.size w w' ∧ But (nS (N + 1) N p ++ mS M q R) wo w' ∧ Blk w' gm 52 #[.pointer (some ⟨M, 0, none⟩)] ∧ Blk w' wr.heap.size 55 #[.int .i64 kind, .int .i64 at_, .int .i64 f, .int .i64 t, .bool is, .slice qd dat.length cd])
          [(3, PFactE (.bool true) (fun w' => ∃ p' q', Nx wo p p' ∧ Nx wo q q' ∧ Nn w' (N + 1) N p' (c + 1) sx ∧ Mn w' M q' R sx)), (7, PVal (.int .i64 (sx.ls.length : Int))), (11, PLen sx.ls.length), (17, PVal (.int .i64 sx.lost)), (21, PVal (.int .i64 sx.lost))]
          [(7, [3]), (11, [3]), (17, [3]), (21, [3])] [(3, fun w' => Nn w' (N + 1) N p c st ∧ Mn w' M q R st)] [] (by kernel_rfl) (by kernel_rfl) ?_ ?_ ?_ ?_ ⟨HLW.out.drew, But.of_below (Below.refl _ _).drew, HBX.out.below (Below.refl _ _).drew HBX.out.lt, HOB.out.below (Below.refl _ _).drew HOB.out.lt⟩ ?_
        · rintro p1 hp1 w2' w3' ⟨g1, g2, g3, g4⟩ hR
          have hR := rNet_but hR
          exact ⟨g1.trans (hR.below HS.out g1.size), g2.trans hR, hR.blk g3 HGM.out, hR.blk g4 HGO.out⟩
        · intro p1 hp p' hp' hne hks hns w2' w3' v hI hR hf
          simp only [List.mem_cons, List.not_mem_nil, or_false] at hp hp'
          rcases hp with rfl | rfl | rfl | rfl | rfl
          · have hR := rNet_o (show p'.1 ≠ 3 from hne) ▸ hR
            obtain ⟨p', q', h1, h2, h3, h4⟩ := hf
            exact ⟨p', q', h1, h2, h3.below hR, h4.below hR⟩
          all_goals trivial
        · intro p1 hp u hu hne w2' w3' hI hR hf
          simp only [List.mem_cons, List.not_mem_nil, or_false] at hu
          subst hu
          rw [rNet_o (fun e => hne e.symm)] at hR
          exact ⟨hf.1.below hR, hf.2.below hR⟩
        · intro u hu
          simp only [List.mem_cons, List.not_mem_nil, or_false] at hu
          subst hu
          exact ⟨HN.out.below (Below.refl _ _).drew, HM.out.below (Below.refl _ _).drew⟩
        repeat (first | (refine phiU_skipK rfl (fun K hK => ?_); simp only [Act.put, List.setIfInBounds_toArray, List.set_cons_succ, List.set_cons_zero]; (try simp only [List.cons_append]); (try simp only [List.nil_append]); apply hK; clear hK K) | (refine phiU_pureK rfl rfl (fun K hK => ?_); apply Exists.intro; constructor; (focus (rintro w' ⟨g1, g2, g3, g4⟩; have q0 := (g3.cell 0).trans rfl; have r0 := (g4.cell 0).trans rfl; have r1 := (g4.cell 1).trans rfl; have r2 := (g4.cell 2).trans rfl; have r3 := (g4.cell 3).trans rfl; have r4 := (g4.cell 4).trans rfl; have r5 := (g4.cell 5).trans rfl; clear g1 g2 g3 g4; first | (go_simp; done) | (go_simp; (try go_bits); (try go_simp); rfl) | go_simp)); simp only [Act.put, List.setIfInBounds_toArray, List.set_cons_succ, List.set_cons_zero]; (try simp only [List.cons_append]); (try simp only [List.nil_append]); apply hK; clear hK K))
        refine phiU_partK (PFactE (.bool true) (fun w' => ∃ p' q', Nx wo p p' ∧ Nx wo q q' ∧ Nn w' (N + 1) N p' (c + 1) sx ∧ Mn w' M q' R sx)) rfl rfl ⟨_, rfl⟩ ?_ (fun K hK v hv => ?_)
        · rintro w' ⟨g1, g2, g3, g4⟩ hf hu
          obtain ⟨hn, hm⟩ : Nn w' (N + 1) N p c st ∧ Mn w' M q R st := hu (3, fun w' => Nn w' (N + 1) N p c st ∧ Mn w' M q R st) (by simp) rfl
          have HST := Lib.hid (step_any w w' E (N + 1) N M p q R c st (.slice qd dat.length cd) dat kind at_ f t is HIN.out.1 HIN.out.2
            { errs := HE.out, low := g1, sn := HW.out.sn, sm := HW.out.sm, nn := hn, mn := hm, ok := HW.out.ok, lost := (by have := HW.out.lost; have := HEL.out.1; omega), cc := (by have := HW.out.cc; have := HEL.out.1; unfold maxLen; omega), byt := HBY.out, dl := (by have := HDL.out; omega) })
          rw [← HSX.out] at HST
          have HS2 := Lib.hid g2.size
          unfold gives
          clear hf hu hn hm g1 g2 g3 g4
          go_simp
          refine HST.out.mono ?_
          rintro e w'' ⟨rfl, ⟨p', q', _, h1, h2, h3, h4⟩, k2⟩
          exact ⟨_, rfl, rfl, ⟨p', h1.lower HS2.out, q', h2.lower HS2.out, h3, h4⟩, by rw [rNet_at]; exact k2⟩
        obtain rfl : v = _ := hv
        simp only [Act.put, List.setIfInBounds_toArray, List.set_cons_succ, List.set_cons_zero]; (try simp only [List.cons_append]); (try simp only [List.nil_append])
        apply hK
        clear hK K
        repeat (first | (refine phiU_skipK rfl (fun K hK => ?_); simp only [Act.put, List.setIfInBounds_toArray, List.set_cons_succ, List.set_cons_zero]; (try simp only [List.cons_append]); (try simp only [List.nil_append]); apply hK; clear hK K) | (refine phiU_pureK rfl rfl (fun K hK => ?_); apply Exists.intro; constructor; (focus (rintro w' ⟨g1, g2, g3, g4⟩; have q0 := (g3.cell 0).trans rfl; clear g1 g2 g3 g4; first | (go_simp; done) | (go_simp; (try go_bits); (try go_simp); rfl) | go_simp)); simp only [Act.put, List.setIfInBounds_toArray, List.set_cons_succ, List.set_cons_zero]; (try simp only [List.cons_append]); (try simp only [List.nil_append]); apply hK; clear hK K))
        refine phiU_partK (PVal (.int .i64 (sx.ls.length : Int))) rfl rfl ⟨_, rfl⟩ ?_ (fun K hK v hv => ?_)
        · rintro w' ⟨g1, g2, g3, g4⟩ hf hu
          obtain ⟨p', q', _, _, hn, hm⟩ : ∃ p' q', Nx wo p p' ∧ Nx wo q q' ∧ Nn w' (N + 1) N p' (c + 1) sx ∧ Mn w' M q' R sx := hf (3, fun ww => (PFactE (.bool true) (fun w' => ∃ p' q', Nx wo p p' ∧ Nx wo q q' ∧ Nn w' (N + 1) N p' (c + 1) sx ∧ Mn w' M q' R sx)).fact ww (.bool true)) (by simp) (List.contains_iff_mem.1 rfl) rfl
          have HLN := Lib.hid (len_any w' _ _ _ _ _ hn)
          unfold gives
          clear hf hu hn hm g1 g2 g3 g4
          go_simp
          refine HLN.out.mono ?_
          rintro e w'' ⟨rfl, rfl⟩
          exact ⟨_, rfl, rfl, trivial, by rw [rNet_o (by decide)]; exact Below.refl _ _⟩
        obtain rfl : v = _ := hv
        simp only [Act.put, List.setIfInBounds_toArray, List.set_cons_succ, List.set_cons_zero]; (try simp only [List.cons_append]); (try simp only [List.nil_append])
        apply hK
        clear hK K
        repeat (first | (refine phiU_skipK rfl (fun K hK => ?_); simp only [Act.put, List.setIfInBounds_toArray, List.set_cons_succ, List.set_cons_zero]; (try simp only [List.cons_append]); (try simp only [List.nil_append]); apply hK; clear hK K) | (refine phiU_pureK rfl rfl (fun K hK => ?_); apply Exists.intro; constructor; (focus (rintro w' ⟨g1, g2, g3, g4⟩; have q0 := (g3.cell 0).trans rfl; clear g1 g2 g3 g4; first | (go_simp; done) | (go_simp; (try go_bits); (try go_simp); rfl) | go_simp)); simp only [Act.put, List.setIfInBounds_toArray, List.set_cons_succ, List.set_cons_zero]; (try simp only [List.cons_append]); (try simp only [List.nil_append]); apply hK; clear hK K))
        refine phiU_partK (PLen sx.ls.length) rfl rfl ⟨_, none, 0, rfl⟩ ?_ (fun K hK v hv => ?_)
        · rintro w' ⟨g1, g2, g3, g4⟩ hf hu
          obtain ⟨p', q', _, _, hn, hm⟩ : ∃ p' q', Nx wo p p' ∧ Nx wo q q' ∧ Nn w' (N + 1) N p' (c + 1) sx ∧ Mn w' M q' R sx := hf (3, fun ww => (PFactE (.bool true) (fun w' => ∃ p' q', Nx wo p p' ∧ Nx wo q q' ∧ Nn w' (N + 1) N p' (c + 1) sx ∧ Mn w' M q' R sx)).fact ww (.bool true)) (by simp) (List.contains_iff_mem.1 rfl) rfl
          obtain ⟨vL, vC, _, hbm, hoL, _⟩ := hm.ex
          obtain ⟨pL, cL, rfl, _⟩ := owns_rd hoL
          have m1 := (hbm.cell 1).trans rfl
          unfold gives
          clear hf hu hn hm g1 g2 g3 g4 hbm hoL
          go_simp
          exact ⟨⟨pL, cL, rfl⟩, trivial, by rw [rNet_o (by decide)]; exact Below.refl _ _⟩
        obtain ⟨pL, cL, rfl⟩ := hv
        simp only [Act.put, List.setIfInBounds_toArray, List.set_cons_succ, List.set_cons_zero]; (try simp only [List.cons_append]); (try simp only [List.nil_append])
        apply hK
        clear hK K
        repeat (first | (refine phiU_skipK rfl (fun K hK => ?_); simp only [Act.put, List.setIfInBounds_toArray, List.set_cons_succ, List.set_cons_zero]; (try simp only [List.cons_append]); (try simp only [List.nil_append]); apply hK; clear hK K) | (refine phiU_pureK rfl rfl (fun K hK => ?_); apply Exists.intro; constructor; (focus (rintro w' ⟨g1, g2, g3, g4⟩; have q0 := (g3.cell 0).trans rfl; clear g1 g2 g3 g4; first | (go_simp; done) | (go_simp; (try go_bits); (try go_simp); rfl) | go_simp)); simp only [Act.put, List.setIfInBounds_toArray, List.set_cons_succ, List.set_cons_zero]; (try simp only [List.cons_append]); (try simp only [List.nil_append]); apply hK; clear hK K))
        refine phiU_partK (PVal (.int .i64 sx.lost)) rfl rfl ⟨_, rfl⟩ ?_ (fun K hK v hv => ?_)
        · rintro w' ⟨g1, g2, g3, g4⟩ hf hu
          obtain ⟨p', q', _, _, hn, hm⟩ : ∃ p' q', Nx wo p p' ∧ Nx wo q q' ∧ Nn w' (N + 1) N p' (c + 1) sx ∧ Mn w' M q' R sx := hf (3, fun ww => (PFactE (.bool true) (fun w' => ∃ p' q', Nx wo p p' ∧ Nx wo q q' ∧ Nn w' (N + 1) N p' (c + 1) sx ∧ Mn w' M q' R sx)).fact ww (.bool true)) (by simp) (List.contains_iff_mem.1 rfl) rfl
          have HLN := Lib.hid (lost_any w' _ _ _ _ _ hn)
          unfold gives
          clear hf hu hn hm g1 g2 g3 g4
          go_simp
          refine HLN.out.mono ?_
          rintro e w'' ⟨rfl, rfl⟩
          exact ⟨_, rfl, rfl, trivial, by rw [rNet_o (by decide)]; exact Below.refl _ _⟩
        obtain rfl : v = _ := hv
        simp only [Act.put, List.setIfInBounds_toArray, List.set_cons_succ, List.set_cons_zero]; (try simp only [List.cons_append]); (try simp only [List.nil_append])
        apply hK
        clear hK K
        repeat (first | (refine phiU_skipK rfl (fun K hK => ?_); simp only [Act.put, List.setIfInBounds_toArray, List.set_cons_succ, List.set_cons_zero]; (try simp only [List.cons_append]); (try simp only [List.nil_append]); apply hK; clear hK K) | (refine phiU_pureK rfl rfl (fun K hK => ?_); apply Exists.intro; constructor; (focus (rintro w' ⟨g1, g2, g3, g4⟩; have q0 := (g3.cell 0).trans rfl; clear g1 g2 g3 g4; first | (go_simp; done) | (go_simp; (try go_bits); (try go_simp); rfl) | go_simp)); simp only [Act.put, List.setIfInBounds_toArray, List.set_cons_succ, List.set_cons_zero]; (try simp only [List.cons_append]); (try simp only [List.nil_append]); apply hK; clear hK K))
        refine phiU_partK (PVal (.int .i64 sx.lost)) rfl rfl ⟨_, rfl⟩ ?_ (fun K hK v hv => ?_)
        · rintro w' ⟨g1, g2, g3, g4⟩ hf hu
          obtain ⟨p', q', _, _, hn, hm⟩ : ∃ p' q', Nx wo p p' ∧ Nx wo q q' ∧ Nn w' (N + 1) N p' (c + 1) sx ∧ Mn w' M q' R sx := hf (3, fun ww => (PFactE (.bool true) (fun w' => ∃ p' q', Nx wo p p' ∧ Nx wo q q' ∧ Nn w' (N + 1) N p' (c + 1) sx ∧ Mn w' M q' R sx)).fact ww (.bool true)) (by simp) (List.contains_iff_mem.1 rfl) rfl
          obtain ⟨vL, vC, _, hbm, _, _⟩ := hm.ex
          have m3 := (hbm.cell 3).trans rfl
          unfold gives
          clear hf hu hn hm g1 g2 g3 g4 hbm
          go_simp
          exact ⟨rfl, trivial, by rw [rNet_o (by decide)]; exact Below.refl _ _⟩
        obtain rfl : v = _ := hv
        simp only [Act.put, List.setIfInBounds_toArray, List.set_cons_succ, List.set_cons_zero]; (try simp only [List.cons_append]); (try simp only [List.nil_append])
        apply hK
        clear hK K
        repeat (first | (refine phiU_skipK rfl (fun K hK => ?_); simp only [Act.put, List.setIfInBounds_toArray, List.set_cons_succ, List.set_cons_zero]; (try simp only [List.cons_append]); (try simp only [List.nil_append]); apply hK; clear hK K) | (refine phiU_pureK rfl rfl (fun K hK => ?_); apply Exists.intro; constructor; (focus (rintro w' ⟨g1, g2, g3, g4⟩; have q0 := (g3.cell 0).trans rfl; clear g1 g2 g3 g4; first | (go_simp; done) | (go_simp; (try go_bits); (try go_simp); rfl) | go_simp)); simp only [Act.put, List.setIfInBounds_toArray, List.set_cons_succ, List.set_cons_zero]; (try simp only [List.cons_append]); (try simp only [List.nil_append]); apply hK; clear hK K))
        refine phiU_done ?_
        rintro w9 ⟨g1, g2, g3, g4⟩ hf
        obtain ⟨p9, q9, hp9, hq9, hn9, hm9⟩ : ∃ p' q', Nx wo p p' ∧ Nx wo q q' ∧ Nn w9 (N + 1) N p' (c + 1) sx ∧ Mn w9 M q' R sx := hf (3, fun ww => (PFactE (.bool true) (fun w' => ∃ p' q', Nx wo p p' ∧ Nx wo q q' ∧ Nn w' (N + 1) N p' (c + 1) sx ∧ Mn w' M q' R sx)).fact ww (.bool true)) (by simp) rfl
        have HP9 := Lib.hid (show PlayW w N M g0 gm R (k + 1) p9 q9 (c + 1) sx Ds w9 from
          { nn := hn9
            mn := hm9
            ok := HOX.out.1
            lost := by have := HOX.out.2.1; have := HW.out.lost; omega
            cc := by have := HW.out.cc; omega
            sn := fun x hx => by
              rcases mem_nS.1 hx with h | h | h
              · exact HW.out.sn x (mem_nS.2 (.inl h))
              · exact HW.out.sn x (mem_nS.2 (.inr (.inl h)))
              · rcases hp9 with e | e
                · exact HW.out.sn x (mem_nS.2 (.inr (.inr (e ▸ h))))
                · exact Nat.le_trans HLW.out.size (e x h)
            sm := fun x hx => by
              rcases mem_mS.1 hx with h | h | h
              · exact HW.out.sm x (mem_mS.2 (.inl h))
              · exact HW.out.sm x (mem_mS.2 (.inr (.inl h)))
              · rcases hq9 with e | e
                · exact HW.out.sm x (mem_mS.2 (.inr (.inr (e ▸ h))))
                · exact Nat.le_trans HLW.out.size (e x h)
            res := g2.blk HRS.out HG0.out
            resB := HW.out.resB
            box := g3
            marks := HMK.out.but g2 (HMK.out.nets HN.out HM.out)
            low := g1 })
        have HO9 := Lib.hid g4
        clear g1 g2 g3 g4 hf hp9 hq9 hn9 hm9
        refine wpList_nil ?_
        clear HN HM HBX HRS HMK HLW HS HGM HGO HG0 HZ HOB HW
        have HL64 := Lib.hid HP9.out.ok
        go_wp2_with fail
        refine (letters_any w9 (N + 1) N p9 (c + 1) sx HP9.out.nn (by have := HL64.out.len; omega) HL64.out.dat).mono ?_
        rintro e w10 ⟨⟨v, xs, rfl, hx, hL⟩, hb10⟩
        have hxl : xs.length = sx.ls.length := by
          have := congrArg List.length hx
          rwa [List.length_map] at this
        obtain ⟨pv, cv, hv, _⟩ := owns_rd hL.own
        have HX := Lib.hid hx
        have HLF := Lib.hid hL
        have HB10 := Lib.hid hb10
        have HXL := Lib.hid hxl
        have HVV := Lib.hid hv
        rw [hv, hxl]
        clear hx hL hb10 hxl hv
        obtain ⟨vL, vC, hvp, hbm, hoL, hoC⟩ := HP9.out.mn.ex
        obtain ⟨pL2, cL2, rfl, _, _, hrL⟩ := owns_rd hoL
        obtain ⟨pC, cC, rfl, _, _, hrC⟩ := owns_rd hoC
        have HBM := Lib.hid hbm
        have HRL := Lib.hid hrL
        clear hvp hbm hoL hoC hrL hrC
        have hl64 := HL64.out.len
        go_wp2_with fail
        generalize wr.heap.size = go at *
        obtain ⟨wro, hwro⟩ : ∃ x, x = wr := ⟨_, rfl⟩
        clear hwro
        go_loopw [80] (fun i wr => ∃ j : Nat, j ≤ sx.ls.length ∧ i = .int .i64 j ∧ L2 w9 v xs j wr) (fun i _ => sx.ls.length - (intOf i).toNat)
        case atStart => exact ⟨0, by omega, rfl, HB10.out, HLF.out.own, HLF.out.dat, HLF.out.apart⟩
        case round =>
          obtain ⟨j, hj, rfl, hl2⟩ := hrel
          have HL2 := Lib.hid hl2
          clear hl2
          by_cases hlt2 : j < sx.ls.length
          · have hxk : sx.ls[j]? = some sx.ls[j] := List.getElem?_eq_getElem hlt2
            obtain ⟨g3, c3, hv3⟩ := owns_some HL2.out.own (by rw [HXL.out]; omega)
            have hv4 := HVV.out.symm.trans hv3
            obtain ⟨rfl, rfl⟩ : pv = some ⟨g3, 0, none⟩ ∧ cv = c3 := by simpa using hv4
            have hown := HL2.out.own
            rw [hv3] at hown
            obtain ⟨hjx, hxj, a0, a1, a2⟩ := row_at hown HX.out hxk
            have hdj := HL2.out.dat xs[j] (by rw [List.drop_eq_getElem_cons hjx]; exact List.mem_cons_self)
            rw [hxj] at hdj
            have hdl := HL64.out.dat _ (List.mem_of_getElem? hxk)
            have HNX := Lib.hid (fun w1 w2 (h : L2 w9 v xs j w1) (k : But xs[j].2.ownBlock.toList w1 w2) => h.next hjx k)
            have HXK := Lib.hid hxk
            generalize xs[j].2 = u at *
            generalize sx.ls[j] = x at *
            obtain ⟨f', t', d⟩ := x
            simp only at a0 a1 a2 hdj hdl
            obtain ⟨pu, cu, rfl, _⟩ := owns_rd hdj
            have hz := below_alloc1 wr (.cells #[.int .i64 f', .int .i64 t', .slice pu d.length cu] 37)
            have HZ := Lib.hid hz
            have HLB := Lib.hid (Blk.new wr 37 #[.int .i64 f', .int .i64 t', .slice pu d.length cu])
            have HDJ := Lib.hid (owns_below hdj hz)
            have HPW := Lib.hid ((HP9.out.below HL2.out.low).below hz)
            have HBMz := Lib.hid ((HBM.out.below HL2.out.low HBM.out.lt).below hz (HBM.out.below HL2.out.low HBM.out.lt).lt)
            have HRLz := Lib.hid ((HRL.out.below HL2.out.low).below hz)
            obtain ⟨gL, offL, rfl, _⟩ := HRL.out.has (by intro e; have := congrArg List.length e; rw [cel_len, toS_len, List.length_nil] at this; omega)
            clear hv3 hv4 hown hdj hz hxj hxk hjx
            go_wp2_with fail
            generalize wr.alloc (.cells #[.int .i64 f', .int .i64 t', .slice pu d.length cu] 37) = wz at *
            clear a0 a1 a2
            have hbb : Below wz.heap.size wz wz := Below.refl _ _
            refine wp_phi (fun w' => (Blk w' wr.heap.size 37 #[.int .i64 f', .int .i64 t', .slice pu d.length cu]) ∧ (Blk w' gm 52 #[.pointer (some ⟨M, 0, none⟩)]) ∧ (Blk w' M 60 #[.int .i64 sx.nodes, .slice (some ⟨gL, offL, none⟩) sx.ls.length cL2, .slice pC R.length cC, .int .i64 sx.lost]) ∧ (Rd w' (some ⟨gL, offL, none⟩) (cel (toS sx.ls))) ∧ (Byt w' (.slice pu d.length cu) d) ∧ Below wz.heap.size wz w') [(1, PVal (.agg #[.int .i64 f', .int .i64 t', .string (bs d)]))] [] (by kernel_rfl) (by kernel_rfl) ?_ ?_ ⟨HLB.out, HPW.out.box, HBMz.out, HRLz.out, (owns_byt HDJ.out), (hbb).drew⟩ ?_
            · rintro w1' w2' ⟨gl, gb, gM, gr, gy, hIB⟩ hb
              exact ⟨(by first | exact gl.below hb | exact gl.keep (Below.keeps hb) | exact Below.keeps hb _ _ gl | exact Blk.below gl hb (Blk.lt gl)), (by first | exact gb.below hb | exact gb.keep (Below.keeps hb) | exact Below.keeps hb _ _ gb | exact Blk.below gb hb (Blk.lt gb)), (by first | exact gM.below hb | exact gM.keep (Below.keeps hb) | exact Below.keeps hb _ _ gM | exact Blk.below gM hb (Blk.lt gM)), (by first | exact gr.below hb | exact gr.keep (Below.keeps hb) | exact Below.keeps hb _ _ gr | exact Blk.below gr hb (Blk.lt gr)), (by first | exact gy.below hb | exact gy.keep (Below.keeps hb) | exact Below.keeps hb _ _ gy | exact Blk.below gy hb (Blk.lt gy)), hIB.trans (hb.mono hIB.size)⟩
            · simp only [List.mem_cons, List.not_mem_nil, or_false, forall_eq_or_imp, forall_eq]
              exact fun _ _ _ _ h' h => PVal_stays _ _ _ _ h' h
            repeat (first | (refine phi_skipK rfl (fun K hK => ?_); simp only [Act.put, List.setIfInBounds_toArray, List.set_cons_succ, List.set_cons_zero]; (try simp only [List.cons_append]); (try simp only [List.nil_append]); apply hK; clear hK K) | (refine phi_pureK rfl rfl (fun K hK => ?_); apply Exists.intro; constructor; (focus (rintro w' ⟨gl, gb, gM, gr, gy, hIB⟩; have q0 := (gl.cell 0).trans rfl; have q1 := (gl.cell 1).trans rfl; have q2 := (gl.cell 2).trans rfl; have b0 := (gb.cell 0).trans rfl; have m1 := (gM.cell 1).trans rfl; obtain ⟨r0, r1, r2⟩ := cells12 gr HXK.out; clear gl gb gM gr gy hIB; first | (go_simp; done) | (go_simp; (try go_bits); (try go_simp); rfl) | go_simp)); simp only [Act.put, List.setIfInBounds_toArray, List.set_cons_succ, List.set_cons_zero]; (try simp only [List.cons_append]); (try simp only [List.nil_append]); apply hK; clear hK K))
            refine phi_partK (PVal (.agg #[.int .i64 f', .int .i64 t', .string (bs d)])) rfl rfl ⟨_, rfl⟩ ?_ (fun K hK v hv => ?_)
            · rintro w' ⟨gl, gb, gM, gr, gy, hIB⟩ hf
              unfold gives
              clear hf
              go_simp
              refine (told_any12 w' f' t' _ d gy).mono ?_
              rintro e w'' ⟨rfl, hb⟩
              exact ⟨_, rfl, rfl, trivial, hb⟩
            obtain rfl : v = _ := hv
            simp only [Act.put, List.setIfInBounds_toArray, List.set_cons_succ, List.set_cons_zero]; (try simp only [List.cons_append]); (try simp only [List.nil_append])
            apply hK
            clear hK K
            repeat (first | (refine phi_skipK rfl (fun K hK => ?_); simp only [Act.put, List.setIfInBounds_toArray, List.set_cons_succ, List.set_cons_zero]; (try simp only [List.cons_append]); (try simp only [List.nil_append]); apply hK; clear hK K) | (refine phi_pureK rfl rfl (fun K hK => ?_); apply Exists.intro; constructor; (focus (rintro w' ⟨gl, gb, gM, gr, gy, hIB⟩; have q0 := (gl.cell 0).trans rfl; have q1 := (gl.cell 1).trans rfl; have q2 := (gl.cell 2).trans rfl; have b0 := (gb.cell 0).trans rfl; have m1 := (gM.cell 1).trans rfl; obtain ⟨r0, r1, r2⟩ := cells12 gr HXK.out; clear gl gb gM gr gy hIB; first | (go_simp; done) | (go_simp; (try go_bits); (try go_simp); rfl) | go_simp)); simp only [Act.put, List.setIfInBounds_toArray, List.set_cons_succ, List.set_cons_zero]; (try simp only [List.cons_append]); (try simp only [List.nil_append]); apply hK; clear hK K))
            refine phi_done ?_
            rintro w12 ⟨gl, gb, gM, gr, gy, hb12⟩ _
            refine wpList_nil ?_
            have HL12 := Lib.hid ((HL2.out.below HZ.out).below hb12)
            have HD12 := Lib.hid (owns_below HDJ.out hb12)
            have HLB12 := Lib.hid gl
            have l2 := (gl.cell 2).trans rfl
            clear gl gb gM gr gy hb12 hbb HZ HLB HDJ HPW HBMz HRLz
            go_wp2_with fail
            clear l2
            generalize wr.heap.size = gl at *
            obtain ⟨wrp, hwrp⟩ : ∃ x, x = wr := ⟨_, rfl⟩
            clear hwrp
            go_loopw [98] (fun i wr => ∃ m : Nat, m ≤ d.length ∧ i = .int .i64 m ∧ Mut wr (.slice pu d.length cu) d.length ∧ But (Value.slice pu d.length cu).ownBlock.toList w12 wr) (fun i _ => d.length - (intOf i).toNat)
            case atStart => exact ⟨0, by omega, rfl, Mut.of_own HD12.out, but_refl _ _⟩
            case round =>
              obtain ⟨m, hm, rfl, hmu, hbr⟩ := hrel
              have HBR := Lib.hid hbr
              clear hbr
              by_cases hlt3 : m < d.length
              · rcases hmu with h0 | ⟨g', c', cs, he, hcs, hby⟩
                · omega
                · obtain ⟨rfl, rfl⟩ : pu = some ⟨g', 0, none⟩ ∧ cu = c' := by simpa using he
                  obtain ⟨y, hy⟩ := hby m hlt3
                  have hLB := HBR.out.blk HLB12.out (by
                    rcases HD12.out.2 with ⟨h0, _⟩ | ⟨g9, cap, cur, h0, _, hh, _⟩
                    · cases h0
                    · cases h0
                      have := Blk.ne_ HLB12.out (show Blk w12 g' _ cur from hh) (by decide)
                      simpa [Value.ownBlock] using this)
                  have l2 := (hLB.cell 2).trans rfl
                  have z0 := (hcs.cell m).trans hy
                  have f0 := hcs.frozen m
                  have HCS := Lib.hid hcs
                  have HYY := Lib.hid hby
                  clear hcs hby hy hLB
                  go_wp2_with fail
                  go_roundw
                  case rel => exact ⟨m + 1, hlt3, by go_num, Mut.set_ HCS.out HYY.out m _, HBR.out.set_ g' m _ (by simp [Value.ownBlock])⟩
                  case measure => simp [intOf]; omega
              · have HLN2 := Lib.hid (HNX.out w12 wr HL12.out HBR.out)
                go_wp2_with fail
                go_roundw
                case rel => exact ⟨j + 1, hlt2, by go_num, HLN2.out⟩
                case measure => simp [intOf]; omega
          · have HPW := Lib.hid (HP9.out.below HL2.out.low)
            have HOBw := Lib.hid (HO9.out.below HL2.out.low HO9.out.lt)
            obtain rfl : j = sx.ls.length := by omega
            clear HL2 HLF HB10 HXL HVV HBM HRL HX HO9 HP9 hj hlt2
            have hz := below_alloc1 wr (.cells #[.int .i64 (-1)] 3)
            have HLA := Lib.hid (Blk.new wr 3 #[.int .i64 (-1)])
            have HOB2 := Lib.hid (HOBw.out.below hz HOBw.out.lt)
            have o3 := (HOB2.out.cell 3).trans rfl
            have HA13 := Lib.hid hz
            clear hz
            go_wp2_with fail
            clear o3
            obtain ⟨bl, hbl⟩ : ∃ bl, bl = wr.heap.size := ⟨_, rfl⟩
            rw [← hbl] at HLA ⊢
            have HBL := Lib.hid hbl
            clear hbl
            generalize hw13 : wr.alloc (.cells #[.int .i64 (-1)] 3) = w13 at *
            clear hw13
            refine (to_any w13 (N + 1) t).mono ?_
            rintro e w14 ⟨rfl, hw14⟩
            have hb14 : Below w13.heap.size w13 w14 := by rw [hw14]; exact below_alloc (below_alloc1 _ _) _
            have HX1 := Lib.hid (show Blk w14 w13.heap.size 26 #[.pointer (some ⟨N + 1, 0, none⟩)] from by rw [hw14]; exact (Blk.new _ _ _).alloc _)
            have HX2 := Lib.hid (show Blk w14 (w13.heap.size + 1) 3 #[.int .i64 t] from by
              rw [hw14]
              have h := Blk.new (w13.alloc (.cells #[.pointer (some ⟨N + 1, 0, none⟩)] 26)) 3 #[.int .i64 t]
              rw [World.size_alloc] at h
              exact h)
            have HA14 := Lib.hid (HA13.out.trans (hb14.mono HA13.out.size))
            have HLA14 := Lib.hid (HLA.out.below hb14 HLA.out.lt)
            have HOB14 := Lib.hid (HOB2.out.below hb14 HOB2.out.lt)
            have HLA0 := HLA
            clear hb14 hw14 HLA HOB2 HA13
            have HBB := Lib.hid (show bl < w13.heap.size from HLA0.out.lt)
            generalize w13.heap.size = b1 at *
            go_wp2_with fail
            have hlw : wr.heap.size ≤ w14.heap.size := HA14.out.size
            refine (wpIn_wide (n := 5)).1 ?_
            refine wpIn_rangeL rfl (by omega) (gf := 36) (lb := #[.pointer (some ⟨b1, 0, none⟩), .pointer (some ⟨b1 + 1, 0, none⟩)]) rfl trivial (enters_of Tryd.func36 (by kernel_rfl) rfl)
              (JT wr bl b1 (N + 1) t sx.ls) (KnT sx.ls t) (cntT sx.ls t sx.ls.length) (fun k W W' h k' => h.sees hlw k') ?h0 (BdT bl gm go t sx.ls) (fun k args a' A W W' h k' => h.sees k') ?hps ?hiter ?hassign ?hbody ?hdone
            case h0 => exact ⟨HA14.out, ⟨-1, HLA14.out, by omega, by omega, rfl⟩, HX1.out, HX2.out⟩
            case hps =>
              rintro k args A W ⟨i, x, u, h1, h2, h3, rfl, h5⟩
              rfl
            case hiter =>
              intro l W J' hbW hJ1 hJ2 hY h0
              exact to1_in Fence.wide FreeF.wide rfl _ l b1 (b1 + 1) w14.heap.size wr (N + 1) N p9 (c + 1) sx HPW.out.nn (by omega) HPW.out.ok.dat t J' (fun k A h => ⟨(hJ2 k A h).low, ((hJ2 k A h).box1.cell 0).trans rfl, ((hJ2 k A h).box2.cell 0).trans rfl⟩) hJ1 hY W hbW.size h0
            case hassign =>
              rintro l k args A W K ⟨i, x, u, h1, h2, h3, rfl, h5⟩ hjA hAW hK
              obtain ⟨pu, cu, rfl, _⟩ := owns_rd h5
              gi_wp2
              have hnb := below_alloc1 W (.cells #[.int .i64 x.1, .int .i64 x.2.1, .slice pu x.2.2.length cu] 37)
              refine hK _ _ hnb ?_
              exact ⟨i, x, _, W.heap.size, h1, h2, h3, rfl, rfl, rfl, rfl, rfl, rfl, rfl, Blk.new _ _ _, owns_below h5 hnb⟩
            case hbody =>
              rintro l kj args ⟨tm, df⟩ A W hkj hjA hs ⟨i, x, u, g5, h1, h2, h3, hsz, h7, h9, h13, h14, h15, hdf, hb5, ho5⟩
              simp only at hsz h7 h9 h13 h14 h15 hdf
              subst hdf
              obtain ⟨g', rfl, hgd⟩ := tmps_lit tm hsz
              have e7 := (hgd 7).trans h7
              have e9 := (hgd 9).trans h9
              have e13 := (hgd 13).trans h13
              have e14 := (hgd 14).trans h14
              have e15 := (hgd 15).trans h15
              clear h7 h9 h13 h14 h15 hgd hsz
              rw [e7, e9, e13, e14, e15]
              clear e7 e9 e13 e14 e15
              have hj := hjA.sees hlw hs
              obtain ⟨hlow, ⟨z, hlb, hlo⟩, hbx1, hbx2⟩ := hj
              obtain ⟨f', t', d⟩ := x
              simp only at h2 hb5 ho5
              have htt : t = t' := by
                have h9 : t' = t := by simpa using h2
                exact h9.symm
              subst htt
              obtain ⟨pu, cu, rfl, _⟩ := owns_rd ho5
              have HPB := Lib.hid (HPW.out.below hlow)
              obtain ⟨vL, vC, _, hbm, hoL, _⟩ := HPB.out.mn.ex
              obtain ⟨pL3, cL3, rfl, _, _, hrL⟩ := owns_rd hoL
              have hii := (List.getElem?_eq_some_iff.1 h1).1
              obtain ⟨gL, offL, rfl, _⟩ := hrL.has (by intro e; have := congrArg List.length e; rw [cel_len, toS_len, List.length_nil] at this; omega)
              have HLO := Lib.hid hlo
              have hzi : z < (i : Int) := by
                obtain ⟨z1, z2, z3⟩ := hlo
                by_cases hzi : (i : Int) ≤ z
                · have m1 := cntT_mono (ls := sx.ls) (node := t) (show i + 1 ≤ (z + 1).toNat by omega)
                  have m2 := cntT_succ (node := t) h1
                  rw [if_pos h2] at m2
                  omega
                · omega
              have dz : decide ((i : Int) ≤ z) = false := by rw [decide_eq_false_iff_not]; omega
              have HX1 := Lib.hid h1
              have HCN := Lib.hid h3
              have HLB := Lib.hid hlb
              have HB5 := Lib.hid hb5
              have HO5 := Lib.hid (owns_byt ho5)
              have HBM := Lib.hid hbm
              have HRL := Lib.hid hrL
              have HBQ := Lib.hid (And.intro hbx1 hbx2)
              have HLW := Lib.hid hlow
              have HOB := Lib.hid (HOBw.out.below hlow HOBw.out.lt)
              clear hs hjA hb5 ho5 hlb hbx1 hbx2 hlow hbm hoL hrL hlo h3
              gi_wp2
              refine wp_phiU_tail_in (FreeF.wide.inRound l) _ [] (List.append_nil _).symm (fun _ w w' => Below w.heap.size w w')
                (fun w' => Blk w' g5 37 #[.int .i64 f', .int .i64 t, .slice pu d.length cu] ∧ Blk w' gm 52 #[.pointer (some ⟨M, 0, none⟩)] ∧ Blk w' M 60 #[.int .i64 sx.nodes, .slice (some ⟨gL, offL, none⟩) sx.ls.length cL3, vC, .int .i64 sx.lost] ∧ Rd w' (some ⟨gL, offL, none⟩) (cel (toS sx.ls)) ∧ Blk w' bl 3 #[.int .i64 z] ∧ Blk w' go 55 #[.int .i64 kind, .int .i64 at_, .int .i64 f, .int .i64 t, .bool is, .slice qd dat.length cd] ∧ Byt w' (.slice pu d.length cu) d ∧ Below W.heap.size W w')
                [(5, PVal (.agg #[.int .i64 f', .int .i64 t, .string (bs d)]))] [] [] [] (by kernel_rfl) (by kernel_rfl) (by kernel_rfl) ?_ ?_ ?_ ?_
                ⟨HB5.out.below (Below.refl _ _).drew HB5.out.lt, HPB.out.box.below (Below.refl _ _).drew HPB.out.box.lt, HBM.out.below (Below.refl _ _).drew HBM.out.lt, HRL.out.below (Below.refl _ _).drew, HLB.out.below (Below.refl _ _).drew HLB.out.lt, HOB.out.below (Below.refl _ _).drew HOB.out.lt, HO5.out.below (Below.refl _ _).drew, (Below.refl _ _).drew⟩ ?_
              · rintro p1 hp1 w1' w2' ⟨r1, r2, r3, r4, r5, r6, r7, r8⟩ hR
                exact ⟨r1.below hR r1.lt, r2.below hR r2.lt, r3.below hR r3.lt, r4.below hR, r5.below hR r5.lt, r6.below hR r6.lt, r7.below hR, r8.trans (hR.mono r8.size)⟩
              · intro p1 hp p' hp' hne hks hns w1' w2' v hI hR hf
                simp only [List.mem_cons, List.not_mem_nil, or_false] at hp
                subst hp
                trivial
              · intro p1 hp u hu
                cases hu
              · intro u hu
                cases hu
              repeat (first | (refine phiU_skipK rfl (fun K hK => ?_); simp only [Act.put, List.setIfInBounds_toArray, List.set_cons_succ, List.set_cons_zero]; (try simp only [List.cons_append]); (try simp only [List.nil_append]); apply hK; clear hK K) | (refine phiU_pureK rfl rfl (fun K hK => ?_); apply Exists.intro; constructor; (focus (rintro w' ⟨r1, r2, r3, r4, r5, r6, r7, r8⟩; have a0 := (r1.cell 0).trans rfl; have a1 := (r1.cell 1).trans rfl; have a2 := (r1.cell 2).trans rfl; have b0 := (r2.cell 0).trans rfl; have m1 := (r3.cell 1).trans rfl; obtain ⟨l0, l1, l2⟩ := cells12 r4 HX1.out; have z0 := (r5.cell 0).trans rfl; have o3 := (r6.cell 3).trans rfl; clear r1 r2 r3 r4 r5 r6 r7 r8; first | (go_simp; done) | (go_simp; (try go_bits); (try go_simp); rfl) | go_simp)); simp only [Act.put, List.setIfInBounds_toArray, List.set_cons_succ, List.set_cons_zero]; (try simp only [List.cons_append]); (try simp only [List.nil_append]); apply hK; clear hK K))
              refine phiU_partK (PVal (.agg #[.int .i64 f', .int .i64 t, .string (bs d)])) rfl rfl ⟨_, rfl⟩ ?_ (fun K hK v hv => ?_)
              · rintro w' ⟨r1, r2, r3, r4, r5, r6, r7, r8⟩ hf hu
                have HTO := Lib.hid (told_any12 w' f' t _ d r7)
                unfold gives
                clear hf hu r1 r2 r3 r4 r5 r6 r7 r8
                go_simp
                refine HTO.out.mono ?_
                rintro e w'' ⟨rfl, hb⟩
                exact ⟨_, rfl, rfl, trivial, hb⟩
              obtain rfl : v = _ := hv
              simp only [Act.put, List.setIfInBounds_toArray, List.set_cons_succ, List.set_cons_zero]; (try simp only [List.cons_append]); (try simp only [List.nil_append])
              apply hK
              clear hK K
              repeat (first | (refine phiU_skipK rfl (fun K hK => ?_); simp only [Act.put, List.setIfInBounds_toArray, List.set_cons_succ, List.set_cons_zero]; (try simp only [List.cons_append]); (try simp only [List.nil_append]); apply hK; clear hK K) | (refine phiU_pureK rfl rfl (fun K hK => ?_); apply Exists.intro; constructor; (focus (rintro w' ⟨r1, r2, r3, r4, r5, r6, r7, r8⟩; have a0 := (r1.cell 0).trans rfl; have a1 := (r1.cell 1).trans rfl; have a2 := (r1.cell 2).trans rfl; have b0 := (r2.cell 0).trans rfl; have m1 := (r3.cell 1).trans rfl; obtain ⟨l0, l1, l2⟩ := cells12 r4 HX1.out; have z0 := (r5.cell 0).trans rfl; have o3 := (r6.cell 3).trans rfl; clear r1 r2 r3 r4 r5 r6 r7 r8; first | (go_simp; done) | (go_simp; (try go_bits); (try go_simp); rfl) | go_simp)); simp only [Act.put, List.setIfInBounds_toArray, List.set_cons_succ, List.set_cons_zero]; (try simp only [List.cons_append]); (try simp only [List.nil_append]); apply hK; clear hK K))
              refine phiU_done ?_
              rintro W9 ⟨r1, r2, r3, r4, r5, r6, r7, r8⟩ hf
              clear hf
              have HR8 := Lib.hid r8
              have HR5 := Lib.hid r5
              have HQ9 := Lib.hid (And.intro (HBQ.out.1.below r8 HBQ.out.1.lt) (HBQ.out.2.below r8 HBQ.out.2.lt))
              have HL9 := Lib.hid (HLW.out.trans (r8.mono HLW.out.size))
              have z0 := (r5.cell 0).trans rfl
              have f0 := r5.frozen 0
              clear r1 r2 r3 r4 r5 r6 r7 r8
              refine inQ_nil ?_
              gi_wp2
              have k9 : But [bl] W9 (W9.setCell ⟨bl, 0, none⟩ (.int .i64 (i : Int))) := (but_refl _ _).set_ _ 0 _ (by simp)
              have hne1 : b1 ≠ bl := Blk.ne_ HQ9.out.1 HR5.out (by decide)
              have hblw : bl < w14.heap.size := HLA14.out.lt
              refine ⟨?_, ?_, ?_⟩
              · exact ((KeepsOthers.of_grownBy (row := none) ⟨HR8.out.os, HR8.out.tape, HR8.out.output, HR8.out.size, fun k hk _ => HR8.out.block k hk⟩ (fun j o h => by cases h)).trans (KeepsOthers.setCell W9 ⟨bl, 0, none⟩ (.int .i64 (i : Int)))).from _
              · refine ⟨HL9.out.setCell (p := ⟨bl, 0, none⟩) (by rw [HBL.out]; exact Nat.le_refl _) _, ⟨(i : Int), HR5.out.set_ 0 _, by omega, by omega, ?_⟩, k9.blk HQ9.out.1 (by simpa using hne1), k9.blk HQ9.out.2 (by have := HBB.out; simp; omega)⟩
                have hc := cntT_succ (node := t) HX1.out
                rw [if_pos h2, HCN.out] at hc
                rw [show ((i : Int) + 1).toNat = i + 1 by omega]
                exact hc
              · intro x T cs hx hb
                exact (hb.below HR8.out hb.lt).far (by omega) 0 _
            case hdone =>
              intro D W hD hj hW
              obtain ⟨hlow, ⟨z, hlb, hlo⟩, _, _⟩ := hj
              have HPF := Lib.hid (HPW.out.below hlow)
              have HMD := Lib.hid (show MarksOk w.heap.size W (D :: Ds) from by
                refine ⟨List.nodup_cons.2 ⟨fun hm => ?_, HPF.out.marks.nd⟩, fun D' hD' => ?_⟩
                · have := HPW.out.marks.lt hm
                  omega
                · rcases List.mem_cons.1 hD' with rfl | h
                  · exact ⟨by have := HPW.out.low.size; omega, hW⟩
                  · exact HPF.out.marks.at_ D' h)
              have HPG := Lib.hid (show PlayW w N M g0 gm R (k + 1) p9 q9 (c + 1) sx (D :: Ds) W from
                { nn := HPF.out.nn, mn := HPF.out.mn, ok := HPF.out.ok, lost := HPF.out.lost, cc := HPF.out.cc, sn := HPF.out.sn, sm := HPF.out.sm, res := HPF.out.res, resB := HPF.out.resB, box := HPF.out.box, marks := HMD.out, low := HPF.out.low })
              have HOB := Lib.hid (HOBw.out.below hlow HOBw.out.lt)
              obtain ⟨vL, vC, _, hbm, hoL, _⟩ := HPG.out.mn.ex
              obtain ⟨pL3, cL3, rfl, _, _, hrL⟩ := owns_rd hoL
              have HBM := Lib.hid hbm
              have HRL := Lib.hid hrL
              obtain ⟨y0, hy0⟩ : ∃ y0 : Nat, z = (y0 : Int) - 1 := ⟨(z + 1).toNat, by have := hlo.1; omega⟩
              subst hy0
              have HLO := Lib.hid (show y0 ≤ sx.ls.length ∧ cntT sx.ls t y0 = cntT sx.ls t sx.ls.length from by
                obtain ⟨z1, z2, z3⟩ := hlo
                refine ⟨by omega, ?_⟩
                rw [show ((y0 : Int) - 1 + 1).toNat = y0 by omega] at z3
                exact z3)
              have z0 := (hlb.cell 0).trans rfl
              have hy64 : y0 ≤ 64 := by have := HLO.out.1; omega
              clear hlow hlb hlo hbm hoL hrL hW HPF HMD
              go_wp2_with fail
              clear z0
              go_loopw [16] (fun i wr => ∃ y : Nat, y0 ≤ y ∧ y ≤ sx.ls.length ∧ i = .int .i64 (y : Int) ∧ Below W.heap.size W wr) (fun i _ => sx.ls.length - (intOf i).toNat)
              case atStart => exact ⟨y0, Nat.le_refl _, HLO.out.1, rfl, Below.refl _ _⟩
              case round =>
                obtain ⟨y, hy0, hy, rfl, hbr⟩ := hrel
                have HBR := Lib.hid hbr
                have b0 := ((HPG.out.box.below hbr HPG.out.box.lt).cell 0).trans rfl
                have m1 := ((HBM.out.below hbr HBM.out.lt).cell 1).trans rfl
                clear hbr
                by_cases hlt4 : y < sx.ls.length
                · have hxk : sx.ls[y]? = some sx.ls[y] := List.getElem?_eq_getElem hlt4
                  have hno : (sx.ls[y].2.1 == t) = false := by
                    cases hm : (sx.ls[y].2.1 == t) with
                    | false => rfl
                    | true =>
                      have h1 := cntT_lt hxk hm
                      have h2 := cntT_mono (ls := sx.ls) (node := t) hy0
                      have h3 := HLO.out.2
                      omega
                  obtain ⟨gL, offL, rfl, _⟩ := HRL.out.has (by intro e; have := congrArg List.length e; rw [cel_len, toS_len, List.length_nil] at this; omega)
                  have HXK := Lib.hid hxk
                  generalize sx.ls[y] = x at *
                  obtain ⟨f', t', d⟩ := x
                  simp only at hno
                  have HNO := Lib.hid hno
                  clear hxk
                  go_wp2_with fail
                  clear b0 m1
                  have hbb : Below wr.heap.size wr wr := Below.refl _ _
                  refine wp_phi (fun w' => (Blk w' gm 52 #[.pointer (some ⟨M, 0, none⟩)]) ∧ (Blk w' M 60 #[.int .i64 sx.nodes, .slice (some ⟨gL, offL, none⟩) sx.ls.length cL3, vC, .int .i64 sx.lost]) ∧ (Rd w' (some ⟨gL, offL, none⟩) (cel (toS sx.ls))) ∧ (Blk w' go 55 #[.int .i64 kind, .int .i64 at_, .int .i64 f, .int .i64 t, .bool is, .slice qd dat.length cd]) ∧ Below wr.heap.size wr w') [] [] (by kernel_rfl) (by kernel_rfl) ?_ ?_ ⟨(HPG.out.box.below HBR.out.drew HPG.out.box.lt), (HBM.out.below HBR.out.drew HBM.out.lt), (HRL.out.below HBR.out.drew), (HOB.out.below HBR.out.drew HOB.out.lt), (hbb).drew⟩ ?_
                  · rintro w1' w2' ⟨gb, gM, gr, go_, hIB⟩ hb
                    exact ⟨(by first | exact gb.below hb | exact gb.keep (Below.keeps hb) | exact Below.keeps hb _ _ gb | exact Blk.below gb hb (Blk.lt gb)), (by first | exact gM.below hb | exact gM.keep (Below.keeps hb) | exact Below.keeps hb _ _ gM | exact Blk.below gM hb (Blk.lt gM)), (by first | exact gr.below hb | exact gr.keep (Below.keeps hb) | exact Below.keeps hb _ _ gr | exact Blk.below gr hb (Blk.lt gr)), (by first | exact go_.below hb | exact go_.keep (Below.keeps hb) | exact Below.keeps hb _ _ go_ | exact Blk.below go_ hb (Blk.lt go_)), hIB.trans (hb.mono hIB.size)⟩
                  · intro p hp; cases hp
                  repeat (first | (refine phi_skipK rfl (fun K hK => ?_); simp only [Act.put, List.setIfInBounds_toArray, List.set_cons_succ, List.set_cons_zero]; (try simp only [List.cons_append]); (try simp only [List.nil_append]); apply hK; clear hK K) | (refine phi_pureK rfl rfl (fun K hK => ?_); apply Exists.intro; constructor; (focus (rintro w' ⟨gb, gM, gr, go_, hIB⟩; have b0 := (gb.cell 0).trans rfl; have m1 := (gM.cell 1).trans rfl; obtain ⟨r0, r1, r2⟩ := cells12 gr HXK.out; have o3 := (go_.cell 3).trans rfl; clear gb gM gr go_ hIB; first | (go_simp; done) | (go_simp; (try go_bits); (try go_simp); rfl) | go_simp)); simp only [Act.put, List.setIfInBounds_toArray, List.set_cons_succ, List.set_cons_zero]; (try simp only [List.cons_append]); (try simp only [List.nil_append]); apply hK; clear hK K))
                  refine phi_done ?_
                  rintro w16 ⟨gb, gM, gr, go_, hb16⟩ _
                  refine wpList_nil ?_
                  clear gb gM gr go_
                  have HB16 := Lib.hid (HBR.out.trans (hb16.mono HBR.out.size))
                  clear hb16 hbb
                  go_wp2_with fail
                  go_roundw
                  case rel => exact ⟨y + 1, by omega, hlt4, by go_num, HB16.out⟩
                  case measure => simp [intOf]; omega
                · obtain rfl : y = sx.ls.length := by omega
                  have HPH := Lib.hid (HPG.out.below HBR.out)
                  have hko := HEL.out.1
                  clear hlt4 hy
                  go_wp2_with fail
                  refine ⟨⟨k + 1, p9, q9, c + 1, sx, D :: Ds, hlt, rfl, rfl, rfl, rfl, rfl, rfl, ?_, rfl, HPH.out⟩, ?_⟩
                  · show Value.int .i64 ((k : Int) + 1) = Value.int .i64 ((k + 1 : Nat) : Int)
                    go_num
                  · show os.length - (intOf (Value.int .i64 ((k : Int) + 1))).toNat < os.length - (intOf (Value.int .i64 (k : Int))).toNat
                    simp [intOf]
                    omega
      · obtain rfl : k = os.length := by omega
        have z0 := (HW.out.res.cell 0).trans rfl
        have f0 := HW.out.res.frozen 0
        go_wp2_with fail
        have HMK := Lib.hid (HW.out.marks.but (w' := wr.setCell ⟨g0, 0, none⟩ (.bool true)) ((but_refl [g0] _).set_ g0 0 (.bool true) (by simp)) (fun D hD => by
          have h9 := HW.out.marks.not_blk hD HW.out.res
          have h10 : D ≠ g0 := fun e => h9 e.symm
          simpa using h10))
        have HRB := Lib.hid (HW.out.res.set_ 0 (.bool true))
        have HRW := Lib.hid (HW.out.low.setCell (p := ⟨g0, 0, none⟩) HW.out.resB.1 (.bool true))
        refine leaves_marks (B := w.heap.size) Ds _ HMK.out fun w' hs => ?_
        have hz := ((hs.blk HRB.out).cell 0).trans rfl
        exact ⟨.bool true, by simp [results, Tryd.results6, go_sem, hz], rfl, hs.below (Nat.le_refl _) HRW.out HRW.out.size⟩
  · have HNB := Lib.hid (nnew_bad w3 E ((HE.out.below HK3.out).on [0, 2, 5] rfl) K hK)
    have d : (decide (K < 1) = true) ∨ (decide (K < 1) = false ∧ decide (4 < K) = true) := by
      simp only [decide_eq_true_eq, decide_eq_false_iff_not]; omega
    rcases d with d1 | ⟨d1, d2⟩
    all_goals
      go_wp2_with fail
      refine HNB.out.mono ?_
      rintro e w4 ⟨rfl, hb4⟩
      have HK4 := Lib.hid (HK3.out.trans (hb4.mono HK3.out.size))
      have HG4 := Lib.hid (HG3.out.below hb4 HG3.out.lt)
      have HNU := Lib.hid (num_any w4 E 1 (by omega) (HE.out.below HK4.out))
      rw [show errV E 1 = errAt (E 0) from rfl] at HNU
      clear hb4
      unfold errAt at *
      go_wp2_with fail
      refine HNU.out.mono ?_
      rintro e w5 ⟨rfl, hb5⟩
      have HK5 := Lib.hid (HK4.out.trans (hb5.mono HK4.out.size))
      have HG5 := Lib.hid (HG4.out.below hb5 HG4.out.lt)
      have z5 := (HG5.out.cell 0).trans rfl
      have f5 := HG5.out.frozen 0
      clear hb5
      go_wp2_with fail
      have HRB := Lib.hid (HG5.out.set_ 0 (.bool true))
      have HRW := Lib.hid (HK5.out.setCell (p := ⟨w.heap.size, 0, none⟩) (Nat.le_refl _) (.bool true))
      refine leaves_marks (B := w.heap.size) [] _ ⟨List.nodup_nil, nofun⟩ fun w' hs => ?_
      have hz := ((hs.blk HRB.out).cell 0).trans rfl
      exact ⟨.bool true, by simp [results, Tryd.results6, go_sem, hz], rfl, hs.below (Nat.le_refl _) HRW.out HRW.out.size⟩
end Go.Proofs.YtbbhecadpbnobaaDoor
