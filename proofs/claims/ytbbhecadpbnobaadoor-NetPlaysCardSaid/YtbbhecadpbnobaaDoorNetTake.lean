/-
  NetTake: the walk of a net's Take.
-/
import Derived.Test.YtbbhecadpbnobaaDoorNetPut
import Derived.Test.YtbbhecadpbnobaaDoorNR
namespace Go.Proofs.YtbbhecadpbnobaaDoor
open Go.RowKit

def NSt.there (st : NSt) (i : Int) : Bool := decide (0 ≤ i) && decide (i < (st.ls.length : Int))
def NSt.cutOut (st : NSt) (i : Nat) : NSt := ⟨st.nodes, st.ls.eraseIdx i, st.cuts, st.lost⟩
theorem Nn.row {w : World} {n b : Nat} {p : Option Nat} {c : Nat} {st : NSt} (h : Nn w n b p c st) (hpos : st.ls ≠ []) :
    ∃ g cap cur xs, p = some g ∧ xs.map (·.1) = st.ls ∧ Blk w n 70 #[.int .i64 st.nodes, .slice (some ⟨g, 0, none⟩) xs.length cap, .map (some b), .int .i64 st.lost] ∧ Blk w g 37 cur ∧ xs.length ≤ cap ∧ cap ≤ maxLen ∧ cur.size = cap * 3 ∧ cur.toList.take (xs.length * 3) = cel xs ∧ ∀ x ∈ xs, w.ownsRow 0 5 1 x.2 x.1.2.2.length (bvs x.1.2.2) := by
  obtain ⟨⟨v, xs, hp, hm, hb, ho, hel⟩, _⟩ := h
  rcases ho.2 with ⟨_, h1⟩ | ⟨g, cap, cur, rfl, _, hh, h3, h4, h5, h6⟩
  · exfalso
    apply hpos
    rw [← hm, List.length_eq_zero_iff.1 h1]
    rfl
  · exact ⟨g, cap, cur, xs, hp.symm, hm, hb, hh, h3, h4, h5, h6, hel⟩
theorem own_but {w w' : World} {base size m g : Nat} {e T : TypeId} {u : Value} {ys : List Value} {cs : Array Value} (ho : w.ownsRow base e size u m ys) (k : But [g] w w') (hb : Blk w g T cs) (hT : e ≠ T) : w'.ownsRow base e size u m ys :=
  k.owns2 (fun q hq => by
    rcases ho.2 with ⟨h0, _⟩ | ⟨g9, cap9, cur9, h0, _, hh, _⟩
    · rw [h0] at hq; cases hq
    · rw [h0] at hq
      cases hq
      have := Blk.ne_ (show Blk w _ _ cur9 from hh) hb hT
      simpa using this) ho
/-- another letter's block -/
theorem Nn.beside {w w' : World} {n b g : Nat} {p : Option Nat} {c : Nat} {st : NSt} {cs : Array Value} (h : Nn w n b p c st) (k : But [g] w w') (hb : Blk w g 37 cs) (hp : p ≠ some g) : Nn w' n b p c st := by
  obtain ⟨_, _, _, _, hne⟩ := h.types
  obtain ⟨⟨v, xs, h1, h2, h3, h4, h5⟩, h6⟩ := h
  refine ⟨⟨v, xs, h1, h2, k.blk h3 (by have := Blk.ne_ h3 hb (by decide); simpa using this), k.owns2 (fun q hq => ?_) h4, fun x hx => own_but (h5 x hx) k hb (by decide)⟩, h6.but k (by have := hne _ _ _ hb; simpa using this)⟩
  have : q ≠ g := by
    rintro rfl
    exact hp (h1.symm.trans hq)
  simpa using this
theorem But.after {S : List Nat} {w w1 w2 : World} {g : Nat} (h : But S w w1) (k : But [g] w1 w2) (hg : w.heap.size ≤ g) : But S w w2 :=
  ⟨k.os.trans h.os, k.tape.trans h.tape, k.output.trans h.output, Nat.le_trans h.size k.size, fun j hj hn => (k.block j (Nat.lt_of_lt_of_le hj h.size) (by
    have : j ≠ g := by omega
    simpa using this)).trans (h.block j hj hn)⟩
/-- what is taken: the letter x, its data the taker's own -/
def TookN (n b : Nat) (p : Option Nat) (c : Nat) (st : NSt) (x : Lt) (w : World) (e : Ending) (w' : World) : Prop :=
  (∃ u, e = .returned (.tuple #[.agg #[.int .i64 x.1, .int .i64 x.2.1, u], .nilIface]) ∧ w'.ownsRow 0 5 1 u x.2.2.length (bvs x.2.2)) ∧ (∃ p', Nx w p p' ∧ Nn w' n b p' c st) ∧ But (nS n b p) w w'
set_option maxRecDepth 20000 in
set_option maxHeartbeats 400000 in
theorem ntake_any (w : World) (n b : Nat) (p : Option Nat) (c : Nat) (st : NSt) (h : Nn w n b p c st) (i : Nat) (x : Lt) (hx : st.ls[i]? = some x) (hle : st.ls.length ≤ 1000) :
    Calls Tryd.prog 11 #[.pointer (some ⟨n, 0, none⟩), .int .i64 i] w (TookN n b p c (st.cutOut i) x w) := by
  have hi := (List.getElem?_eq_some_iff.1 hx).1
  obtain ⟨g, cap, cur, xs, rfl, hm, hb, hg, hc1, hc2, hc3, hc4, hel⟩ := h.row (by rintro e; rw [e] at hi; simp at hi)
  have hl : xs.length = st.ls.length := by rw [← hm, List.length_map]
  have hix : i < xs.length := by omega
  obtain ⟨y0, y1, y2⟩ := cel_get xs i hix
  have hx1 : xs[i].1 = x := by
    rw [← hm, List.getElem?_map, List.getElem?_eq_getElem hix] at hx
    simpa using hx
  have hrd : ∀ j u, j < xs.length * 3 → (cel xs)[j]? = some u → cur[j]? = some u := fun j u hj hu => by
    rw [← hc4, List.getElem?_take, if_pos hj, Array.getElem?_toList] at hu
    exact hu
  have z0 := hrd _ _ (by omega) y0
  have z1 := hrd _ _ (by omega) y1
  have z2 := hrd _ _ (by omega) y2
  have hux := hel xs[i] (List.getElem_mem hix)
  rw [hx1] at z0 z1 hux
  obtain ⟨u, hu⟩ : ∃ u, xs[i].2 = u := ⟨_, rfl⟩
  rw [hu] at z2 hux
  obtain ⟨qu, ku, hqu, _⟩ := owns_rd hux
  have hb1 := below_alloc1 w (.cells #[.int .i64 0, .int .i64 0, .slice none 0 0] 37)
  have hn1 := h.below hb1
  have H1 := Lib.hid (there_any _ n b (some g) c st hn1 i)
  have d1 : (decide ((0 : Int) ≤ (i : Int)) && decide ((i : Int) < (st.ls.length : Int))) = true := by simp [hi]
  rw [d1] at H1
  have a0 := ((hg.below hb1 hg.lt).cell (i * 3)).trans z0
  have a1 := ((hg.below hb1 hg.lt).cell (i * 3 + 1)).trans z1
  have a2 := ((hg.below hb1 hg.lt).cell (i * 3 + 2)).trans z2
  rw [hqu] at a2
  have k1 := ((hb.below hb1 hb.lt).cell 1).trans rfl
  have HIX := Lib.hid (show i < xs.length from hix)
  have HHL := Lib.hid hl
  have HX := Lib.hid hux
  have HM := Lib.hid hm
  have HXS := Lib.hid hel
  have HG := Lib.hid (And.intro hc4 hc3)
  have HBN := Lib.hid hb
  have HBG := Lib.hid hg
  have HN := Lib.hid h
  have HN1 := Lib.hid hn1
  have HB1 := Lib.hid hb1
  have HHQ := Lib.hid hqu
  clear h hm hb hg hc3 hc4 hel y0 y1 y2 hrd z0 z1 z2 hqu hb1 hn1 d1 hl hi hx hx1 hux hu hix
  go_enter Tryd.func11, Tryd.ntmps11
  have hz := below_alloc HB1.out (.cells #[.int .i64 x.1, .int .i64 x.2.1, .slice qu x.2.2.length ku] 37)
  have hs1 : (w.alloc (.cells #[.int .i64 0, .int .i64 0, .slice none 0 0] 37)).heap.size = w.heap.size + 1 := by simp
  have hbz := Blk.new (w.alloc (.cells #[.int .i64 0, .int .i64 0, .slice none 0 0] 37)) 37 #[.int .i64 x.1, .int .i64 x.2.1, .slice qu x.2.2.length ku]
  rw [hs1] at hbz
  have hbo := (Blk.new w 37 #[.int .i64 0, .int .i64 0, .slice none 0 0]).below (below_alloc1 _ (.cells #[.int .i64 x.1, .int .i64 x.2.1, .slice qu x.2.2.length ku] 37)) (by simp)
  have k1z := ((HBN.out.below hz HBN.out.lt).cell 1).trans rfl
  have HBZ := Lib.hid hbz
  have HBO := Lib.hid hbo
  have HZ := Lib.hid hz
  clear hz hs1 hbz hbo
  go_wp2_with fail
  refine H1.out.mono ?_
  rintro e w1 ⟨rfl, rfl⟩
  go_wp2_with fail
  generalize (w.alloc (.cells #[.int .i64 0, .int .i64 0, .slice none 0 0] 37)).alloc (.cells #[.int .i64 x.1, .int .i64 x.2.1, .slice qu x.2.2.length ku] 37) = wz at *
  obtain ⟨k, hk⟩ : ∃ k, k = i + 1 := ⟨_, rfl⟩
  have hw : wrap64 ((i : Int) + 1) = (k : Int) := by
    have := HIX.out
    have := HHL.out
    unfold wrap64
    omega
  rw [hw]
  refine (del_any wz g xs.length cap i k hk cur (HBG.out.below HZ.out HBG.out.lt) hc1 hc2 HG.out.2 HIX.out (by rw [HG.out.1]; exact cel_one xs HXS.out)).mono ?_
  rintro e w5 ⟨rfl, ⟨cur5, hg5, hs5, hc5⟩, k5⟩
  have hlt := HBG.out.lt
  have HK5 := Lib.hid ((But.of_below HZ.out : But [g] w wz).trans k5)
  have hb5 := k5.blk (HBN.out.below HZ.out HBN.out.lt) (by
    have := Blk.ne_ HBN.out HBG.out (by decide)
    simpa using this)
  have ho5 := k5.blk HBO.out (by simp; omega)
  have hz5 := k5.blk HBZ.out (by simp; omega)
  have hlen : (xs.eraseIdx i).length = xs.length - 1 := by rw [List.length_eraseIdx, if_pos HIX.out]
  have hux5 := Lib.hid (own_but (own_but (owns_below HX.out HZ.out) k5 (HBG.out.below HZ.out HBG.out.lt) (by decide)) ((but_refl [n] w5).set_ n 1 (.slice (some ⟨g, 0, none⟩) (xs.length - 1) cap) (by simp)) hb5 (by decide))
  have hel5 : ∀ y ∈ xs, w5.ownsRow 0 5 1 y.2 y.1.2.2.length (bvs y.1.2.2) := fun y hy => k5.owns2 (fun q hq => by
    have ho := owns_below (HXS.out y hy) HZ.out
    rcases ho.2 with ⟨h0, _⟩ | ⟨g9, cap9, cur9, h0, _, hh, _⟩
    · rw [h0] at hq; cases hq
    · rw [h0] at hq
      cases hq
      have := Blk.ne_ (show Blk wz _ _ cur9 from hh) (HBG.out.below HZ.out HBG.out.lt) (by decide)
      simpa using this) (owns_below (HXS.out y hy) HZ.out)
  have hlu : LetU w5 (.slice (some ⟨g, 0, none⟩) (xs.length - 1) cap) (xs.eraseIdx i) := by
    refine ⟨⟨by rw [cel_len], .inr ⟨g, cap, cur5, by rw [hlen], Nat.zero_le _, hg5, by omega, hc2, hs5, ?_⟩⟩, fun y hy => hel5 y (List.mem_of_mem_eraseIdx hy)⟩
    rw [hlen, hc5, HG.out.1, cel_cut xs i HIX.out]
  have hst := HN.out.stored (by simpa using HK5.out) hlu (.inl rfl) (st.ls.eraseIdx i) (by rw [← HM.out]; simp only [List.eraseIdx_eq_take_drop_succ, List.map_append, List.map_take, List.map_drop])
  have HST := Lib.hid hst
  have hu5 := Lib.hid (hst.1)
  have q1 := (hb5.cell 1).trans rfl
  have r1 := hb5.frozen 1
  have HO5 := Lib.hid ho5
  have HZ5 := Lib.hid hz5
  have HLT := Lib.hid (show n ≠ w.heap.size ∧ n ≠ w.heap.size + 1 ∧ n < w.heap.size from by
    have := HBN.out.lt
    omega)
  have k6 : But [n] w5 (w5.setCell ⟨n, 1, none⟩ (.slice (some ⟨g, 0, none⟩) (xs.length - 1) cap)) := (but_refl _ _).set_ n 1 _ (by simp)
  have ho6 := k6.blk ho5 (by have := HLT.out; simp; omega)
  have hz6 := k6.blk hz5 (by have := HLT.out; simp; omega)
  have u0 := (hz6.cell 0).trans rfl
  have u1 := (hz6.cell 1).trans rfl
  have u2 := (hz6.cell 2).trans rfl
  have v0 := (ho6.cell 0).trans rfl
  have v1 := (ho6.cell 1).trans rfl
  have v2 := (ho6.cell 2).trans rfl
  have w0 := ho6.frozen 0
  have w1 := ho6.frozen 1
  have w2 := ho6.frozen 2
  have HO6 := Lib.hid ho6
  clear hb5 ho5 hz5 hlen hel5 hlu hst k6 ho6 hz6 hw hg5 hs5 hc5 k5
  go_wp2_with fail
  have hz8 := ((HO6.out.set_ 0 (.int .i64 x.1)).set_ 1 (.int .i64 x.2.1)).set_ 2 (.slice qu x.2.2.length ku)
  have k8 : But [w.heap.size] (w5.setCell ⟨n, 1, none⟩ (.slice (some ⟨g, 0, none⟩) (xs.length - 1) cap)) ((((w5.setCell ⟨n, 1, none⟩ (.slice (some ⟨g, 0, none⟩) (xs.length - 1) cap)).setCell ⟨w.heap.size, 0, none⟩ (.int .i64 x.1)).setCell ⟨w.heap.size, 1, none⟩ (.int .i64 x.2.1)).setCell ⟨w.heap.size, 2, none⟩ (.slice qu x.2.2.length ku)) :=
    (((but_refl [w.heap.size] _).set_ _ 0 _ (by simp)).set_ _ 1 _ (by simp)).set_ _ 2 _ (by simp)
  have hn8 := HST.out.1.beside k8 HO6.out (by intro e; have h9 := HBG.out.lt; have e9 : g = w.heap.size := Option.some.inj e; omega)
  have hu8 := own_but hux5.out k8 HO6.out (by decide)
  have hk8 : But (nS n b (some g)) w _ := HST.out.2.after k8 (Nat.le_refl _)
  have s0 := (hz8.cell 0).trans rfl
  have s1 := (hz8.cell 1).trans rfl
  have s2 := (hz8.cell 2).trans rfl
  generalize (((w5.setCell ⟨n, 1, none⟩ (.slice (some ⟨g, 0, none⟩) (xs.length - 1) cap)).setCell ⟨w.heap.size, 0, none⟩ (.int .i64 x.1)).setCell ⟨w.heap.size, 1, none⟩ (.int .i64 x.2.1)).setCell ⟨w.heap.size, 2, none⟩ (.slice qu x.2.2.length ku) = w8 at *
  refine bodyPost_ret (v := .tuple #[.agg #[.int .i64 x.1, .int .i64 x.2.1, .slice qu x.2.2.length ku], .nilIface]) (by simp [results, Tryd.results11, go_sem, s0, s1, s2]) rfl ?_
  exact ⟨⟨_, rfl, by rw [← HHQ.out]; exact hu8⟩, ⟨_, .inl rfl, hn8⟩, hk8⟩
end Go.Proofs.YtbbhecadpbnobaaDoor
