/-
  NetE: a net's each: its letters, apart, handed over one by one.
-/
import Derived.Test.YtbbhecadpbnobaaDoorNetK
import Derived.Test.YtbbhecadpbnobaaDoorNB
import Derived.Shelf.Abstract
import Derived.OwnWalkIn
import Derived.TacticsInMore
import Derived.LoopNIn
import Derived.LoopIn
import Derived.IntWalk
namespace Go.Proofs.YtbbhecadpbnobaaDoor
open Go.RowKit
attribute [local go_sem] Oper.semAt_some

/-- what is handed over in the k-th round -/
def KnL (ls : List Lt) (k : Nat) (args : Array Value) (A W : World) : Prop :=
  ∃ (x : Lt) (u : Value), ls[k]? = some x ∧ args = #[.agg #[.int .i64 x.1, .int .i64 x.2.1, u]] ∧ W.ownsRow A.heap.size 5 1 u x.2.2.length (bvs x.2.2)
theorem run_mkF {P : Program} (fn : Fn) (first cap : Array Value) (w : World) : (Instr.makeFunc fn first cap).run P w = .ok (.func fn first cap) w := rfl
theorem each_any (w : World) (n : Nat) :
    Calls Tryd.prog 28 #[.pointer (some ⟨n, 0, none⟩)] w fun e w' => e = .returned (.func (.func 40) #[] #[.pointer (some ⟨w.heap.size, 0, none⟩)]) ∧ w' = w.alloc (.cells #[.pointer (some ⟨n, 0, none⟩)] 26) := by
  have hmf := @run_mkF Tryd.prog
  go_enter Tryd.func28, Tryd.ntmps28
  go_wp2_with fail
  go_ret
  exact ⟨rfl, rfl⟩
set_option maxRecDepth 20000 in
set_option maxHeartbeats 4000000 in
theorem each1_in (F : Fence) (hF : FreeF F) (hro : F.round = none) (m l gb : Nat) (w : World) (n b : Nat) (p : Option Nat) (c : Nat) (st : NSt) (h : Nn w n b p c st) (hle : st.ls.length ≤ 1000) (hel : ∀ x ∈ st.ls, x.2.2.length ≤ 1000) (J : Nat → World → Prop)
    (hG : ∀ k A, J k A → Below w.heap.size w A ∧ A.cell? ⟨gb, 0, none⟩ = some (.pointer (some ⟨n, 0, none⟩))) (hK : ∀ k A B, J k A → Below A.heap.size A B → J k B)
    (hY : ∀ k args A W, k < st.ls.length → J k A → Below A.heap.size A W → KnL st.ls k args A W → YieldAt F (m - 1) Tryd.prog l args W fun e W' => e = .returned (.bool true) ∧ J (k + 1) W') (W : World) (h0 : J 0 W) :
    CallsIn F m Tryd.prog 40 #[.func (.yield l) #[] #[], .pointer (some ⟨gb, 0, none⟩)] W fun e W' => (∃ v, e = .returned v) ∧ J st.ls.length W' := by
  obtain ⟨v, xs, hvp, hxs, hb, ho, hdat⟩ := h.ex
  have hlx : xs.length = st.ls.length := by rw [← hxs, List.length_map]
  obtain ⟨pv, cv, rfl, hcv, hcm, hrd⟩ := owns_rd ho
  unfold maxLen at hcm
  obtain ⟨hlow, hbox⟩ := hG 0 W h0
  have k1 := ((hb.below hlow hb.lt).cell 1).trans rfl
  have HG := Lib.hid hG
  have HK := Lib.hid hK
  have HY := Lib.hid hY
  have hdep := hF.depth
  have HF := Lib.hid hF
  have HRD := Lib.hid hrd
  have HDT := Lib.hid hdat
  have HXS := Lib.hid hxs
  have HLX := Lib.hid hlx
  have HEL := Lib.hid hel
  have H0 := Lib.hid h0
  clear hG hK hY h hb ho hdat hrd hlow hxs hvp hel h0
  refine callsIn_of_wp Tryd.func40 rfl (hF.fn _) ?_ hro
  clear hF
  simp only [Tryd.ntmps40, List.size_toArray, List.length_cons, List.length_nil, Nat.reduceAdd, Nat.reduceSub, Array.replicate_succ, Array.replicate_zero, List.push_toArray, List.append_toArray, List.nil_append, List.cons_append]
  gi_wp2
  clear k1 hbox
  gi_loopw [10] (fun i wr => ∃ k : Nat, k ≤ xs.length ∧ i = .int .i64 (k : Int) ∧ J k wr) (fun i _ => xs.length - (intOf i).toNat)
  case atStart => exact ⟨0, by omega, rfl, H0.out⟩
  case round =>
    obtain ⟨k, hk, rfl, hj⟩ := hrel
    have HJ := Lib.hid hj
    clear hj H0
    by_cases hlt : k < xs.length
    · obtain ⟨y0, y1, y2⟩ := cel_get xs k hlt
      obtain ⟨hwr, _⟩ := HG.out k wr HJ.out
      obtain ⟨g, off, rfl, hcell⟩ := HRD.out.has (by intro e; rw [e] at y0; simp at y0)
      have a0 := Below.keeps hwr _ _ (hcell _ _ y0)
      have a1 := Below.keeps hwr _ _ (hcell _ _ y1)
      have a2 := Below.keeps hwr _ _ (hcell _ _ y2)
      rw [← Nat.add_assoc] at a1 a2
      have hmem : xs[k] ∈ xs := List.getElem_mem hlt
      have hx1 : st.ls[k]? = some xs[k].1 := by rw [← HXS.out, List.getElem?_map, List.getElem?_eq_getElem hlt]; rfl
      have hxl := HEL.out xs[k].1 (List.mem_of_getElem? hx1)
      have hdw := owns_below (HDT.out _ hmem) hwr
      generalize xs[k] = y at *
      obtain ⟨⟨f, t, d⟩, u⟩ := y
      have HX1 := Lib.hid hx1
      have HXL := Lib.hid hxl
      have HDW := Lib.hid hdw
      obtain ⟨qd, cd, hqd, hc1, hc2, _⟩ := owns_rd hdw
      simp only at hqd a0 a1 a2
      subst hqd
      have HBL := Lib.hid (Blk.new wr 37 #[.int .i64 f, .int .i64 t, .slice qd d.length cd])
      have HNB := Lib.hid (below_alloc1 wr (.cells #[.int .i64 f, .int .i64 t, .slice qd d.length cd] 37))
      clear hcell hwr hmem hx1 hxl hdw y0 y1 y2
      gi_wp2
      refine ⟨HF.out.fn _, ?_⟩
      refine (HF.out.calls _ _ _ _ _ _ (copied_any _ f t _ d (by have := HXL.out; omega) (owns_byt (owns_below HDW.out HNB.out)))).mono ?_
      rintro e w2 ⟨u2, rfl, ho2, hb2⟩
      have HB2 := Lib.hid (HNB.out.trans (hb2.mono HNB.out.size))
      obtain ⟨fn, tmps, assign, body, hy, hR⟩ := HY.out k #[.agg #[.int .i64 f, .int .i64 t, u2]] wr w2 (by omega) HJ.out HB2.out ⟨_, u2, HX1.out, rfl, owns_lower ho2 HNB.out.size⟩
      have HR := Lib.hid hR
      clear hR ho2 hb2
      gi_wp2
      refine HR.out.mono ?_
      rintro e w3 ⟨rfl, hj3⟩
      have HJ3 := Lib.hid hj3
      clear hj3 hy
      gi_wp2
      go_roundw
      case rel => exact ⟨k + 1, by omega, by go_num, HJ3.out⟩
      case measure => simp [intOf]; omega
    · have HKK := Lib.hid (show k = st.ls.length by omega)
      gi_wp2
      go_end0
      exact ⟨⟨_, rfl⟩, by rw [← HKK.out]; exact HJ.out⟩
/-- letters of one's own: with their data, each apart -/
structure LetF (B : Nat) (w : World) (v : Value) (xs : List (Lt × Value)) : Prop where
  own : w.ownsRow B 37 3 v xs.length (cel xs)
  dat : ∀ x ∈ xs, w.ownsRow B 5 1 x.2 x.1.2.2.length (bvs x.1.2.2)
  apart : xs.Pairwise fun a b => ∀ g, a.2.ownBlock = some g → b.2.ownBlock ≠ some g
theorem LetF.keep {B : Nat} {w w' : World} {v : Value} {xs : List (Lt × Value)} (h : LetF B w v xs) (k : ∀ (g : Nat) (t : TypeId) (cs : Array Value), Blk w g t cs → Blk w' g t cs) : LetF B w' v xs := by
  have ho : ∀ (base size m : Nat) (e : TypeId) (u : Value) (ys : List Value), w.ownsRow base e size u m ys → w'.ownsRow base e size u m ys := fun base size m e u ys h => by
    refine ⟨h.1, ?_⟩
    rcases h.2 with h2 | ⟨g, cap, cur, rfl, hB, hh, r⟩
    · exact .inl h2
    · exact .inr ⟨g, cap, cur, rfl, hB, k _ _ _ hh, r⟩
  exact ⟨ho _ _ _ _ _ _ h.own, fun x hx => ho _ _ _ _ _ _ (h.dat x hx), h.apart⟩
theorem others_grown {w w' : World} {base size n : Nat} {e : TypeId} {v : Value} {xs : List Value} (ho : w.ownsRow base e size v n xs) (hg : w.grownBy w' v.ownBlock) : KeepsOthers w w' := by
  refine KeepsOthers.of_grownBy hg fun g o hv hg => ?_
  rcases ho.2 with ⟨h0, _⟩ | ⟨g9, cap, cur, h0, _, hh, _⟩
  · rw [h0] at hv; cases hv
  · rw [h0] at hv
    cases hv
    rw [hh] at hg
    cases hg
    rfl
/-- between two rounds of Letters: what has come -/
structure LLoop (w : World) (n o gb : Nat) (ls : List Lt) (k : Nat) (W : World) : Prop where
  low : Below w.heap.size w W
  out : ∃ v xs, Blk W o 44 #[v] ∧ xs.map (·.1) = ls.take k ∧ LetF w.heap.size W v xs
  box : Blk W gb 26 #[.pointer (some ⟨n, 0, none⟩)]
theorem LLoop.sees {B : Nat} {w : World} {n o gb : Nat} {ls : List Lt} {k : Nat} {W W' : World} (h : LLoop w n o gb ls k W) (hB : w.heap.size ≤ B) (s : Sees B W W') : LLoop w n o gb ls k W' := by
  obtain ⟨h1, ⟨v, xs, h2, h3, h4⟩, h5⟩ := h
  exact ⟨s.below hB h1 h1.size, ⟨v, xs, s.blk h2, h3, h4.keep fun _ _ _ => s.blk⟩, s.blk h5⟩
/-- a round of Letters has begun -/
def BdL (n o gb : Nat) (ls : List Lt) (k : Nat) (_ : Array Value) (a' : Act) (A W : World) : Prop :=
  ∃ (x : Lt) (u : Value) (g : Nat), ls[k]? = some x ∧ a' = { tmps := #[.pointer (some ⟨n, 0, none⟩), undef, .slice none 0 0, .pointer (some ⟨o, 0, none⟩), .pointer (some ⟨g, 0, none⟩), .pointer (some ⟨n, 0, none⟩), .func (.func 40) #[] #[.pointer (some ⟨gb, 0, none⟩)], .agg #[.int .i64 x.1, .int .i64 x.2.1, u], undef, undef, undef, undef, undef], defers := [] } ∧
    Blk W g 37 #[.int .i64 x.1, .int .i64 x.2.1, u] ∧ W.ownsRow A.heap.size 5 1 u x.2.2.length (bvs x.2.2) ∧ A.heap.size ≤ g
theorem BdL.sees {B n o gb : Nat} {ls : List Lt} {k : Nat} {args : Array Value} {a' : Act} {A W W' : World} (h : BdL n o gb ls k args a' A W) (s : Sees B W W') : BdL n o gb ls k args a' A W' := by
  obtain ⟨x, u, g, h1, h2, h3, h4, h5⟩ := h
  exact ⟨x, u, g, h1, h2, s.blk h3, s.owns h4, h5⟩
set_option maxRecDepth 20000 in
set_option maxHeartbeats 4000000 in
theorem letters_in (F : Fence) (hF : FreeF F) (hro : F.round = none) (w : World) (n b : Nat) (p : Option Nat) (c : Nat) (st : NSt) (h : Nn w n b p c st) (hle : st.ls.length ≤ 1000) (hel : ∀ x ∈ st.ls, x.2.2.length ≤ 1000) :
    CallsIn F 5 Tryd.prog 14 #[.pointer (some ⟨n, 0, none⟩)] w fun e w' => (∃ v xs, e = .returned v ∧ xs.map (·.1) = st.ls ∧ LetF w.heap.size w' v xs) ∧ Below w.heap.size w w' := by
  have HN := Lib.hid h
  have HF := Lib.hid hF
  have HEL := Lib.hid hel
  have HLE := Lib.hid hle
  have hdep := hF.depth
  refine callsIn_of_wp_marks Tryd.func14 rfl (hF.fn _) ?_ hro
  clear hF h hel hle
  simp only [Tryd.ntmps14, List.size_toArray, List.length_cons, List.length_nil, Nat.reduceAdd, Nat.reduceSub, Array.replicate_succ, Array.replicate_zero, List.push_toArray, List.append_toArray, List.nil_append, List.cons_append]
  gi_wp2
  have HB1 := Lib.hid (below_alloc1 w (.cells #[.slice none 0 0] 44))
  have HO1 := Lib.hid (Blk.new w 44 #[.slice none 0 0])
  generalize w.alloc (.cells #[.slice none 0 0] 44) = w1 at *
  refine ⟨HF.out.fn _, ?_⟩
  refine (HF.out.calls _ _ _ _ _ _ (each_any w1 n)).mono ?_
  rintro e w2 ⟨rfl, hw2⟩
  have hb2 : Below w1.heap.size w1 w2 := by rw [hw2]; exact below_alloc1 _ _
  have HB2 := Lib.hid (HB1.out.trans (hb2.mono HB1.out.size))
  have HO2 := Lib.hid (HO1.out.below hb2 HO1.out.lt)
  have HX2 := Lib.hid (show Blk w2 w1.heap.size 26 #[.pointer (some ⟨n, 0, none⟩)] from by rw [hw2]; exact Blk.new _ _ _)
  clear hb2 hw2 HB1 HO1
  generalize w1.heap.size = gb at *
  gi_wp2
  have hlw : w.heap.size ≤ w2.heap.size := HB2.out.size
  refine wpIn_rangeK hro (by omega) (gf := 40) (lb := #[.pointer (some ⟨gb, 0, none⟩)]) rfl (HF.out.fn _) (enters_of Tryd.func40 (by kernel_rfl) rfl)
    (LLoop w n w.heap.size gb st.ls) (KnL st.ls) st.ls.length (fun k W W' h k' => h.sees hlw k') ?h0 (BdL n w.heap.size gb st.ls) (fun k args a' A W W' h k' => h.sees k') ?hps ?hiter ?hassign ?hbody ?hdone
  case h0 => exact ⟨HB2.out, ⟨.slice none 0 0, [], HO2.out, rfl, ⟨rfl, .inl ⟨rfl, rfl⟩⟩, nofun, List.Pairwise.nil⟩, HX2.out⟩
  case hps =>
    rintro k args A W ⟨x, u, h1, rfl, h3⟩
    rfl
  case hiter =>
    intro l W J' hbW hJ1 hJ2 hY h0
    exact each1_in F HF.out hro _ l gb w n b p c st HN.out HLE.out HEL.out J' (fun k A h => ⟨(hJ2 k A h).low, ((hJ2 k A h).box.cell 0).trans rfl⟩) hJ1 hY W h0
  case hassign =>
    rintro l k args A W K ⟨x, u, h1, rfl, h3⟩ hjA hAW hK
    obtain ⟨pu, cu, rfl, _⟩ := owns_rd h3
    gi_wp2
    have hnb := below_alloc1 W (.cells #[.int .i64 x.1, .int .i64 x.2.1, .slice pu x.2.2.length cu] 37)
    exact hK _ _ hnb ⟨x, _, W.heap.size, h1, rfl, Blk.new _ _ _, owns_below h3 hnb, hAW.size⟩
  case hbody =>
    rintro l k args a' A W hk hjA hs ⟨x, u, g4, h1, rfl, h3, h4, h5⟩
    obtain ⟨hlow, ⟨v, xs, hout, hxs, hLF⟩, hbox⟩ := hjA
    have hAs := hlow.size
    have HLO := Lib.hid (fun (y : Lt × Value) (hy : y ∈ xs) q (hq : y.2.ownBlock = some q) => (hLF.dat y hy).lt q hq)
    have HOA := Lib.hid (And.intro h4 h5)
    have hlw2 := hs.below hlw hlow hlow.size
    have hLF := hLF.keep fun _ _ _ => hs.blk
    have hout := hs.blk hout
    have hbox := hs.blk hbox
    have hxl : xs.length = k := by
      have := congrArg List.length hxs
      rw [List.length_map, List.length_take, Nat.min_eq_left (by omega)] at this
      exact this
    obtain ⟨pu, cu, rfl, _⟩ := owns_rd h4
    obtain ⟨pv, cv, rfl, _⟩ := owns_rd hLF.own
    have hnb := below_alloc1 W (.cells #[.int .i64 x.1, .int .i64 x.2.1, .slice pu x.2.2.length cu] 37)
    have hnz := Blk.new W 37 #[.int .i64 x.1, .int .i64 x.2.1, .slice pu x.2.2.length cu]
    have HNB := Lib.hid hnb
    have HNZ := Lib.hid hnz
    have HW1 := Lib.hid (hlw2.trans (hnb.mono hlw2.size))
    have HOU := Lib.hid (hout.below hnb hout.lt)
    have HBX := Lib.hid (hbox.below hnb hbox.lt)
    have HLF := Lib.hid (hLF.keep fun _ _ _ hb => hb.below hnb hb.lt)
    have HU := Lib.hid (owns_below h4 hnb)
    have HXS := Lib.hid hxs
    have HH1 := Lib.hid h1
    have c0 := (hout.cell 0).trans rfl
    have y0 := (h3.cell 0).trans rfl
    have y1 := (h3.cell 1).trans rfl
    have y2 := (h3.cell 2).trans rfl
    have HKO := Lib.hid (KeepsOthers.alloc W (.cells #[.int .i64 x.1, .int .i64 x.2.1, .slice pu x.2.2.length cu] 37))
    obtain ⟨i0, hi0, hz0, hz1, hz2⟩ := info_parts letInfo
    have HXL := Lib.hid hxl
    clear hnb hnz hlw2 hout hbox hLF hxs h1 h3 h4 h5 hlow hs hxl
    gi_wp2_with (gi_at_builtin; refine wpListIn_append_own _ rfl (.tmp 8) (.tmp 10) 44 rfl w.heap.size 37 i0 (.agg #[.int .i64 0, .int .i64 0, .slice none 0 0]) 3 40 Tryd.underlying44 hi0 hz0 hz1 hz2 rfl (by decide) _ _ _ rfl HLF.out.own ⟨W.heap.size, 0, none⟩ 1 1 [.int .i64 x.1, .int .i64 x.2.1, .slice pu x.2.2.length cu] rfl rfl ?ka ?kb ?kc ?kd ?ke ?_)
    case ka =>
      intro j w9 hj
      rw [cell_add, Nat.zero_add, HNZ.out.cell]
      simpa using hj
    case kb =>
      intro w9 h9
      simp only [List.mem_cons, List.not_mem_nil, or_false] at h9
      rcases h9 with rfl | rfl | rfl <;> rfl
    case kc => have := HXL.out; have := HLE.out; unfold maxLen; omega
    case kd => have := HXL.out; have := HLE.out; omega
    case ke => exact HW1.out.size
    intro v3 W3 ho3 hg3 _
    have hou3 := grown_blk hg3 HLF.out.own HOU.out (by decide)
    have hbx3 := grown_blk hg3 HLF.out.own HBX.out (by decide)
    have hu3 := grown_owns hg3 HLF.out.own HU.out (by decide)
    have hda3 := fun (y : Lt × Value) (hy : y ∈ xs) => grown_owns hg3 HLF.out.own (HLF.out.dat y hy) (by decide)
    have hw3 := HW1.out.grown hg3 HW1.out.size (fun g hg => (HLF.out.own.lt g hg).1)
    have hko3 := HKO.out.trans (others_grown HLF.out.own hg3)
    have f0 := hou3.frozen 0
    have c0' := (hou3.cell 0).trans rfl
    have k4 : But [w.heap.size] W3 (W3.setCell ⟨w.heap.size, 0, none⟩ v3) := (but_refl _ _).set_ _ 0 _ (by simp)
    have HL4 := Lib.hid (show LLoop w n w.heap.size gb st.ls (k + 1) (W3.setCell ⟨w.heap.size, 0, none⟩ v3) from by
      refine ⟨hw3.setCell (p := ⟨w.heap.size, 0, none⟩) (Nat.le_refl _) _, ⟨v3, xs ++ [(x, .slice pu x.2.2.length cu)], hou3.set_ 0 v3, ?_, ?_, ?_, ?_⟩, k4.blk hbx3 (by have := Blk.ne_ hbx3 hou3 (by decide); simpa using this)⟩
      · rw [List.map_append, HXS.out, List.take_add_one, HH1.out]
        rfl
      · rw [cel_app, List.length_append]
        exact own_but ho3 k4 hou3 (by decide)
      · intro y hy
        rcases List.mem_append.1 hy with hy | hy
        · exact own_but (hda3 y hy) k4 hou3 (by decide)
        · obtain rfl : y = (x, .slice pu x.2.2.length cu) := by simpa using hy
          exact owns_lower (own_but hu3 k4 hou3 (by decide)) hAs
      · refine List.pairwise_append.2 ⟨HLF.out.apart, List.pairwise_singleton _ _, fun a ha b hb g hg1 hg2 => ?_⟩
        obtain rfl : b = (x, .slice pu x.2.2.length cu) := by simpa using hb
        have h1 := (HLO.out a ha g hg1).2
        have h2 := (HOA.out.1.lt g hg2).1
        omega)
    have HK4 := Lib.hid ((hko3.trans (KeepsOthers.setCell W3 ⟨w.heap.size, 0, none⟩ v3)).from w2.heap.size)
    obtain ⟨p3, c3, rfl, _⟩ := owns_rd ho3
    clear ho3 hg3 hbx3 hu3 hda3 hw3 hko3 k4 c0
    gi_wp2
    exact ⟨HK4.out, HL4.out⟩
  case hdone =>
    intro D W hD hj hW
    obtain ⟨hlow, ⟨v, xs, hout, hxs, hLF⟩, hbox⟩ := hj
    rw [List.take_of_length_le (Nat.le_refl _)] at hxs
    have c0 := (hout.cell 0).trans rfl
    have HLO := Lib.hid hlow
    have HLF := Lib.hid hLF
    have HXS := Lib.hid hxs
    have HW := Lib.hid hW
    obtain ⟨pv, cv, rfl, _⟩ := owns_rd hLF.own
    clear hlow hout hbox hLF hxs hW
    gi_wp2
    refine ⟨by simp, .inl ⟨_, _, rfl, run_takeDeferred HW.out, ?_⟩⟩
    have hsee : Sees w2.heap.size W (W.putObj D (.deferred none)) := Sees.putObj _ hD HW.out rfl
    refine ⟨.slice pv xs.length cv, by simp [results, Tryd.results14, go_sem], ⟨_, xs, rfl, HXS.out, HLF.out.keep fun _ _ _ => hsee.blk⟩, hsee.below hlw HLO.out HLO.out.size⟩
/-- NET.LETTERS -/
theorem letters_any (w : World) (n b : Nat) (p : Option Nat) (c : Nat) (st : NSt) (h : Nn w n b p c st) (hle : st.ls.length ≤ 1000) (hel : ∀ x ∈ st.ls, x.2.2.length ≤ 1000) :
    Calls Tryd.prog 14 #[.pointer (some ⟨n, 0, none⟩)] w fun e w' => (∃ v xs, e = .returned v ∧ xs.map (·.1) = st.ls ∧ LetF w.heap.size w' v xs) ∧ Below w.heap.size w w' :=
  callsIn_wide.1 (letters_in Fence.wide FreeF.wide rfl w n b p c st h hle hel)

end Go.Proofs.YtbbhecadpbnobaaDoor
