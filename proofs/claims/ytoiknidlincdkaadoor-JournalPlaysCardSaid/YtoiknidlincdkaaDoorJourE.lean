/-
  JourE: journal.Open.
-/
import Derived.Test.YtoiknidlincdkaaDoorJourI
namespace Go.Proofs.YtoiknidlincdkaaDoor
open Go.RowKit
attribute [local go_sem] Oper.semAt_some

theorem Sees.tp {B : Nat} {w w' : World} {a : Nat} {o : Option Nat} {s : TSt} (h : Tp w a o s) (k : Sees B w w') : Tp w' a o s := by
  obtain ⟨v, h1, h2, h3, h4⟩ := h
  exact ⟨v, h1, k.blk h2, k.owns h3, h4⟩
theorem Jn.sees {B : Nat} {w w' : World} {j a : Nat} {p o : Option Nat} {X : List Nat} {st : JSt} (h : Jn w j a p o X st) (k : Sees B w w') : Jn w' j a p o X st := by
  obtain ⟨⟨v, h1, h2, h3⟩, h4, h5⟩ := h
  exact ⟨⟨v, h1, k.blk h2, h3.sees k⟩, k.tp h4, h5⟩
/-- between two rounds: the rows that have come are the journal's -/
structure JLoop (w : World) (X : List Nat) (a jb g : Nat) (b : List UInt8) (vb : Value) (k : Nat) (W : World) : Prop where
  jn : ∃ v, Blk W w.heap.size 83 #[.pointer (some ⟨a, 0, none⟩), v, .int .i64 ((framesJ ((readJ b).1.take k)).length : Int), .bool false] ∧ RowsO W X v ((readJ b).1.take k) ∧ ∀ q, v.ownBlock = some q → w.heap.size ≤ q ∧ q ≠ g
  box : Blk W jb 36 #[.pointer (some ⟨w.heap.size, 0, none⟩)]
  cap : Blk W g 22 #[vb]
  byt : W.ownsRow w.heap.size 5 1 vb b.length (bvs b)
  low : Below w.heap.size w W
theorem JLoop.sees {B : Nat} {w : World} {X : List Nat} {a jb g : Nat} {b : List UInt8} {vb : Value} {k : Nat} {W W' : World} (h : JLoop w X a jb g b vb k W) (hB : w.heap.size ≤ B) (s : Sees B W W') : JLoop w X a jb g b vb k W' := by
  obtain ⟨⟨v, h1, h2, h3⟩, h4, h5, h6, h7⟩ := h
  exact ⟨⟨v, s.blk h1, h2.sees s, h3⟩, s.blk h4, s.blk h5, s.owns h6, s.below hB h7 h7.size⟩
theorem JG.made {B : Nat} {w w' : World} {E : Nat → Addr} {j a : Nat} {p o o' : Option Nat} {X : List Nat} {st : JSt} (h : Jn w' j a p o' X st) (k : But (a :: o.toList) w w') (hg : Glob B w E) (ha : ∀ g ∈ a :: o.toList, B ≤ g) (hB : B ≤ w.heap.size)
    (hp : ∀ g, p = some g → w.heap.size ≤ g) (ho : Nx w o o') (hX : ∀ g ∈ X, g < w.heap.size) (hj : w.heap.size ≤ j := by exact Nat.le_refl _) : JG B w' E j a p o' X st := by
  refine ⟨h, fun g hg => ?_, Nat.le_trans hB k.size, hg.below (k.below ha hB), fun g hg => Nat.lt_of_lt_of_le (hX g hg) k.size⟩
  unfold jS at hg
  simp only [List.mem_cons, List.mem_append] at hg
  rcases hg with rfl | rfl | hg | hg
  · omega
  · exact ha _ (by simp)
  · have := hp g (Option.mem_toList.1 hg); omega
  · rcases ho with rfl | ho
    · exact ha g (List.mem_cons_of_mem _ hg)
    · have := ho g (Option.mem_toList.1 hg); omega
theorem framesJ_many (rs : List (List UInt8)) : rs.length ≤ (framesJ rs).length := by
  induction rs with
  | nil => simp
  | cons r rs ih => rw [framesJ_cons, List.length_append, frameJ_len, List.length_cons]; omega
set_option maxRecDepth 20000 in
set_option maxHeartbeats 4000000 in
theorem open_in (F : Fence) (hF : FreeF F) (hro : F.round = none) (B : Nat) (w : World) (E : Nat → Addr) (a : Nat) (o : Option Nat) (X : List Nat) (s : TSt) (ht : Tp w a o s) (hE0 : openE s = 0) (hg : Glob B w E) (hB : B ≤ w.heap.size) (ha : ∀ g ∈ a :: o.toList, B ≤ g) (hX : ∀ g ∈ X, g < w.heap.size) :
    CallsIn F 5 Tryd.prog 15 #[.pointer (some ⟨a, 0, none⟩)] w fun e w' => e = .returned (.tuple #[.pointer (some ⟨w.heap.size, 0, none⟩), .nilIface]) ∧
      (∃ p' o', (∀ g, p' = some g → w.heap.size ≤ g) ∧ Nx w o o' ∧ JG B w' E w.heap.size a p' o' X (openJ s)) ∧ But (a :: o.toList) w w' := by
  have HT := Lib.hid ht
  have HF := Lib.hid hF
  have HG := Lib.hid hg
  have HX := Lib.hid hX
  have HA := Lib.hid ha
  have HE0 := Lib.hid hE0
  have hlen := ht.ok.len
  have hdep := hF.depth
  refine callsIn_of_wp_marks Tryd.func15 rfl (hF.fn _) ?_ hro
  clear hF ht hg hX ha hE0
  simp only [Tryd.ntmps15, List.size_toArray, List.length_cons, List.length_nil, Nat.reduceAdd, Nat.reduceSub, Array.replicate_succ, Array.replicate_zero, List.push_toArray, List.append_toArray, List.nil_append, List.cons_append]
  gi_wp2
  have hb1 : Below w.heap.size w ((w.alloc (.cells #[.pointer (some ⟨a, 0, none⟩), .slice none 0 0, .int .i64 0, .bool false] 83)).alloc (.cells #[.pointer (some ⟨w.heap.size, 0, none⟩)] 36)) := below_alloc (below_alloc1 w _) _
  have hj1 := (Blk.new w 83 #[.pointer (some ⟨a, 0, none⟩), .slice none 0 0, .int .i64 0, .bool false]).alloc (.cells #[.pointer (some ⟨w.heap.size, 0, none⟩)] 36)
  have hx1 := Blk.new (w.alloc (.cells #[.pointer (some ⟨a, 0, none⟩), .slice none 0 0, .int .i64 0, .bool false] 83)) 36 #[.pointer (some ⟨w.heap.size, 0, none⟩)]
  rw [World.size_alloc] at hx1
  have HB1 := Lib.hid hb1
  have HJ1 := Lib.hid hj1
  have HX1 := Lib.hid hx1
  clear hb1 hj1 hx1
  generalize (w.alloc (.cells #[.pointer (some ⟨a, 0, none⟩), .slice none 0 0, .int .i64 0, .bool false] 83)).alloc (.cells #[.pointer (some ⟨w.heap.size, 0, none⟩)] 36) = w1 at *
  refine ⟨HF.out.fn _, ?_⟩
  refine (HF.out.calls _ _ _ _ _ _ (bytes_of_tape w1 a o s (HT.out.below HB1.out))).mono ?_
  rintro e w2 ⟨vb, rfl, ho2, hb2⟩
  have HB2 := Lib.hid (HB1.out.trans (hb2.mono HB1.out.size))
  have HJ2 := Lib.hid (HJ1.out.below hb2 HJ1.out.lt)
  have HX2 := Lib.hid (HX1.out.below hb2 HX1.out.lt)
  have HO2 := Lib.hid (owns_lower ho2 HB1.out.size)
  obtain ⟨pb, cb, rfl, _, _, _⟩ := owns_rd ho2
  clear hb2 ho2 HB1 HJ1 HX1
  gi_wp2
  refine ⟨HF.out.fn _, ?_⟩
  refine (HF.out.calls _ _ _ _ _ _ (frames_any w2 _ _ _ _ rfl)).mono ?_
  rintro e w3 ⟨rfl, hw3⟩
  have hb3 : Below w2.heap.size w2 w3 := by rw [hw3]; exact below_alloc1 _ _
  have HB3 := Lib.hid (HB2.out.trans (hb3.mono HB2.out.size))
  have HJ3 := Lib.hid (HJ2.out.below hb3 HJ2.out.lt)
  have HX3 := Lib.hid (HX2.out.below hb3 HX2.out.lt)
  have HO3 := Lib.hid (owns_below HO2.out hb3)
  have HG3 := Lib.hid (show Blk w3 w2.heap.size 22 #[.slice pb s.l.length cb] from by rw [hw3]; exact Blk.new _ _ _)
  clear hb3 hw3 HB2 HJ2 HX2 HO2
  generalize w2.heap.size = g at *
  generalize hjb : w.heap.size + 1 = jb at *
  gi_wp2
  have hlw : w.heap.size ≤ w3.heap.size := HB3.out.size
  refine wpIn_rangeJ hro (by omega) (gf := 56) (lb := #[.pointer (some ⟨g, 0, none⟩)]) rfl (HF.out.fn _) (enters_of Tryd.func56 (by kernel_rfl) rfl)
    (JLoop w (o.toList ++ X) a jb g s.l (.slice pb s.l.length cb)) (KnJ s.l) (readJ s.l).1.length (fun k W W' h k' => h.sees hlw k') ?hKn ?h0 ?hps (fun args => { tmps := #[.pointer (some ⟨a, 0, none⟩), undef, .pointer none, .nilIface, .pointer (some ⟨jb, 0, none⟩), .slice pb s.l.length cb, args.getD 0 undef, args.getD 1 undef, undef, .pointer (some ⟨a, 0, none⟩), .agg #[.pointer (some ⟨a, 0, none⟩), .slice none 0 0, .int .i64 0, .bool false], .pointer (some ⟨w.heap.size, 0, none⟩), .pointer (some ⟨a, 0, none⟩), .slice pb s.l.length cb, .slice pb s.l.length cb, .func (.func 56) #[] #[.pointer (some ⟨g, 0, none⟩)], args.getD 0 undef, args.getD 1 undef, undef, undef, undef, undef, undef, undef, undef, undef, undef, undef, undef, undef, undef, undef, undef, undef, undef, undef, undef, undef, undef, undef, undef, undef, undef, undef, undef, undef, undef, undef, undef], defers := [] }) ?hiter ?hassign ?hbody ?hdone
  case hKn =>
    rintro k args A W W' ⟨v, r, h1, h2, h3⟩ k'
    exact ⟨v, r, h1, h2, k'.owns h3⟩
  case h0 =>
    exact ⟨⟨.slice none 0 0, by rw [List.take_zero]; exact HJ3.out, by rw [List.take_zero]; exact RowsO.nil _ _, fun q hq => by cases hq⟩, HX3.out, HG3.out, HO3.out, HB3.out⟩
  case hps =>
    rintro k args A W ⟨v, r, h1, rfl, h3⟩
    rfl
  case hiter =>
    intro l W J' hbW hJ1 hJ2 hY h0
    refine frames1_in F HF.out hro _ l g s.l (.slice pb s.l.length cb) E (by omega) J' (fun k A h => ?_) hJ1 hY W h0
    have hj := hJ2 k A h
    have hbA : Below B w A := hj.low.mono hB
    exact ⟨HG.out.errs A hbA, HG.out.half A hbA, (hj.cap.cell 0).trans rfl, owns_byt hj.byt⟩
  case hassign =>
    rintro l k args A W K ⟨v, r, h1, rfl, h3⟩ hK
    gi_wp2
    exact hK
  case hbody =>
    rintro l k args A W hk hjA hs ⟨vr, r, hr, rfl, ho⟩
    have hj := hjA.sees hlw hs
    have hkl : r = (readJ s.l).1[k] := by rw [List.getElem?_eq_getElem hk] at hr; exact (Option.some.inj hr).symm
    have HTK := Lib.hid (show (readJ s.l).1.take (k + 1) = (readJ s.l).1.take k ++ [r] by rw [List.take_succ_eq_append_getElem hk, hkl])
    have hrl := ((okRow_iff r).1 ((readJ_ok s.l).1 r (hkl ▸ List.getElem_mem hk))).2
    have hLl : ((readJ s.l).1.take k).length ≤ 65536 := by
      have h1 := (readJ_ok s.l).2.2.1
      have h2 := (readJ_ok s.l).2.2.2
      have h3 := framesJ_many (readJ s.l).1
      rw [List.length_take]
      omega
    have HEND := Lib.hid (show (framesJ ((readJ s.l).1.take (k + 1))).length = endJ s.l k from rfl)
    have hAw := hjA.low.size
    obtain ⟨pr, cr, rfl, _, _, _⟩ := owns_rd ho
    have HOW := Lib.hid (owns_lower ho hAw)
    have hlow := hj.low
    obtain ⟨⟨v, hjb, hrr, hvl⟩, hbx, hcp, hby, _⟩ := hj
    obtain ⟨L1, hL1⟩ : ∃ L1, (readJ s.l).1.take (k + 1) = L1 := ⟨_, rfl⟩
    have HLE := Lib.hid hL1
    rw [hL1] at HTK HEND
    clear hL1
    generalize (readJ s.l).1.take k = L at *
    obtain ⟨us, hus, hown0, hel⟩ := id hrr
    obtain ⟨pv, cv, rfl, _, _, _⟩ := owns_rd hown0
    have c2 := (hjb.cell 2).trans rfl
    have f2 := hjb.frozen 2
    have cx := (hbx.cell 0).trans rfl
    have njx : w.heap.size ≠ jb := by omega
    have HJB := Lib.hid (hjb.set_ 2 (.int .i64 (endJ s.l k : Int)))
    have HBX := Lib.hid (hbx.far (b := w.heap.size) (by omega) 2 (.int .i64 (endJ s.l k : Int)))
    have hk1 : But [w.heap.size] W (W.setCell ⟨w.heap.size, 2, none⟩ (.int .i64 (endJ s.l k : Int))) := (but_refl _ _).set_ _ 2 _ (by simp)
    have hnj : ∀ T cs q, Blk W q T cs → T ≠ 83 → [w.heap.size].contains q = false := fun T cs q hq hT => by
      have := Blk.ne_ hq hjb hT
      simpa using this
    have HCP := Lib.hid (hk1.blk hcp (hnj _ _ _ hcp (by decide)))
    have HBY := Lib.hid (hk1.owns2 (owns_not hby fun q hq cs hcs => by
      obtain rfl : q = w.heap.size := by simpa using hq
      exact Blk.ne_ hcs hjb (by decide) rfl) hby)
    have HOW := Lib.hid (hk1.owns2 (owns_not HOW.out fun q hq cs hcs => by
      obtain rfl : q = w.heap.size := by simpa using hq
      exact Blk.ne_ hcs hjb (by decide) rfl) HOW.out)
    have HRU := Lib.hid (show RowsU (W.setCell ⟨w.heap.size, 2, none⟩ (.int .i64 (endJ s.l k : Int))) (o.toList ++ X) (.slice pv L.length cv) L us from by
      refine ⟨hus, hk1.owns2 (owns_not hown0 fun q hq cs hcs => by
        obtain rfl : q = w.heap.size := by simpa using hq
        exact Blk.ne_ hcs hjb (by decide) rfl) hown0, fun i f hf => ?_⟩
      obtain ⟨u, hu, hou, hn⟩ := hel i f hf
      exact ⟨u, hu, hk1.owns2 (owns_not hou fun q hq cs hcs => by
        obtain rfl : q = w.heap.size := by simpa using hq
        exact Blk.ne_ hcs hjb (by decide) rfl) hou, hn⟩)
    have HKO := Lib.hid (KeepsOthers.setCell W ⟨w.heap.size, 2, none⟩ (.int .i64 (endJ s.l k : Int)))
    have HLW := Lib.hid (hlow.setCell (p := ⟨w.heap.size, 2, none⟩) (Nat.le_refl _) (.int .i64 (endJ s.l k : Int)))
    have HVL := Lib.hid hvl
    clear hjb hbx hcp hby hrr hvl hlow hus hown0 hel hk1 hnj ho hr hkl hs hjA
    refine (show Code.wpIn _ _ _ _ _ ({ tmps := #[.pointer (some ⟨a, 0, none⟩), undef, .pointer none, .nilIface, .pointer (some ⟨jb, 0, none⟩), .slice pb s.l.length cb, .int .i64 (endJ s.l k : Int), .slice pr r.length cr, undef, .pointer (some ⟨a, 0, none⟩), .agg #[.pointer (some ⟨a, 0, none⟩), .slice none 0 0, .int .i64 0, .bool false], .pointer (some ⟨w.heap.size, 0, none⟩), .pointer (some ⟨a, 0, none⟩), .slice pb s.l.length cb, .slice pb s.l.length cb, .func (.func 56) #[] #[.pointer (some ⟨g, 0, none⟩)], .int .i64 (endJ s.l k : Int), .slice pr r.length cr, undef, undef, undef, undef, undef, undef, undef, undef, undef, undef, undef, undef, undef, undef, undef, undef, undef, undef, undef, undef, undef, undef, undef, undef, undef, undef, undef, undef, undef, undef, undef], defers := [] } : Act) W from ?_)
    obtain ⟨i0, hi, hz0, hz1, hz2⟩ := info_parts rowInfo
    gi_wp2
    clear c2 f2 cx
    generalize W.setCell ⟨w.heap.size, 2, none⟩ (.int .i64 (endJ s.l k : Int)) = W5 at *
    have hjb5 : Blk W5 w.heap.size 83 #[.pointer (some ⟨a, 0, none⟩), .slice pv L.length cv, .int .i64 (endJ s.l k : Int), .bool false] := HJB.out
    refine wp_phiU_tail_in (HF.out.inRound l) (List.take 10 _) (List.drop 10 _) (List.take_append_drop 10 _).symm (rAdd 7 22 (.slice pv L.length cv) L.length) (fun w' => Blk w' w.heap.size 83 #[.pointer (some ⟨a, 0, none⟩), .slice pv L.length cv, .int .i64 (endJ s.l k : Int), .bool false] ∧ Blk w' jb 36 #[.pointer (some ⟨w.heap.size, 0, none⟩)] ∧ Blk w' g 22 #[.slice pb s.l.length cb] ∧ w'.ownsRow w.heap.size 5 1 (.slice pb s.l.length cb) s.l.length (bvs s.l) ∧ w'.ownsRow w.heap.size 5 1 (.slice pr r.length cr) r.length (bvs r) ∧ Below w.heap.size w w' ∧ KeepsOthers W5 w' ∧ W5.heap.size ≤ w'.heap.size)
      [(6, PRow1 w.heap.size r), (7, PRowsO W5 (o.toList ++ X) (.slice pv L.length cv) (L.length + 1) (L ++ [r]))] [(7, [6])] [(7, fun w' => RowsU w' (o.toList ++ X) (.slice pv L.length cv) L us)] [(6, 7)] (by kernel_rfl) (by kernel_rfl) (by kernel_rfl) ?_ ?_ ?_ ?_
      ⟨hjb5, HBX.out, HCP.out, HBY.out, HOW.out, HLW.out.drew, KeepsOthers.drew _, Nat.le_refl _⟩ ?_
    · rintro p hp w1' w2' ⟨g1, g2, g3, g4, g5, g6, g7, g8⟩ hR
      refine ⟨rAdd_blk hR g1 (by decide), rAdd_blk hR g2 (by decide), ?_, rAdd_owns hR g4 (by decide), rAdd_owns hR g5 (by decide), ?_, g7.trans (rAdd_others hR), Nat.le_trans g8 (rAdd_size hR)⟩
      · exact rAdd_blkne hR g3 fun q hq => (HVL.out q hq).2
      · exact g6.trans (rAdd_below hR g6.size fun q hq => (HVL.out q hq).1)
    · intro p hp p' hp' hne hks hns w1 w2 v hI hR hf
      simp only [List.mem_cons, List.not_mem_nil, or_false] at hp hp'
      rcases hp with rfl | rfl
      · rcases hp' with rfl | rfl
        · exact absurd rfl hne
        · exact absurd rfl hks
      · rcases hp' with rfl | rfl
        · exact absurd (show 6 ∈ needs [(7, [6])] 7 by decide) hns
        · exact absurd rfl hne
    · intro p hp u hu hne w1 w2 hI hR hf
      simp only [List.mem_cons, List.not_mem_nil, or_false] at hp hu
      subst hu
      rcases hp with rfl | rfl
      · have hR := rAdd_o (show (6 : Nat) ≠ 7 by decide) ▸ hR; exact hf.below hR
      · exact absurd rfl hne
    · intro u hu
      simp only [List.mem_cons, List.not_mem_nil, or_false] at hu
      subst hu
      exact HRU.out.below (Below.refl _ _).drew
    simp only [List.take_succ_cons, List.take_zero, List.drop_succ_cons, List.drop_zero]
    repeat (first | (refine phiU_skipK rfl (fun K hK => ?_); simp only [Act.put, List.setIfInBounds_toArray, List.set_cons_succ, List.set_cons_zero]; (try simp only [List.cons_append]); (try simp only [List.nil_append]); apply hK; clear hK K) | (refine phiU_pureK rfl rfl (fun K hK => ?_); apply Exists.intro; constructor; (focus (rintro w' ⟨g1, g2, g3, g4, g5, g6, g7, g8⟩; have q1 := (g1.cell 1).trans rfl; have q2 := (g2.cell 0).trans rfl; clear g1 g2 g3 g4 g5 g6 g7 g8; first | (go_simp; done) | (go_simp; (try go_bits); (try go_simp); rfl) | go_simp)); simp only [Act.put, List.setIfInBounds_toArray, List.set_cons_succ, List.set_cons_zero]; (try simp only [List.cons_append]); (try simp only [List.nil_append]); apply hK; clear hK K))
    refine phiU_partK (PRow1 w.heap.size r) rfl rfl ⟨_, 0, rfl⟩ ?_ (fun K hK v hv => ?_)
    · rintro w' ⟨g1, g2, g3, g4, g5, g6, g7, g8⟩ hf hu
      have HO := Lib.hid g5
      unfold gives
      clear hf hu g1 g2 g3 g4 g5 g6 g7 g8
      go_simp
      refine ⟨⟨_, rfl⟩, fun q hq => ?_, by rw [rAdd_o (by decide)]; exact below_alloc1 _ _⟩
      obtain rfl : w'.heap.size = q := by simpa using hq
      exact ⟨pr, cr, Blk.new _ _ _, owns_below HO.out (below_alloc1 _ _)⟩
    obtain ⟨g7, rfl⟩ := hv
    simp only [Act.put, List.setIfInBounds_toArray, List.set_cons_succ, List.set_cons_zero]; (try simp only [List.cons_append]); (try simp only [List.nil_append])
    apply hK
    clear hK K
    repeat (first | (refine phiU_skipK rfl (fun K hK => ?_); simp only [Act.put, List.setIfInBounds_toArray, List.set_cons_succ, List.set_cons_zero]; (try simp only [List.cons_append]); (try simp only [List.nil_append]); apply hK; clear hK K) | (refine phiU_pureK rfl rfl (fun K hK => ?_); apply Exists.intro; constructor; (focus (rintro w' ⟨g1, g2, g3, g4, g5, g6, g7, g8⟩; have q1 := (g1.cell 1).trans rfl; have q2 := (g2.cell 0).trans rfl; clear g1 g2 g3 g4 g5 g6 g7 g8; first | (go_simp; done) | (go_simp; (try go_bits); (try go_simp); rfl) | go_simp)); simp only [Act.put, List.setIfInBounds_toArray, List.set_cons_succ, List.set_cons_zero]; (try simp only [List.cons_append]); (try simp only [List.nil_append]); apply hK; clear hK K))
    refine phiU_partK (PRowsO W5 (o.toList ++ X) (.slice pv L.length cv) (L.length + 1) (L ++ [r])) rfl rfl ⟨_, none, 0, rfl⟩ ?_ (fun K hK v hv => ?_)
    · rintro w' ⟨g1, g2, g3, g4, g5, g6, g7', g8⟩ hf hu
      have h7 := hf (6, fun w' => (PRow1 w.heap.size r).fact w' (.slice (some ⟨g7, 0, none⟩) 1 1)) (by simp) (List.contains_iff_mem.1 rfl) rfl
      obtain ⟨p7, c7, hb7, ho7⟩ := h7 g7 rfl
      have hu8 : RowsU w' (o.toList ++ X) (.slice pv L.length cv) L us := hu (7, fun w' => RowsU w' (o.toList ++ X) (.slice pv L.length cv) L us) (by simp) rfl
      clear hf hu
      refine gives_appAt (.tmp 26) (.tmp 28) 39 rfl 0 22 i0 (.slice none 0 0) 1 24 Tryd.underlying39 hi hz0 hz1 hz2 rfl (by decide) _ _ _ rfl hu8.own _ _ _ [.slice p7 r.length c7] rfl rfl (.inr ⟨g7, 0, rfl, fun i u hiu => ?_⟩) (by simp [Value.oneCell']) (by unfold maxLen; omega) (by omega) (Nat.zero_le _) ?_
      · cases i with
        | zero =>
          obtain rfl : Value.slice p7 r.length c7 = u := by simpa using hiu
          exact (hb7.cell 0).trans rfl
        | succ i => simp at hiu
      intro v2 w2 ho2 hg2 hat2
      obtain ⟨p2, c2, rfl, _, _, _⟩ := owns_rd ho2
      refine ⟨⟨p2, c2, rfl⟩, ⟨?_, ?_⟩, ?_⟩
      · refine RowsO.add hu8.len ho2 hu8.own hg2 hu8.el (owns_lower ho7 (Nat.zero_le _)) (fun q hq hqx => ?_)
        have h1 := (ho7.lt q hq).1
        have h2 : q < w.heap.size := by
          rcases List.mem_append.1 hqx with h | h
          · exact HT.out.lt.2 q (Option.mem_toList.1 h)
          · exact HX.out q h
        omega
      · rcases hat2 with h | h
        · exact .inl h
        · exact .inr fun q hq => by
            rw [h] at hq
            cases hq
            exact g8
      · rw [rAdd_at]
        exact ⟨⟨us, hu8.own⟩, hg2⟩
    obtain ⟨p8, c8, rfl⟩ := hv
    simp only [Act.put, List.setIfInBounds_toArray, List.set_cons_succ, List.set_cons_zero]; (try simp only [List.cons_append]); (try simp only [List.nil_append])
    apply hK
    clear hK K
    repeat (first | (refine phiU_skipK rfl (fun K hK => ?_); simp only [Act.put, List.setIfInBounds_toArray, List.set_cons_succ, List.set_cons_zero]; (try simp only [List.cons_append]); (try simp only [List.nil_append]); apply hK; clear hK K) | (refine phiU_pureK rfl rfl (fun K hK => ?_); apply Exists.intro; constructor; (focus (rintro w' ⟨g1, g2, g3, g4, g5, g6, g7, g8⟩; have q1 := (g1.cell 1).trans rfl; have q2 := (g2.cell 0).trans rfl; clear g1 g2 g3 g4 g5 g6 g7 g8; first | (go_simp; done) | (go_simp; (try go_bits); (try go_simp); rfl) | go_simp)); simp only [Act.put, List.setIfInBounds_toArray, List.set_cons_succ, List.set_cons_zero]; (try simp only [List.cons_append]); (try simp only [List.nil_append]); apply hK; clear hK K))
    refine phiU_done ?_
    rintro w9 ⟨g1, g2, g3, g4, g5, g6, g7', g8⟩ hf
    obtain ⟨hr9, hn9⟩ : RowsO w9 (o.toList ++ X) (.slice p8 (L.length + 1) c8) (L ++ [r]) ∧ Nx W5 (Value.slice pv L.length cv).ownBlock (Value.slice p8 (L.length + 1) c8).ownBlock := hf (7, fun w' => (PRowsO W5 (o.toList ++ X) (.slice pv L.length cv) (L.length + 1) (L ++ [r])).fact w' (.slice p8 (L.length + 1) c8)) (by simp) rfl
    clear hf
    have c1 := (g1.cell 1).trans rfl
    have f1 := g1.frozen 1
    have hks : But [w.heap.size] w9 (w9.setCell ⟨w.heap.size, 1, none⟩ (.slice p8 (L.length + 1) c8)) := (but_refl _ _).set_ _ 1 _ (by simp)
    have hnj : ∀ T cs q, Blk w9 q T cs → T ≠ 83 → [w.heap.size].contains q = false := fun T cs q hq hT => by
      have := Blk.ne_ hq g1 hT
      simpa using this
    have hno : ∀ q ∈ [w.heap.size], ∀ T cs, Blk w9 q T cs → T = 83 := fun q hq T cs hcs => by
      obtain rfl : q = w.heap.size := by simpa using hq
      by_cases e : T = 83
      · exact e
      · exact absurd rfl (Blk.ne_ hcs g1 e)
    have HL9 := Lib.hid (show JLoop w (o.toList ++ X) a jb g s.l (.slice pb s.l.length cb) (k + 1) (w9.setCell ⟨w.heap.size, 1, none⟩ (.slice p8 (L.length + 1) c8)) from by
      refine ⟨⟨.slice p8 (L.length + 1) c8, ?_, ?_, fun q hq => ?_⟩, hks.blk g2 (hnj _ _ _ g2 (by decide)), hks.blk g3 (hnj _ _ _ g3 (by decide)), hks.owns2 (owns_not g4 fun q hq cs hcs => absurd (hno q hq _ cs hcs) (by decide)) g4, g6.setCell (p := ⟨w.heap.size, 1, none⟩) (Nat.le_refl _) _⟩
      · rw [show (framesJ ((readJ s.l).1.take (k + 1))).length = endJ s.l k from rfl]
        exact g1.set_ 1 _
      · rw [HLE.out, HTK.out]
        refine hr9.but hks (fun q hq => ?_) (fun q hq => .inr fun cs hcs => absurd (hno q hq _ cs hcs) (by decide))
        obtain ⟨us9, _, ho9, _⟩ := hr9
        exact owns_not ho9 (fun q hq cs hcs => absurd (hno q hq _ cs hcs) (by decide)) q hq
      · rcases hn9 with h | h
        · exact HVL.out q (h.symm.trans hq)
        · have h1 := h q hq
          have h2 := HCP.out.lt
          have h3 := HLW.out.size
          omega)
    have HKF := Lib.hid ((HKO.out.trans (g7'.trans (KeepsOthers.setCell w9 ⟨w.heap.size, 1, none⟩ (.slice p8 (L.length + 1) c8)))).from w3.heap.size)
    clear g1 g2 g3 g4 g5 g6 g7' g8 hr9 hn9 hks hnj hno
    refine wpList_skip rfl (w' := w9.setCell ⟨w.heap.size, 1, none⟩ (.slice p8 (L.length + 1) c8)) (by go_simp) ?_
    refine inQ_nil ?_
    gi_wp2
    exact ⟨HKF.out, HL9.out⟩
  case hdone =>
    intro D W hD hj hW
    have hTW : Tp W a o s := HT.out.below hj.low
    have htk : (readJ s.l).1.take (readJ s.l).1.length = (readJ s.l).1 := List.take_of_length_le (Nat.le_refl _)
    obtain ⟨⟨v, hjb, hrr, hvl⟩, hbx, hcp, hby, hlow⟩ := hj
    rw [htk] at hjb hrr
    clear htk
    rw [← (readJ_ok s.l).2.2.1] at hjb
    have hn2 := (readJ_ok s.l).2.2.2
    have HFR := Lib.hid (readJ_ok s.l).2.2.1
    have HOK := Lib.hid (readJ_ok s.l).1
    have c2 := (hjb.cell 2).trans rfl
    have cx := (hbx.cell 0).trans rfl
    have HJB := Lib.hid hjb
    have HRR := Lib.hid hrr
    have HVL := Lib.hid hvl
    have HTW := Lib.hid hTW
    have HLW := Lib.hid hlow
    have HW := Lib.hid hW
    have HOP := Lib.hid (show openJ s = ⟨if (readJ s.l).2 < s.l.length then s.cut ((readJ s.l).2 : Int) else s, (readJ s.l).1, false⟩ from rfl)
    have HE1 := Lib.hid (show (if (readJ s.l).2 < s.l.length then s.cutE ((readJ s.l).2 : Int) else 0) = 0 from HE0.out)
    clear hjb hrr hvl hby hcp hbx hlow hTW hW
    generalize (readJ s.l).2 = n2 at *
    generalize (readJ s.l).1 = rs at *
    have HJN := Lib.hid (show Jn W w.heap.size a v.ownBlock o X ⟨s, rs, false⟩ from ⟨⟨v, rfl, by rw [← HFR.out]; exact HJB.out, HRR.out⟩, HTW.out, (okRows_iff rs).2 HOK.out⟩)
    have HDN := Lib.hid (show ∀ q ∈ a :: o.toList, q < w.heap.size from fun q hq => by
      rcases List.mem_cons.1 hq with rfl | hq
      · exact HT.out.lt.1
      · exact HT.out.lt.2 q (Option.mem_toList.1 hq))
    by_cases hc : n2 < s.l.length
    · have d1 : decide (n2 < s.l.length) = true := by rw [decide_eq_true_eq]; omega
      have HOP := Lib.hid (show openJ s = ⟨s.cut (n2 : Int), rs, false⟩ from by rw [HOP.out, if_pos hc])
      have hce : s.cutE (n2 : Int) = 0 := by have h := HE1.out; rw [if_pos hc] at h; exact h
      have HCU := Lib.hid (cut_any W E a o s (n2 : Int) ((HG.out.errs W (HLW.out.mono hB)).on [0, 6] rfl) HTW.out)
      rw [hce, errV_zero] at HCU
      clear hce hc
      gi_wp2
      refine ⟨HF.out.fn _, ?_⟩
      refine (HF.out.calls _ _ _ _ _ _ HCU.out).mono ?_
      rintro e W2 ⟨rfl, ht2, k2⟩
      obtain ⟨o2, hn2', hj2⟩ := HJN.out.tapes ht2 k2
      have hcx : (a :: o.toList).contains jb = false := by
        rw [Bool.eq_false_iff]
        intro h
        have := HDN.out jb (List.contains_iff_mem.1 h)
        omega
      have hcd : (a :: o.toList).contains D = false := by
        rw [Bool.eq_false_iff]
        intro h
        have := HDN.out D (List.contains_iff_mem.1 h)
        omega
      have hW2 := (k2.block D (Array.getElem?_eq_some_iff.1 HW.out).1 hcd).trans HW.out
      have cx := k2.cell hcx cx
      have HW2 := Lib.hid hW2
      have HK2 := Lib.hid (show But (a :: o.toList) w W2 from (But.of_below HLW.out).trans k2)
      have HJ2 := Lib.hid hj2
      have HN2 := Lib.hid (hn2'.lower HLW.out.size)
      clear c2 hW2 k2 ht2 hn2' hj2 hcx hcd
      gi_wp2
      refine ⟨by simp, .inl ⟨_, _, rfl, run_takeDeferred HW2.out, ?_⟩⟩
      have hsee : Sees w3.heap.size W2 (W2.putObj D (.deferred none)) := Sees.putObj _ hD HW2.out rfl
      have hbf : But (a :: o.toList) w (W2.putObj D (.deferred none)) := by
        refine ⟨hsee.os.trans HK2.out.os, hsee.tape.trans HK2.out.tape, hsee.output.trans HK2.out.output, Nat.le_trans HK2.out.size hsee.size, fun q hq hn => ?_⟩
        exact (hsee.low q (by omega) (Nat.lt_of_lt_of_le hq HK2.out.size)).trans (HK2.out.block q hq hn)
      refine ⟨.tuple #[.pointer (some ⟨w.heap.size, 0, none⟩), .nilIface], by simp [results, Tryd.results15, go_sem], rfl, ⟨v.ownBlock, o2, fun q hq => (HVL.out q hq).1, HN2.out, ?_⟩, hbf⟩
      rw [HOP.out]
      exact JG.made (HJ2.out.sees hsee) hbf HG.out HA.out hB (fun q hq => (HVL.out q hq).1) HN2.out HX.out
    · have d1 : decide (n2 < s.l.length) = false := by rw [decide_eq_false_iff_not]; omega
      have HOP := Lib.hid (show openJ s = ⟨s, rs, false⟩ from by rw [HOP.out, if_neg hc])
      clear hc
      gi_wp2
      refine ⟨by simp, .inl ⟨_, _, rfl, run_takeDeferred HW.out, ?_⟩⟩
      have hsee : Sees w3.heap.size W (W.putObj D (.deferred none)) := Sees.putObj _ hD HW.out rfl
      have hbf : But (a :: o.toList) w (W.putObj D (.deferred none)) := But.of_below (hsee.below hlw HLW.out HLW.out.size)
      refine ⟨.tuple #[.pointer (some ⟨w.heap.size, 0, none⟩), .nilIface], by simp [results, Tryd.results15, go_sem], rfl, ⟨v.ownBlock, o, fun q hq => (HVL.out q hq).1, .inl rfl, ?_⟩, hbf⟩
      rw [HOP.out]
      exact JG.made (HJN.out.sees hsee) hbf HG.out HA.out hB (fun q hq => (HVL.out q hq).1) (.inl rfl) HX.out
/-- JOURNAL.OPEN -/
theorem open_any7 (B : Nat) (w : World) (E : Nat → Addr) (a : Nat) (o : Option Nat) (X : List Nat) (s : TSt) (ht : Tp w a o s) (hE0 : openE s = 0) (hg : Glob B w E) (hB : B ≤ w.heap.size) (ha : ∀ g ∈ a :: o.toList, B ≤ g) (hX : ∀ g ∈ X, g < w.heap.size) :
    Calls Tryd.prog 15 #[.pointer (some ⟨a, 0, none⟩)] w fun e w' => e = .returned (.tuple #[.pointer (some ⟨w.heap.size, 0, none⟩), .nilIface]) ∧
      (∃ p' o', (∀ g, p' = some g → w.heap.size ≤ g) ∧ Nx w o o' ∧ JG B w' E w.heap.size a p' o' X (openJ s)) ∧ But (a :: o.toList) w w' :=
  callsIn_wide.1 (open_in Fence.wide FreeF.wide rfl B w E a o X s ht hE0 hg hB ha hX)
end Go.Proofs.YtoiknidlincdkaaDoor
