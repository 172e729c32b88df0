/-
  JourO: Put and Compact.
-/
import Derived.Test.YtoiknidlincdkaaDoorJourN
namespace Go.Proofs.YtoiknidlincdkaaDoor
open Go.RowKit

theorem owns_not {w : World} {S : List Nat} {base n : Nat} {e : TypeId} {v : Value} {xs : List Value} (ho : w.ownsRow base e 1 v n xs) (hS : ∀ g ∈ S, ∀ cs, ¬ Blk w g e cs) : ∀ g, v.ownBlock = some g → S.contains g = false := by
  intro g hg
  rw [Bool.eq_false_iff]
  intro hc
  rcases ho.2 with ⟨h0, _⟩ | ⟨g9, cap, cur, h0, _, hh, _⟩
  · rw [h0] at hg; cases hg
  · rw [h0] at hg
    cases hg
    exact hS _ (List.contains_iff_mem.1 hc) cur hh
theorem Nx.lower {w w' : World} {a b : Option Nat} (hs : w.heap.size ≤ w'.heap.size) (h : Nx w' a b) : Nx w a b := by
  rcases h with h | h
  · exact .inl h
  · exact .inr fun g hg => Nat.le_trans hs (h g hg)
/-- the journal's own cells, its tape, its rows -/
theorem Jn.setdead {w : World} {j a : Nat} {p o : Option Nat} {X : List Nat} {st : JSt} (h : Jn w j a p o X st) (d : Bool) : Jn (w.setCell ⟨j, 3, none⟩ (.bool d)) j a p o X ⟨st.t, st.rows, d⟩ := by
  obtain ⟨⟨v, rfl, h2, h3⟩, h4, h5⟩ := h
  have k := (but_refl [j] w).set_ j 3 (.bool d) (by simp)
  have hu : ∀ g ∈ [j], ∀ cs, ¬ Blk w g 5 cs := fun g hg cs hcs => by
    obtain rfl : g = j := by simpa using hg
    exact Blk.ne_ hcs h2 (by decide) rfl
  refine ⟨⟨v, rfl, h2.set_ 3 _, h3.but k ?_ fun g hg => .inr (hu g hg)⟩, h4.but k ?_ ?_, h5⟩
  · obtain ⟨us, _, ho, _⟩ := h3
    exact owns_not ho fun g hg cs hcs => by
      obtain rfl : g = j := by simpa using hg
      exact Blk.ne_ hcs h2 (by decide) rfl
  · obtain ⟨va, _, ha2, _, _⟩ := h4
    have := Blk.ne_ ha2 h2 (by decide)
    simpa using this
  · intro g hg
    obtain ⟨cs, hcs⟩ := h4.own g hg
    have := Blk.ne_ hcs h2 (by decide)
    simpa using this
/-- the call ends with the error n, noted -/
theorem JG.noted {B : Nat} {w w1 : World} {E : Nat → Addr} {j a : Nat} {p o p1 o1 : Option Nat} {X : List Nat} {st : JSt} (d : Bool) {r : Value} (h : JG B w1 E j a p1 o1 X st) (k : But (jS j a p o) w w1) (hp : Nx w p p1) (ho : Nx w o o1) :
    JOut B E j a p o X ⟨st.t, st.rows, d⟩ r w (.returned r) (w1.setCell ⟨j, 3, none⟩ (.bool d)) := by
  have k1 : But (jS j a p1 o1) w1 (w1.setCell ⟨j, 3, none⟩ (.bool d)) := (but_refl _ w1).set_ j 3 _ (by simp [jS])
  exact ⟨rfl, ⟨p1, o1, hp, ho, h.new k1 (h.jn.setdead d) (.inl rfl) (.inl rfl)⟩, k.next k1 hp ho⟩
theorem framesJ_le_rows {rs : List (List UInt8)} (h : okRows rs = true) : (framesJ rs).length ≤ 206 * rs.length := okRows_bound h
/-- rows were added -/
theorem Jn.added {w w' : World} {j a : Nat} {o : Option Nat} {X : List Nat} {t : TSt} {rs ls : List (List UInt8)} {v : Value} {sz n : Int} {dd : Bool} {e : Ending} (hb : Blk w j 83 #[.pointer (some ⟨a, 0, none⟩), v, .int .i64 sz, .bool dd]) (hv : ∀ g, v.ownBlock = some g → ∃ cs, Blk w g 22 cs)
    (ht : Tp w a o t) (h : Added w j (.pointer (some ⟨a, 0, none⟩)) v sz dd (o.toList ++ X) [] rs ls n e w') (hn : sz + n = ((framesJ (rs ++ ls)).length : Int)) (hok : okRows (rs ++ ls) = true) : ∃ p', Nx w v.ownBlock p' ∧ Jn w' j a p' o X ⟨t, rs ++ ls, dd⟩ := by
  obtain ⟨_, ⟨v', hnx, hb', hr'⟩, k⟩ := h
  rw [List.append_nil] at hr'
  rw [hn] at hb'
  have hva : ∀ g ∈ j :: v.ownBlock.toList, ∀ T cs, Blk w g T cs → T = 83 ∨ T = 22 := fun g hg T cs hcs => by
    rcases List.mem_cons.1 hg with rfl | hg
    · exact .inl (by
        by_cases e : T = 83
        · exact e
        · exact absurd rfl (Blk.ne_ hcs hb e))
    · obtain ⟨cs', hcs'⟩ := hv g (Option.mem_toList.1 hg)
      exact .inr (by
        by_cases e : T = 22
        · exact e
        · exact absurd rfl (Blk.ne_ hcs hcs' e))
  have hno : ∀ g T cs, Blk w g T cs → T ≠ 83 → T ≠ 22 → (j :: v.ownBlock.toList).contains g = false := fun g T cs hcs h1 h2 => by
    rw [Bool.eq_false_iff]
    intro hc
    rcases hva g (List.contains_iff_mem.1 hc) T cs hcs with h | h
    · exact h1 h
    · exact h2 h
  refine ⟨v'.ownBlock, hnx, ⟨v', rfl, hb', hr'⟩, ht.but k ?_ ?_, hok⟩
  · obtain ⟨va, _, ha2, _, _⟩ := ht
    exact hno a _ _ ha2 (by decide) (by decide)
  · intro g hg
    obtain ⟨cs, hcs⟩ := ht.own g hg
    exact hno g _ _ hcs (by decide) (by decide)
theorem dead_pos {st : JSt} (h : st.dead = true) (ls : List (List UInt8)) : st.put ls = st ∧ st.putE ls = 9 ∧ st.compact ls = st ∧ st.compactE ls = 9 := by
  unfold JSt.put JSt.putE JSt.compact JSt.compactE
  rw [if_pos h, if_pos h, if_pos h, if_pos h]
  exact ⟨rfl, rfl, rfl, rfl⟩
theorem put_nil (st : JSt) (h : st.dead = false) : st.put [] = st ∧ st.putE [] = 0 := by
  unfold JSt.put JSt.putE
  have e1 : ¬ st.dead = true := by rw [h]; decide
  have e2 : ¬ okRows [] = false := by decide
  have e3 : ([] : List (List UInt8)) = [] := rfl
  rw [if_neg e1, if_neg e1, if_neg e2, if_neg e2, if_pos e3, if_pos e3]
  exact ⟨rfl, rfl⟩
theorem put_go (st : JSt) (ls : List (List UInt8)) (h : st.dead = false) (h1 : okRows ls = true) (h2 : ls ≠ []) :
    st.put ls = (if st.t.appendE (framesJ ls) = 0 then
      (if (st.t.append (framesJ ls)).stepE = 0 then ⟨(st.t.append (framesJ ls)).sync, st.rows ++ ls, false⟩ else ⟨(st.t.append (framesJ ls)).sync, st.rows, (st.t.append (framesJ ls)).stepE == 7⟩)
      else ⟨st.t.append (framesJ ls), st.rows, st.t.appendE (framesJ ls) == 7⟩) ∧
    st.putE ls = if st.t.appendE (framesJ ls) = 0 then (st.t.append (framesJ ls)).stepE else st.t.appendE (framesJ ls) := by
  unfold JSt.put JSt.putE
  have e1 : ¬ st.dead = true := by rw [h]; decide
  have e2 : ¬ okRows ls = false := by rw [h1]; decide
  rw [if_neg e1, if_neg e1, if_neg e2, if_neg e2, if_neg h2, if_neg h2]
  exact ⟨rfl, rfl⟩
theorem Jn.j {w : World} {j a : Nat} {p o : Option Nat} {X : List Nat} {st : JSt} (h : Jn w j a p o X st) : ∃ v, v.ownBlock = p ∧ Blk w j 83 #[.pointer (some ⟨a, 0, none⟩), v, .int .i64 ((framesJ st.rows).length : Int), .bool st.dead] ∧ RowsO w (o.toList ++ X) v st.rows := h.ex
theorem JG.same {B : Nat} {w w' : World} {E : Nat → Addr} {j a : Nat} {p o : Option Nat} {X : List Nat} {st : JSt} (h : JG B w E j a p o X st) (k : Below w.heap.size w w') : JG B w' E j a p o X st :=
  h.new (But.of_below k) (h.jn.below k) (.inl rfl) (.inl rfl)
theorem JOut.same {B : Nat} {w w' : World} {E : Nat → Addr} {j a : Nat} {p o : Option Nat} {X : List Nat} {st : JSt} {r : Value} (h : JG B w E j a p o X st) (k : Below w.heap.size w w') : JOut B E j a p o X st r w (.returned r) w' :=
  ⟨rfl, ⟨p, o, .inl rfl, .inl rfl, h.same k⟩, But.of_below k⟩
set_option maxRecDepth 20000 in
set_option maxHeartbeats 4000000 in
theorem put_any (B : Nat) (w : World) (E : Nat → Addr) (j a : Nat) (p o : Option Nat) (X : List Nat) (st : JSt) (vl : Value) (ls : List (List UInt8)) (h : JG B w E j a p o X st) (hv : StayL (jS j a p o) w vl ls) (hr1 : st.rows.length ≤ 100000) (hl1 : ls.length ≤ 1000) :
    Calls Tryd.prog 22 #[.pointer (some ⟨j, 0, none⟩), vl] w (fun e w' => JOut B E j a p o X (st.put ls) (errV E (st.putE ls)) w e w') := by
  have HG := Lib.hid h
  have HV := Lib.hid hv
  obtain ⟨v, -, hbj, hrr⟩ := h.jn.j
  have hg0 := h.glob.errs w (Below.refl _ _)
  have e8 := hg0.cell 8 (by omega)
  simp only [errVar, List.getD_cons_zero, List.getD_cons_succ, errAt] at e8
  have c0 := (hbj.cell 0).trans rfl
  have c3 := (hbj.cell 3).trans rfl
  clear h hv hbj hrr
  cases hd : st.dead with
  | true =>
    obtain ⟨q1, q2, _, _⟩ := dead_pos hd ls
    have HQ := Lib.hid (And.intro q1 q2)
    rw [hd] at c3
    clear q1 q2 hd hg0
    go_enter Tryd.func22, Tryd.ntmps22
    go_wp2_with fail
    go_ret
    rw [HQ.out.1, HQ.out.2]
    exact JOut.same HG.out (Below.refl _ _)
  | false =>
    have HD := Lib.hid hd
    rw [hd] at c3
    have HAL := Lib.hid (all_any ls hl1 vl w E (HG.out.glob.half w (Below.refl _ _)) hg0 (HV.out.bytl (but_refl _ _)))
    clear hd hg0
    go_enter Tryd.func22, Tryd.ntmps22
    go_wp2_with fail
    refine HAL.out.mono ?_
    rintro e w1 ⟨hb1, ⟨hok, v1, rfl, ho1⟩ | ⟨hok, rfl⟩⟩
    · have HG1 := Lib.hid (HG.out.same hb1)
      have HV1 := Lib.hid (HV.out.but (But.of_below hb1))
      have HOK := Lib.hid hok
      have HB1 := Lib.hid hb1
      have hF := okRows_bound hok
      have hFl : (framesJ ls).length ≤ 206000 := by have := Nat.mul_le_mul_left 206 hl1; omega
      obtain ⟨p1, k1, rfl, _, _, _⟩ := owns_rd ho1
      have HO1 := Lib.hid ho1
      clear c0 c3 hok hb1 ho1 HAL hF e8
      by_cases hls : ls = []
      · subst hls
        have hQ := put_nil st HD.out
        have HQ := Lib.hid hQ
        clear hQ
        go_wp2_with fail
        go_ret
        rw [HQ.out.1, HQ.out.2]
        exact JOut.same HG.out HB1.out
      · have hpos : (framesJ ls).length ≠ 0 := fun e => hls (framesJ_zero.1 e)
        have d0 : (((framesJ ls).length : Int) == 0) = false := by rw [beq_eq_false_iff_ne]; omega
        have HQ := Lib.hid (put_go st ls HD.out HOK.out hls)
        have hFa := Lib.hid (show framesJ (st.rows ++ ls) = framesJ st.rows ++ framesJ ls from framesJ_app _ _)
        clear hpos hls
        obtain ⟨vq, -, hbj, hrr⟩ := HG1.out.jn.j
        have c0 := (hbj.cell 0).trans rfl
        have HT1 := Lib.hid HG1.out.jn.tape
        have HA := Lib.hid (append_any w1 E a o st.t (.slice p1 (framesJ ls).length k1) (framesJ ls) ((HG1.out.glob.errs w1 (Below.refl _ _)).on [5, 6] rfl) HT1.out (owns_byt HO1.out) (fun w' k => owns_byt (by
          obtain ⟨va, _, ha2, _, _⟩ := HT1.out
          exact k.owns ha2 HO1.out tb_ne)) (by omega))
        clear hbj hrr
        go_wp2_with fail
        refine HA.out.mono ?_
        rintro e w2 ⟨rfl, ht2, k2⟩
        obtain ⟨o2, hn2, hj2⟩ := HG1.out.jn.tapes ht2 k2
        have K2 := Lib.hid (k2.wider (jS_tape j a p o))
        have HG2 := Lib.hid (HG1.out.new K2.out hj2 (.inl rfl) hn2)
        have HN2 := Lib.hid (hn2.lower HB1.out.size)
        clear ht2 k2 hj2 hn2 c0 HA HT1 HG1
        have HBT := Lib.hid (show But (jS j a p o) w w2 from (But.of_below HB1.out).trans K2.out)
        rcases st.t.appendE_cases (framesJ ls) with hE | hE | hE
        · rw [hE, errV_zero]
          have HQ := Lib.hid (show st.put ls = _ ∧ st.putE ls = _ from by
            have h1 := HQ.out
            rw [if_pos hE, if_pos hE] at h1
            exact h1)
          clear hE
          obtain ⟨vq2, -, hbj2, hrr2⟩ := HG2.out.jn.j
          have c0 := (hbj2.cell 0).trans rfl
          have HT2 := Lib.hid HG2.out.jn.tape
          have HA := Lib.hid (sync_any w2 E a o2 (st.t.append (framesJ ls)) ((HG2.out.glob.errs w2 (Below.refl _ _)).on [6] rfl) HT2.out)
          clear hbj2 hrr2
          go_wp2_with fail
          refine HA.out.mono ?_
          rintro e w3 ⟨rfl, ht3, k3⟩
          obtain ⟨o3, hn3, hj3⟩ := HG2.out.jn.tapes ht3 k3
          have K3 := Lib.hid (k3.wider (jS_tape j a p o2))
          have HG3 := Lib.hid (HG2.out.new K3.out hj3 (.inl rfl) hn3)
          have HN3 := Lib.hid (HN2.out.trans HBT.out.size hn3)
          clear ht3 k3 hj3 hn3 c0 HA HT2
          have HBT3 := Lib.hid (HBT.out.next K3.out (.inl rfl) HN2.out)
          rcases (st.t.append (framesJ ls)).stepE_cases with hE | hE
          · rw [hE, errV_zero]
            have HQ := Lib.hid (show st.put ls = _ ∧ st.putE ls = _ from by
              have h1 := HQ.out
              rw [if_pos hE, hE] at h1
              exact h1)
            clear hE
            obtain ⟨vq3, hpv3, hbj3, hrr3⟩ := HG3.out.jn.j
            subst hpv3
            have HAD := Lib.hid (add_any w3 j (.pointer (some ⟨a, 0, none⟩)) vq3 ((framesJ st.rows).length : Int) ((framesJ ls).length : Int) st.dead (o3.toList ++ X) st.rows ls vl (fun g hg => by
                rcases List.mem_append.1 hg with h | h
                · exact HG3.out.jn.lt g (jS_tape _ _ _ _ g (List.mem_cons_of_mem _ h))
                · exact HG3.out.lt g h) (by omega) hl1 (fun l hl => ((okRow_iff l).1 ((okRows_iff ls).1 HOK.out l hl)).2) (by have := framesJ_le_rows HG.out.jn.ok; omega) (by omega) hbj3 hrr3
              ((HV.out.but HBT3.out).less (fun g hg => jS_rows j a _ o g hg)))
            have HBJ := Lib.hid hbj3
            have HRR := Lib.hid hrr3
            clear hbj3 hrr3
            go_wp2_with fail
            refine HAD.out.mono ?_
            intro e w4 hadd
            obtain ⟨p4, hn4, hj4⟩ := Jn.added HBJ.out (fun g hg => by
              obtain ⟨us9, _, ho9, _⟩ := HRR.out
              rcases ho9.2 with ⟨h0, _⟩ | ⟨g9, cap, cur, h0, _, hh, _⟩
              · rw [h0] at hg; cases hg
              · rw [h0] at hg
                cases hg
                exact ⟨cur, hh⟩) HG3.out.jn.tape hadd (by
                have h1 := congrArg List.length hFa.out
                rw [List.length_append] at h1
                exact_mod_cast h1.symm) (by rw [okRows_app, HG3.out.jn.ok, HOK.out]; rfl)
            obtain ⟨rfl, -, k4⟩ := hadd
            have K4 := Lib.hid (k4.wider (jS_rows j a _ o3))
            have HN4 := Lib.hid hn4
            have HJ4 := Lib.hid hj4
            clear k4 hn4 hj4 HAD
            go_wp2_with fail
            go_ret
            rw [HQ.out.1, HQ.out.2]
            have h4 := HJ4.out
            rw [HD.out] at h4
            exact ⟨rfl, ⟨p4, o3, HN4.out.lower HBT3.out.size, HN3.out, HG3.out.new K4.out h4 HN4.out (.inl rfl)⟩, HBT3.out.next K4.out (.inl rfl) HN3.out⟩
          · rw [hE, errV_suc]
            have HQ := Lib.hid (show st.put ls = _ ∧ st.putE ls = _ from by
              have h1 := HQ.out
              rw [if_neg (show ¬ (st.t.append (framesJ ls)).stepE = 0 by rw [hE]; decide), hE] at h1
              exact h1)
            clear hE
            obtain ⟨vq9, -, hbj9, -⟩ := HG3.out.jn.j
            have c0 := (hbj9.cell 0).trans rfl
            rw [show JSt.dead ⟨_, _, st.dead⟩ = false from HD.out] at hbj9
            have HNO := Lib.hid (note_any w3 E j _ _ _ 6 (by omega) (HG3.out.glob.errs w3 (Below.refl _ _)) hbj9)
            unfold errAt at HNO
            clear hbj9
            go_wp2_with fail
            refine HNO.out.mono ?_
            rintro e w9 ⟨rfl, rfl⟩
            go_wp2_with fail
            go_ret
            rw [HQ.out.1, HQ.out.2]
            exact HG3.out.noted _ HBT3.out (.inl rfl) HN3.out
        · rw [hE, errV_suc]
          have HQ := Lib.hid (show st.put ls = _ ∧ st.putE ls = _ from by
            have h1 := HQ.out
            rw [if_neg (show ¬ st.t.appendE (framesJ ls) = 0 by rw [hE]; decide), if_neg (show ¬ st.t.appendE (framesJ ls) = 0 by rw [hE]; decide), hE] at h1
            exact h1)
          clear hE
          obtain ⟨vq9, -, hbj9, -⟩ := HG2.out.jn.j
          have c0 := (hbj9.cell 0).trans rfl
          rw [show JSt.dead ⟨_, _, st.dead⟩ = false from HD.out] at hbj9
          have HNO := Lib.hid (note_any w2 E j _ _ _ 5 (by omega) (HG2.out.glob.errs w2 (Below.refl _ _)) hbj9)
          unfold errAt at HNO
          clear hbj9
          go_wp2_with fail
          refine HNO.out.mono ?_
          rintro e w9 ⟨rfl, rfl⟩
          go_wp2_with fail
          go_ret
          rw [HQ.out.1, HQ.out.2]
          exact HG2.out.noted _ HBT.out (.inl rfl) HN2.out
        · rw [hE, errV_suc]
          have HQ := Lib.hid (show st.put ls = _ ∧ st.putE ls = _ from by
            have h1 := HQ.out
            rw [if_neg (show ¬ st.t.appendE (framesJ ls) = 0 by rw [hE]; decide), if_neg (show ¬ st.t.appendE (framesJ ls) = 0 by rw [hE]; decide), hE] at h1
            exact h1)
          clear hE
          obtain ⟨vq9, -, hbj9, -⟩ := HG2.out.jn.j
          have c0 := (hbj9.cell 0).trans rfl
          rw [show JSt.dead ⟨_, _, st.dead⟩ = false from HD.out] at hbj9
          have HNO := Lib.hid (note_any w2 E j _ _ _ 6 (by omega) (HG2.out.glob.errs w2 (Below.refl _ _)) hbj9)
          unfold errAt at HNO
          clear hbj9
          go_wp2_with fail
          refine HNO.out.mono ?_
          rintro e w9 ⟨rfl, rfl⟩
          go_wp2_with fail
          go_ret
          rw [HQ.out.1, HQ.out.2]
          exact HG2.out.noted _ HBT.out (.inl rfl) HN2.out
    · have HN := Lib.hid (put_bad st ls HD.out hok)
      clear hok HAL
      unfold errAt
      go_wp2_with fail
      go_ret
      rw [HN.out.1, HN.out.2]
      exact JOut.same HG.out hb1
theorem compact_go (st : JSt) (ls : List (List UInt8)) (h : st.dead = false) (h1 : okRows ls = true) :
    st.compact ls = (if st.t.swapE (framesJ ls) = 0 then ⟨st.t.swap (framesJ ls), ls, false⟩ else ⟨st.t.swap (framesJ ls), st.rows, st.t.swapE (framesJ ls) == 7⟩) ∧ st.compactE ls = st.t.swapE (framesJ ls) := by
  unfold JSt.compact JSt.compactE
  have e1 : ¬ st.dead = true := by rw [h]; decide
  have e2 : ¬ okRows ls = false := by rw [h1]; decide
  rw [if_neg e1, if_neg e1, if_neg e2, if_neg e2]
  exact ⟨rfl, rfl⟩
set_option maxRecDepth 20000 in
set_option maxHeartbeats 4000000 in
theorem compact_any (B : Nat) (w : World) (E : Nat → Addr) (j a : Nat) (p o : Option Nat) (X : List Nat) (st : JSt) (vl : Value) (ls : List (List UInt8)) (h : JG B w E j a p o X st) (hv : StayL (jS j a p o) w vl ls) (hl1 : ls.length ≤ 1000) :
    Calls Tryd.prog 27 #[.pointer (some ⟨j, 0, none⟩), vl] w (fun e w' => JOut B E j a p o X (st.compact ls) (errV E (st.compactE ls)) w e w') := by
  have HG := Lib.hid h
  have HV := Lib.hid hv
  obtain ⟨v, -, hbj, hrr⟩ := h.jn.j
  have hg0 := h.glob.errs w (Below.refl _ _)
  have e8 := hg0.cell 8 (by omega)
  simp only [errVar, List.getD_cons_zero, List.getD_cons_succ, errAt] at e8
  have c0 := (hbj.cell 0).trans rfl
  have c3 := (hbj.cell 3).trans rfl
  clear h hv hbj hrr
  cases hd : st.dead with
  | true =>
    obtain ⟨_, _, q1, q2⟩ := dead_pos hd ls
    have HQ := Lib.hid (And.intro q1 q2)
    rw [hd] at c3
    clear q1 q2 hd hg0
    go_enter Tryd.func27, Tryd.ntmps27
    go_wp2_with fail
    go_ret
    rw [HQ.out.1, HQ.out.2]
    exact JOut.same HG.out (Below.refl _ _)
  | false =>
    have HD := Lib.hid hd
    rw [hd] at c3
    have HAL := Lib.hid (all_any ls hl1 vl w E (HG.out.glob.half w (Below.refl _ _)) hg0 (HV.out.bytl (but_refl _ _)))
    clear hd hg0
    go_enter Tryd.func27, Tryd.ntmps27
    go_wp2_with fail
    refine HAL.out.mono ?_
    rintro e w1 ⟨hb1, ⟨hok, v1, rfl, ho1⟩ | ⟨hok, rfl⟩⟩
    · have HG1 := Lib.hid (HG.out.same hb1)
      have HV1 := Lib.hid (HV.out.but (But.of_below hb1))
      have HOK := Lib.hid hok
      have HB1 := Lib.hid hb1
      have hF := okRows_bound hok
      have hFl : (framesJ ls).length ≤ 206000 := by have := Nat.mul_le_mul_left 206 hl1; omega
      obtain ⟨p1, k1, rfl, _, _, _⟩ := owns_rd ho1
      have HO1 := Lib.hid ho1
      clear c0 c3 hok hb1 ho1 HAL hF e8
      have HQ := Lib.hid (compact_go st ls HD.out HOK.out)
      obtain ⟨vq, -, hbj, hrr⟩ := HG1.out.jn.j
      have c0 := (hbj.cell 0).trans rfl
      have HT1 := Lib.hid HG1.out.jn.tape
      have HA := Lib.hid (swap_any w1 E a o st.t (.slice p1 (framesJ ls).length k1) (framesJ ls) ((HG1.out.glob.errs w1 (Below.refl _ _)).on [5, 6] rfl) HT1.out (owns_byt HO1.out) (fun w' k => owns_byt (by
        obtain ⟨va, _, ha2, _, _⟩ := HT1.out
        exact k.owns ha2 HO1.out tb_ne)))
      clear hbj hrr
      go_wp2_with fail
      refine HA.out.mono ?_
      rintro e w2 ⟨rfl, ht2, k2⟩
      obtain ⟨o2, hn2, hj2⟩ := HG1.out.jn.tapes ht2 k2
      have K2 := Lib.hid (k2.wider (jS_tape j a p o))
      have HG2 := Lib.hid (HG1.out.new K2.out hj2 (.inl rfl) hn2)
      have HN2 := Lib.hid (hn2.lower HB1.out.size)
      clear ht2 k2 hj2 hn2 c0 HA HT1 HG1
      have HBT := Lib.hid (show But (jS j a p o) w w2 from (But.of_below HB1.out).trans K2.out)
      rcases st.t.swapE_cases (framesJ ls) with hE | hE | hE
      · rw [hE, errV_zero]
        have HQ := Lib.hid (show st.compact ls = _ ∧ st.compactE ls = _ from by
          have h1 := HQ.out
          rw [if_pos hE, hE] at h1
          exact h1)
        clear hE
        obtain ⟨vq2, -, hbj2, hrr2⟩ := HG2.out.jn.j
        have HBJ2 := Lib.hid hbj2
        have HT2 := Lib.hid HG2.out.jn.tape
        have f1 := hbj2.frozen 1
        have f2 := hbj2.frozen 2
        have c1 := (hbj2.cell 1).trans rfl
        have c2 := (hbj2.cell 2).trans rfl
        obtain ⟨pq, kq, rfl, _, _, _⟩ : ∃ p c, vq2 = .slice p st.rows.length c ∧ True ∧ True ∧ True := by
          obtain ⟨us9, _, ho9, _⟩ := hrr2
          obtain ⟨p, c, h, _⟩ := owns_rd ho9
          exact ⟨p, c, h, trivial, trivial, trivial⟩
        clear hbj2 hrr2
        go_wp2_with fail
        clear c1 c2 f1 f2
        have hk3 : But [j] w2 ((w2.setCell ⟨j, 1, none⟩ (.slice none 0 0)).setCell ⟨j, 2, none⟩ (.int .i64 0)) := ((but_refl [j] w2).set_ j 1 _ (by simp)).set_ j 2 _ (by simp)
        have hb3 : Blk ((w2.setCell ⟨j, 1, none⟩ (.slice none 0 0)).setCell ⟨j, 2, none⟩ (.int .i64 0)) j 83 #[.pointer (some ⟨a, 0, none⟩), .slice none 0 0, .int .i64 0, .bool st.dead] := (HBJ2.out.set_ 1 _).set_ 2 _
        have ht3 : Tp ((w2.setCell ⟨j, 1, none⟩ (.slice none 0 0)).setCell ⟨j, 2, none⟩ (.int .i64 0)) a o2 (st.t.swap (framesJ ls)) := by
          refine HT2.out.but hk3 ?_ ?_
          · obtain ⟨va, _, ha2, _, _⟩ := HT2.out
            have := Blk.ne_ ha2 HBJ2.out (by decide)
            simpa using this
          · intro g hg
            obtain ⟨cs, hcs⟩ := HT2.out.own g hg
            have := Blk.ne_ hcs HBJ2.out (by decide)
            simpa using this
        have HK3 := Lib.hid hk3
        have HB3 := Lib.hid hb3
        have HT3 := Lib.hid ht3
        clear hk3 hb3 ht3
        generalize (w2.setCell ⟨j, 1, none⟩ (.slice none 0 0)).setCell ⟨j, 2, none⟩ (.int .i64 0) = w3 at *
        have HK3' := Lib.hid (HK3.out.wider (jS_j j a p o2))
        have HBT3 := Lib.hid (HBT.out.next HK3'.out (.inl rfl) HN2.out)
        have HAD := Lib.hid (add_any w3 j (.pointer (some ⟨a, 0, none⟩)) (.slice none 0 0) 0 ((framesJ ls).length : Int) st.dead (o2.toList ++ X) [] ls vl (fun g hg => by
            refine Nat.lt_of_lt_of_le ?_ HK3.out.size
            rcases List.mem_append.1 hg with h | h
            · exact HG2.out.jn.lt g (jS_tape _ _ _ _ g (List.mem_cons_of_mem _ h))
            · exact HG2.out.lt g h) (by simp) hl1 (fun l hl => ((okRow_iff l).1 ((okRows_iff ls).1 HOK.out l hl)).2) (by omega) (by omega) HB3.out (RowsO.nil _ _)
          ((HV.out.but HBT3.out).less (fun g hg => jS_j j a _ o g hg)))
        go_wp2_with fail
        refine HAD.out.mono ?_
        intro e w4 hadd
        obtain ⟨p4, hn4, hj4⟩ := Jn.added HB3.out (fun g hg => by cases hg) HT3.out hadd (by rw [List.nil_append]; omega) (by rw [List.nil_append]; exact HOK.out)
        obtain ⟨rfl, -, k4⟩ := hadd
        have HN4 := Lib.hid (show ∀ q : Option Nat, Nx w3 q p4 from fun q => by
          rcases hn4 with h | h
          · exact .inr fun g hg => by rw [h] at hg; cases hg
          · exact .inr h)
        have K4 := Lib.hid (HK3'.out.trans (k4.wider (jS_j j a p o2)))
        have HJ4 := Lib.hid hj4
        clear k4 hn4 hj4 HAD
        go_wp2_with fail
        go_ret
        rw [HQ.out.1, HQ.out.2]
        have h4 := HJ4.out
        rw [HD.out, List.nil_append] at h4
        exact ⟨rfl, ⟨p4, o2, (HN4.out p).lower HBT3.out.size, HN2.out, HG2.out.new K4.out h4 ((HN4.out p).lower HK3.out.size) (.inl rfl)⟩, HBT.out.next K4.out (.inl rfl) HN2.out⟩
      · rw [hE, errV_suc]
        have HQ := Lib.hid (show st.compact ls = _ ∧ st.compactE ls = _ from by
          have h1 := HQ.out
          rw [if_neg (show ¬ st.t.swapE (framesJ ls) = 0 by rw [hE]; decide), hE] at h1
          exact h1)
        clear hE
        obtain ⟨vq9, -, hbj9, -⟩ := HG2.out.jn.j
        have c0 := (hbj9.cell 0).trans rfl
        rw [show JSt.dead ⟨_, _, st.dead⟩ = false from HD.out] at hbj9
        have HNO := Lib.hid (note_any w2 E j _ _ _ 5 (by omega) (HG2.out.glob.errs w2 (Below.refl _ _)) hbj9)
        unfold errAt at HNO
        clear hbj9
        go_wp2_with fail
        refine HNO.out.mono ?_
        rintro e w9 ⟨rfl, rfl⟩
        go_wp2_with fail
        go_ret
        rw [HQ.out.1, HQ.out.2]
        exact HG2.out.noted _ HBT.out (.inl rfl) HN2.out
      · rw [hE, errV_suc]
        have HQ := Lib.hid (show st.compact ls = _ ∧ st.compactE ls = _ from by
          have h1 := HQ.out
          rw [if_neg (show ¬ st.t.swapE (framesJ ls) = 0 by rw [hE]; decide), hE] at h1
          exact h1)
        clear hE
        obtain ⟨vq9, -, hbj9, -⟩ := HG2.out.jn.j
        have c0 := (hbj9.cell 0).trans rfl
        rw [show JSt.dead ⟨_, _, st.dead⟩ = false from HD.out] at hbj9
        have HNO := Lib.hid (note_any w2 E j _ _ _ 6 (by omega) (HG2.out.glob.errs w2 (Below.refl _ _)) hbj9)
        unfold errAt at HNO
        clear hbj9
        go_wp2_with fail
        refine HNO.out.mono ?_
        rintro e w9 ⟨rfl, rfl⟩
        go_wp2_with fail
        go_ret
        rw [HQ.out.1, HQ.out.2]
        exact HG2.out.noted _ HBT.out (.inl rfl) HN2.out
    · have HN := Lib.hid (compact_bad st ls HD.out hok)
      clear hok HAL
      unfold errAt
      go_wp2_with fail
      go_ret
      rw [HN.out.1, HN.out.2]
      exact JOut.same HG.out hb1
end Go.Proofs.YtoiknidlincdkaaDoor
