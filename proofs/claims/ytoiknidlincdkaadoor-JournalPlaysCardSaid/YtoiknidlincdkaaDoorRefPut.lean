/-
  RefPut: the document's Put and Compact.
-/
import Derived.Test.YtoiknidlincdkaaDoorRefJn
import Derived.Test.YtoiknidlincdkaaDoorJourO
import Derived.Test.YtoiknidlincdkaaDoorLawJK
namespace Go.Proofs.YtoiknidlincdkaaDoor
open Go.RowKit
attribute [local irreducible] wpPhi

theorem mdead_pos {k : MJr} (h : k.dead = true) (ls : List (List UInt8)) : k.put ls = k ∧ k.putE ls = 9 ∧ k.compact ls = k ∧ k.compactE ls = 9 := by
  unfold MJr.put MJr.putE MJr.compact MJr.compactE
  rw [if_pos h, if_pos h, if_pos h, if_pos h]
  exact ⟨rfl, rfl, rfl, rfl⟩
theorem mbad {k : MJr} (h : k.dead = false) {ls : List (List UInt8)} (h1 : okRows ls = false) : k.put ls = k ∧ k.putE ls = 4 ∧ k.compact ls = k ∧ k.compactE ls = 4 := by
  unfold MJr.put MJr.putE MJr.compact MJr.compactE
  have e1 : ¬ k.dead = true := by rw [h]; decide
  rw [if_neg e1, if_neg e1, if_neg e1, if_neg e1, if_pos h1, if_pos h1, if_pos h1, if_pos h1]
  exact ⟨rfl, rfl, rfl, rfl⟩
theorem mput_nil {k : MJr} (h : k.dead = false) : k.put [] = k ∧ k.putE [] = 0 := by
  unfold MJr.put MJr.putE
  have e1 : ¬ k.dead = true := by rw [h]; decide
  have e2 : ¬ okRows [] = false := by decide
  have e3 : ([] : List (List UInt8)) = [] := rfl
  rw [if_neg e1, if_neg e1, if_neg e2, if_neg e2, if_pos e3, if_pos e3]
  exact ⟨rfl, rfl⟩
theorem mput_go (k : MJr) (ls : List (List UInt8)) (h : k.dead = false) (h1 : okRows ls = true) (h2 : ls ≠ []) :
    k.put ls = (if k.m.appendE (framesJ ls) = 0 then
      (if (k.m.append (framesJ ls)).stepE = 0 then ⟨(k.m.append (framesJ ls)).sync, k.rows ++ ls, false⟩ else ⟨(k.m.append (framesJ ls)).sync, k.rows, (k.m.append (framesJ ls)).stepE == 7⟩)
      else ⟨k.m.append (framesJ ls), k.rows, k.m.appendE (framesJ ls) == 7⟩) ∧
    k.putE ls = if k.m.appendE (framesJ ls) = 0 then (k.m.append (framesJ ls)).stepE else k.m.appendE (framesJ ls) := by
  unfold MJr.put MJr.putE
  have e1 : ¬ k.dead = true := by rw [h]; decide
  have e2 : ¬ okRows ls = false := by rw [h1]; decide
  rw [if_neg e1, if_neg e1, if_neg e2, if_neg e2, if_neg h2, if_neg h2]
  exact ⟨rfl, rfl⟩
theorem mcompact_go (k : MJr) (ls : List (List UInt8)) (h : k.dead = false) (h1 : okRows ls = true) :
    k.compact ls = (if k.m.swapE (framesJ ls) = 0 then ⟨k.m.swap (framesJ ls), ls, false⟩ else ⟨k.m.swap (framesJ ls), k.rows, k.m.swapE (framesJ ls) == 7⟩) ∧
    k.compactE ls = k.m.swapE (framesJ ls) := by
  unfold MJr.compact MJr.compactE
  have e1 : ¬ k.dead = true := by rw [h]; decide
  have e2 : ¬ okRows ls = false := by rw [h1]; decide
  rw [if_neg e1, if_neg e1, if_neg e2, if_neg e2]
  exact ⟨rfl, rfl⟩
theorem mS_tape (m g : Nat) (q : Option Nat) : ∀ x ∈ [g], x ∈ mS m g q := fun x hx => mem_mS.2 (.inr (.inl (by simpa using hx)))
theorem mS_own (m g : Nat) (q : Option Nat) : ∀ x ∈ [m], x ∈ mS m g q := fun x hx => mem_mS.2 (.inl (by simpa using hx))
/-- new rows are stored -/
theorem Mn.stored {B : Nat} {w w1 : World} {m g : Nat} {q : Option Nat} {o : Nat → Prop} {mr : MJr} {v' : Value} {us : List Value} {rs : List (List UInt8)} (h : Mn B w m g q o mr) (k : But q.toList w w1)
    (hO : w1.ownsRow 0 22 1 v' rs.length us) (hnx : Nx w q v'.ownBlock) (hus : us.length = rs.length) (hel : ∀ (i : Nat) (l : List UInt8), rs[i]? = some l → ∃ u, us[i]? = some u ∧ ElM w B o u l) :
    Mn B (w1.setCell ⟨m, 1, none⟩ v') m g v'.ownBlock o ⟨mr.m, rs, mr.dead⟩ ∧ But (mS m g q) w (w1.setCell ⟨m, 1, none⟩ v') := by
  have hB : B ≤ w.heap.size := by have := h.base.1; have := h.lt m (mem_mS.2 (.inl rfl)); omega
  obtain ⟨⟨cm, tm⟩, ⟨cg, tg⟩, tq⟩ := h.types
  have hmq : q.toList.contains m = false := by
    rw [Bool.eq_false_iff]
    intro hc
    obtain ⟨cs, hcs⟩ := tq m (by simpa using hc)
    exact Blk.ne_ hcs tm (by decide) rfl
  have hgq : q.toList.contains g = false := by
    rw [Bool.eq_false_iff]
    intro hc
    obtain ⟨cs, hcs⟩ := tq g (by simpa using hc)
    exact Blk.ne_ hcs tg (by decide) rfl
  have k' : But (m :: q.toList) w (w1.setCell ⟨m, 1, none⟩ v') := (k.wider fun x hx => List.mem_cons_of_mem _ hx).set_ m 1 v' (by simp)
  have k2 : But [m] w1 (w1.setCell ⟨m, 1, none⟩ v') := (but_refl _ _).set_ m 1 _ (by simp)
  obtain ⟨⟨v, us0, rfl, h2, h3, h4, h5⟩, h6, h7, h8⟩ := h
  have hb1 := k.blk h2 hmq
  refine ⟨⟨⟨v', us, rfl, hb1.set_ 1 v', k2.owns2 (owns_not hO fun x hx cs hcs => ?_) hO, hus, fun i l hl => ?_⟩, k'.blk (show Blk w g _ _ from h6) ?_, h7, h8.1, h8.2.1, fun b hb => ?_⟩, k'.wider fun x hx => ?_⟩
  · obtain rfl : x = m := by simpa using hx
    exact Blk.ne_ hcs hb1 (by decide) rfl
  · obtain ⟨u, hu, hy⟩ := hel i l hl
    refine ⟨u, hu, hy.but k' (fun x hx => ?_) (fun x hx => .inr fun cs hcs => ?_) Zx.rfl_⟩
    · rcases List.mem_cons.1 hx with rfl | hx
      · exact h8.1
      · exact h8.2.2 x (Option.mem_toList.1 hx)
    · rcases List.mem_cons.1 hx with rfl | hx
      · exact Blk.ne_ hcs tm (by decide) rfl
      · obtain ⟨cs', hcs'⟩ := tq x (Option.mem_toList.1 hx)
        exact Blk.ne_ hcs hcs' (by decide) rfl
  · rw [Bool.eq_false_iff] at hgq ⊢
    intro hc
    rcases List.mem_cons.1 (List.contains_iff_mem.1 hc) with e | hc
    · exact Blk.ne_ tg tm (by decide) e
    · exact hgq (List.contains_iff_mem.2 hc)
  · rcases hnx with e | e
    · exact h8.2.2 b (e ▸ hb)
    · have := e b hb
      omega
  · rcases List.mem_cons.1 hx with rfl | hx
    · exact mem_mS.2 (.inl rfl)
    · exact mem_mS.2 (.inr (.inr (Option.mem_toList.1 hx)))
theorem Mn.size {B : Nat} {w : World} {m g : Nat} {q : Option Nat} {o : Nat → Prop} {mr : MJr} (h : Mn B w m g q o mr) : B ≤ w.heap.size := by
  have := h.base.1
  have := h.lt m (mem_mS.2 (.inl rfl))
  omega
theorem Mn.base3 {B : Nat} {w : World} {m g : Nat} {q : Option Nat} {o : Nat → Prop} {mr : MJr} (h : Mn B w m g q o mr) : ∀ x ∈ mS m g q, B ≤ x := fun x hx => by
  rcases mem_mS.1 hx with rfl | rfl | hx
  · exact h.base.1
  · exact h.base.2.1
  · exact h.base.2.2 x hx
/-- rows that lay there: each is the bytes of a row of the document's journal -/
theorem el_of_old {B : Nat} {w : World} {vs : List Value} {ls : List (List UInt8)} (hel : ∀ (i : Nat) (l : List UInt8), ls[i]? = some l → ∃ u, vs[i]? = some u ∧ (∀ w', Below B w w' → Byt w' u l) ∧ (l ≠ [] → ∀ b, u.ownBlock = some b → b < B)) (hok : okRows ls = true) {w1 : World} (k : Below B w w1) (o : Nat → Prop) :
    ∀ (i : Nat) (l : List UInt8), ls[i]? = some l → ∃ u, vs[i]? = some u ∧ ElM w1 B o u l := fun i l hl => by
  obtain ⟨u, hu, hy, hb⟩ := hel i l hl
  have h1 := ((okRow_iff l).1 ((okRows_iff ls).1 hok l (List.mem_of_getElem? hl))).1
  exact ⟨u, hu, hy w1 k, fun b hb' => .inl (hb (by rintro rfl; simp at h1) b hb')⟩
theorem el_app {α β : Type} {us vs : List α} {rs ls : List β} {P : α → β → Prop} (h : us.length = rs.length) (h1 : ∀ (i : Nat) (l : β), rs[i]? = some l → ∃ u, us[i]? = some u ∧ P u l) (h2 : ∀ (i : Nat) (l : β), ls[i]? = some l → ∃ u, vs[i]? = some u ∧ P u l) :
    ∀ (i : Nat) (l : β), (rs ++ ls)[i]? = some l → ∃ u, (us ++ vs)[i]? = some u ∧ P u l := fun i l hl => by
  by_cases hi : i < rs.length
  · rw [List.getElem?_append_left hi] at hl
    rw [List.getElem?_append_left (by omega)]
    exact h1 i l hl
  · rw [List.getElem?_append_right (by omega)] at hl
    rw [List.getElem?_append_right (by omega), h]
    exact h2 _ l hl
/-- a call on the document's tape, its post -/
theorem Mn.call {B : Nat} {w w1 : World} {m g : Nat} {q : Option Nat} {o : Nat → Prop} {mr : MJr} {m' : MSt} (h : Mn B w m g q o mr) (k : Only g w w1) (hm : MB w1 g m') (hr : ∀ s, Rel s mr.m → ∃ s', Rel s' m') : Mn B w1 m g q o ⟨m', mr.rows, mr.dead⟩ ∧ But (mS m g q) w w1 := by
  obtain ⟨s, hs⟩ := h.rel
  exact ⟨h.only k hm (hr s hs), (But.of_only k).wider (mS_tape m g q)⟩
/-- the walk's end: is it dead now? -/
theorem MOut.dead {B : Nat} {w w1 : World} {m g : Nat} {q : Option Nat} {o : Nat → Prop} {mr : MJr} {r : Value} (h : Mn B w1 m g q o mr) (k : But (mS m g q) w w1) : MOut B m g q o ⟨mr.m, mr.rows, true⟩ r w (.returned r) (w1.setCell ⟨m, 2, none⟩ (.bool true)) :=
  ⟨rfl, ⟨q, .inl rfl, h.setdead true⟩, k.set_ m 2 _ (List.contains_iff_mem.2 (mem_mS.2 (.inl rfl)))⟩
theorem MOut.live {B : Nat} {w w1 : World} {m g : Nat} {q : Option Nat} {o : Nat → Prop} {mr : MJr} {r : Value} (h : Mn B w1 m g q o mr) (k : But (mS m g q) w w1) : MOut B m g q o mr r w (.returned r) w1 :=
  ⟨rfl, ⟨q, .inl rfl, h⟩, k⟩
theorem Mn.cells {B : Nat} {w : World} {m g : Nat} {q : Option Nat} {o : Nat → Prop} {mr : MJr} (h : Mn B w m g q o mr) : ∃ p n c, w.cell? ⟨m, 0, none⟩ = some (.pointer (some ⟨g, 0, none⟩)) ∧ w.cell? ⟨m, 1, none⟩ = some (.slice p n c) ∧ w.cell? ⟨m, 2, none⟩ = some (.bool mr.dead) ∧ ∀ i, w.frozen? ⟨m, i, none⟩ = false := by
  obtain ⟨⟨v, us, _, h2, h3, _⟩, _⟩ := h
  obtain ⟨p, c, rfl, _⟩ := owns_rd h3
  exact ⟨p, _, c, (h2.cell 0).trans rfl, (h2.cell 1).trans rfl, (h2.cell 2).trans rfl, fun i => h2.frozen i⟩
set_option maxRecDepth 20000 in
set_option maxHeartbeats 4000000 in
theorem mput_any (B : Nat) (w : World) (m g : Nat) (q : Option Nat) (o : Nat → Prop) (mr : MJr) (vl : Value) (ls : List (List UInt8)) (h : Mn B w m g q o mr) (hv : OldL B w vl ls) (hr1 : mr.rows.length ≤ 100000) (hl1 : ls.length ≤ 1000) :
    Calls Tryd.prog 46 #[.pointer (some ⟨m, 0, none⟩), vl] w (fun e w' => MOut B m g q o (mr.put ls) (.int .i64 (mr.putE ls : Int)) w e w') := by
  have HG := Lib.hid h
  have HV := Lib.hid hv
  obtain ⟨p0, n0, k0, c0, -, c2, -⟩ := h.cells
  cases hd : mr.dead with
  | true =>
    obtain ⟨q1, q2, _, _⟩ := mdead_pos hd ls
    have HQ := Lib.hid (And.intro q1 q2)
    rw [hd] at c2
    clear h hv q1 q2 hd
    go_enter Tryd.func46, Tryd.ntmps46
    go_wp2_with fail
    go_ret
    rw [HQ.out.1, HQ.out.2]
    exact MOut.same HG.out (Below.refl _ _)
  | false =>
    have HD := Lib.hid hd
    rw [hd] at c2
    have HAL := Lib.hid (refall_any ls (by omega) vl w hv.bytl)
    clear h hv hd
    obtain ⟨pl, cl, vs, rfl, l1, l2, l3, l4, l5⟩ := HV.out
    have HL4 := Lib.hid l4
    have HL5 := Lib.hid l5
    have HL3 := Lib.hid l3
    have HL2 := Lib.hid l2
    clear l2 l3 l4 l5
    go_enter Tryd.func46, Tryd.ntmps46
    go_wp2_with fail
    refine HAL.out.mono ?_
    rintro e w1 ⟨hb1, ⟨hok, v1, rfl, ho1⟩ | ⟨hok, rfl⟩⟩
    · have HM1 := Lib.hid (HG.out.below hb1)
      have HOK := Lib.hid hok
      have HB1 := Lib.hid hb1
      have hF := okRows_bound hok
      have hFl : (framesJ ls).length ≤ 206000 := by have := Nat.mul_le_mul_left 206 hl1; omega
      obtain ⟨p1, k1, rfl, _, _, _⟩ := owns_rd ho1
      have HO1 := Lib.hid (owns_byt ho1)
      clear c0 c2 hok hb1 ho1 HAL hF
      by_cases hls : ls = []
      · subst hls
        have HQ := Lib.hid (mput_nil HD.out)
        go_wp2_with fail
        go_ret
        rw [HQ.out.1, HQ.out.2]
        exact MOut.same HG.out HB1.out
      · have hl0 : ls.length ≠ 0 := fun e => hls (List.length_eq_zero_iff.1 e)
        have d0 : ((ls.length : Int) == 0) = false := by rw [beq_eq_false_iff_ne]; omega
        have HQ := Lib.hid (mput_go mr ls HD.out HOK.out hls)
        obtain ⟨p9, n9, k9, c0, -, c2, -⟩ := HM1.out.cells
        have hbb : Below w1.heap.size w1 w1 := Below.refl _ _
        have HC0 := Lib.hid c0
        clear hls hl0
        go_wp2_with fail
        refine wp_phi_tail (List.take 6 _) (List.drop 6 _) (List.take_append_drop 6 _).symm (fun w' => (w'.cell? ⟨m, 0, none⟩ = some (.pointer (some ⟨g, 0, none⟩))) ∧ (Byt w' (.slice p1 (framesJ ls).length k1) (framesJ ls)) ∧ Below w1.heap.size w1 w') [] [] (by kernel_rfl) (by kernel_rfl) ?_ ?_ ⟨HC0.out, HO1.out, (hbb).drew⟩ ?_
        · rintro w1' w2' ⟨gc, gy, hIB⟩ hb
          exact ⟨(by first | exact gc.below hb | exact gc.keep (Below.keeps hb) | exact Below.keeps hb _ _ gc | exact Blk.below gc hb (Blk.lt gc)), (by first | exact gy.below hb | exact gy.keep (Below.keeps hb) | exact Below.keeps hb _ _ gy | exact Blk.below gy hb (Blk.lt gy)), hIB.trans (hb.mono hIB.size)⟩
        · intro p hp; cases hp
        simp only [List.take_succ_cons, List.take_zero, List.drop_succ_cons, List.drop_zero]
        repeat (first | (refine phi_skipK rfl (fun K hK => ?_); simp only [Act.put, List.setIfInBounds_toArray, List.set_cons_succ, List.set_cons_zero]; (try simp only [List.cons_append]); (try simp only [List.nil_append]); apply hK; clear hK K) | (refine phi_pureK rfl rfl (fun K hK => ?_); apply Exists.intro; constructor; (focus (rintro w' ⟨gc, gy, hIB⟩; have s1 := str_of gy; clear gy hIB; first | (go_simp; done) | (go_simp; (try go_bits); (try go_simp); rfl) | go_simp)); simp only [Act.put, List.setIfInBounds_toArray, List.set_cons_succ, List.set_cons_zero]; (try simp only [List.cons_append]); (try simp only [List.nil_append]); apply hK; clear hK K))
        refine phi_done ?_
        rintro w5 ⟨gc, gy, hb5⟩ _
        have HM5 := Lib.hid (HM1.out.below hb5)
        have HB5 := Lib.hid (HB1.out.trans (hb5.mono HB1.out.size))
        clear gc gy hb5 hbb c0 HC0 HO1 HM1 HB1
        go_wp2_with fail
        refine (mappend_any w5 g mr.m (framesJ ls) (by omega) HM5.out.bd HM5.out.tape).mono ?_
        rintro e w2 ⟨rfl, hm2, k2⟩
        obtain ⟨hM2, hK2⟩ := HM5.out.call k2 hm2 fun s hs => ⟨_, (hs.append (framesJ ls)).1⟩
        have HM2 := Lib.hid hM2
        have HK2 := Lib.hid ((But.of_below HB5.out).trans hK2)
        clear hM2 hK2 hm2 k2 HM5 HB5 c2
        rcases mr.m.appendE_cases (framesJ ls) with hE | hE | hE
        · rw [hE]
          have HQ := Lib.hid (show mr.put ls = _ ∧ mr.putE ls = _ from by
            have h1 := HQ.out
            rw [if_pos hE, if_pos hE] at h1
            exact h1)
          clear hE
          obtain ⟨p8, n8, k8, c0, -, c2, -⟩ := HM2.out.cells
          go_wp2_with fail
          refine (msync_any w2 g _ HM2.out.bd HM2.out.tape).mono ?_
          rintro e w3 ⟨rfl, hm3, k3⟩
          obtain ⟨hM3, hK3⟩ := HM2.out.call k3 hm3 fun s hs => ⟨_, hs.sync⟩
          have HM3 := Lib.hid hM3
          have HK3 := Lib.hid (HK2.out.trans hK3)
          clear hM3 hK3 hm3 k3 HM2 HK2 c0 c2
          rcases (mr.m.append (framesJ ls)).stepE_cases with hE | hE
          · rw [hE]
            have HQ := Lib.hid (show mr.put ls = _ ∧ mr.putE ls = _ from by
              have h1 := HQ.out
              rw [if_pos hE, hE] at h1
              exact h1)
            clear hE
            obtain ⟨v3, us3, hq3, hb3, ho3, hu3, he3⟩ := HM3.out.ex
            obtain ⟨pr, kr, rfl, _, _, _⟩ := owns_rd ho3
            have c1 := (hb3.cell 1).trans rfl
            have HBK := Lib.hid (HK3.out.below HG.out.base3 HG.out.size)
            have hR := Lib.hid (HL4.out w3 HBK.out)
            have hU := Lib.hid (el_of_old HL5.out HOK.out HBK.out o)
            have HQ3 := Lib.hid hq3
            have HB3 := Lib.hid hb3
            have HU3 := Lib.hid hu3
            have HE3 := Lib.hid he3
            have hO3 := ho3
            have HO3 := Lib.hid ho3
            obtain ⟨i0, hi0, hz0, hz1, hz2⟩ := info_parts rowInfo
            clear hq3 hb3 hu3 he3 ho3 d0
            go_wp2_with (at_builtin; refine wpList_appAt (.tmp 47) (.tmp 48) 39 rfl rfl 0 22 i0 (.slice none 0 0) 1 24 Tryd.underlying39 hi0 hz0 hz1 hz2 rfl (by decide) _ _ _ rfl hO3 _ _ _ vs rfl ?b0 hR.out ?b1 ?b2 ?b3 (Nat.zero_le _) ?_)
            case b0 => have := HL3.out; omega
            case b1 => exact one_of HL3.out fun i l hl => by obtain ⟨u, hu, hy⟩ := hU.out i l hl; exact ⟨u, hu, hy.1⟩
            case b2 => unfold maxLen; omega
            case b3 => omega
            intro v4 w4 ho4 hg4 hn4
            have hm4 : But q.toList w3 w4 := (but_refl _ _).grown_nx hg4 fun b hb => .inl (by rw [← HQ3.out]; simpa using hb)
            have hb4 := grown_blk hg4 HO3.out HB3.out (by decide)
            have f1 := hb4.frozen 1
            have hnx : Nx w3 q v4.ownBlock := by
              rcases hn4 with e | e
              · exact .inl (e.trans HQ3.out)
              · exact .inr fun b hb => by rw [e] at hb; cases hb; exact Nat.le_refl _
            have hlen4 : (mr.rows ++ ls).length = mr.rows.length + ls.length := List.length_append
            have hst := HM3.out.stored hm4 (rs := mr.rows ++ ls) (us := us3 ++ vs) (by rw [hlen4]; exact ho4) hnx (by rw [List.length_append, hlen4, HU3.out, HL3.out]) (el_app HU3.out HE3.out hU.out)
            have HST := Lib.hid hst
            have HNX := Lib.hid (hnx.lower HK3.out.size)
            obtain ⟨p4, c4, rfl, _, _, _⟩ := owns_rd ho4
            have c1' := (hb4.cell 1).trans rfl
            clear hO3 hst hnx hg4 ho4 hn4 hm4
            go_wp2_with fail
            go_ret
            rw [HQ.out.1, HQ.out.2]
            have h9 := HST.out.1
            rw [HD.out] at h9
            exact ⟨rfl, ⟨_, HNX.out, h9⟩, HK3.out.trans HST.out.2⟩
          · rw [hE]
            have HQ := Lib.hid (show mr.put ls = _ ∧ mr.putE ls = _ from by
              have h1 := HQ.out
              rw [if_neg (show ¬ (mr.m.append (framesJ ls)).stepE = 0 by rw [hE]; decide), hE] at h1
              exact h1)
            clear hE
            obtain ⟨p8, n8, k8, c0, -, c2, hf⟩ := HM3.out.cells
            have f2 := hf 2
            clear hf
            go_wp2_with fail
            go_ret
            rw [HQ.out.1, HQ.out.2]
            exact MOut.dead HM3.out HK3.out
        · rw [hE]
          have HQ := Lib.hid (show mr.put ls = _ ∧ mr.putE ls = _ from by
            have h1 := HQ.out
            rw [if_neg (show ¬ mr.m.appendE (framesJ ls) = 0 by rw [hE]; decide), if_neg (show ¬ mr.m.appendE (framesJ ls) = 0 by rw [hE]; decide), hE] at h1
            exact h1)
          clear hE
          go_wp2_with fail
          go_ret
          rw [HQ.out.1, HQ.out.2]
          have h9 := HM2.out
          rw [HD.out] at h9
          exact MOut.live h9 HK2.out
        · rw [hE]
          have HQ := Lib.hid (show mr.put ls = _ ∧ mr.putE ls = _ from by
            have h1 := HQ.out
            rw [if_neg (show ¬ mr.m.appendE (framesJ ls) = 0 by rw [hE]; decide), if_neg (show ¬ mr.m.appendE (framesJ ls) = 0 by rw [hE]; decide), hE] at h1
            exact h1)
          clear hE
          obtain ⟨p8, n8, k8, c0, -, c2, hf⟩ := HM2.out.cells
          have f2 := hf 2
          clear hf
          go_wp2_with fail
          go_ret
          rw [HQ.out.1, HQ.out.2]
          exact MOut.dead HM2.out HK2.out
    · obtain ⟨q1, q2, _, _⟩ := mbad HD.out hok
      have HQ := Lib.hid (And.intro q1 q2)
      have HB1 := Lib.hid hb1
      clear q1 q2 c0 c2 hok hb1 HAL
      go_wp2_with fail
      go_ret
      rw [HQ.out.1, HQ.out.2]
      exact MOut.same HG.out HB1.out
set_option maxRecDepth 20000 in
set_option maxHeartbeats 4000000 in
theorem mcompact_any (B : Nat) (w : World) (m g : Nat) (q : Option Nat) (o : Nat → Prop) (mr : MJr) (vl : Value) (ls : List (List UInt8)) (h : Mn B w m g q o mr) (hv : OldL B w vl ls) (hl1 : ls.length ≤ 1000) :
    Calls Tryd.prog 47 #[.pointer (some ⟨m, 0, none⟩), vl] w (fun e w' => MOut B m g q o (mr.compact ls) (.int .i64 (mr.compactE ls : Int)) w e w') := by
  have HG := Lib.hid h
  have HV := Lib.hid hv
  obtain ⟨p0, n0, k0, c0, -, c2, -⟩ := h.cells
  cases hd : mr.dead with
  | true =>
    obtain ⟨_, _, q1, q2⟩ := mdead_pos hd ls
    have HQ := Lib.hid (And.intro q1 q2)
    rw [hd] at c2
    clear h hv q1 q2 hd
    go_enter Tryd.func47, Tryd.ntmps47
    go_wp2_with fail
    go_ret
    rw [HQ.out.1, HQ.out.2]
    exact MOut.same HG.out (Below.refl _ _)
  | false =>
    have HD := Lib.hid hd
    rw [hd] at c2
    have HAL := Lib.hid (refall_any ls (by omega) vl w hv.bytl)
    clear h hv hd
    obtain ⟨pl, cl, vs, rfl, l1, l2, l3, l4, l5⟩ := HV.out
    have HL4 := Lib.hid l4
    have HL5 := Lib.hid l5
    have HL3 := Lib.hid l3
    have HL2 := Lib.hid l2
    clear l2 l3 l4 l5
    go_enter Tryd.func47, Tryd.ntmps47
    go_wp2_with fail
    refine HAL.out.mono ?_
    rintro e w1 ⟨hb1, ⟨hok, v1, rfl, ho1⟩ | ⟨hok, rfl⟩⟩
    · have HM1 := Lib.hid (HG.out.below hb1)
      have HOK := Lib.hid hok
      have HB1 := Lib.hid hb1
      have hF := okRows_bound hok
      have hFl : (framesJ ls).length ≤ 206000 := by have := Nat.mul_le_mul_left 206 hl1; omega
      obtain ⟨p1, k1, rfl, _, _, _⟩ := owns_rd ho1
      have HO1 := Lib.hid (owns_byt ho1)
      clear c0 c2 hok hb1 ho1 HAL hF
      have HQ := Lib.hid (mcompact_go mr ls HD.out HOK.out)
      obtain ⟨p9, n9, k9, c0, -, c2, -⟩ := HM1.out.cells
      have hbb : Below w1.heap.size w1 w1 := Below.refl _ _
      have HC0 := Lib.hid c0
      go_wp2_with fail
      refine wp_phi_tail (List.take 6 _) (List.drop 6 _) (List.take_append_drop 6 _).symm (fun w' => (w'.cell? ⟨m, 0, none⟩ = some (.pointer (some ⟨g, 0, none⟩))) ∧ (Byt w' (.slice p1 (framesJ ls).length k1) (framesJ ls)) ∧ Below w1.heap.size w1 w') [] [] (by kernel_rfl) (by kernel_rfl) ?_ ?_ ⟨HC0.out, HO1.out, (hbb).drew⟩ ?_
      · rintro w1' w2' ⟨gc, gy, hIB⟩ hb
        exact ⟨(by first | exact gc.below hb | exact gc.keep (Below.keeps hb) | exact Below.keeps hb _ _ gc | exact Blk.below gc hb (Blk.lt gc)), (by first | exact gy.below hb | exact gy.keep (Below.keeps hb) | exact Below.keeps hb _ _ gy | exact Blk.below gy hb (Blk.lt gy)), hIB.trans (hb.mono hIB.size)⟩
      · intro p hp; cases hp
      simp only [List.take_succ_cons, List.take_zero, List.drop_succ_cons, List.drop_zero]
      repeat (first | (refine phi_skipK rfl (fun K hK => ?_); simp only [Act.put, List.setIfInBounds_toArray, List.set_cons_succ, List.set_cons_zero]; (try simp only [List.cons_append]); (try simp only [List.nil_append]); apply hK; clear hK K) | (refine phi_pureK rfl rfl (fun K hK => ?_); apply Exists.intro; constructor; (focus (rintro w' ⟨gc, gy, hIB⟩; have s1 := str_of gy; clear gy hIB; first | (go_simp; done) | (go_simp; (try go_bits); (try go_simp); rfl) | go_simp)); simp only [Act.put, List.setIfInBounds_toArray, List.set_cons_succ, List.set_cons_zero]; (try simp only [List.cons_append]); (try simp only [List.nil_append]); apply hK; clear hK K))
      refine phi_done ?_
      rintro w5 ⟨gc, gy, hb5⟩ _
      have HM5 := Lib.hid (HM1.out.below hb5)
      have HB5 := Lib.hid (HB1.out.trans (hb5.mono HB1.out.size))
      clear gc gy hb5 hbb c0 HC0 HO1 HM1 HB1
      go_wp2_with fail
      refine (mswap_any w5 g mr.m (framesJ ls) HM5.out.bd HM5.out.tape).mono ?_
      rintro e w3 ⟨rfl, hm2, k2⟩
      obtain ⟨hM2, hK2⟩ := HM5.out.call k2 hm2 fun s hs => ⟨_, (hs.swap (framesJ ls)).1⟩
      have HM3 := Lib.hid hM2
      have HK3 := Lib.hid ((But.of_below HB5.out).trans hK2)
      clear hM2 hK2 hm2 k2 HM5 HB5 c2
      rcases mr.m.swapE_cases (framesJ ls) with hE | hE | hE
      · rw [hE]
        have HQ := Lib.hid (show mr.compact ls = _ ∧ mr.compactE ls = _ from by
          have h1 := HQ.out
          rw [if_pos hE, hE] at h1
          exact h1)
        clear hE
        obtain ⟨v3, us3, hq3, hb3, ho3, hu3, he3⟩ := HM3.out.ex
        obtain ⟨pr, kr, rfl, _, _, _⟩ := owns_rd ho3
        have c1 := (hb3.cell 1).trans rfl
        have HBK := Lib.hid (HK3.out.below HG.out.base3 HG.out.size)
        have hbl := below_alloc1 w3 (.cells #[] 22)
        have hR := Lib.hid (HL4.out _ (HBK.out.trans (hbl.mono (Nat.le_trans HG.out.size HBK.out.size))))
        have hU := Lib.hid (el_of_old HL5.out HOK.out HBK.out o)
        obtain ⟨i0, hi0, hz0, hz1, hz2⟩ := info_parts rowInfo
        have ho0 : (w3.alloc (.cells #[] 22)).ownsRow 0 22 1 (.slice (some ⟨w3.heap.size, 0, none⟩) 0 0) 0 [] := by
          simpa using World.ownsRow_lit (base := 0) (e := 22) (size := 1) w3 #[] 0 (Nat.zero_le _) (by unfold maxLen; omega) rfl
        have HQ3 := Lib.hid hq3
        have hb3' := hb3
        have HB3 := Lib.hid (hb3.below hbl hb3.lt)
        have HBL := Lib.hid hbl
        clear hq3 hb3 hu3 he3 ho3 hbl
        go_wp2_with (at_builtin; refine wpList_appAt (.tmp 34) (.tmp 35) 39 rfl rfl 0 22 i0 (.slice none 0 0) 1 24 Tryd.underlying39 hi0 hz0 hz1 hz2 rfl (by decide) _ _ _ rfl ho0 _ _ _ vs rfl ?b0 hR.out ?b1 ?b2 ?b3 (Nat.zero_le _) ?_)
        case b0 => have := HL3.out; omega
        case b1 => exact one_of HL3.out fun i l hl => by obtain ⟨u, hu, hy⟩ := hU.out i l hl; exact ⟨u, hu, hy.1⟩
        case b2 => unfold maxLen; omega
        case b3 => omega
        intro v4 w4 ho4 hg4 hn4
        have HK9 := show Below w3.heap.size w3 w4 from HBL.out.grown hg4 (by simp) (fun g hg => by cases hg; exact Nat.le_refl _)
        have hb4 : Blk w4 m 71 _ := hb3'.below HK9 hb3'.lt
        have f1 := hb4.frozen 1
        have hnx : Nx w3 q v4.ownBlock := .inr fun b hb => by
          rcases hn4 with e | e
          · have h9 := e.symm.trans hb
            cases h9
            exact Nat.le_refl _
          · have h9 := e.symm.trans hb
            cases h9
            simp
        have hst := HM3.out.stored (But.of_below HK9) (rs := ls) (us := vs) (by simpa using ho4) hnx HL3.out hU.out
        have HST := Lib.hid hst
        have HNX := Lib.hid (hnx.lower HK3.out.size)
        obtain ⟨p4, c4, rfl, _, _, _⟩ := owns_rd ho4
        have c1' := (hb4.cell 1).trans rfl
        clear hst hnx hg4 ho4 hn4 ho0 hb3'
        go_wp2_with fail
        go_ret
        rw [HQ.out.1, HQ.out.2]
        have h9 := HST.out.1
        rw [HD.out] at h9
        exact ⟨rfl, ⟨_, HNX.out, h9⟩, HK3.out.trans HST.out.2⟩
      · rw [hE]
        have HQ := Lib.hid (show mr.compact ls = _ ∧ mr.compactE ls = _ from by
          have h1 := HQ.out
          rw [if_neg (show ¬ mr.m.swapE (framesJ ls) = 0 by rw [hE]; decide), hE] at h1
          exact h1)
        clear hE
        go_wp2_with fail
        go_ret
        rw [HQ.out.1, HQ.out.2]
        have h9 := HM3.out
        rw [HD.out] at h9
        exact MOut.live h9 HK3.out
      · rw [hE]
        have HQ := Lib.hid (show mr.compact ls = _ ∧ mr.compactE ls = _ from by
          have h1 := HQ.out
          rw [if_neg (show ¬ mr.m.swapE (framesJ ls) = 0 by rw [hE]; decide), hE] at h1
          exact h1)
        clear hE
        obtain ⟨p8, n8, k8, c0, -, c2, hf⟩ := HM3.out.cells
        have f2 := hf 2
        clear hf
        go_wp2_with fail
        go_ret
        rw [HQ.out.1, HQ.out.2]
        exact MOut.dead HM3.out HK3.out
    · obtain ⟨_, _, q1, q2⟩ := mbad HD.out hok
      have HQ := Lib.hid (And.intro q1 q2)
      have HB1 := Lib.hid hb1
      clear q1 q2 c0 c2 hok hb1 HAL
      go_wp2_with fail
      go_ret
      rw [HQ.out.1, HQ.out.2]
      exact MOut.same HG.out HB1.out
end Go.Proofs.YtoiknidlincdkaaDoor
