/- LawBUn -/
import Derived.Test.YthboiahdheehkaaGreatDoorSG
namespace Go.Proofs.YthboiahdheehkaaGreatDoor
set_option maxHeartbeats 4000000
set_option maxRecDepth 20000
open Go.RowKit Go.Extern.Stop Go.Stop Go.Extern
attribute [local go_sem] bs_toList bs_size
theorem act_one : bs (actF 1) = { data := #[104, 116, 116, 112, 58, 47, 47, 100, 111, 99, 115, 46, 111, 97, 115, 105, 115, 45, 111, 112, 101, 110, 46, 111, 114, 103, 47, 119, 115, 45, 116, 120, 47, 119, 115, 98, 97, 47, 50, 48, 48, 54, 47, 48, 54, 47, 69, 120, 105, 116] } := by kernel_rfl
theorem alive26_any (w : World) (E : Nat → Addr) (he : ErrsOn [3] w E) (ht : Tab w 14 kindsL) :
    Calls Tryz.prog 7 #[] w (Gives w (.bool true)) := by
  have HA := action_any 1 w E he ht
  rw [act_one, show actE 1 = 0 from by decide, errV_nil] at HA
  have HA2 := Lib.hid HA
  clear HA he ht
  go_enter Tryz.func7, Tryz.ntmps7
  go_wp2_with fail
  refine HA2.out.mono ?_
  rintro e w1 ⟨rfl, hb1⟩
  go_wp2_with fail
  go_ret
  exact ⟨rfl, hb1⟩
theorem eqBnd (k f t n s r p q c i j k' f' t' n' s' r' p' q' c' i' j' : Int) (w : World) : (binOp .eql 27 (.agg #[.int .i64 k, .int .i64 f, .int .i64 t, .int .i64 n, .int .i64 s, .int .i64 r, .int .i64 p, .int .i64 q, .int .i64 c, .int .i64 i, .int .i64 j]) (.agg #[.int .i64 k', .int .i64 f', .int .i64 t', .int .i64 n', .int .i64 s', .int .i64 r', .int .i64 p', .int .i64 q', .int .i64 c', .int .i64 i', .int .i64 j'])).run Tryz.prog w = .ok (.bool ((k == k') && (f == f') && (t == t') && (n == n') && (s == s') && (r == r') && (p == p') && (q == q') && (c == c') && (i == i') && (j == j'))) w := by
  cases h0 : (k == k')
  · go_simp
  · cases h1 : (f == f')
    · go_simp
    · cases h2 : (t == t')
      · go_simp
      · cases h3 : (n == n')
        · go_simp
        · cases h4 : (s == s')
          · go_simp
          · cases h5 : (r == r')
            · go_simp
            · cases h6 : (p == p')
              · go_simp
              · cases h7 : (q == q')
                · go_simp
                · cases h8 : (c == c')
                  · go_simp
                  · cases h9 : (i == i')
                    · go_simp
                    · cases h10 : (j == j')
                      · go_simp
                      · go_simp
theorem unlike_any (E : Nat → Addr) (a b : Bnd) (w : World) (ha : a.m.wf ∧ inI a.i ∧ inI a.r) (hb : b.m.wf ∧ inI b.i ∧ inI b.r) (h : BndG w E) :
    Calls Tryz.prog 3 #[bndV a, bndV b] w fun e w' => e = .returned (.bool true) ∧ Below w.heap.size w w' := by
  have sa := bnd_small a ha.1 ha.2.1 ha.2.2
  have sb := bnd_small b hb.1 hb.2.1 hb.2.2
  have hlike := fun h1 h2 => bnd_like (a := a) (b := b) h1 h2 sa sb
  have HWA := Lib.hid (fun w' (hw : Below w.heap.size w w') => wrap_any E a w' ha.1 ha.2.1 ha.2.2 (h.below hw))
  have HWB := Lib.hid (fun w' (hw : Below w.heap.size w w') => wrap_any E b w' hb.1 hb.2.1 hb.2.2 (h.below hw))
  have HLR := Lib.hid (fun w' (hw : Below w.heap.size w w') => lright_any a.m ha.1 w' E (h.below hw).ids)
  have hnr := fun h => num_right (b := a) h
  obtain ⟨na, hna⟩ : ∃ x, a.num = x := ⟨_, rfl⟩
  obtain ⟨nb, hnb⟩ : ∃ x, b.num = x := ⟨_, rfl⟩
  obtain ⟨ta, hta⟩ : ∃ x, a.txt = x := ⟨_, rfl⟩
  obtain ⟨tb, htb⟩ : ∃ x, b.txt = x := ⟨_, rfl⟩
  rw [hna, hta] at HWA
  rw [hnb, htb] at HWB
  rw [hna, hnb, hta, htb] at hlike
  rw [hna] at hnr
  obtain ⟨⟨k, f, t, n, s, r, p, q, c⟩, i, j⟩ := a
  obtain ⟨⟨k', f', t', n', s', r', p', q', c'⟩, i', j'⟩ := b
  unfold bndV at HWA HWB ⊢
  unfold msgV at HLR
  simp only at HWA HWB HLR hnr ⊢
  have HB := Lib.hid (below_alloc (below_alloc1 w (.cells #[.int .i64 k, .int .i64 f, .int .i64 t, .int .i64 n, .int .i64 s, .int .i64 r, .int .i64 p, .int .i64 q, .int .i64 c, .int .i64 i, .int .i64 j] 27)) (.cells #[.int .i64 k', .int .i64 f', .int .i64 t', .int .i64 n', .int .i64 s', .int .i64 r', .int .i64 p', .int .i64 q', .int .i64 c', .int .i64 i', .int .i64 j'] 27))
  have N := Lib.hid ((Blk.new w 27 #[.int .i64 k, .int .i64 f, .int .i64 t, .int .i64 n, .int .i64 s, .int .i64 r, .int .i64 p, .int .i64 q, .int .i64 c, .int .i64 i, .int .i64 j]).alloc (.cells #[.int .i64 k', .int .i64 f', .int .i64 t', .int .i64 n', .int .i64 s', .int .i64 r', .int .i64 p', .int .i64 q', .int .i64 c', .int .i64 i', .int .i64 j'] 27))
  have O := Lib.hid (show Blk ((w.alloc (.cells #[.int .i64 k, .int .i64 f, .int .i64 t, .int .i64 n, .int .i64 s, .int .i64 r, .int .i64 p, .int .i64 q, .int .i64 c, .int .i64 i, .int .i64 j] 27)).alloc (.cells #[.int .i64 k', .int .i64 f', .int .i64 t', .int .i64 n', .int .i64 s', .int .i64 r', .int .i64 p', .int .i64 q', .int .i64 c', .int .i64 i', .int .i64 j'] 27)) (w.heap.size + 1) 27 #[.int .i64 k', .int .i64 f', .int .i64 t', .int .i64 n', .int .i64 s', .int .i64 r', .int .i64 p', .int .i64 q', .int .i64 c', .int .i64 i', .int .i64 j'] from by
    have := Blk.new (w.alloc (.cells #[.int .i64 k, .int .i64 f, .int .i64 t, .int .i64 n, .int .i64 s, .int .i64 r, .int .i64 p, .int .i64 q, .int .i64 c, .int .i64 i, .int .i64 j] 27)) 27 #[.int .i64 k', .int .i64 f', .int .i64 t', .int .i64 n', .int .i64 s', .int .i64 r', .int .i64 p', .int .i64 q', .int .i64 c', .int .i64 i', .int .i64 j']
    rwa [World.size_alloc] at this)
  have HAL := Lib.hid (alive26_any _ E ((h.below HB.out).ids.errs.on [3] rfl) (h.below HB.out).tabs.kinds)
  have heq := fun w' => eqBnd k f t n s r p q c i j k' f' t' n' s' r' p' q' c' i' j' w'
  have z0 := (N.out.cell 0).trans rfl; have z1 := (N.out.cell 1).trans rfl; have z2 := (N.out.cell 2).trans rfl; have z3 := (N.out.cell 3).trans rfl; have z4 := (N.out.cell 4).trans rfl; have z5 := (N.out.cell 5).trans rfl; have z6 := (N.out.cell 6).trans rfl; have z7 := (N.out.cell 7).trans rfl; have z8 := (N.out.cell 8).trans rfl; have z9 := (N.out.cell 9).trans rfl; have z10 := (N.out.cell 10).trans rfl
  clear h ha hb sa sb
  cases na with
  | succ na =>
    clear hlike hnr heq HLR hna hnb hta htb
    rw [show errV E (na + 1) = errAt (E na) from rfl] at HWA
    unfold errAt at HWA
    generalize errV E nb = eb at *
    go_enter Tryz.func3, Tryz.ntmps3
    go_wp2_with fail
    refine (HAL.out).mono ?_
    rintro e w1 ⟨rfl, hb1⟩
    have B1 := Lib.hid (HB.out.trans (hb1.mono HB.out.size))
    have n1 := N.out.below hb1 N.out.lt
    have o1 := O.out.below hb1 O.out.lt
    clear hb1 z0 z1 z2 z3 z4 z5 z6 z7 z8 z9 z10
    have N1 := Lib.hid n1
    have O1 := Lib.hid o1
    have z0 := (n1.cell 0).trans rfl; have z1 := (n1.cell 1).trans rfl; have z2 := (n1.cell 2).trans rfl; have z3 := (n1.cell 3).trans rfl; have z4 := (n1.cell 4).trans rfl; have z5 := (n1.cell 5).trans rfl; have z6 := (n1.cell 6).trans rfl; have z7 := (n1.cell 7).trans rfl; have z8 := (n1.cell 8).trans rfl; have z9 := (n1.cell 9).trans rfl; have z10 := (n1.cell 10).trans rfl
    clear n1 o1
    go_wp2_with fail
    refine (HWA.out _ B1.out).mono ?_
    rintro e w2 ⟨rfl, hb2⟩
    have B2 := Lib.hid (B1.out.trans (hb2.mono B1.out.size))
    have n2 := N1.out.below hb2 N1.out.lt
    have o2 := O1.out.below hb2 O1.out.lt
    clear hb2 z0 z1 z2 z3 z4 z5 z6 z7 z8 z9 z10
    have N2 := Lib.hid n2
    have O2 := Lib.hid o2
    have y0 := (o2.cell 0).trans rfl; have y1 := (o2.cell 1).trans rfl; have y2 := (o2.cell 2).trans rfl; have y3 := (o2.cell 3).trans rfl; have y4 := (o2.cell 4).trans rfl; have y5 := (o2.cell 5).trans rfl; have y6 := (o2.cell 6).trans rfl; have y7 := (o2.cell 7).trans rfl; have y8 := (o2.cell 8).trans rfl; have y9 := (o2.cell 9).trans rfl; have y10 := (o2.cell 10).trans rfl
    clear n2 o2
    go_wp2_with fail
    refine (HWB.out _ B2.out).mono ?_
    rintro e w3 ⟨rfl, hb3⟩
    have B3 := Lib.hid (B2.out.trans (hb3.mono B2.out.size))
    have n3 := N2.out.below hb3 N2.out.lt
    have o3 := O2.out.below hb3 O2.out.lt
    clear hb3 y0 y1 y2 y3 y4 y5 y6 y7 y8 y9 y10
    have N3 := Lib.hid n3
    have O3 := Lib.hid o3
    have z0 := (n3.cell 0).trans rfl; have z1 := (n3.cell 1).trans rfl; have z2 := (n3.cell 2).trans rfl; have z3 := (n3.cell 3).trans rfl; have z4 := (n3.cell 4).trans rfl; have z5 := (n3.cell 5).trans rfl; have z6 := (n3.cell 6).trans rfl; have z7 := (n3.cell 7).trans rfl; have z8 := (n3.cell 8).trans rfl; have z9 := (n3.cell 9).trans rfl; have z10 := (n3.cell 10).trans rfl
    clear n3 o3
    go_wp2_with fail
    go_ret
    exact ⟨rfl, B3.out⟩
  | zero =>
    obtain ⟨rm, hrm⟩ : ∃ x, rightM ⟨k, f, t, n, s, r, p, q, c⟩ = x := ⟨_, rfl⟩
    rw [hrm] at HLR hnr
    have hrt : rm = true := by
      cases rm with
      | true => rfl
      | false => exact absurd (hnr rfl) (by omega)
    subst hrt
    rw [errV_nil] at HWA
    cases nb with
    | succ nb =>
      clear hlike hnr heq hna hnb hta htb hrm
      rw [show errV E (nb + 1) = errAt (E nb) from rfl] at HWB
      unfold errAt at HWB
      go_enter Tryz.func3, Tryz.ntmps3
      go_wp2_with fail
      refine (HAL.out).mono ?_
      rintro e w1 ⟨rfl, hb1⟩
      have B1 := Lib.hid (HB.out.trans (hb1.mono HB.out.size))
      have n1 := N.out.below hb1 N.out.lt
      have o1 := O.out.below hb1 O.out.lt
      clear hb1 z0 z1 z2 z3 z4 z5 z6 z7 z8 z9 z10
      have N1 := Lib.hid n1
      have O1 := Lib.hid o1
      have z0 := (n1.cell 0).trans rfl; have z1 := (n1.cell 1).trans rfl; have z2 := (n1.cell 2).trans rfl; have z3 := (n1.cell 3).trans rfl; have z4 := (n1.cell 4).trans rfl; have z5 := (n1.cell 5).trans rfl; have z6 := (n1.cell 6).trans rfl; have z7 := (n1.cell 7).trans rfl; have z8 := (n1.cell 8).trans rfl; have z9 := (n1.cell 9).trans rfl; have z10 := (n1.cell 10).trans rfl
      clear n1 o1
      go_wp2_with fail
      refine (HWA.out _ B1.out).mono ?_
      rintro e w2 ⟨rfl, hb2⟩
      have B2 := Lib.hid (B1.out.trans (hb2.mono B1.out.size))
      have n2 := N1.out.below hb2 N1.out.lt
      have o2 := O1.out.below hb2 O1.out.lt
      clear hb2 z0 z1 z2 z3 z4 z5 z6 z7 z8 z9 z10
      have N2 := Lib.hid n2
      have O2 := Lib.hid o2
      have y0 := (o2.cell 0).trans rfl; have y1 := (o2.cell 1).trans rfl; have y2 := (o2.cell 2).trans rfl; have y3 := (o2.cell 3).trans rfl; have y4 := (o2.cell 4).trans rfl; have y5 := (o2.cell 5).trans rfl; have y6 := (o2.cell 6).trans rfl; have y7 := (o2.cell 7).trans rfl; have y8 := (o2.cell 8).trans rfl; have y9 := (o2.cell 9).trans rfl; have y10 := (o2.cell 10).trans rfl
      clear n2 o2
      go_wp2_with fail
      refine (HWB.out _ B2.out).mono ?_
      rintro e w3 ⟨rfl, hb3⟩
      have B3 := Lib.hid (B2.out.trans (hb3.mono B2.out.size))
      have n3 := N2.out.below hb3 N2.out.lt
      have o3 := O2.out.below hb3 O2.out.lt
      clear hb3 y0 y1 y2 y3 y4 y5 y6 y7 y8 y9 y10
      have N3 := Lib.hid n3
      have O3 := Lib.hid o3
      have z0 := (n3.cell 0).trans rfl; have z1 := (n3.cell 1).trans rfl; have z2 := (n3.cell 2).trans rfl; have z3 := (n3.cell 3).trans rfl; have z4 := (n3.cell 4).trans rfl; have z5 := (n3.cell 5).trans rfl; have z6 := (n3.cell 6).trans rfl; have z7 := (n3.cell 7).trans rfl; have z8 := (n3.cell 8).trans rfl; have z9 := (n3.cell 9).trans rfl; have z10 := (n3.cell 10).trans rfl
      clear n3 o3
      go_wp2_with (go_at_call 9; refine (HLR.out _ B3.out).mono ?_; rintro e w4 ⟨rfl, hb4⟩; have B4 := Lib.hid (B3.out.trans (hb4.mono B3.out.size)); clear hb4)
      go_ret
      exact ⟨rfl, B4.out⟩
    | zero =>
      rw [errV_nil] at HWB
      have hse : (ta == tb) = ((k == k') && (f == f') && (t == t') && (n == n') && (s == s') && (r == r') && (p == p') && (q == q') && (c == c') && (i == i') && (j == j')) := by
        rw [Bool.eq_iff_iff, beq_iff_eq, hlike rfl rfl]
        simp only [Bnd.mk.injEq, Msg.mk.injEq, Bool.and_eq_true, beq_iff_eq]
        constructor
        · rintro ⟨⟨h0, h1, h2, h3, h4, h5, h6, h7, h8⟩, h9, h10⟩
          exact ⟨⟨⟨⟨⟨⟨⟨⟨⟨⟨h0, h1⟩, h2⟩, h3⟩, h4⟩, h5⟩, h6⟩, h7⟩, h8⟩, h9⟩, h10⟩
        · rintro ⟨⟨⟨⟨⟨⟨⟨⟨⟨⟨h0, h1⟩, h2⟩, h3⟩, h4⟩, h5⟩, h6⟩, h7⟩, h8⟩, h9⟩, h10⟩
          exact ⟨⟨h0, h1, h2, h3, h4, h5, h6, h7, h8⟩, h9, h10⟩
      rw [← hse] at heq
      clear hse hlike hnr hna hnb hta htb hrm
      go_enter Tryz.func3, Tryz.ntmps3
      go_wp2_with fail
      refine (HAL.out).mono ?_
      rintro e w1 ⟨rfl, hb1⟩
      have B1 := Lib.hid (HB.out.trans (hb1.mono HB.out.size))
      have n1 := N.out.below hb1 N.out.lt
      have o1 := O.out.below hb1 O.out.lt
      clear hb1 z0 z1 z2 z3 z4 z5 z6 z7 z8 z9 z10
      have N1 := Lib.hid n1
      have O1 := Lib.hid o1
      have z0 := (n1.cell 0).trans rfl; have z1 := (n1.cell 1).trans rfl; have z2 := (n1.cell 2).trans rfl; have z3 := (n1.cell 3).trans rfl; have z4 := (n1.cell 4).trans rfl; have z5 := (n1.cell 5).trans rfl; have z6 := (n1.cell 6).trans rfl; have z7 := (n1.cell 7).trans rfl; have z8 := (n1.cell 8).trans rfl; have z9 := (n1.cell 9).trans rfl; have z10 := (n1.cell 10).trans rfl
      clear n1 o1
      go_wp2_with fail
      refine (HWA.out _ B1.out).mono ?_
      rintro e w2 ⟨rfl, hb2⟩
      have B2 := Lib.hid (B1.out.trans (hb2.mono B1.out.size))
      have n2 := N1.out.below hb2 N1.out.lt
      have o2 := O1.out.below hb2 O1.out.lt
      clear hb2 z0 z1 z2 z3 z4 z5 z6 z7 z8 z9 z10
      have N2 := Lib.hid n2
      have O2 := Lib.hid o2
      have y0 := (o2.cell 0).trans rfl; have y1 := (o2.cell 1).trans rfl; have y2 := (o2.cell 2).trans rfl; have y3 := (o2.cell 3).trans rfl; have y4 := (o2.cell 4).trans rfl; have y5 := (o2.cell 5).trans rfl; have y6 := (o2.cell 6).trans rfl; have y7 := (o2.cell 7).trans rfl; have y8 := (o2.cell 8).trans rfl; have y9 := (o2.cell 9).trans rfl; have y10 := (o2.cell 10).trans rfl
      clear n2 o2
      go_wp2_with fail
      refine (HWB.out _ B2.out).mono ?_
      rintro e w3 ⟨rfl, hb3⟩
      have B3 := Lib.hid (B2.out.trans (hb3.mono B2.out.size))
      have n3 := N2.out.below hb3 N2.out.lt
      have o3 := O2.out.below hb3 O2.out.lt
      clear hb3 y0 y1 y2 y3 y4 y5 y6 y7 y8 y9 y10
      have N3 := Lib.hid n3
      have O3 := Lib.hid o3
      have z0 := (n3.cell 0).trans rfl; have z1 := (n3.cell 1).trans rfl; have z2 := (n3.cell 2).trans rfl; have z3 := (n3.cell 3).trans rfl; have z4 := (n3.cell 4).trans rfl; have z5 := (n3.cell 5).trans rfl; have z6 := (n3.cell 6).trans rfl; have z7 := (n3.cell 7).trans rfl; have z8 := (n3.cell 8).trans rfl; have z9 := (n3.cell 9).trans rfl; have z10 := (n3.cell 10).trans rfl
      clear n3 o3
      go_wp2_with fail
      refine (HLR.out _ B3.out).mono ?_
      rintro e w4 ⟨rfl, hb4⟩
      have B4 := Lib.hid (B3.out.trans (hb4.mono B3.out.size))
      have n4 := N3.out.below hb4 N3.out.lt
      have o4 := O3.out.below hb4 O3.out.lt
      clear hb4 z0 z1 z2 z3 z4 z5 z6 z7 z8 z9 z10
      have z0 := (n4.cell 0).trans rfl; have z1 := (n4.cell 1).trans rfl; have z2 := (n4.cell 2).trans rfl; have z3 := (n4.cell 3).trans rfl; have z4 := (n4.cell 4).trans rfl; have z5 := (n4.cell 5).trans rfl; have z6 := (n4.cell 6).trans rfl; have z7 := (n4.cell 7).trans rfl; have z8 := (n4.cell 8).trans rfl; have z9 := (n4.cell 9).trans rfl; have z10 := (n4.cell 10).trans rfl
      have y0 := (o4.cell 0).trans rfl; have y1 := (o4.cell 1).trans rfl; have y2 := (o4.cell 2).trans rfl; have y3 := (o4.cell 3).trans rfl; have y4 := (o4.cell 4).trans rfl; have y5 := (o4.cell 5).trans rfl; have y6 := (o4.cell 6).trans rfl; have y7 := (o4.cell 7).trans rfl; have y8 := (o4.cell 8).trans rfl; have y9 := (o4.cell 9).trans rfl; have y10 := (o4.cell 10).trans rfl
      clear n4 o4
      go_wp2_with fail
      go_ret
      exact ⟨by first | rfl | simp, B4.out⟩
end Go.Proofs.YthboiahdheehkaaGreatDoor
