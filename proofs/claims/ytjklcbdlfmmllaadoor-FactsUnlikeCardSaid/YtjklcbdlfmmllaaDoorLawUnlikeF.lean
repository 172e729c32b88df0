/-
  LawUnlikeF: the walk of FactsUnlike.
-/
import Derived.Test.YtjklcbdlfmmllaaDoorFactB3
namespace Go.Proofs.YtjklcbdlfmmllaaDoor
open Go.RowKit Go.Extern.Stop Go.Stop Go.Extern Ieee
attribute [local go_sem] flt_def fgt_def feq_def fne_def
attribute [local go_sem] run_store_flt
attribute [local go_sem] bs_toList

def f5 : Fct := ⟨5, 0, 0, 0, 0, 0, 0, 0, 0, 0, 0, 0, 0, 0⟩
theorem f5_wf : f5.wf := by
  refine ⟨fun y hy => ?_, by show (0 : Nat) < _; omega⟩
  unfold f5 Fct.l at hy
  simp only [List.mem_cons, List.not_mem_nil, or_false, or_self] at hy
  rcases hy with rfl | rfl <;> omega
theorem f5_enc : encE f5 = 0 ∧ encL f5 = [1, 0, 1, 5] := by
  have h : rightF f5 = true := by decide +kernel
  refine ⟨by unfold encE; rw [if_pos h], ?_⟩
  unfold encL
  rw [if_pos h]
  decide +kernel
theorem falive_any (w : World) (E : Nat → Addr) (h : IdsG w E) :
    Calls Tryd.prog 5 #[] w fun e w' => e = .returned (.bool true) ∧ Below w.heap.size w w' := by
  have HE := Lib.hid (fbytes_any f5 f5_wf w E h)
  rw [f5_enc.1, f5_enc.2] at HE
  go_enter Tryd.func5, Tryd.ntmps5
  go_wp2_with fail
  refine HE.out.mono ?_
  rintro e w' ⟨v, rfl, ho, hb⟩
  have hby := owns_byt ho
  rw [errV_zero]
  obtain ⟨p, c, rfl, h1, h2, h3⟩ := id hby
  have s1 : (convert 39 9 (.slice p [1, 0, 1, 5].length c)).run Tryd.prog w' = .ok (.string (bs [1, 0, 1, 5])) w' := str_of hby
  simp only [List.length_cons, List.length_nil, Nat.zero_add, Nat.reduceAdd] at s1
  have B := Lib.hid hb
  clear hb ho hby h1 h2 h3 HE h
  go_wp2_with fail
  go_ret
  exact ⟨rfl, B.out⟩
set_option maxRecDepth 20000 in
set_option maxHeartbeats 8000000 in
theorem funlike_bad (a b : Fct) (x : Int) (ha : a.wf) (hb : b.wf) (hr : rightF a = false) (w : World) (E : Nat → Addr) (h : IdsG w E) :
    Calls Tryd.prog 4 #[fctV a, fctV b, .int .i64 x] w fun e w' => e = .returned (.bool true) ∧ Below w.heap.size w w' := by
  have HG := Lib.hid (fun w' (hb : Below w.heap.size w w') => h.below hb)
  have HAL := Lib.hid (fun w' h => falive_any w' E h)
  have HEA := Lib.hid (fun w' h => fbytes_any a ha w' E h)
  have HEB := Lib.hid (fun w' h => fbytes_any b hb w' E h)
  have HRA := Lib.hid (fun w' h => fright_any a ha w' E h)
  unfold GivesB at HEA HEB
  have he : encE a = 4 := by unfold encE; rw [hr]; rfl
  have hev : ∃ a, errV E 4 = .iface 143 a := ⟨_, rfl⟩
  obtain ⟨av, hev⟩ := hev
  rw [he, hev] at HEA
  rw [hr] at HRA
  clear he hr ha hb h hev
  generalize encL a = l1 at *
  generalize encL b = l2 at *
  generalize errV E (encE b) = ev2 at *
  have hsm : ∃ sm : Bool, sm = sm := ⟨true, rfl⟩
  obtain ⟨sm, _⟩ := hsm
  unfold fctV fctA at HEA HEB HRA ⊢
  obtain ⟨a0, a1, a2, a3, a4, a5, a6, a7, a8, a9, a10, a11, a12, ax⟩ := a
  obtain ⟨b0, b1, b2, b3, b4, b5, b6, b7, b8, b9, b10, b11, b12, bx⟩ := b
  simp only at HEA HEB HRA ⊢
  have B := Lib.hid (below_alloc (below_alloc1 w (.cells #[.int .i64 a0, .int .i64 a1, .int .i64 a2, .int .i64 a3, .int .i64 a4, .int .i64 a5, .int .i64 a6, .int .i64 a7, .int .i64 a8, .int .i64 a9, .int .i64 a10, .int .i64 a11, .int .i64 a12, .float .f64 ax] 33)) (.cells #[.int .i64 b0, .int .i64 b1, .int .i64 b2, .int .i64 b3, .int .i64 b4, .int .i64 b5, .int .i64 b6, .int .i64 b7, .int .i64 b8, .int .i64 b9, .int .i64 b10, .int .i64 b11, .int .i64 b12, .float .f64 bx] 33))
  have N := Lib.hid ((Blk.new w 33 #[.int .i64 a0, .int .i64 a1, .int .i64 a2, .int .i64 a3, .int .i64 a4, .int .i64 a5, .int .i64 a6, .int .i64 a7, .int .i64 a8, .int .i64 a9, .int .i64 a10, .int .i64 a11, .int .i64 a12, .float .f64 ax]).alloc (.cells #[.int .i64 b0, .int .i64 b1, .int .i64 b2, .int .i64 b3, .int .i64 b4, .int .i64 b5, .int .i64 b6, .int .i64 b7, .int .i64 b8, .int .i64 b9, .int .i64 b10, .int .i64 b11, .int .i64 b12, .float .f64 bx] 33))
  have O := Lib.hid (show Blk ((w.alloc (.cells #[.int .i64 a0, .int .i64 a1, .int .i64 a2, .int .i64 a3, .int .i64 a4, .int .i64 a5, .int .i64 a6, .int .i64 a7, .int .i64 a8, .int .i64 a9, .int .i64 a10, .int .i64 a11, .int .i64 a12, .float .f64 ax] 33)).alloc (.cells #[.int .i64 b0, .int .i64 b1, .int .i64 b2, .int .i64 b3, .int .i64 b4, .int .i64 b5, .int .i64 b6, .int .i64 b7, .int .i64 b8, .int .i64 b9, .int .i64 b10, .int .i64 b11, .int .i64 b12, .float .f64 bx] 33)) (w.heap.size + 1) 33 #[.int .i64 b0, .int .i64 b1, .int .i64 b2, .int .i64 b3, .int .i64 b4, .int .i64 b5, .int .i64 b6, .int .i64 b7, .int .i64 b8, .int .i64 b9, .int .i64 b10, .int .i64 b11, .int .i64 b12, .float .f64 bx] from by
    have := Blk.new (w.alloc (.cells #[.int .i64 a0, .int .i64 a1, .int .i64 a2, .int .i64 a3, .int .i64 a4, .int .i64 a5, .int .i64 a6, .int .i64 a7, .int .i64 a8, .int .i64 a9, .int .i64 a10, .int .i64 a11, .int .i64 a12, .float .f64 ax] 33)) 33 #[.int .i64 b0, .int .i64 b1, .int .i64 b2, .int .i64 b3, .int .i64 b4, .int .i64 b5, .int .i64 b6, .int .i64 b7, .int .i64 b8, .int .i64 b9, .int .i64 b10, .int .i64 b11, .int .i64 b12, .float .f64 bx]
    rwa [World.size_alloc] at this)
  have n0 := (N.out.cell 0).trans rfl
  have n1 := (N.out.cell 1).trans rfl
  have n2 := (N.out.cell 2).trans rfl
  have n3 := (N.out.cell 3).trans rfl
  have n4 := (N.out.cell 4).trans rfl
  have n5 := (N.out.cell 5).trans rfl
  have n6 := (N.out.cell 6).trans rfl
  have n7 := (N.out.cell 7).trans rfl
  have n8 := (N.out.cell 8).trans rfl
  have n9 := (N.out.cell 9).trans rfl
  have n10 := (N.out.cell 10).trans rfl
  have n11 := (N.out.cell 11).trans rfl
  have n12 := (N.out.cell 12).trans rfl
  have n13 := (N.out.cell 13).trans rfl
  have o0 := (O.out.cell 0).trans rfl
  have o1 := (O.out.cell 1).trans rfl
  have o2 := (O.out.cell 2).trans rfl
  have o3 := (O.out.cell 3).trans rfl
  have o4 := (O.out.cell 4).trans rfl
  have o5 := (O.out.cell 5).trans rfl
  have o6 := (O.out.cell 6).trans rfl
  have o7 := (O.out.cell 7).trans rfl
  have o8 := (O.out.cell 8).trans rfl
  have o9 := (O.out.cell 9).trans rfl
  have o10 := (O.out.cell 10).trans rfl
  have o11 := (O.out.cell 11).trans rfl
  have o12 := (O.out.cell 12).trans rfl
  have o13 := (O.out.cell 13).trans rfl
  go_enter Tryd.func4, Tryd.ntmps4
  go_wp2_with fail
  refine (HAL.out _ (HG.out _ B.out)).mono ?_
  rintro e w' ⟨rfl, hb⟩
  have B' := Lib.hid (B.out.trans (hb.mono B.out.size))
  have N' := Lib.hid (N.out.below hb N.out.lt)
  have O' := Lib.hid (O.out.below hb O.out.lt)
  clear hb B N O n0 n1 n2 n3 n4 n5 n6 n7 n8 n9 n10 n11 n12 n13 o0 o1 o2 o3 o4 o5 o6 o7 o8 o9 o10 o11 o12 o13
  have n0 := (N'.out.cell 0).trans rfl
  have n1 := (N'.out.cell 1).trans rfl
  have n2 := (N'.out.cell 2).trans rfl
  have n3 := (N'.out.cell 3).trans rfl
  have n4 := (N'.out.cell 4).trans rfl
  have n5 := (N'.out.cell 5).trans rfl
  have n6 := (N'.out.cell 6).trans rfl
  have n7 := (N'.out.cell 7).trans rfl
  have n8 := (N'.out.cell 8).trans rfl
  have n9 := (N'.out.cell 9).trans rfl
  have n10 := (N'.out.cell 10).trans rfl
  have n11 := (N'.out.cell 11).trans rfl
  have n12 := (N'.out.cell 12).trans rfl
  have n13 := (N'.out.cell 13).trans rfl
  have o0 := (O'.out.cell 0).trans rfl
  have o1 := (O'.out.cell 1).trans rfl
  have o2 := (O'.out.cell 2).trans rfl
  have o3 := (O'.out.cell 3).trans rfl
  have o4 := (O'.out.cell 4).trans rfl
  have o5 := (O'.out.cell 5).trans rfl
  have o6 := (O'.out.cell 6).trans rfl
  have o7 := (O'.out.cell 7).trans rfl
  have o8 := (O'.out.cell 8).trans rfl
  have o9 := (O'.out.cell 9).trans rfl
  have o10 := (O'.out.cell 10).trans rfl
  have o11 := (O'.out.cell 11).trans rfl
  have o12 := (O'.out.cell 12).trans rfl
  have o13 := (O'.out.cell 13).trans rfl
  have B := Lib.hid B'.out
  have N := Lib.hid N'.out
  have O := Lib.hid O'.out
  clear B' N' O'
  go_wp2_with fail
  refine (HEA.out _ (HG.out _ B.out)).mono ?_
  rintro e w' ⟨v, rfl, ho, hb⟩
  have hyt := owns_byt ho
  obtain ⟨p1, c1, rfl, _, _, _⟩ := id hyt
  have Y1' := Lib.hid hyt
  clear ho hyt
  have B' := Lib.hid (B.out.trans (hb.mono B.out.size))
  have N' := Lib.hid (N.out.below hb N.out.lt)
  have O' := Lib.hid (O.out.below hb O.out.lt)
  clear hb B N O n0 n1 n2 n3 n4 n5 n6 n7 n8 n9 n10 n11 n12 n13 o0 o1 o2 o3 o4 o5 o6 o7 o8 o9 o10 o11 o12 o13
  have n0 := (N'.out.cell 0).trans rfl
  have n1 := (N'.out.cell 1).trans rfl
  have n2 := (N'.out.cell 2).trans rfl
  have n3 := (N'.out.cell 3).trans rfl
  have n4 := (N'.out.cell 4).trans rfl
  have n5 := (N'.out.cell 5).trans rfl
  have n6 := (N'.out.cell 6).trans rfl
  have n7 := (N'.out.cell 7).trans rfl
  have n8 := (N'.out.cell 8).trans rfl
  have n9 := (N'.out.cell 9).trans rfl
  have n10 := (N'.out.cell 10).trans rfl
  have n11 := (N'.out.cell 11).trans rfl
  have n12 := (N'.out.cell 12).trans rfl
  have n13 := (N'.out.cell 13).trans rfl
  have o0 := (O'.out.cell 0).trans rfl
  have o1 := (O'.out.cell 1).trans rfl
  have o2 := (O'.out.cell 2).trans rfl
  have o3 := (O'.out.cell 3).trans rfl
  have o4 := (O'.out.cell 4).trans rfl
  have o5 := (O'.out.cell 5).trans rfl
  have o6 := (O'.out.cell 6).trans rfl
  have o7 := (O'.out.cell 7).trans rfl
  have o8 := (O'.out.cell 8).trans rfl
  have o9 := (O'.out.cell 9).trans rfl
  have o10 := (O'.out.cell 10).trans rfl
  have o11 := (O'.out.cell 11).trans rfl
  have o12 := (O'.out.cell 12).trans rfl
  have o13 := (O'.out.cell 13).trans rfl
  have B := Lib.hid B'.out
  have N := Lib.hid N'.out
  have O := Lib.hid O'.out
  clear B' N' O'
  have Y1 := Lib.hid Y1'.out
  clear Y1'
  go_wp2_with fail
  refine (HEB.out _ (HG.out _ B.out)).mono ?_
  rintro e w' ⟨v, rfl, ho, hb⟩
  have hyt := owns_byt ho
  obtain ⟨p2, c2, rfl, _, _, _⟩ := id hyt
  have Y1k := Lib.hid (Y1.out.keep (Below.keeps hb))
  clear Y1
  have Y1 := Lib.hid Y1k.out
  clear Y1k
  have Y2' := Lib.hid hyt
  clear ho hyt
  have B' := Lib.hid (B.out.trans (hb.mono B.out.size))
  have N' := Lib.hid (N.out.below hb N.out.lt)
  have O' := Lib.hid (O.out.below hb O.out.lt)
  clear hb B N O n0 n1 n2 n3 n4 n5 n6 n7 n8 n9 n10 n11 n12 n13 o0 o1 o2 o3 o4 o5 o6 o7 o8 o9 o10 o11 o12 o13
  have n0 := (N'.out.cell 0).trans rfl
  have n1 := (N'.out.cell 1).trans rfl
  have n2 := (N'.out.cell 2).trans rfl
  have n3 := (N'.out.cell 3).trans rfl
  have n4 := (N'.out.cell 4).trans rfl
  have n5 := (N'.out.cell 5).trans rfl
  have n6 := (N'.out.cell 6).trans rfl
  have n7 := (N'.out.cell 7).trans rfl
  have n8 := (N'.out.cell 8).trans rfl
  have n9 := (N'.out.cell 9).trans rfl
  have n10 := (N'.out.cell 10).trans rfl
  have n11 := (N'.out.cell 11).trans rfl
  have n12 := (N'.out.cell 12).trans rfl
  have n13 := (N'.out.cell 13).trans rfl
  have o0 := (O'.out.cell 0).trans rfl
  have o1 := (O'.out.cell 1).trans rfl
  have o2 := (O'.out.cell 2).trans rfl
  have o3 := (O'.out.cell 3).trans rfl
  have o4 := (O'.out.cell 4).trans rfl
  have o5 := (O'.out.cell 5).trans rfl
  have o6 := (O'.out.cell 6).trans rfl
  have o7 := (O'.out.cell 7).trans rfl
  have o8 := (O'.out.cell 8).trans rfl
  have o9 := (O'.out.cell 9).trans rfl
  have o10 := (O'.out.cell 10).trans rfl
  have o11 := (O'.out.cell 11).trans rfl
  have o12 := (O'.out.cell 12).trans rfl
  have o13 := (O'.out.cell 13).trans rfl
  have B := Lib.hid B'.out
  have N := Lib.hid N'.out
  have O := Lib.hid O'.out
  clear B' N' O'
  have Y2 := Lib.hid Y2'.out
  clear Y2'
  go_wp2_with fail
  refine wp_phi (fun w' => Below w.heap.size w w' ∧ Blk w' w.heap.size 33 #[.int .i64 a0, .int .i64 a1, .int .i64 a2, .int .i64 a3, .int .i64 a4, .int .i64 a5, .int .i64 a6, .int .i64 a7, .int .i64 a8, .int .i64 a9, .int .i64 a10, .int .i64 a11, .int .i64 a12, .float .f64 ax] ∧ Blk w' (w.heap.size + 1) 33 #[.int .i64 b0, .int .i64 b1, .int .i64 b2, .int .i64 b3, .int .i64 b4, .int .i64 b5, .int .i64 b6, .int .i64 b7, .int .i64 b8, .int .i64 b9, .int .i64 b10, .int .i64 b11, .int .i64 b12, .float .f64 bx] ∧ Byt w' (.slice p1 l1.length c1) l1 ∧ Byt w' (.slice p2 l2.length c2) l2) [(14, PVal (.bool sm))] [] (by kernel_rfl) (by kernel_rfl) ?_ ?_ ⟨B.out.drew, N.out, O.out, Y1.out, Y2.out⟩ ?_
  · rintro w1 w2 ⟨a1, a2, a3, a4, a5⟩ hb
    exact ⟨a1.trans (hb.mono a1.size), a2.below hb a2.lt, a3.below hb a3.lt, a4.keep (Below.keeps hb), a5.keep (Below.keeps hb)⟩
  · simp only [List.mem_cons, List.not_mem_nil, or_false, forall_eq]
    exact fun _ _ _ _ _ h => h
  repeat (first | (refine phi_skipK rfl (fun K hK => ?_); simp only [Act.put, List.setIfInBounds_toArray, List.set_cons_succ, List.set_cons_zero]; (try simp only [List.cons_append]); (try simp only [List.nil_append]); apply hK; clear hK K) | (refine phi_pureK rfl rfl (fun K hK => ?_); apply Exists.intro; constructor; (focus (rintro w' ⟨h0, hN, hO, hy1, hy2⟩; (have k0 := (hN.cell 0).trans rfl; have l0 := (hO.cell 0).trans rfl; have k1 := (hN.cell 1).trans rfl; have l1 := (hO.cell 1).trans rfl; have k2 := (hN.cell 2).trans rfl; have l2 := (hO.cell 2).trans rfl; have k3 := (hN.cell 3).trans rfl; have l3 := (hO.cell 3).trans rfl; have k4 := (hN.cell 4).trans rfl; have l4 := (hO.cell 4).trans rfl; have k5 := (hN.cell 5).trans rfl; have l5 := (hO.cell 5).trans rfl; have k6 := (hN.cell 6).trans rfl; have l6 := (hO.cell 6).trans rfl; have k7 := (hN.cell 7).trans rfl; have l7 := (hO.cell 7).trans rfl; have k8 := (hN.cell 8).trans rfl; have l8 := (hO.cell 8).trans rfl; have k9 := (hN.cell 9).trans rfl; have l9 := (hO.cell 9).trans rfl; have k10 := (hN.cell 10).trans rfl; have l10 := (hO.cell 10).trans rfl; have k11 := (hN.cell 11).trans rfl; have l11 := (hO.cell 11).trans rfl; have k12 := (hN.cell 12).trans rfl; have l12 := (hO.cell 12).trans rfl; have k13 := (hN.cell 13).trans rfl; have l13 := (hO.cell 13).trans rfl; have s1 := str_of hy1; have s2 := str_of hy2; clear h0 hN hO hy1 hy2); first | (go_simp; done) | (go_simp; (try go_bits); (try go_simp); rfl) | go_simp)); simp only [Act.put, List.setIfInBounds_toArray, List.set_cons_succ, List.set_cons_zero]; (try simp only [List.cons_append]); (try simp only [List.nil_append]); apply hK; clear hK K))
  refine phi_done ?_
  rintro w' ⟨hb, hN, hO, hy1, _⟩ _
  have B' := Lib.hid hb
  have N' := Lib.hid hN
  have Y1' := Lib.hid hy1
  clear hb hN hO hy1 B N O Y1 Y2 n0 n1 n2 n3 n4 n5 n6 n7 n8 n9 n10 n11 n12 n13 o0 o1 o2 o3 o4 o5 o6 o7 o8 o9 o10 o11 o12 o13
  have n0 := (N'.out.cell 0).trans rfl
  have n1 := (N'.out.cell 1).trans rfl
  have n2 := (N'.out.cell 2).trans rfl
  have n3 := (N'.out.cell 3).trans rfl
  have n4 := (N'.out.cell 4).trans rfl
  have n5 := (N'.out.cell 5).trans rfl
  have n6 := (N'.out.cell 6).trans rfl
  have n7 := (N'.out.cell 7).trans rfl
  have n8 := (N'.out.cell 8).trans rfl
  have n9 := (N'.out.cell 9).trans rfl
  have n10 := (N'.out.cell 10).trans rfl
  have n11 := (N'.out.cell 11).trans rfl
  have n12 := (N'.out.cell 12).trans rfl
  have n13 := (N'.out.cell 13).trans rfl
  have B := Lib.hid B'.out
  have N := Lib.hid N'.out
  have Y1 := Lib.hid Y1'.out
  clear B' N' Y1'
  refine wpList_nil ?_
  go_wp2_with fail
  refine (HRA.out _ (HG.out _ B.out)).mono ?_
  rintro e w' ⟨rfl, hb⟩
  have B' := Lib.hid (B.out.trans (hb.mono B.out.size))
  have N' := Lib.hid (N.out.below hb N.out.lt)
  clear hb B N n0 n1 n2 n3 n4 n5 n6 n7 n8 n9 n10 n11 n12 n13
  have n0 := (N'.out.cell 0).trans rfl
  have n1 := (N'.out.cell 1).trans rfl
  have n2 := (N'.out.cell 2).trans rfl
  have n3 := (N'.out.cell 3).trans rfl
  have n4 := (N'.out.cell 4).trans rfl
  have n5 := (N'.out.cell 5).trans rfl
  have n6 := (N'.out.cell 6).trans rfl
  have n7 := (N'.out.cell 7).trans rfl
  have n8 := (N'.out.cell 8).trans rfl
  have n9 := (N'.out.cell 9).trans rfl
  have n10 := (N'.out.cell 10).trans rfl
  have n11 := (N'.out.cell 11).trans rfl
  have n12 := (N'.out.cell 12).trans rfl
  have n13 := (N'.out.cell 13).trans rfl
  have B := Lib.hid B'.out
  have N := Lib.hid N'.out
  clear B' N'
  go_wp2_with fail
  go_ret
  exact ⟨rfl, B.out⟩
set_option maxRecDepth 20000 in
set_option maxHeartbeats 8000000 in
theorem funlike_one (a b : Fct) (x : Int) (ha : a.wf) (hb : b.wf) (hr : rightF a = true) (hrb : rightF b = false) (w : World) (E : Nat → Addr) (h : IdsG w E) :
    Calls Tryd.prog 4 #[fctV a, fctV b, .int .i64 x] w fun e w' => e = .returned (.bool true) ∧ Below w.heap.size w w' := by
  have HG := Lib.hid (fun w' (hb : Below w.heap.size w w') => h.below hb)
  have HAL := Lib.hid (fun w' h => falive_any w' E h)
  have HEA := Lib.hid (fun w' h => fbytes_any a ha w' E h)
  have HEB := Lib.hid (fun w' h => fbytes_any b hb w' E h)
  have HRA := Lib.hid (fun w' h => fright_any a ha w' E h)
  have HDC := Lib.hid (fun l v w' h hy => fread_any v l w' E h hy)
  unfold GivesB at HEA HEB
  have he : encE a = 0 := by unfold encE; rw [hr]; rfl
  have hsm := enc_small hr
  have hso := enc_some hr
  have hu := u64_conv x
  have hul := u64n_lt x
  have hu2 := fun w => u64_conv ((encL a).length : Int) w
  have hu3 : u64n ((encL a).length : Int) = (encL a).length := by unfold u64n; omega
  simp only [hu3] at hu2
  have hnz : ¬ ((encL a).length : Int) = 0 := by omega
  obtain ⟨k, hkl, hkw⟩ := last_k x (encL a).length hso (by omega)
  have HKW := Lib.hid hkw
  clear hkw
  obtain ⟨i1, hi', hz0', hz1', hz2'⟩ := info_parts byt8Info
  have HNE := Lib.hid (fun h0 => cut_same hr k hkl h0)
  have HDX := Lib.hid (fun h0 : decE ((encL a).take k) = 0 => (right_ok (enc_dec h0).1).time)
  have hax := ha.2
  rw [he, errV_zero] at HEA
  rw [hr] at HRA
  have he2 : encE b = 4 := by unfold encE; rw [hrb]; rfl
  have hev : ∃ a, errV E 4 = .iface 143 a := ⟨_, rfl⟩
  obtain ⟨av, hev⟩ := hev
  rw [he2, hev] at HEB
  clear he2 hev
  clear he hr hrb ha hb h hsm hu3
  generalize encL a = l1 at *
  generalize encL b = l2 at *
  have hsm : ∃ sm : Bool, sm = sm := ⟨true, rfl⟩
  obtain ⟨sm, _⟩ := hsm
  generalize hde : decE (l1.take k) = de at *
  have HDT := Lib.hid (HDC.out (l1.take k))
  rw [hde] at HDT
  clear HDC hde
  by_cases hz : de = 0
  · subst hz
    have hn0 := HNE.out rfl
    have HSD := Lib.hid (fun w' => fsame_any (decF (l1.take k)) a (by have := HDX.out rfl; unfold infR at this; omega) hax w')
    rw [hn0] at HSD
    clear HNE HDX hn0 hax
    generalize decF (l1.take k) = dm at *
    unfold fctV fctA at HEA HEB HRA HDT HSD ⊢
    obtain ⟨a0, a1, a2, a3, a4, a5, a6, a7, a8, a9, a10, a11, a12, ax⟩ := a
    obtain ⟨b0, b1, b2, b3, b4, b5, b6, b7, b8, b9, b10, b11, b12, bx⟩ := b
    obtain ⟨d0, d1, d2, d3, d4, d5, d6, d7, d8, d9, d10, d11, d12, dx⟩ := dm
    simp only [errV_zero] at HEA HEB HRA HDT HSD ⊢
    have B := Lib.hid (below_alloc (below_alloc1 w (.cells #[.int .i64 a0, .int .i64 a1, .int .i64 a2, .int .i64 a3, .int .i64 a4, .int .i64 a5, .int .i64 a6, .int .i64 a7, .int .i64 a8, .int .i64 a9, .int .i64 a10, .int .i64 a11, .int .i64 a12, .float .f64 ax] 33)) (.cells #[.int .i64 b0, .int .i64 b1, .int .i64 b2, .int .i64 b3, .int .i64 b4, .int .i64 b5, .int .i64 b6, .int .i64 b7, .int .i64 b8, .int .i64 b9, .int .i64 b10, .int .i64 b11, .int .i64 b12, .float .f64 bx] 33))
    have N := Lib.hid ((Blk.new w 33 #[.int .i64 a0, .int .i64 a1, .int .i64 a2, .int .i64 a3, .int .i64 a4, .int .i64 a5, .int .i64 a6, .int .i64 a7, .int .i64 a8, .int .i64 a9, .int .i64 a10, .int .i64 a11, .int .i64 a12, .float .f64 ax]).alloc (.cells #[.int .i64 b0, .int .i64 b1, .int .i64 b2, .int .i64 b3, .int .i64 b4, .int .i64 b5, .int .i64 b6, .int .i64 b7, .int .i64 b8, .int .i64 b9, .int .i64 b10, .int .i64 b11, .int .i64 b12, .float .f64 bx] 33))
    have O := Lib.hid (show Blk ((w.alloc (.cells #[.int .i64 a0, .int .i64 a1, .int .i64 a2, .int .i64 a3, .int .i64 a4, .int .i64 a5, .int .i64 a6, .int .i64 a7, .int .i64 a8, .int .i64 a9, .int .i64 a10, .int .i64 a11, .int .i64 a12, .float .f64 ax] 33)).alloc (.cells #[.int .i64 b0, .int .i64 b1, .int .i64 b2, .int .i64 b3, .int .i64 b4, .int .i64 b5, .int .i64 b6, .int .i64 b7, .int .i64 b8, .int .i64 b9, .int .i64 b10, .int .i64 b11, .int .i64 b12, .float .f64 bx] 33)) (w.heap.size + 1) 33 #[.int .i64 b0, .int .i64 b1, .int .i64 b2, .int .i64 b3, .int .i64 b4, .int .i64 b5, .int .i64 b6, .int .i64 b7, .int .i64 b8, .int .i64 b9, .int .i64 b10, .int .i64 b11, .int .i64 b12, .float .f64 bx] from by
      have := Blk.new (w.alloc (.cells #[.int .i64 a0, .int .i64 a1, .int .i64 a2, .int .i64 a3, .int .i64 a4, .int .i64 a5, .int .i64 a6, .int .i64 a7, .int .i64 a8, .int .i64 a9, .int .i64 a10, .int .i64 a11, .int .i64 a12, .float .f64 ax] 33)) 33 #[.int .i64 b0, .int .i64 b1, .int .i64 b2, .int .i64 b3, .int .i64 b4, .int .i64 b5, .int .i64 b6, .int .i64 b7, .int .i64 b8, .int .i64 b9, .int .i64 b10, .int .i64 b11, .int .i64 b12, .float .f64 bx]
      rwa [World.size_alloc] at this)
    have n0 := (N.out.cell 0).trans rfl
    have n1 := (N.out.cell 1).trans rfl
    have n2 := (N.out.cell 2).trans rfl
    have n3 := (N.out.cell 3).trans rfl
    have n4 := (N.out.cell 4).trans rfl
    have n5 := (N.out.cell 5).trans rfl
    have n6 := (N.out.cell 6).trans rfl
    have n7 := (N.out.cell 7).trans rfl
    have n8 := (N.out.cell 8).trans rfl
    have n9 := (N.out.cell 9).trans rfl
    have n10 := (N.out.cell 10).trans rfl
    have n11 := (N.out.cell 11).trans rfl
    have n12 := (N.out.cell 12).trans rfl
    have n13 := (N.out.cell 13).trans rfl
    have o0 := (O.out.cell 0).trans rfl
    have o1 := (O.out.cell 1).trans rfl
    have o2 := (O.out.cell 2).trans rfl
    have o3 := (O.out.cell 3).trans rfl
    have o4 := (O.out.cell 4).trans rfl
    have o5 := (O.out.cell 5).trans rfl
    have o6 := (O.out.cell 6).trans rfl
    have o7 := (O.out.cell 7).trans rfl
    have o8 := (O.out.cell 8).trans rfl
    have o9 := (O.out.cell 9).trans rfl
    have o10 := (O.out.cell 10).trans rfl
    have o11 := (O.out.cell 11).trans rfl
    have o12 := (O.out.cell 12).trans rfl
    have o13 := (O.out.cell 13).trans rfl
    go_enter Tryd.func4, Tryd.ntmps4
    go_wp2_with fail
    refine (HAL.out _ (HG.out _ B.out)).mono ?_
    rintro e w' ⟨rfl, hb⟩
    have B' := Lib.hid (B.out.trans (hb.mono B.out.size))
    have N' := Lib.hid (N.out.below hb N.out.lt)
    have O' := Lib.hid (O.out.below hb O.out.lt)
    clear hb B N O n0 n1 n2 n3 n4 n5 n6 n7 n8 n9 n10 n11 n12 n13 o0 o1 o2 o3 o4 o5 o6 o7 o8 o9 o10 o11 o12 o13
    have n0 := (N'.out.cell 0).trans rfl
    have n1 := (N'.out.cell 1).trans rfl
    have n2 := (N'.out.cell 2).trans rfl
    have n3 := (N'.out.cell 3).trans rfl
    have n4 := (N'.out.cell 4).trans rfl
    have n5 := (N'.out.cell 5).trans rfl
    have n6 := (N'.out.cell 6).trans rfl
    have n7 := (N'.out.cell 7).trans rfl
    have n8 := (N'.out.cell 8).trans rfl
    have n9 := (N'.out.cell 9).trans rfl
    have n10 := (N'.out.cell 10).trans rfl
    have n11 := (N'.out.cell 11).trans rfl
    have n12 := (N'.out.cell 12).trans rfl
    have n13 := (N'.out.cell 13).trans rfl
    have o0 := (O'.out.cell 0).trans rfl
    have o1 := (O'.out.cell 1).trans rfl
    have o2 := (O'.out.cell 2).trans rfl
    have o3 := (O'.out.cell 3).trans rfl
    have o4 := (O'.out.cell 4).trans rfl
    have o5 := (O'.out.cell 5).trans rfl
    have o6 := (O'.out.cell 6).trans rfl
    have o7 := (O'.out.cell 7).trans rfl
    have o8 := (O'.out.cell 8).trans rfl
    have o9 := (O'.out.cell 9).trans rfl
    have o10 := (O'.out.cell 10).trans rfl
    have o11 := (O'.out.cell 11).trans rfl
    have o12 := (O'.out.cell 12).trans rfl
    have o13 := (O'.out.cell 13).trans rfl
    have B := Lib.hid B'.out
    have N := Lib.hid N'.out
    have O := Lib.hid O'.out
    clear B' N' O'
    go_wp2_with fail
    refine (HEA.out _ (HG.out _ B.out)).mono ?_
    rintro e w' ⟨v, rfl, ho, hb⟩
    have hyt := owns_byt ho
    obtain ⟨p1, c1, rfl, _, _, _⟩ := id hyt
    have Y1' := Lib.hid hyt
    clear ho hyt
    have B' := Lib.hid (B.out.trans (hb.mono B.out.size))
    have N' := Lib.hid (N.out.below hb N.out.lt)
    have O' := Lib.hid (O.out.below hb O.out.lt)
    clear hb B N O n0 n1 n2 n3 n4 n5 n6 n7 n8 n9 n10 n11 n12 n13 o0 o1 o2 o3 o4 o5 o6 o7 o8 o9 o10 o11 o12 o13
    have n0 := (N'.out.cell 0).trans rfl
    have n1 := (N'.out.cell 1).trans rfl
    have n2 := (N'.out.cell 2).trans rfl
    have n3 := (N'.out.cell 3).trans rfl
    have n4 := (N'.out.cell 4).trans rfl
    have n5 := (N'.out.cell 5).trans rfl
    have n6 := (N'.out.cell 6).trans rfl
    have n7 := (N'.out.cell 7).trans rfl
    have n8 := (N'.out.cell 8).trans rfl
    have n9 := (N'.out.cell 9).trans rfl
    have n10 := (N'.out.cell 10).trans rfl
    have n11 := (N'.out.cell 11).trans rfl
    have n12 := (N'.out.cell 12).trans rfl
    have n13 := (N'.out.cell 13).trans rfl
    have o0 := (O'.out.cell 0).trans rfl
    have o1 := (O'.out.cell 1).trans rfl
    have o2 := (O'.out.cell 2).trans rfl
    have o3 := (O'.out.cell 3).trans rfl
    have o4 := (O'.out.cell 4).trans rfl
    have o5 := (O'.out.cell 5).trans rfl
    have o6 := (O'.out.cell 6).trans rfl
    have o7 := (O'.out.cell 7).trans rfl
    have o8 := (O'.out.cell 8).trans rfl
    have o9 := (O'.out.cell 9).trans rfl
    have o10 := (O'.out.cell 10).trans rfl
    have o11 := (O'.out.cell 11).trans rfl
    have o12 := (O'.out.cell 12).trans rfl
    have o13 := (O'.out.cell 13).trans rfl
    have B := Lib.hid B'.out
    have N := Lib.hid N'.out
    have O := Lib.hid O'.out
    clear B' N' O'
    have Y1 := Lib.hid Y1'.out
    clear Y1'
    go_wp2_with fail
    refine (HEB.out _ (HG.out _ B.out)).mono ?_
    rintro e w' ⟨v, rfl, ho, hb⟩
    have hyt := owns_byt ho
    obtain ⟨p2, c2, rfl, _, _, _⟩ := id hyt
    have Y1k := Lib.hid (Y1.out.keep (Below.keeps hb))
    clear Y1
    have Y1 := Lib.hid Y1k.out
    clear Y1k
    have Y2' := Lib.hid hyt
    clear ho hyt
    have B' := Lib.hid (B.out.trans (hb.mono B.out.size))
    have N' := Lib.hid (N.out.below hb N.out.lt)
    have O' := Lib.hid (O.out.below hb O.out.lt)
    clear hb B N O n0 n1 n2 n3 n4 n5 n6 n7 n8 n9 n10 n11 n12 n13 o0 o1 o2 o3 o4 o5 o6 o7 o8 o9 o10 o11 o12 o13
    have n0 := (N'.out.cell 0).trans rfl
    have n1 := (N'.out.cell 1).trans rfl
    have n2 := (N'.out.cell 2).trans rfl
    have n3 := (N'.out.cell 3).trans rfl
    have n4 := (N'.out.cell 4).trans rfl
    have n5 := (N'.out.cell 5).trans rfl
    have n6 := (N'.out.cell 6).trans rfl
    have n7 := (N'.out.cell 7).trans rfl
    have n8 := (N'.out.cell 8).trans rfl
    have n9 := (N'.out.cell 9).trans rfl
    have n10 := (N'.out.cell 10).trans rfl
    have n11 := (N'.out.cell 11).trans rfl
    have n12 := (N'.out.cell 12).trans rfl
    have n13 := (N'.out.cell 13).trans rfl
    have o0 := (O'.out.cell 0).trans rfl
    have o1 := (O'.out.cell 1).trans rfl
    have o2 := (O'.out.cell 2).trans rfl
    have o3 := (O'.out.cell 3).trans rfl
    have o4 := (O'.out.cell 4).trans rfl
    have o5 := (O'.out.cell 5).trans rfl
    have o6 := (O'.out.cell 6).trans rfl
    have o7 := (O'.out.cell 7).trans rfl
    have o8 := (O'.out.cell 8).trans rfl
    have o9 := (O'.out.cell 9).trans rfl
    have o10 := (O'.out.cell 10).trans rfl
    have o11 := (O'.out.cell 11).trans rfl
    have o12 := (O'.out.cell 12).trans rfl
    have o13 := (O'.out.cell 13).trans rfl
    have B := Lib.hid B'.out
    have N := Lib.hid N'.out
    have O := Lib.hid O'.out
    clear B' N' O'
    have Y2 := Lib.hid Y2'.out
    clear Y2'
    go_wp2_with fail
    refine wp_phi (fun w' => Below w.heap.size w w' ∧ Blk w' w.heap.size 33 #[.int .i64 a0, .int .i64 a1, .int .i64 a2, .int .i64 a3, .int .i64 a4, .int .i64 a5, .int .i64 a6, .int .i64 a7, .int .i64 a8, .int .i64 a9, .int .i64 a10, .int .i64 a11, .int .i64 a12, .float .f64 ax] ∧ Blk w' (w.heap.size + 1) 33 #[.int .i64 b0, .int .i64 b1, .int .i64 b2, .int .i64 b3, .int .i64 b4, .int .i64 b5, .int .i64 b6, .int .i64 b7, .int .i64 b8, .int .i64 b9, .int .i64 b10, .int .i64 b11, .int .i64 b12, .float .f64 bx] ∧ Byt w' (.slice p1 l1.length c1) l1 ∧ Byt w' (.slice p2 l2.length c2) l2) [(14, PVal (.bool sm))] [] (by kernel_rfl) (by kernel_rfl) ?_ ?_ ⟨B.out.drew, N.out, O.out, Y1.out, Y2.out⟩ ?_
    · rintro w1 w2 ⟨a1, a2, a3, a4, a5⟩ hb
      exact ⟨a1.trans (hb.mono a1.size), a2.below hb a2.lt, a3.below hb a3.lt, a4.keep (Below.keeps hb), a5.keep (Below.keeps hb)⟩
    · simp only [List.mem_cons, List.not_mem_nil, or_false, forall_eq]
      exact fun _ _ _ _ _ h => h
    repeat (first | (refine phi_skipK rfl (fun K hK => ?_); simp only [Act.put, List.setIfInBounds_toArray, List.set_cons_succ, List.set_cons_zero]; (try simp only [List.cons_append]); (try simp only [List.nil_append]); apply hK; clear hK K) | (refine phi_pureK rfl rfl (fun K hK => ?_); apply Exists.intro; constructor; (focus (rintro w' ⟨h0, hN, hO, hy1, hy2⟩; (have k0 := (hN.cell 0).trans rfl; have l0 := (hO.cell 0).trans rfl; have k1 := (hN.cell 1).trans rfl; have l1 := (hO.cell 1).trans rfl; have k2 := (hN.cell 2).trans rfl; have l2 := (hO.cell 2).trans rfl; have k3 := (hN.cell 3).trans rfl; have l3 := (hO.cell 3).trans rfl; have k4 := (hN.cell 4).trans rfl; have l4 := (hO.cell 4).trans rfl; have k5 := (hN.cell 5).trans rfl; have l5 := (hO.cell 5).trans rfl; have k6 := (hN.cell 6).trans rfl; have l6 := (hO.cell 6).trans rfl; have k7 := (hN.cell 7).trans rfl; have l7 := (hO.cell 7).trans rfl; have k8 := (hN.cell 8).trans rfl; have l8 := (hO.cell 8).trans rfl; have k9 := (hN.cell 9).trans rfl; have l9 := (hO.cell 9).trans rfl; have k10 := (hN.cell 10).trans rfl; have l10 := (hO.cell 10).trans rfl; have k11 := (hN.cell 11).trans rfl; have l11 := (hO.cell 11).trans rfl; have k12 := (hN.cell 12).trans rfl; have l12 := (hO.cell 12).trans rfl; have k13 := (hN.cell 13).trans rfl; have l13 := (hO.cell 13).trans rfl; have s1 := str_of hy1; have s2 := str_of hy2; clear h0 hN hO hy1 hy2); first | (go_simp; done) | (go_simp; (try go_bits); (try go_simp); rfl) | go_simp)); simp only [Act.put, List.setIfInBounds_toArray, List.set_cons_succ, List.set_cons_zero]; (try simp only [List.cons_append]); (try simp only [List.nil_append]); apply hK; clear hK K))
    refine phi_done ?_
    rintro w' ⟨hb, hN, hO, hy1, _⟩ _
    have B' := Lib.hid hb
    have N' := Lib.hid hN
    have Y1' := Lib.hid hy1
    clear hb hN hO hy1 B N O Y1 Y2 n0 n1 n2 n3 n4 n5 n6 n7 n8 n9 n10 n11 n12 n13 o0 o1 o2 o3 o4 o5 o6 o7 o8 o9 o10 o11 o12 o13
    have n0 := (N'.out.cell 0).trans rfl
    have n1 := (N'.out.cell 1).trans rfl
    have n2 := (N'.out.cell 2).trans rfl
    have n3 := (N'.out.cell 3).trans rfl
    have n4 := (N'.out.cell 4).trans rfl
    have n5 := (N'.out.cell 5).trans rfl
    have n6 := (N'.out.cell 6).trans rfl
    have n7 := (N'.out.cell 7).trans rfl
    have n8 := (N'.out.cell 8).trans rfl
    have n9 := (N'.out.cell 9).trans rfl
    have n10 := (N'.out.cell 10).trans rfl
    have n11 := (N'.out.cell 11).trans rfl
    have n12 := (N'.out.cell 12).trans rfl
    have n13 := (N'.out.cell 13).trans rfl
    have B := Lib.hid B'.out
    have N := Lib.hid N'.out
    have Y1 := Lib.hid Y1'.out
    clear B' N' Y1'
    refine wpList_nil ?_
    obtain ⟨_, _, hq1, hcl, _, _⟩ := id Y1.out
    injection hq1 with hq1 hq2 hq3
    subst hq1 hq3
    have hsl := fun w => run_slice_to (P := Tryd.prog) Tryd.underlying39 hi' p1 l1.length c1 k (by omega) w
    have HT := Lib.hid (byt_take' Y1.out k (Nat.le_of_lt hkl))
    have hkw := HKW.out
    go_wp2_with fail
    refine (HDT.out _ _ (HG.out _ B.out) HT.out).mono ?_
    rintro e w' ⟨rfl, hb⟩
    have B' := Lib.hid (B.out.trans (hb.mono B.out.size))
    have N' := Lib.hid (N.out.below hb N.out.lt)
    clear hb B N n0 n1 n2 n3 n4 n5 n6 n7 n8 n9 n10 n11 n12 n13
    have n0 := (N'.out.cell 0).trans rfl
    have n1 := (N'.out.cell 1).trans rfl
    have n2 := (N'.out.cell 2).trans rfl
    have n3 := (N'.out.cell 3).trans rfl
    have n4 := (N'.out.cell 4).trans rfl
    have n5 := (N'.out.cell 5).trans rfl
    have n6 := (N'.out.cell 6).trans rfl
    have n7 := (N'.out.cell 7).trans rfl
    have n8 := (N'.out.cell 8).trans rfl
    have n9 := (N'.out.cell 9).trans rfl
    have n10 := (N'.out.cell 10).trans rfl
    have n11 := (N'.out.cell 11).trans rfl
    have n12 := (N'.out.cell 12).trans rfl
    have n13 := (N'.out.cell 13).trans rfl
    have B := Lib.hid B'.out
    have N := Lib.hid N'.out
    clear B' N'
    clear Y1 HT hsl hkw hcl
    have M := Lib.hid (Blk.new w' 33 #[.int .i64 0, .int .i64 0, .int .i64 0, .int .i64 0, .int .i64 0, .int .i64 0, .int .i64 0, .int .i64 0, .int .i64 0, .int .i64 0, .int .i64 0, .int .i64 0, .int .i64 0, .float .f64 0])
    have N' := Lib.hid (N.out.alloc (.cells #[.int .i64 0, .int .i64 0, .int .i64 0, .int .i64 0, .int .i64 0, .int .i64 0, .int .i64 0, .int .i64 0, .int .i64 0, .int .i64 0, .int .i64 0, .int .i64 0, .int .i64 0, .float .f64 0] 33))
    have B' := Lib.hid (below_alloc B.out (.cells #[.int .i64 0, .int .i64 0, .int .i64 0, .int .i64 0, .int .i64 0, .int .i64 0, .int .i64 0, .int .i64 0, .int .i64 0, .int .i64 0, .int .i64 0, .int .i64 0, .int .i64 0, .float .f64 0] 33))
    go_wp2_with (refine wpList_store (.tmp 11) (.tmp 58) 33 rfl rfl w'.heap.size 0 _ _ #[.int .i64 d0, .int .i64 d1, .int .i64 d2, .int .i64 d3, .int .i64 d4, .int .i64 d5, .int .i64 d6, .int .i64 d7, .int .i64 d8, .int .i64 d9, .int .i64 d10, .int .i64 d11, .int .i64 d12, .float .f64 dx] rfl rfl M.out (by kernel_rfl) (by simp [Value.oneCell']) (by simp) ?_)
    intro w7 hn7 ko7
    have h7 : Blk w7 w'.heap.size 33 #[.int .i64 d0, .int .i64 d1, .int .i64 d2, .int .i64 d3, .int .i64 d4, .int .i64 d5, .int .i64 d6, .int .i64 d7, .int .i64 d8, .int .i64 d9, .int .i64 d10, .int .i64 d11, .int .i64 d12, .float .f64 dx] := hn7
    have B7 := Lib.hid (B'.out.trans (ko7.below B.out.size))
    have N7 := Lib.hid (ko7.blk N'.out (Nat.ne_of_lt N.out.lt))
    have H7 := Lib.hid h7
    clear hn7 ko7 h7 M B' B N' N n0 n1 n2 n3 n4 n5 n6 n7 n8 n9 n10 n11 n12 n13
    generalize w'.heap.size = gc at *
    have n0 := (N7.out.cell 0).trans rfl
    have n1 := (N7.out.cell 1).trans rfl
    have n2 := (N7.out.cell 2).trans rfl
    have n3 := (N7.out.cell 3).trans rfl
    have n4 := (N7.out.cell 4).trans rfl
    have n5 := (N7.out.cell 5).trans rfl
    have n6 := (N7.out.cell 6).trans rfl
    have n7 := (N7.out.cell 7).trans rfl
    have n8 := (N7.out.cell 8).trans rfl
    have n9 := (N7.out.cell 9).trans rfl
    have n10 := (N7.out.cell 10).trans rfl
    have n11 := (N7.out.cell 11).trans rfl
    have n12 := (N7.out.cell 12).trans rfl
    have n13 := (N7.out.cell 13).trans rfl
    have c0 := (H7.out.cell 0).trans rfl
    have c1 := (H7.out.cell 1).trans rfl
    have c2 := (H7.out.cell 2).trans rfl
    have c3 := (H7.out.cell 3).trans rfl
    have c4 := (H7.out.cell 4).trans rfl
    have c5 := (H7.out.cell 5).trans rfl
    have c6 := (H7.out.cell 6).trans rfl
    have c7 := (H7.out.cell 7).trans rfl
    have c8 := (H7.out.cell 8).trans rfl
    have c9 := (H7.out.cell 9).trans rfl
    have c10 := (H7.out.cell 10).trans rfl
    have c11 := (H7.out.cell 11).trans rfl
    have c12 := (H7.out.cell 12).trans rfl
    have c13 := (H7.out.cell 13).trans rfl
    have B := Lib.hid B7.out
    have N := Lib.hid N7.out
    have C := Lib.hid H7.out
    clear B7 H7 N7
    go_wp2_with fail
    refine (HRA.out _ (HG.out _ B.out)).mono ?_
    rintro e w' ⟨rfl, hb⟩
    have B' := Lib.hid (B.out.trans (hb.mono B.out.size))
    have N' := Lib.hid (N.out.below hb N.out.lt)
    have C' := Lib.hid (C.out.below hb C.out.lt)
    clear hb B N C n0 n1 n2 n3 n4 n5 n6 n7 n8 n9 n10 n11 n12 n13 c0 c1 c2 c3 c4 c5 c6 c7 c8 c9 c10 c11 c12 c13
    have n0 := (N'.out.cell 0).trans rfl
    have n1 := (N'.out.cell 1).trans rfl
    have n2 := (N'.out.cell 2).trans rfl
    have n3 := (N'.out.cell 3).trans rfl
    have n4 := (N'.out.cell 4).trans rfl
    have n5 := (N'.out.cell 5).trans rfl
    have n6 := (N'.out.cell 6).trans rfl
    have n7 := (N'.out.cell 7).trans rfl
    have n8 := (N'.out.cell 8).trans rfl
    have n9 := (N'.out.cell 9).trans rfl
    have n10 := (N'.out.cell 10).trans rfl
    have n11 := (N'.out.cell 11).trans rfl
    have n12 := (N'.out.cell 12).trans rfl
    have n13 := (N'.out.cell 13).trans rfl
    have c0 := (C'.out.cell 0).trans rfl
    have c1 := (C'.out.cell 1).trans rfl
    have c2 := (C'.out.cell 2).trans rfl
    have c3 := (C'.out.cell 3).trans rfl
    have c4 := (C'.out.cell 4).trans rfl
    have c5 := (C'.out.cell 5).trans rfl
    have c6 := (C'.out.cell 6).trans rfl
    have c7 := (C'.out.cell 7).trans rfl
    have c8 := (C'.out.cell 8).trans rfl
    have c9 := (C'.out.cell 9).trans rfl
    have c10 := (C'.out.cell 10).trans rfl
    have c11 := (C'.out.cell 11).trans rfl
    have c12 := (C'.out.cell 12).trans rfl
    have c13 := (C'.out.cell 13).trans rfl
    have B := Lib.hid B'.out
    have N := Lib.hid N'.out
    have C := Lib.hid C'.out
    clear B' N' C'
    go_wp2_with fail
    refine (HSD.out _).mono ?_
    rintro e w' ⟨rfl, hb⟩
    have B' := Lib.hid (B.out.trans (hb.mono B.out.size))
    have N' := Lib.hid (N.out.below hb N.out.lt)
    have C' := Lib.hid (C.out.below hb C.out.lt)
    clear hb B N C n0 n1 n2 n3 n4 n5 n6 n7 n8 n9 n10 n11 n12 n13 c0 c1 c2 c3 c4 c5 c6 c7 c8 c9 c10 c11 c12 c13
    have n0 := (N'.out.cell 0).trans rfl
    have n1 := (N'.out.cell 1).trans rfl
    have n2 := (N'.out.cell 2).trans rfl
    have n3 := (N'.out.cell 3).trans rfl
    have n4 := (N'.out.cell 4).trans rfl
    have n5 := (N'.out.cell 5).trans rfl
    have n6 := (N'.out.cell 6).trans rfl
    have n7 := (N'.out.cell 7).trans rfl
    have n8 := (N'.out.cell 8).trans rfl
    have n9 := (N'.out.cell 9).trans rfl
    have n10 := (N'.out.cell 10).trans rfl
    have n11 := (N'.out.cell 11).trans rfl
    have n12 := (N'.out.cell 12).trans rfl
    have n13 := (N'.out.cell 13).trans rfl
    have c0 := (C'.out.cell 0).trans rfl
    have c1 := (C'.out.cell 1).trans rfl
    have c2 := (C'.out.cell 2).trans rfl
    have c3 := (C'.out.cell 3).trans rfl
    have c4 := (C'.out.cell 4).trans rfl
    have c5 := (C'.out.cell 5).trans rfl
    have c6 := (C'.out.cell 6).trans rfl
    have c7 := (C'.out.cell 7).trans rfl
    have c8 := (C'.out.cell 8).trans rfl
    have c9 := (C'.out.cell 9).trans rfl
    have c10 := (C'.out.cell 10).trans rfl
    have c11 := (C'.out.cell 11).trans rfl
    have c12 := (C'.out.cell 12).trans rfl
    have c13 := (C'.out.cell 13).trans rfl
    have B := Lib.hid B'.out
    have N := Lib.hid N'.out
    have C := Lib.hid C'.out
    clear B' N' C'
    go_wp2_with fail
    go_ret
    exact ⟨rfl, B.out⟩
  · obtain ⟨en, rfl⟩ : ∃ en, de = en + 1 := ⟨de - 1, by omega⟩
    clear HNE HDX hz hax
    generalize decF (l1.take k) = dm at *
    unfold fctV fctA at HEA HEB HRA HDT ⊢
    obtain ⟨a0, a1, a2, a3, a4, a5, a6, a7, a8, a9, a10, a11, a12, ax⟩ := a
    obtain ⟨b0, b1, b2, b3, b4, b5, b6, b7, b8, b9, b10, b11, b12, bx⟩ := b
    obtain ⟨d0, d1, d2, d3, d4, d5, d6, d7, d8, d9, d10, d11, d12, dx⟩ := dm
    simp only [errV_suc] at HEA HEB HRA HDT ⊢
    have B := Lib.hid (below_alloc (below_alloc1 w (.cells #[.int .i64 a0, .int .i64 a1, .int .i64 a2, .int .i64 a3, .int .i64 a4, .int .i64 a5, .int .i64 a6, .int .i64 a7, .int .i64 a8, .int .i64 a9, .int .i64 a10, .int .i64 a11, .int .i64 a12, .float .f64 ax] 33)) (.cells #[.int .i64 b0, .int .i64 b1, .int .i64 b2, .int .i64 b3, .int .i64 b4, .int .i64 b5, .int .i64 b6, .int .i64 b7, .int .i64 b8, .int .i64 b9, .int .i64 b10, .int .i64 b11, .int .i64 b12, .float .f64 bx] 33))
    have N := Lib.hid ((Blk.new w 33 #[.int .i64 a0, .int .i64 a1, .int .i64 a2, .int .i64 a3, .int .i64 a4, .int .i64 a5, .int .i64 a6, .int .i64 a7, .int .i64 a8, .int .i64 a9, .int .i64 a10, .int .i64 a11, .int .i64 a12, .float .f64 ax]).alloc (.cells #[.int .i64 b0, .int .i64 b1, .int .i64 b2, .int .i64 b3, .int .i64 b4, .int .i64 b5, .int .i64 b6, .int .i64 b7, .int .i64 b8, .int .i64 b9, .int .i64 b10, .int .i64 b11, .int .i64 b12, .float .f64 bx] 33))
    have O := Lib.hid (show Blk ((w.alloc (.cells #[.int .i64 a0, .int .i64 a1, .int .i64 a2, .int .i64 a3, .int .i64 a4, .int .i64 a5, .int .i64 a6, .int .i64 a7, .int .i64 a8, .int .i64 a9, .int .i64 a10, .int .i64 a11, .int .i64 a12, .float .f64 ax] 33)).alloc (.cells #[.int .i64 b0, .int .i64 b1, .int .i64 b2, .int .i64 b3, .int .i64 b4, .int .i64 b5, .int .i64 b6, .int .i64 b7, .int .i64 b8, .int .i64 b9, .int .i64 b10, .int .i64 b11, .int .i64 b12, .float .f64 bx] 33)) (w.heap.size + 1) 33 #[.int .i64 b0, .int .i64 b1, .int .i64 b2, .int .i64 b3, .int .i64 b4, .int .i64 b5, .int .i64 b6, .int .i64 b7, .int .i64 b8, .int .i64 b9, .int .i64 b10, .int .i64 b11, .int .i64 b12, .float .f64 bx] from by
      have := Blk.new (w.alloc (.cells #[.int .i64 a0, .int .i64 a1, .int .i64 a2, .int .i64 a3, .int .i64 a4, .int .i64 a5, .int .i64 a6, .int .i64 a7, .int .i64 a8, .int .i64 a9, .int .i64 a10, .int .i64 a11, .int .i64 a12, .float .f64 ax] 33)) 33 #[.int .i64 b0, .int .i64 b1, .int .i64 b2, .int .i64 b3, .int .i64 b4, .int .i64 b5, .int .i64 b6, .int .i64 b7, .int .i64 b8, .int .i64 b9, .int .i64 b10, .int .i64 b11, .int .i64 b12, .float .f64 bx]
      rwa [World.size_alloc] at this)
    have n0 := (N.out.cell 0).trans rfl
    have n1 := (N.out.cell 1).trans rfl
    have n2 := (N.out.cell 2).trans rfl
    have n3 := (N.out.cell 3).trans rfl
    have n4 := (N.out.cell 4).trans rfl
    have n5 := (N.out.cell 5).trans rfl
    have n6 := (N.out.cell 6).trans rfl
    have n7 := (N.out.cell 7).trans rfl
    have n8 := (N.out.cell 8).trans rfl
    have n9 := (N.out.cell 9).trans rfl
    have n10 := (N.out.cell 10).trans rfl
    have n11 := (N.out.cell 11).trans rfl
    have n12 := (N.out.cell 12).trans rfl
    have n13 := (N.out.cell 13).trans rfl
    have o0 := (O.out.cell 0).trans rfl
    have o1 := (O.out.cell 1).trans rfl
    have o2 := (O.out.cell 2).trans rfl
    have o3 := (O.out.cell 3).trans rfl
    have o4 := (O.out.cell 4).trans rfl
    have o5 := (O.out.cell 5).trans rfl
    have o6 := (O.out.cell 6).trans rfl
    have o7 := (O.out.cell 7).trans rfl
    have o8 := (O.out.cell 8).trans rfl
    have o9 := (O.out.cell 9).trans rfl
    have o10 := (O.out.cell 10).trans rfl
    have o11 := (O.out.cell 11).trans rfl
    have o12 := (O.out.cell 12).trans rfl
    have o13 := (O.out.cell 13).trans rfl
    go_enter Tryd.func4, Tryd.ntmps4
    go_wp2_with fail
    refine (HAL.out _ (HG.out _ B.out)).mono ?_
    rintro e w' ⟨rfl, hb⟩
    have B' := Lib.hid (B.out.trans (hb.mono B.out.size))
    have N' := Lib.hid (N.out.below hb N.out.lt)
    have O' := Lib.hid (O.out.below hb O.out.lt)
    clear hb B N O n0 n1 n2 n3 n4 n5 n6 n7 n8 n9 n10 n11 n12 n13 o0 o1 o2 o3 o4 o5 o6 o7 o8 o9 o10 o11 o12 o13
    have n0 := (N'.out.cell 0).trans rfl
    have n1 := (N'.out.cell 1).trans rfl
    have n2 := (N'.out.cell 2).trans rfl
    have n3 := (N'.out.cell 3).trans rfl
    have n4 := (N'.out.cell 4).trans rfl
    have n5 := (N'.out.cell 5).trans rfl
    have n6 := (N'.out.cell 6).trans rfl
    have n7 := (N'.out.cell 7).trans rfl
    have n8 := (N'.out.cell 8).trans rfl
    have n9 := (N'.out.cell 9).trans rfl
    have n10 := (N'.out.cell 10).trans rfl
    have n11 := (N'.out.cell 11).trans rfl
    have n12 := (N'.out.cell 12).trans rfl
    have n13 := (N'.out.cell 13).trans rfl
    have o0 := (O'.out.cell 0).trans rfl
    have o1 := (O'.out.cell 1).trans rfl
    have o2 := (O'.out.cell 2).trans rfl
    have o3 := (O'.out.cell 3).trans rfl
    have o4 := (O'.out.cell 4).trans rfl
    have o5 := (O'.out.cell 5).trans rfl
    have o6 := (O'.out.cell 6).trans rfl
    have o7 := (O'.out.cell 7).trans rfl
    have o8 := (O'.out.cell 8).trans rfl
    have o9 := (O'.out.cell 9).trans rfl
    have o10 := (O'.out.cell 10).trans rfl
    have o11 := (O'.out.cell 11).trans rfl
    have o12 := (O'.out.cell 12).trans rfl
    have o13 := (O'.out.cell 13).trans rfl
    have B := Lib.hid B'.out
    have N := Lib.hid N'.out
    have O := Lib.hid O'.out
    clear B' N' O'
    go_wp2_with fail
    refine (HEA.out _ (HG.out _ B.out)).mono ?_
    rintro e w' ⟨v, rfl, ho, hb⟩
    have hyt := owns_byt ho
    obtain ⟨p1, c1, rfl, _, _, _⟩ := id hyt
    have Y1' := Lib.hid hyt
    clear ho hyt
    have B' := Lib.hid (B.out.trans (hb.mono B.out.size))
    have N' := Lib.hid (N.out.below hb N.out.lt)
    have O' := Lib.hid (O.out.below hb O.out.lt)
    clear hb B N O n0 n1 n2 n3 n4 n5 n6 n7 n8 n9 n10 n11 n12 n13 o0 o1 o2 o3 o4 o5 o6 o7 o8 o9 o10 o11 o12 o13
    have n0 := (N'.out.cell 0).trans rfl
    have n1 := (N'.out.cell 1).trans rfl
    have n2 := (N'.out.cell 2).trans rfl
    have n3 := (N'.out.cell 3).trans rfl
    have n4 := (N'.out.cell 4).trans rfl
    have n5 := (N'.out.cell 5).trans rfl
    have n6 := (N'.out.cell 6).trans rfl
    have n7 := (N'.out.cell 7).trans rfl
    have n8 := (N'.out.cell 8).trans rfl
    have n9 := (N'.out.cell 9).trans rfl
    have n10 := (N'.out.cell 10).trans rfl
    have n11 := (N'.out.cell 11).trans rfl
    have n12 := (N'.out.cell 12).trans rfl
    have n13 := (N'.out.cell 13).trans rfl
    have o0 := (O'.out.cell 0).trans rfl
    have o1 := (O'.out.cell 1).trans rfl
    have o2 := (O'.out.cell 2).trans rfl
    have o3 := (O'.out.cell 3).trans rfl
    have o4 := (O'.out.cell 4).trans rfl
    have o5 := (O'.out.cell 5).trans rfl
    have o6 := (O'.out.cell 6).trans rfl
    have o7 := (O'.out.cell 7).trans rfl
    have o8 := (O'.out.cell 8).trans rfl
    have o9 := (O'.out.cell 9).trans rfl
    have o10 := (O'.out.cell 10).trans rfl
    have o11 := (O'.out.cell 11).trans rfl
    have o12 := (O'.out.cell 12).trans rfl
    have o13 := (O'.out.cell 13).trans rfl
    have B := Lib.hid B'.out
    have N := Lib.hid N'.out
    have O := Lib.hid O'.out
    clear B' N' O'
    have Y1 := Lib.hid Y1'.out
    clear Y1'
    go_wp2_with fail
    refine (HEB.out _ (HG.out _ B.out)).mono ?_
    rintro e w' ⟨v, rfl, ho, hb⟩
    have hyt := owns_byt ho
    obtain ⟨p2, c2, rfl, _, _, _⟩ := id hyt
    have Y1k := Lib.hid (Y1.out.keep (Below.keeps hb))
    clear Y1
    have Y1 := Lib.hid Y1k.out
    clear Y1k
    have Y2' := Lib.hid hyt
    clear ho hyt
    have B' := Lib.hid (B.out.trans (hb.mono B.out.size))
    have N' := Lib.hid (N.out.below hb N.out.lt)
    have O' := Lib.hid (O.out.below hb O.out.lt)
    clear hb B N O n0 n1 n2 n3 n4 n5 n6 n7 n8 n9 n10 n11 n12 n13 o0 o1 o2 o3 o4 o5 o6 o7 o8 o9 o10 o11 o12 o13
    have n0 := (N'.out.cell 0).trans rfl
    have n1 := (N'.out.cell 1).trans rfl
    have n2 := (N'.out.cell 2).trans rfl
    have n3 := (N'.out.cell 3).trans rfl
    have n4 := (N'.out.cell 4).trans rfl
    have n5 := (N'.out.cell 5).trans rfl
    have n6 := (N'.out.cell 6).trans rfl
    have n7 := (N'.out.cell 7).trans rfl
    have n8 := (N'.out.cell 8).trans rfl
    have n9 := (N'.out.cell 9).trans rfl
    have n10 := (N'.out.cell 10).trans rfl
    have n11 := (N'.out.cell 11).trans rfl
    have n12 := (N'.out.cell 12).trans rfl
    have n13 := (N'.out.cell 13).trans rfl
    have o0 := (O'.out.cell 0).trans rfl
    have o1 := (O'.out.cell 1).trans rfl
    have o2 := (O'.out.cell 2).trans rfl
    have o3 := (O'.out.cell 3).trans rfl
    have o4 := (O'.out.cell 4).trans rfl
    have o5 := (O'.out.cell 5).trans rfl
    have o6 := (O'.out.cell 6).trans rfl
    have o7 := (O'.out.cell 7).trans rfl
    have o8 := (O'.out.cell 8).trans rfl
    have o9 := (O'.out.cell 9).trans rfl
    have o10 := (O'.out.cell 10).trans rfl
    have o11 := (O'.out.cell 11).trans rfl
    have o12 := (O'.out.cell 12).trans rfl
    have o13 := (O'.out.cell 13).trans rfl
    have B := Lib.hid B'.out
    have N := Lib.hid N'.out
    have O := Lib.hid O'.out
    clear B' N' O'
    have Y2 := Lib.hid Y2'.out
    clear Y2'
    go_wp2_with fail
    refine wp_phi (fun w' => Below w.heap.size w w' ∧ Blk w' w.heap.size 33 #[.int .i64 a0, .int .i64 a1, .int .i64 a2, .int .i64 a3, .int .i64 a4, .int .i64 a5, .int .i64 a6, .int .i64 a7, .int .i64 a8, .int .i64 a9, .int .i64 a10, .int .i64 a11, .int .i64 a12, .float .f64 ax] ∧ Blk w' (w.heap.size + 1) 33 #[.int .i64 b0, .int .i64 b1, .int .i64 b2, .int .i64 b3, .int .i64 b4, .int .i64 b5, .int .i64 b6, .int .i64 b7, .int .i64 b8, .int .i64 b9, .int .i64 b10, .int .i64 b11, .int .i64 b12, .float .f64 bx] ∧ Byt w' (.slice p1 l1.length c1) l1 ∧ Byt w' (.slice p2 l2.length c2) l2) [(14, PVal (.bool sm))] [] (by kernel_rfl) (by kernel_rfl) ?_ ?_ ⟨B.out.drew, N.out, O.out, Y1.out, Y2.out⟩ ?_
    · rintro w1 w2 ⟨a1, a2, a3, a4, a5⟩ hb
      exact ⟨a1.trans (hb.mono a1.size), a2.below hb a2.lt, a3.below hb a3.lt, a4.keep (Below.keeps hb), a5.keep (Below.keeps hb)⟩
    · simp only [List.mem_cons, List.not_mem_nil, or_false, forall_eq]
      exact fun _ _ _ _ _ h => h
    repeat (first | (refine phi_skipK rfl (fun K hK => ?_); simp only [Act.put, List.setIfInBounds_toArray, List.set_cons_succ, List.set_cons_zero]; (try simp only [List.cons_append]); (try simp only [List.nil_append]); apply hK; clear hK K) | (refine phi_pureK rfl rfl (fun K hK => ?_); apply Exists.intro; constructor; (focus (rintro w' ⟨h0, hN, hO, hy1, hy2⟩; (have k0 := (hN.cell 0).trans rfl; have l0 := (hO.cell 0).trans rfl; have k1 := (hN.cell 1).trans rfl; have l1 := (hO.cell 1).trans rfl; have k2 := (hN.cell 2).trans rfl; have l2 := (hO.cell 2).trans rfl; have k3 := (hN.cell 3).trans rfl; have l3 := (hO.cell 3).trans rfl; have k4 := (hN.cell 4).trans rfl; have l4 := (hO.cell 4).trans rfl; have k5 := (hN.cell 5).trans rfl; have l5 := (hO.cell 5).trans rfl; have k6 := (hN.cell 6).trans rfl; have l6 := (hO.cell 6).trans rfl; have k7 := (hN.cell 7).trans rfl; have l7 := (hO.cell 7).trans rfl; have k8 := (hN.cell 8).trans rfl; have l8 := (hO.cell 8).trans rfl; have k9 := (hN.cell 9).trans rfl; have l9 := (hO.cell 9).trans rfl; have k10 := (hN.cell 10).trans rfl; have l10 := (hO.cell 10).trans rfl; have k11 := (hN.cell 11).trans rfl; have l11 := (hO.cell 11).trans rfl; have k12 := (hN.cell 12).trans rfl; have l12 := (hO.cell 12).trans rfl; have k13 := (hN.cell 13).trans rfl; have l13 := (hO.cell 13).trans rfl; have s1 := str_of hy1; have s2 := str_of hy2; clear h0 hN hO hy1 hy2); first | (go_simp; done) | (go_simp; (try go_bits); (try go_simp); rfl) | go_simp)); simp only [Act.put, List.setIfInBounds_toArray, List.set_cons_succ, List.set_cons_zero]; (try simp only [List.cons_append]); (try simp only [List.nil_append]); apply hK; clear hK K))
    refine phi_done ?_
    rintro w' ⟨hb, hN, hO, hy1, _⟩ _
    have B' := Lib.hid hb
    have N' := Lib.hid hN
    have Y1' := Lib.hid hy1
    clear hb hN hO hy1 B N O Y1 Y2 n0 n1 n2 n3 n4 n5 n6 n7 n8 n9 n10 n11 n12 n13 o0 o1 o2 o3 o4 o5 o6 o7 o8 o9 o10 o11 o12 o13
    have n0 := (N'.out.cell 0).trans rfl
    have n1 := (N'.out.cell 1).trans rfl
    have n2 := (N'.out.cell 2).trans rfl
    have n3 := (N'.out.cell 3).trans rfl
    have n4 := (N'.out.cell 4).trans rfl
    have n5 := (N'.out.cell 5).trans rfl
    have n6 := (N'.out.cell 6).trans rfl
    have n7 := (N'.out.cell 7).trans rfl
    have n8 := (N'.out.cell 8).trans rfl
    have n9 := (N'.out.cell 9).trans rfl
    have n10 := (N'.out.cell 10).trans rfl
    have n11 := (N'.out.cell 11).trans rfl
    have n12 := (N'.out.cell 12).trans rfl
    have n13 := (N'.out.cell 13).trans rfl
    have B := Lib.hid B'.out
    have N := Lib.hid N'.out
    have Y1 := Lib.hid Y1'.out
    clear B' N' Y1'
    refine wpList_nil ?_
    obtain ⟨_, _, hq1, hcl, _, _⟩ := id Y1.out
    injection hq1 with hq1 hq2 hq3
    subst hq1 hq3
    have hsl := fun w => run_slice_to (P := Tryd.prog) Tryd.underlying39 hi' p1 l1.length c1 k (by omega) w
    have HT := Lib.hid (byt_take' Y1.out k (Nat.le_of_lt hkl))
    have hkw := HKW.out
    go_wp2_with fail
    refine (HDT.out _ _ (HG.out _ B.out) HT.out).mono ?_
    rintro e w' ⟨rfl, hb⟩
    have B' := Lib.hid (B.out.trans (hb.mono B.out.size))
    have N' := Lib.hid (N.out.below hb N.out.lt)
    clear hb B N n0 n1 n2 n3 n4 n5 n6 n7 n8 n9 n10 n11 n12 n13
    have n0 := (N'.out.cell 0).trans rfl
    have n1 := (N'.out.cell 1).trans rfl
    have n2 := (N'.out.cell 2).trans rfl
    have n3 := (N'.out.cell 3).trans rfl
    have n4 := (N'.out.cell 4).trans rfl
    have n5 := (N'.out.cell 5).trans rfl
    have n6 := (N'.out.cell 6).trans rfl
    have n7 := (N'.out.cell 7).trans rfl
    have n8 := (N'.out.cell 8).trans rfl
    have n9 := (N'.out.cell 9).trans rfl
    have n10 := (N'.out.cell 10).trans rfl
    have n11 := (N'.out.cell 11).trans rfl
    have n12 := (N'.out.cell 12).trans rfl
    have n13 := (N'.out.cell 13).trans rfl
    have B := Lib.hid B'.out
    have N := Lib.hid N'.out
    clear B' N'
    clear Y1 HT hsl hkw hcl
    have M := Lib.hid (Blk.new w' 33 #[.int .i64 0, .int .i64 0, .int .i64 0, .int .i64 0, .int .i64 0, .int .i64 0, .int .i64 0, .int .i64 0, .int .i64 0, .int .i64 0, .int .i64 0, .int .i64 0, .int .i64 0, .float .f64 0])
    have N' := Lib.hid (N.out.alloc (.cells #[.int .i64 0, .int .i64 0, .int .i64 0, .int .i64 0, .int .i64 0, .int .i64 0, .int .i64 0, .int .i64 0, .int .i64 0, .int .i64 0, .int .i64 0, .int .i64 0, .int .i64 0, .float .f64 0] 33))
    have B' := Lib.hid (below_alloc B.out (.cells #[.int .i64 0, .int .i64 0, .int .i64 0, .int .i64 0, .int .i64 0, .int .i64 0, .int .i64 0, .int .i64 0, .int .i64 0, .int .i64 0, .int .i64 0, .int .i64 0, .int .i64 0, .float .f64 0] 33))
    go_wp2_with (refine wpList_store (.tmp 11) (.tmp 58) 33 rfl rfl w'.heap.size 0 _ _ #[.int .i64 d0, .int .i64 d1, .int .i64 d2, .int .i64 d3, .int .i64 d4, .int .i64 d5, .int .i64 d6, .int .i64 d7, .int .i64 d8, .int .i64 d9, .int .i64 d10, .int .i64 d11, .int .i64 d12, .float .f64 dx] rfl rfl M.out (by kernel_rfl) (by simp [Value.oneCell']) (by simp) ?_)
    intro w7 hn7 ko7
    have h7 : Blk w7 w'.heap.size 33 #[.int .i64 d0, .int .i64 d1, .int .i64 d2, .int .i64 d3, .int .i64 d4, .int .i64 d5, .int .i64 d6, .int .i64 d7, .int .i64 d8, .int .i64 d9, .int .i64 d10, .int .i64 d11, .int .i64 d12, .float .f64 dx] := hn7
    have B7 := Lib.hid (B'.out.trans (ko7.below B.out.size))
    have N7 := Lib.hid (ko7.blk N'.out (Nat.ne_of_lt N.out.lt))
    have H7 := Lib.hid h7
    clear hn7 ko7 h7 M B' B N' N n0 n1 n2 n3 n4 n5 n6 n7 n8 n9 n10 n11 n12 n13
    generalize w'.heap.size = gc at *
    have n0 := (N7.out.cell 0).trans rfl
    have n1 := (N7.out.cell 1).trans rfl
    have n2 := (N7.out.cell 2).trans rfl
    have n3 := (N7.out.cell 3).trans rfl
    have n4 := (N7.out.cell 4).trans rfl
    have n5 := (N7.out.cell 5).trans rfl
    have n6 := (N7.out.cell 6).trans rfl
    have n7 := (N7.out.cell 7).trans rfl
    have n8 := (N7.out.cell 8).trans rfl
    have n9 := (N7.out.cell 9).trans rfl
    have n10 := (N7.out.cell 10).trans rfl
    have n11 := (N7.out.cell 11).trans rfl
    have n12 := (N7.out.cell 12).trans rfl
    have n13 := (N7.out.cell 13).trans rfl
    have c0 := (H7.out.cell 0).trans rfl
    have c1 := (H7.out.cell 1).trans rfl
    have c2 := (H7.out.cell 2).trans rfl
    have c3 := (H7.out.cell 3).trans rfl
    have c4 := (H7.out.cell 4).trans rfl
    have c5 := (H7.out.cell 5).trans rfl
    have c6 := (H7.out.cell 6).trans rfl
    have c7 := (H7.out.cell 7).trans rfl
    have c8 := (H7.out.cell 8).trans rfl
    have c9 := (H7.out.cell 9).trans rfl
    have c10 := (H7.out.cell 10).trans rfl
    have c11 := (H7.out.cell 11).trans rfl
    have c12 := (H7.out.cell 12).trans rfl
    have c13 := (H7.out.cell 13).trans rfl
    have B := Lib.hid B7.out
    have N := Lib.hid N7.out
    have C := Lib.hid H7.out
    clear B7 H7 N7
    go_wp2_with fail
    refine (HRA.out _ (HG.out _ B.out)).mono ?_
    rintro e w' ⟨rfl, hb⟩
    have B' := Lib.hid (B.out.trans (hb.mono B.out.size))
    have N' := Lib.hid (N.out.below hb N.out.lt)
    have C' := Lib.hid (C.out.below hb C.out.lt)
    clear hb B N C n0 n1 n2 n3 n4 n5 n6 n7 n8 n9 n10 n11 n12 n13 c0 c1 c2 c3 c4 c5 c6 c7 c8 c9 c10 c11 c12 c13
    have n0 := (N'.out.cell 0).trans rfl
    have n1 := (N'.out.cell 1).trans rfl
    have n2 := (N'.out.cell 2).trans rfl
    have n3 := (N'.out.cell 3).trans rfl
    have n4 := (N'.out.cell 4).trans rfl
    have n5 := (N'.out.cell 5).trans rfl
    have n6 := (N'.out.cell 6).trans rfl
    have n7 := (N'.out.cell 7).trans rfl
    have n8 := (N'.out.cell 8).trans rfl
    have n9 := (N'.out.cell 9).trans rfl
    have n10 := (N'.out.cell 10).trans rfl
    have n11 := (N'.out.cell 11).trans rfl
    have n12 := (N'.out.cell 12).trans rfl
    have n13 := (N'.out.cell 13).trans rfl
    have c0 := (C'.out.cell 0).trans rfl
    have c1 := (C'.out.cell 1).trans rfl
    have c2 := (C'.out.cell 2).trans rfl
    have c3 := (C'.out.cell 3).trans rfl
    have c4 := (C'.out.cell 4).trans rfl
    have c5 := (C'.out.cell 5).trans rfl
    have c6 := (C'.out.cell 6).trans rfl
    have c7 := (C'.out.cell 7).trans rfl
    have c8 := (C'.out.cell 8).trans rfl
    have c9 := (C'.out.cell 9).trans rfl
    have c10 := (C'.out.cell 10).trans rfl
    have c11 := (C'.out.cell 11).trans rfl
    have c12 := (C'.out.cell 12).trans rfl
    have c13 := (C'.out.cell 13).trans rfl
    have B := Lib.hid B'.out
    have N := Lib.hid N'.out
    have C := Lib.hid C'.out
    clear B' N' C'
    go_wp2_with fail
    go_ret
    exact ⟨rfl, B.out⟩
set_option maxRecDepth 20000 in
set_option maxHeartbeats 8000000 in
theorem funlike_two (a b : Fct) (x : Int) (ha : a.wf) (hb : b.wf) (hr : rightF a = true) (hrb : rightF b = true) (w : World) (E : Nat → Addr) (h : IdsG w E) :
    Calls Tryd.prog 4 #[fctV a, fctV b, .int .i64 x] w fun e w' => e = .returned (.bool true) ∧ Below w.heap.size w w' := by
  have HG := Lib.hid (fun w' (hb : Below w.heap.size w w') => h.below hb)
  have HAL := Lib.hid (fun w' h => falive_any w' E h)
  have HEA := Lib.hid (fun w' h => fbytes_any a ha w' E h)
  have HEB := Lib.hid (fun w' h => fbytes_any b hb w' E h)
  have HRA := Lib.hid (fun w' h => fright_any a ha w' E h)
  have HDC := Lib.hid (fun l v w' h hy => fread_any v l w' E h hy)
  unfold GivesB at HEA HEB
  have he : encE a = 0 := by unfold encE; rw [hr]; rfl
  have hsm := enc_small hr
  have hso := enc_some hr
  have hu := u64_conv x
  have hul := u64n_lt x
  have hu2 := fun w => u64_conv ((encL a).length : Int) w
  have hu3 : u64n ((encL a).length : Int) = (encL a).length := by unfold u64n; omega
  simp only [hu3] at hu2
  have hnz : ¬ ((encL a).length : Int) = 0 := by omega
  obtain ⟨k, hkl, hkw⟩ := last_k x (encL a).length hso (by omega)
  have HKW := Lib.hid hkw
  clear hkw
  obtain ⟨i1, hi', hz0', hz1', hz2'⟩ := info_parts byt8Info
  have HNE := Lib.hid (fun h0 => cut_same hr k hkl h0)
  have HDX := Lib.hid (fun h0 : decE ((encL a).take k) = 0 => (right_ok (enc_dec h0).1).time)
  have hax := ha.2
  rw [he, errV_zero] at HEA
  rw [hr] at HRA
  have he2 : encE b = 0 := by unfold encE; rw [hrb]; rfl
  rw [he2, errV_zero] at HEB
  have HSA := Lib.hid (fun w' => fsame_any a b ha.2 hb.2 w')
  have hse := enc_same hr hrb
  clear he2
  clear he hr hrb ha hb h hsm hu3
  generalize encL a = l1 at *
  generalize encL b = l2 at *
  generalize sameF a b = sm at *
  generalize hde : decE (l1.take k) = de at *
  have HDT := Lib.hid (HDC.out (l1.take k))
  rw [hde] at HDT
  clear HDC hde
  by_cases hz : de = 0
  · subst hz
    have hn0 := HNE.out rfl
    have HSD := Lib.hid (fun w' => fsame_any (decF (l1.take k)) a (by have := HDX.out rfl; unfold infR at this; omega) hax w')
    rw [hn0] at HSD
    clear HNE HDX hn0 hax
    generalize decF (l1.take k) = dm at *
    unfold fctV fctA at HEA HEB HRA HDT HSA HSD ⊢
    obtain ⟨a0, a1, a2, a3, a4, a5, a6, a7, a8, a9, a10, a11, a12, ax⟩ := a
    obtain ⟨b0, b1, b2, b3, b4, b5, b6, b7, b8, b9, b10, b11, b12, bx⟩ := b
    obtain ⟨d0, d1, d2, d3, d4, d5, d6, d7, d8, d9, d10, d11, d12, dx⟩ := dm
    simp only [errV_zero] at HEA HEB HRA HDT HSA HSD ⊢
    have B := Lib.hid (below_alloc (below_alloc1 w (.cells #[.int .i64 a0, .int .i64 a1, .int .i64 a2, .int .i64 a3, .int .i64 a4, .int .i64 a5, .int .i64 a6, .int .i64 a7, .int .i64 a8, .int .i64 a9, .int .i64 a10, .int .i64 a11, .int .i64 a12, .float .f64 ax] 33)) (.cells #[.int .i64 b0, .int .i64 b1, .int .i64 b2, .int .i64 b3, .int .i64 b4, .int .i64 b5, .int .i64 b6, .int .i64 b7, .int .i64 b8, .int .i64 b9, .int .i64 b10, .int .i64 b11, .int .i64 b12, .float .f64 bx] 33))
    have N := Lib.hid ((Blk.new w 33 #[.int .i64 a0, .int .i64 a1, .int .i64 a2, .int .i64 a3, .int .i64 a4, .int .i64 a5, .int .i64 a6, .int .i64 a7, .int .i64 a8, .int .i64 a9, .int .i64 a10, .int .i64 a11, .int .i64 a12, .float .f64 ax]).alloc (.cells #[.int .i64 b0, .int .i64 b1, .int .i64 b2, .int .i64 b3, .int .i64 b4, .int .i64 b5, .int .i64 b6, .int .i64 b7, .int .i64 b8, .int .i64 b9, .int .i64 b10, .int .i64 b11, .int .i64 b12, .float .f64 bx] 33))
    have O := Lib.hid (show Blk ((w.alloc (.cells #[.int .i64 a0, .int .i64 a1, .int .i64 a2, .int .i64 a3, .int .i64 a4, .int .i64 a5, .int .i64 a6, .int .i64 a7, .int .i64 a8, .int .i64 a9, .int .i64 a10, .int .i64 a11, .int .i64 a12, .float .f64 ax] 33)).alloc (.cells #[.int .i64 b0, .int .i64 b1, .int .i64 b2, .int .i64 b3, .int .i64 b4, .int .i64 b5, .int .i64 b6, .int .i64 b7, .int .i64 b8, .int .i64 b9, .int .i64 b10, .int .i64 b11, .int .i64 b12, .float .f64 bx] 33)) (w.heap.size + 1) 33 #[.int .i64 b0, .int .i64 b1, .int .i64 b2, .int .i64 b3, .int .i64 b4, .int .i64 b5, .int .i64 b6, .int .i64 b7, .int .i64 b8, .int .i64 b9, .int .i64 b10, .int .i64 b11, .int .i64 b12, .float .f64 bx] from by
      have := Blk.new (w.alloc (.cells #[.int .i64 a0, .int .i64 a1, .int .i64 a2, .int .i64 a3, .int .i64 a4, .int .i64 a5, .int .i64 a6, .int .i64 a7, .int .i64 a8, .int .i64 a9, .int .i64 a10, .int .i64 a11, .int .i64 a12, .float .f64 ax] 33)) 33 #[.int .i64 b0, .int .i64 b1, .int .i64 b2, .int .i64 b3, .int .i64 b4, .int .i64 b5, .int .i64 b6, .int .i64 b7, .int .i64 b8, .int .i64 b9, .int .i64 b10, .int .i64 b11, .int .i64 b12, .float .f64 bx]
      rwa [World.size_alloc] at this)
    have n0 := (N.out.cell 0).trans rfl
    have n1 := (N.out.cell 1).trans rfl
    have n2 := (N.out.cell 2).trans rfl
    have n3 := (N.out.cell 3).trans rfl
    have n4 := (N.out.cell 4).trans rfl
    have n5 := (N.out.cell 5).trans rfl
    have n6 := (N.out.cell 6).trans rfl
    have n7 := (N.out.cell 7).trans rfl
    have n8 := (N.out.cell 8).trans rfl
    have n9 := (N.out.cell 9).trans rfl
    have n10 := (N.out.cell 10).trans rfl
    have n11 := (N.out.cell 11).trans rfl
    have n12 := (N.out.cell 12).trans rfl
    have n13 := (N.out.cell 13).trans rfl
    have o0 := (O.out.cell 0).trans rfl
    have o1 := (O.out.cell 1).trans rfl
    have o2 := (O.out.cell 2).trans rfl
    have o3 := (O.out.cell 3).trans rfl
    have o4 := (O.out.cell 4).trans rfl
    have o5 := (O.out.cell 5).trans rfl
    have o6 := (O.out.cell 6).trans rfl
    have o7 := (O.out.cell 7).trans rfl
    have o8 := (O.out.cell 8).trans rfl
    have o9 := (O.out.cell 9).trans rfl
    have o10 := (O.out.cell 10).trans rfl
    have o11 := (O.out.cell 11).trans rfl
    have o12 := (O.out.cell 12).trans rfl
    have o13 := (O.out.cell 13).trans rfl
    go_enter Tryd.func4, Tryd.ntmps4
    go_wp2_with fail
    refine (HAL.out _ (HG.out _ B.out)).mono ?_
    rintro e w' ⟨rfl, hb⟩
    have B' := Lib.hid (B.out.trans (hb.mono B.out.size))
    have N' := Lib.hid (N.out.below hb N.out.lt)
    have O' := Lib.hid (O.out.below hb O.out.lt)
    clear hb B N O n0 n1 n2 n3 n4 n5 n6 n7 n8 n9 n10 n11 n12 n13 o0 o1 o2 o3 o4 o5 o6 o7 o8 o9 o10 o11 o12 o13
    have n0 := (N'.out.cell 0).trans rfl
    have n1 := (N'.out.cell 1).trans rfl
    have n2 := (N'.out.cell 2).trans rfl
    have n3 := (N'.out.cell 3).trans rfl
    have n4 := (N'.out.cell 4).trans rfl
    have n5 := (N'.out.cell 5).trans rfl
    have n6 := (N'.out.cell 6).trans rfl
    have n7 := (N'.out.cell 7).trans rfl
    have n8 := (N'.out.cell 8).trans rfl
    have n9 := (N'.out.cell 9).trans rfl
    have n10 := (N'.out.cell 10).trans rfl
    have n11 := (N'.out.cell 11).trans rfl
    have n12 := (N'.out.cell 12).trans rfl
    have n13 := (N'.out.cell 13).trans rfl
    have o0 := (O'.out.cell 0).trans rfl
    have o1 := (O'.out.cell 1).trans rfl
    have o2 := (O'.out.cell 2).trans rfl
    have o3 := (O'.out.cell 3).trans rfl
    have o4 := (O'.out.cell 4).trans rfl
    have o5 := (O'.out.cell 5).trans rfl
    have o6 := (O'.out.cell 6).trans rfl
    have o7 := (O'.out.cell 7).trans rfl
    have o8 := (O'.out.cell 8).trans rfl
    have o9 := (O'.out.cell 9).trans rfl
    have o10 := (O'.out.cell 10).trans rfl
    have o11 := (O'.out.cell 11).trans rfl
    have o12 := (O'.out.cell 12).trans rfl
    have o13 := (O'.out.cell 13).trans rfl
    have B := Lib.hid B'.out
    have N := Lib.hid N'.out
    have O := Lib.hid O'.out
    clear B' N' O'
    go_wp2_with fail
    refine (HEA.out _ (HG.out _ B.out)).mono ?_
    rintro e w' ⟨v, rfl, ho, hb⟩
    have hyt := owns_byt ho
    obtain ⟨p1, c1, rfl, _, _, _⟩ := id hyt
    have Y1' := Lib.hid hyt
    clear ho hyt
    have B' := Lib.hid (B.out.trans (hb.mono B.out.size))
    have N' := Lib.hid (N.out.below hb N.out.lt)
    have O' := Lib.hid (O.out.below hb O.out.lt)
    clear hb B N O n0 n1 n2 n3 n4 n5 n6 n7 n8 n9 n10 n11 n12 n13 o0 o1 o2 o3 o4 o5 o6 o7 o8 o9 o10 o11 o12 o13
    have n0 := (N'.out.cell 0).trans rfl
    have n1 := (N'.out.cell 1).trans rfl
    have n2 := (N'.out.cell 2).trans rfl
    have n3 := (N'.out.cell 3).trans rfl
    have n4 := (N'.out.cell 4).trans rfl
    have n5 := (N'.out.cell 5).trans rfl
    have n6 := (N'.out.cell 6).trans rfl
    have n7 := (N'.out.cell 7).trans rfl
    have n8 := (N'.out.cell 8).trans rfl
    have n9 := (N'.out.cell 9).trans rfl
    have n10 := (N'.out.cell 10).trans rfl
    have n11 := (N'.out.cell 11).trans rfl
    have n12 := (N'.out.cell 12).trans rfl
    have n13 := (N'.out.cell 13).trans rfl
    have o0 := (O'.out.cell 0).trans rfl
    have o1 := (O'.out.cell 1).trans rfl
    have o2 := (O'.out.cell 2).trans rfl
    have o3 := (O'.out.cell 3).trans rfl
    have o4 := (O'.out.cell 4).trans rfl
    have o5 := (O'.out.cell 5).trans rfl
    have o6 := (O'.out.cell 6).trans rfl
    have o7 := (O'.out.cell 7).trans rfl
    have o8 := (O'.out.cell 8).trans rfl
    have o9 := (O'.out.cell 9).trans rfl
    have o10 := (O'.out.cell 10).trans rfl
    have o11 := (O'.out.cell 11).trans rfl
    have o12 := (O'.out.cell 12).trans rfl
    have o13 := (O'.out.cell 13).trans rfl
    have B := Lib.hid B'.out
    have N := Lib.hid N'.out
    have O := Lib.hid O'.out
    clear B' N' O'
    have Y1 := Lib.hid Y1'.out
    clear Y1'
    go_wp2_with fail
    refine (HEB.out _ (HG.out _ B.out)).mono ?_
    rintro e w' ⟨v, rfl, ho, hb⟩
    have hyt := owns_byt ho
    obtain ⟨p2, c2, rfl, _, _, _⟩ := id hyt
    have Y1k := Lib.hid (Y1.out.keep (Below.keeps hb))
    clear Y1
    have Y1 := Lib.hid Y1k.out
    clear Y1k
    have Y2' := Lib.hid hyt
    clear ho hyt
    have B' := Lib.hid (B.out.trans (hb.mono B.out.size))
    have N' := Lib.hid (N.out.below hb N.out.lt)
    have O' := Lib.hid (O.out.below hb O.out.lt)
    clear hb B N O n0 n1 n2 n3 n4 n5 n6 n7 n8 n9 n10 n11 n12 n13 o0 o1 o2 o3 o4 o5 o6 o7 o8 o9 o10 o11 o12 o13
    have n0 := (N'.out.cell 0).trans rfl
    have n1 := (N'.out.cell 1).trans rfl
    have n2 := (N'.out.cell 2).trans rfl
    have n3 := (N'.out.cell 3).trans rfl
    have n4 := (N'.out.cell 4).trans rfl
    have n5 := (N'.out.cell 5).trans rfl
    have n6 := (N'.out.cell 6).trans rfl
    have n7 := (N'.out.cell 7).trans rfl
    have n8 := (N'.out.cell 8).trans rfl
    have n9 := (N'.out.cell 9).trans rfl
    have n10 := (N'.out.cell 10).trans rfl
    have n11 := (N'.out.cell 11).trans rfl
    have n12 := (N'.out.cell 12).trans rfl
    have n13 := (N'.out.cell 13).trans rfl
    have o0 := (O'.out.cell 0).trans rfl
    have o1 := (O'.out.cell 1).trans rfl
    have o2 := (O'.out.cell 2).trans rfl
    have o3 := (O'.out.cell 3).trans rfl
    have o4 := (O'.out.cell 4).trans rfl
    have o5 := (O'.out.cell 5).trans rfl
    have o6 := (O'.out.cell 6).trans rfl
    have o7 := (O'.out.cell 7).trans rfl
    have o8 := (O'.out.cell 8).trans rfl
    have o9 := (O'.out.cell 9).trans rfl
    have o10 := (O'.out.cell 10).trans rfl
    have o11 := (O'.out.cell 11).trans rfl
    have o12 := (O'.out.cell 12).trans rfl
    have o13 := (O'.out.cell 13).trans rfl
    have B := Lib.hid B'.out
    have N := Lib.hid N'.out
    have O := Lib.hid O'.out
    clear B' N' O'
    have Y2 := Lib.hid Y2'.out
    clear Y2'
    go_wp2_with fail
    refine wp_phi (fun w' => Below w.heap.size w w' ∧ Blk w' w.heap.size 33 #[.int .i64 a0, .int .i64 a1, .int .i64 a2, .int .i64 a3, .int .i64 a4, .int .i64 a5, .int .i64 a6, .int .i64 a7, .int .i64 a8, .int .i64 a9, .int .i64 a10, .int .i64 a11, .int .i64 a12, .float .f64 ax] ∧ Blk w' (w.heap.size + 1) 33 #[.int .i64 b0, .int .i64 b1, .int .i64 b2, .int .i64 b3, .int .i64 b4, .int .i64 b5, .int .i64 b6, .int .i64 b7, .int .i64 b8, .int .i64 b9, .int .i64 b10, .int .i64 b11, .int .i64 b12, .float .f64 bx] ∧ Byt w' (.slice p1 l1.length c1) l1 ∧ Byt w' (.slice p2 l2.length c2) l2) [(14, PVal (.bool sm))] [] (by kernel_rfl) (by kernel_rfl) ?_ ?_ ⟨B.out.drew, N.out, O.out, Y1.out, Y2.out⟩ ?_
    · rintro w1 w2 ⟨a1, a2, a3, a4, a5⟩ hb
      exact ⟨a1.trans (hb.mono a1.size), a2.below hb a2.lt, a3.below hb a3.lt, a4.keep (Below.keeps hb), a5.keep (Below.keeps hb)⟩
    · simp only [List.mem_cons, List.not_mem_nil, or_false, forall_eq]
      exact fun _ _ _ _ _ h => h
    repeat (first | (refine phi_skipK rfl (fun K hK => ?_); simp only [Act.put, List.setIfInBounds_toArray, List.set_cons_succ, List.set_cons_zero]; (try simp only [List.cons_append]); (try simp only [List.nil_append]); apply hK; clear hK K) | (refine phi_pureK rfl rfl (fun K hK => ?_); apply Exists.intro; constructor; (focus (rintro w' ⟨h0, hN, hO, hy1, hy2⟩; (have k0 := (hN.cell 0).trans rfl; have l0 := (hO.cell 0).trans rfl; have k1 := (hN.cell 1).trans rfl; have l1 := (hO.cell 1).trans rfl; have k2 := (hN.cell 2).trans rfl; have l2 := (hO.cell 2).trans rfl; have k3 := (hN.cell 3).trans rfl; have l3 := (hO.cell 3).trans rfl; have k4 := (hN.cell 4).trans rfl; have l4 := (hO.cell 4).trans rfl; have k5 := (hN.cell 5).trans rfl; have l5 := (hO.cell 5).trans rfl; have k6 := (hN.cell 6).trans rfl; have l6 := (hO.cell 6).trans rfl; have k7 := (hN.cell 7).trans rfl; have l7 := (hO.cell 7).trans rfl; have k8 := (hN.cell 8).trans rfl; have l8 := (hO.cell 8).trans rfl; have k9 := (hN.cell 9).trans rfl; have l9 := (hO.cell 9).trans rfl; have k10 := (hN.cell 10).trans rfl; have l10 := (hO.cell 10).trans rfl; have k11 := (hN.cell 11).trans rfl; have l11 := (hO.cell 11).trans rfl; have k12 := (hN.cell 12).trans rfl; have l12 := (hO.cell 12).trans rfl; have k13 := (hN.cell 13).trans rfl; have l13 := (hO.cell 13).trans rfl; have s1 := str_of hy1; have s2 := str_of hy2; clear h0 hN hO hy1 hy2); first | (go_simp; done) | (go_simp; (try go_bits); (try go_simp); rfl) | go_simp)); simp only [Act.put, List.setIfInBounds_toArray, List.set_cons_succ, List.set_cons_zero]; (try simp only [List.cons_append]); (try simp only [List.nil_append]); apply hK; clear hK K))
    refine phi_partK (PVal (.bool sm)) rfl rfl ⟨_, rfl⟩ ?_ (fun K hK v hv => ?_)
    · rintro wq ⟨h0, hN, hO, hy1, hy2⟩ _
      unfold gives
      go_simp
      refine (HSA.out wq).mono ?_
      rintro e w'' ⟨rfl, hb⟩
      exact ⟨_, rfl, rfl, trivial, hb⟩
    obtain rfl : v = _ := hv
    simp only [Act.put, List.setIfInBounds_toArray, List.set_cons_succ, List.set_cons_zero]; (try simp only [List.cons_append]); (try simp only [List.nil_append])
    apply hK
    clear hK K
    repeat (first | (refine phi_skipK rfl (fun K hK => ?_); simp only [Act.put, List.setIfInBounds_toArray, List.set_cons_succ, List.set_cons_zero]; (try simp only [List.cons_append]); (try simp only [List.nil_append]); apply hK; clear hK K) | (refine phi_pureK rfl rfl (fun K hK => ?_); apply Exists.intro; constructor; (focus (rintro w' ⟨h0, hN, hO, hy1, hy2⟩; (have k0 := (hN.cell 0).trans rfl; have l0 := (hO.cell 0).trans rfl; have k1 := (hN.cell 1).trans rfl; have l1 := (hO.cell 1).trans rfl; have k2 := (hN.cell 2).trans rfl; have l2 := (hO.cell 2).trans rfl; have k3 := (hN.cell 3).trans rfl; have l3 := (hO.cell 3).trans rfl; have k4 := (hN.cell 4).trans rfl; have l4 := (hO.cell 4).trans rfl; have k5 := (hN.cell 5).trans rfl; have l5 := (hO.cell 5).trans rfl; have k6 := (hN.cell 6).trans rfl; have l6 := (hO.cell 6).trans rfl; have k7 := (hN.cell 7).trans rfl; have l7 := (hO.cell 7).trans rfl; have k8 := (hN.cell 8).trans rfl; have l8 := (hO.cell 8).trans rfl; have k9 := (hN.cell 9).trans rfl; have l9 := (hO.cell 9).trans rfl; have k10 := (hN.cell 10).trans rfl; have l10 := (hO.cell 10).trans rfl; have k11 := (hN.cell 11).trans rfl; have l11 := (hO.cell 11).trans rfl; have k12 := (hN.cell 12).trans rfl; have l12 := (hO.cell 12).trans rfl; have k13 := (hN.cell 13).trans rfl; have l13 := (hO.cell 13).trans rfl; have s1 := str_of hy1; have s2 := str_of hy2; clear h0 hN hO hy1 hy2); first | (go_simp; done) | (go_simp; (try go_bits); (try go_simp); rfl) | go_simp)); simp only [Act.put, List.setIfInBounds_toArray, List.set_cons_succ, List.set_cons_zero]; (try simp only [List.cons_append]); (try simp only [List.nil_append]); apply hK; clear hK K))
    refine phi_done ?_
    rintro w' ⟨hb, hN, hO, hy1, _⟩ _
    have B' := Lib.hid hb
    have N' := Lib.hid hN
    have Y1' := Lib.hid hy1
    clear hb hN hO hy1 B N O Y1 Y2 n0 n1 n2 n3 n4 n5 n6 n7 n8 n9 n10 n11 n12 n13 o0 o1 o2 o3 o4 o5 o6 o7 o8 o9 o10 o11 o12 o13
    have n0 := (N'.out.cell 0).trans rfl
    have n1 := (N'.out.cell 1).trans rfl
    have n2 := (N'.out.cell 2).trans rfl
    have n3 := (N'.out.cell 3).trans rfl
    have n4 := (N'.out.cell 4).trans rfl
    have n5 := (N'.out.cell 5).trans rfl
    have n6 := (N'.out.cell 6).trans rfl
    have n7 := (N'.out.cell 7).trans rfl
    have n8 := (N'.out.cell 8).trans rfl
    have n9 := (N'.out.cell 9).trans rfl
    have n10 := (N'.out.cell 10).trans rfl
    have n11 := (N'.out.cell 11).trans rfl
    have n12 := (N'.out.cell 12).trans rfl
    have n13 := (N'.out.cell 13).trans rfl
    have B := Lib.hid B'.out
    have N := Lib.hid N'.out
    have Y1 := Lib.hid Y1'.out
    clear B' N' Y1'
    refine wpList_nil ?_
    obtain ⟨_, _, hq1, hcl, _, _⟩ := id Y1.out
    injection hq1 with hq1 hq2 hq3
    subst hq1 hq3
    have hsl := fun w => run_slice_to (P := Tryd.prog) Tryd.underlying39 hi' p1 l1.length c1 k (by omega) w
    have HT := Lib.hid (byt_take' Y1.out k (Nat.le_of_lt hkl))
    have hkw := HKW.out
    go_wp2_with fail
    refine (HDT.out _ _ (HG.out _ B.out) HT.out).mono ?_
    rintro e w' ⟨rfl, hb⟩
    have B' := Lib.hid (B.out.trans (hb.mono B.out.size))
    have N' := Lib.hid (N.out.below hb N.out.lt)
    clear hb B N n0 n1 n2 n3 n4 n5 n6 n7 n8 n9 n10 n11 n12 n13
    have n0 := (N'.out.cell 0).trans rfl
    have n1 := (N'.out.cell 1).trans rfl
    have n2 := (N'.out.cell 2).trans rfl
    have n3 := (N'.out.cell 3).trans rfl
    have n4 := (N'.out.cell 4).trans rfl
    have n5 := (N'.out.cell 5).trans rfl
    have n6 := (N'.out.cell 6).trans rfl
    have n7 := (N'.out.cell 7).trans rfl
    have n8 := (N'.out.cell 8).trans rfl
    have n9 := (N'.out.cell 9).trans rfl
    have n10 := (N'.out.cell 10).trans rfl
    have n11 := (N'.out.cell 11).trans rfl
    have n12 := (N'.out.cell 12).trans rfl
    have n13 := (N'.out.cell 13).trans rfl
    have B := Lib.hid B'.out
    have N := Lib.hid N'.out
    clear B' N'
    clear Y1 HT hsl hkw hcl
    have M := Lib.hid (Blk.new w' 33 #[.int .i64 0, .int .i64 0, .int .i64 0, .int .i64 0, .int .i64 0, .int .i64 0, .int .i64 0, .int .i64 0, .int .i64 0, .int .i64 0, .int .i64 0, .int .i64 0, .int .i64 0, .float .f64 0])
    have N' := Lib.hid (N.out.alloc (.cells #[.int .i64 0, .int .i64 0, .int .i64 0, .int .i64 0, .int .i64 0, .int .i64 0, .int .i64 0, .int .i64 0, .int .i64 0, .int .i64 0, .int .i64 0, .int .i64 0, .int .i64 0, .float .f64 0] 33))
    have B' := Lib.hid (below_alloc B.out (.cells #[.int .i64 0, .int .i64 0, .int .i64 0, .int .i64 0, .int .i64 0, .int .i64 0, .int .i64 0, .int .i64 0, .int .i64 0, .int .i64 0, .int .i64 0, .int .i64 0, .int .i64 0, .float .f64 0] 33))
    go_wp2_with (refine wpList_store (.tmp 11) (.tmp 58) 33 rfl rfl w'.heap.size 0 _ _ #[.int .i64 d0, .int .i64 d1, .int .i64 d2, .int .i64 d3, .int .i64 d4, .int .i64 d5, .int .i64 d6, .int .i64 d7, .int .i64 d8, .int .i64 d9, .int .i64 d10, .int .i64 d11, .int .i64 d12, .float .f64 dx] rfl rfl M.out (by kernel_rfl) (by simp [Value.oneCell']) (by simp) ?_)
    intro w7 hn7 ko7
    have h7 : Blk w7 w'.heap.size 33 #[.int .i64 d0, .int .i64 d1, .int .i64 d2, .int .i64 d3, .int .i64 d4, .int .i64 d5, .int .i64 d6, .int .i64 d7, .int .i64 d8, .int .i64 d9, .int .i64 d10, .int .i64 d11, .int .i64 d12, .float .f64 dx] := hn7
    have B7 := Lib.hid (B'.out.trans (ko7.below B.out.size))
    have N7 := Lib.hid (ko7.blk N'.out (Nat.ne_of_lt N.out.lt))
    have H7 := Lib.hid h7
    clear hn7 ko7 h7 M B' B N' N n0 n1 n2 n3 n4 n5 n6 n7 n8 n9 n10 n11 n12 n13
    generalize w'.heap.size = gc at *
    have n0 := (N7.out.cell 0).trans rfl
    have n1 := (N7.out.cell 1).trans rfl
    have n2 := (N7.out.cell 2).trans rfl
    have n3 := (N7.out.cell 3).trans rfl
    have n4 := (N7.out.cell 4).trans rfl
    have n5 := (N7.out.cell 5).trans rfl
    have n6 := (N7.out.cell 6).trans rfl
    have n7 := (N7.out.cell 7).trans rfl
    have n8 := (N7.out.cell 8).trans rfl
    have n9 := (N7.out.cell 9).trans rfl
    have n10 := (N7.out.cell 10).trans rfl
    have n11 := (N7.out.cell 11).trans rfl
    have n12 := (N7.out.cell 12).trans rfl
    have n13 := (N7.out.cell 13).trans rfl
    have c0 := (H7.out.cell 0).trans rfl
    have c1 := (H7.out.cell 1).trans rfl
    have c2 := (H7.out.cell 2).trans rfl
    have c3 := (H7.out.cell 3).trans rfl
    have c4 := (H7.out.cell 4).trans rfl
    have c5 := (H7.out.cell 5).trans rfl
    have c6 := (H7.out.cell 6).trans rfl
    have c7 := (H7.out.cell 7).trans rfl
    have c8 := (H7.out.cell 8).trans rfl
    have c9 := (H7.out.cell 9).trans rfl
    have c10 := (H7.out.cell 10).trans rfl
    have c11 := (H7.out.cell 11).trans rfl
    have c12 := (H7.out.cell 12).trans rfl
    have c13 := (H7.out.cell 13).trans rfl
    have B := Lib.hid B7.out
    have N := Lib.hid N7.out
    have C := Lib.hid H7.out
    clear B7 H7 N7
    go_wp2_with fail
    refine (HRA.out _ (HG.out _ B.out)).mono ?_
    rintro e w' ⟨rfl, hb⟩
    have B' := Lib.hid (B.out.trans (hb.mono B.out.size))
    have N' := Lib.hid (N.out.below hb N.out.lt)
    have C' := Lib.hid (C.out.below hb C.out.lt)
    clear hb B N C n0 n1 n2 n3 n4 n5 n6 n7 n8 n9 n10 n11 n12 n13 c0 c1 c2 c3 c4 c5 c6 c7 c8 c9 c10 c11 c12 c13
    have n0 := (N'.out.cell 0).trans rfl
    have n1 := (N'.out.cell 1).trans rfl
    have n2 := (N'.out.cell 2).trans rfl
    have n3 := (N'.out.cell 3).trans rfl
    have n4 := (N'.out.cell 4).trans rfl
    have n5 := (N'.out.cell 5).trans rfl
    have n6 := (N'.out.cell 6).trans rfl
    have n7 := (N'.out.cell 7).trans rfl
    have n8 := (N'.out.cell 8).trans rfl
    have n9 := (N'.out.cell 9).trans rfl
    have n10 := (N'.out.cell 10).trans rfl
    have n11 := (N'.out.cell 11).trans rfl
    have n12 := (N'.out.cell 12).trans rfl
    have n13 := (N'.out.cell 13).trans rfl
    have c0 := (C'.out.cell 0).trans rfl
    have c1 := (C'.out.cell 1).trans rfl
    have c2 := (C'.out.cell 2).trans rfl
    have c3 := (C'.out.cell 3).trans rfl
    have c4 := (C'.out.cell 4).trans rfl
    have c5 := (C'.out.cell 5).trans rfl
    have c6 := (C'.out.cell 6).trans rfl
    have c7 := (C'.out.cell 7).trans rfl
    have c8 := (C'.out.cell 8).trans rfl
    have c9 := (C'.out.cell 9).trans rfl
    have c10 := (C'.out.cell 10).trans rfl
    have c11 := (C'.out.cell 11).trans rfl
    have c12 := (C'.out.cell 12).trans rfl
    have c13 := (C'.out.cell 13).trans rfl
    have B := Lib.hid B'.out
    have N := Lib.hid N'.out
    have C := Lib.hid C'.out
    clear B' N' C'
    go_wp2_with fail
    refine (HSD.out _).mono ?_
    rintro e w' ⟨rfl, hb⟩
    have B' := Lib.hid (B.out.trans (hb.mono B.out.size))
    have N' := Lib.hid (N.out.below hb N.out.lt)
    have C' := Lib.hid (C.out.below hb C.out.lt)
    clear hb B N C n0 n1 n2 n3 n4 n5 n6 n7 n8 n9 n10 n11 n12 n13 c0 c1 c2 c3 c4 c5 c6 c7 c8 c9 c10 c11 c12 c13
    have n0 := (N'.out.cell 0).trans rfl
    have n1 := (N'.out.cell 1).trans rfl
    have n2 := (N'.out.cell 2).trans rfl
    have n3 := (N'.out.cell 3).trans rfl
    have n4 := (N'.out.cell 4).trans rfl
    have n5 := (N'.out.cell 5).trans rfl
    have n6 := (N'.out.cell 6).trans rfl
    have n7 := (N'.out.cell 7).trans rfl
    have n8 := (N'.out.cell 8).trans rfl
    have n9 := (N'.out.cell 9).trans rfl
    have n10 := (N'.out.cell 10).trans rfl
    have n11 := (N'.out.cell 11).trans rfl
    have n12 := (N'.out.cell 12).trans rfl
    have n13 := (N'.out.cell 13).trans rfl
    have c0 := (C'.out.cell 0).trans rfl
    have c1 := (C'.out.cell 1).trans rfl
    have c2 := (C'.out.cell 2).trans rfl
    have c3 := (C'.out.cell 3).trans rfl
    have c4 := (C'.out.cell 4).trans rfl
    have c5 := (C'.out.cell 5).trans rfl
    have c6 := (C'.out.cell 6).trans rfl
    have c7 := (C'.out.cell 7).trans rfl
    have c8 := (C'.out.cell 8).trans rfl
    have c9 := (C'.out.cell 9).trans rfl
    have c10 := (C'.out.cell 10).trans rfl
    have c11 := (C'.out.cell 11).trans rfl
    have c12 := (C'.out.cell 12).trans rfl
    have c13 := (C'.out.cell 13).trans rfl
    have B := Lib.hid B'.out
    have N := Lib.hid N'.out
    have C := Lib.hid C'.out
    clear B' N' C'
    go_wp2_with fail
    go_ret
    exact ⟨rfl, B.out⟩
  · obtain ⟨en, rfl⟩ : ∃ en, de = en + 1 := ⟨de - 1, by omega⟩
    clear HNE HDX hz hax
    generalize decF (l1.take k) = dm at *
    unfold fctV fctA at HEA HEB HRA HDT HSA ⊢
    obtain ⟨a0, a1, a2, a3, a4, a5, a6, a7, a8, a9, a10, a11, a12, ax⟩ := a
    obtain ⟨b0, b1, b2, b3, b4, b5, b6, b7, b8, b9, b10, b11, b12, bx⟩ := b
    obtain ⟨d0, d1, d2, d3, d4, d5, d6, d7, d8, d9, d10, d11, d12, dx⟩ := dm
    simp only [errV_suc] at HEA HEB HRA HDT HSA ⊢
    have B := Lib.hid (below_alloc (below_alloc1 w (.cells #[.int .i64 a0, .int .i64 a1, .int .i64 a2, .int .i64 a3, .int .i64 a4, .int .i64 a5, .int .i64 a6, .int .i64 a7, .int .i64 a8, .int .i64 a9, .int .i64 a10, .int .i64 a11, .int .i64 a12, .float .f64 ax] 33)) (.cells #[.int .i64 b0, .int .i64 b1, .int .i64 b2, .int .i64 b3, .int .i64 b4, .int .i64 b5, .int .i64 b6, .int .i64 b7, .int .i64 b8, .int .i64 b9, .int .i64 b10, .int .i64 b11, .int .i64 b12, .float .f64 bx] 33))
    have N := Lib.hid ((Blk.new w 33 #[.int .i64 a0, .int .i64 a1, .int .i64 a2, .int .i64 a3, .int .i64 a4, .int .i64 a5, .int .i64 a6, .int .i64 a7, .int .i64 a8, .int .i64 a9, .int .i64 a10, .int .i64 a11, .int .i64 a12, .float .f64 ax]).alloc (.cells #[.int .i64 b0, .int .i64 b1, .int .i64 b2, .int .i64 b3, .int .i64 b4, .int .i64 b5, .int .i64 b6, .int .i64 b7, .int .i64 b8, .int .i64 b9, .int .i64 b10, .int .i64 b11, .int .i64 b12, .float .f64 bx] 33))
    have O := Lib.hid (show Blk ((w.alloc (.cells #[.int .i64 a0, .int .i64 a1, .int .i64 a2, .int .i64 a3, .int .i64 a4, .int .i64 a5, .int .i64 a6, .int .i64 a7, .int .i64 a8, .int .i64 a9, .int .i64 a10, .int .i64 a11, .int .i64 a12, .float .f64 ax] 33)).alloc (.cells #[.int .i64 b0, .int .i64 b1, .int .i64 b2, .int .i64 b3, .int .i64 b4, .int .i64 b5, .int .i64 b6, .int .i64 b7, .int .i64 b8, .int .i64 b9, .int .i64 b10, .int .i64 b11, .int .i64 b12, .float .f64 bx] 33)) (w.heap.size + 1) 33 #[.int .i64 b0, .int .i64 b1, .int .i64 b2, .int .i64 b3, .int .i64 b4, .int .i64 b5, .int .i64 b6, .int .i64 b7, .int .i64 b8, .int .i64 b9, .int .i64 b10, .int .i64 b11, .int .i64 b12, .float .f64 bx] from by
      have := Blk.new (w.alloc (.cells #[.int .i64 a0, .int .i64 a1, .int .i64 a2, .int .i64 a3, .int .i64 a4, .int .i64 a5, .int .i64 a6, .int .i64 a7, .int .i64 a8, .int .i64 a9, .int .i64 a10, .int .i64 a11, .int .i64 a12, .float .f64 ax] 33)) 33 #[.int .i64 b0, .int .i64 b1, .int .i64 b2, .int .i64 b3, .int .i64 b4, .int .i64 b5, .int .i64 b6, .int .i64 b7, .int .i64 b8, .int .i64 b9, .int .i64 b10, .int .i64 b11, .int .i64 b12, .float .f64 bx]
      rwa [World.size_alloc] at this)
    have n0 := (N.out.cell 0).trans rfl
    have n1 := (N.out.cell 1).trans rfl
    have n2 := (N.out.cell 2).trans rfl
    have n3 := (N.out.cell 3).trans rfl
    have n4 := (N.out.cell 4).trans rfl
    have n5 := (N.out.cell 5).trans rfl
    have n6 := (N.out.cell 6).trans rfl
    have n7 := (N.out.cell 7).trans rfl
    have n8 := (N.out.cell 8).trans rfl
    have n9 := (N.out.cell 9).trans rfl
    have n10 := (N.out.cell 10).trans rfl
    have n11 := (N.out.cell 11).trans rfl
    have n12 := (N.out.cell 12).trans rfl
    have n13 := (N.out.cell 13).trans rfl
    have o0 := (O.out.cell 0).trans rfl
    have o1 := (O.out.cell 1).trans rfl
    have o2 := (O.out.cell 2).trans rfl
    have o3 := (O.out.cell 3).trans rfl
    have o4 := (O.out.cell 4).trans rfl
    have o5 := (O.out.cell 5).trans rfl
    have o6 := (O.out.cell 6).trans rfl
    have o7 := (O.out.cell 7).trans rfl
    have o8 := (O.out.cell 8).trans rfl
    have o9 := (O.out.cell 9).trans rfl
    have o10 := (O.out.cell 10).trans rfl
    have o11 := (O.out.cell 11).trans rfl
    have o12 := (O.out.cell 12).trans rfl
    have o13 := (O.out.cell 13).trans rfl
    go_enter Tryd.func4, Tryd.ntmps4
    go_wp2_with fail
    refine (HAL.out _ (HG.out _ B.out)).mono ?_
    rintro e w' ⟨rfl, hb⟩
    have B' := Lib.hid (B.out.trans (hb.mono B.out.size))
    have N' := Lib.hid (N.out.below hb N.out.lt)
    have O' := Lib.hid (O.out.below hb O.out.lt)
    clear hb B N O n0 n1 n2 n3 n4 n5 n6 n7 n8 n9 n10 n11 n12 n13 o0 o1 o2 o3 o4 o5 o6 o7 o8 o9 o10 o11 o12 o13
    have n0 := (N'.out.cell 0).trans rfl
    have n1 := (N'.out.cell 1).trans rfl
    have n2 := (N'.out.cell 2).trans rfl
    have n3 := (N'.out.cell 3).trans rfl
    have n4 := (N'.out.cell 4).trans rfl
    have n5 := (N'.out.cell 5).trans rfl
    have n6 := (N'.out.cell 6).trans rfl
    have n7 := (N'.out.cell 7).trans rfl
    have n8 := (N'.out.cell 8).trans rfl
    have n9 := (N'.out.cell 9).trans rfl
    have n10 := (N'.out.cell 10).trans rfl
    have n11 := (N'.out.cell 11).trans rfl
    have n12 := (N'.out.cell 12).trans rfl
    have n13 := (N'.out.cell 13).trans rfl
    have o0 := (O'.out.cell 0).trans rfl
    have o1 := (O'.out.cell 1).trans rfl
    have o2 := (O'.out.cell 2).trans rfl
    have o3 := (O'.out.cell 3).trans rfl
    have o4 := (O'.out.cell 4).trans rfl
    have o5 := (O'.out.cell 5).trans rfl
    have o6 := (O'.out.cell 6).trans rfl
    have o7 := (O'.out.cell 7).trans rfl
    have o8 := (O'.out.cell 8).trans rfl
    have o9 := (O'.out.cell 9).trans rfl
    have o10 := (O'.out.cell 10).trans rfl
    have o11 := (O'.out.cell 11).trans rfl
    have o12 := (O'.out.cell 12).trans rfl
    have o13 := (O'.out.cell 13).trans rfl
    have B := Lib.hid B'.out
    have N := Lib.hid N'.out
    have O := Lib.hid O'.out
    clear B' N' O'
    go_wp2_with fail
    refine (HEA.out _ (HG.out _ B.out)).mono ?_
    rintro e w' ⟨v, rfl, ho, hb⟩
    have hyt := owns_byt ho
    obtain ⟨p1, c1, rfl, _, _, _⟩ := id hyt
    have Y1' := Lib.hid hyt
    clear ho hyt
    have B' := Lib.hid (B.out.trans (hb.mono B.out.size))
    have N' := Lib.hid (N.out.below hb N.out.lt)
    have O' := Lib.hid (O.out.below hb O.out.lt)
    clear hb B N O n0 n1 n2 n3 n4 n5 n6 n7 n8 n9 n10 n11 n12 n13 o0 o1 o2 o3 o4 o5 o6 o7 o8 o9 o10 o11 o12 o13
    have n0 := (N'.out.cell 0).trans rfl
    have n1 := (N'.out.cell 1).trans rfl
    have n2 := (N'.out.cell 2).trans rfl
    have n3 := (N'.out.cell 3).trans rfl
    have n4 := (N'.out.cell 4).trans rfl
    have n5 := (N'.out.cell 5).trans rfl
    have n6 := (N'.out.cell 6).trans rfl
    have n7 := (N'.out.cell 7).trans rfl
    have n8 := (N'.out.cell 8).trans rfl
    have n9 := (N'.out.cell 9).trans rfl
    have n10 := (N'.out.cell 10).trans rfl
    have n11 := (N'.out.cell 11).trans rfl
    have n12 := (N'.out.cell 12).trans rfl
    have n13 := (N'.out.cell 13).trans rfl
    have o0 := (O'.out.cell 0).trans rfl
    have o1 := (O'.out.cell 1).trans rfl
    have o2 := (O'.out.cell 2).trans rfl
    have o3 := (O'.out.cell 3).trans rfl
    have o4 := (O'.out.cell 4).trans rfl
    have o5 := (O'.out.cell 5).trans rfl
    have o6 := (O'.out.cell 6).trans rfl
    have o7 := (O'.out.cell 7).trans rfl
    have o8 := (O'.out.cell 8).trans rfl
    have o9 := (O'.out.cell 9).trans rfl
    have o10 := (O'.out.cell 10).trans rfl
    have o11 := (O'.out.cell 11).trans rfl
    have o12 := (O'.out.cell 12).trans rfl
    have o13 := (O'.out.cell 13).trans rfl
    have B := Lib.hid B'.out
    have N := Lib.hid N'.out
    have O := Lib.hid O'.out
    clear B' N' O'
    have Y1 := Lib.hid Y1'.out
    clear Y1'
    go_wp2_with fail
    refine (HEB.out _ (HG.out _ B.out)).mono ?_
    rintro e w' ⟨v, rfl, ho, hb⟩
    have hyt := owns_byt ho
    obtain ⟨p2, c2, rfl, _, _, _⟩ := id hyt
    have Y1k := Lib.hid (Y1.out.keep (Below.keeps hb))
    clear Y1
    have Y1 := Lib.hid Y1k.out
    clear Y1k
    have Y2' := Lib.hid hyt
    clear ho hyt
    have B' := Lib.hid (B.out.trans (hb.mono B.out.size))
    have N' := Lib.hid (N.out.below hb N.out.lt)
    have O' := Lib.hid (O.out.below hb O.out.lt)
    clear hb B N O n0 n1 n2 n3 n4 n5 n6 n7 n8 n9 n10 n11 n12 n13 o0 o1 o2 o3 o4 o5 o6 o7 o8 o9 o10 o11 o12 o13
    have n0 := (N'.out.cell 0).trans rfl
    have n1 := (N'.out.cell 1).trans rfl
    have n2 := (N'.out.cell 2).trans rfl
    have n3 := (N'.out.cell 3).trans rfl
    have n4 := (N'.out.cell 4).trans rfl
    have n5 := (N'.out.cell 5).trans rfl
    have n6 := (N'.out.cell 6).trans rfl
    have n7 := (N'.out.cell 7).trans rfl
    have n8 := (N'.out.cell 8).trans rfl
    have n9 := (N'.out.cell 9).trans rfl
    have n10 := (N'.out.cell 10).trans rfl
    have n11 := (N'.out.cell 11).trans rfl
    have n12 := (N'.out.cell 12).trans rfl
    have n13 := (N'.out.cell 13).trans rfl
    have o0 := (O'.out.cell 0).trans rfl
    have o1 := (O'.out.cell 1).trans rfl
    have o2 := (O'.out.cell 2).trans rfl
    have o3 := (O'.out.cell 3).trans rfl
    have o4 := (O'.out.cell 4).trans rfl
    have o5 := (O'.out.cell 5).trans rfl
    have o6 := (O'.out.cell 6).trans rfl
    have o7 := (O'.out.cell 7).trans rfl
    have o8 := (O'.out.cell 8).trans rfl
    have o9 := (O'.out.cell 9).trans rfl
    have o10 := (O'.out.cell 10).trans rfl
    have o11 := (O'.out.cell 11).trans rfl
    have o12 := (O'.out.cell 12).trans rfl
    have o13 := (O'.out.cell 13).trans rfl
    have B := Lib.hid B'.out
    have N := Lib.hid N'.out
    have O := Lib.hid O'.out
    clear B' N' O'
    have Y2 := Lib.hid Y2'.out
    clear Y2'
    go_wp2_with fail
    refine wp_phi (fun w' => Below w.heap.size w w' ∧ Blk w' w.heap.size 33 #[.int .i64 a0, .int .i64 a1, .int .i64 a2, .int .i64 a3, .int .i64 a4, .int .i64 a5, .int .i64 a6, .int .i64 a7, .int .i64 a8, .int .i64 a9, .int .i64 a10, .int .i64 a11, .int .i64 a12, .float .f64 ax] ∧ Blk w' (w.heap.size + 1) 33 #[.int .i64 b0, .int .i64 b1, .int .i64 b2, .int .i64 b3, .int .i64 b4, .int .i64 b5, .int .i64 b6, .int .i64 b7, .int .i64 b8, .int .i64 b9, .int .i64 b10, .int .i64 b11, .int .i64 b12, .float .f64 bx] ∧ Byt w' (.slice p1 l1.length c1) l1 ∧ Byt w' (.slice p2 l2.length c2) l2) [(14, PVal (.bool sm))] [] (by kernel_rfl) (by kernel_rfl) ?_ ?_ ⟨B.out.drew, N.out, O.out, Y1.out, Y2.out⟩ ?_
    · rintro w1 w2 ⟨a1, a2, a3, a4, a5⟩ hb
      exact ⟨a1.trans (hb.mono a1.size), a2.below hb a2.lt, a3.below hb a3.lt, a4.keep (Below.keeps hb), a5.keep (Below.keeps hb)⟩
    · simp only [List.mem_cons, List.not_mem_nil, or_false, forall_eq]
      exact fun _ _ _ _ _ h => h
    repeat (first | (refine phi_skipK rfl (fun K hK => ?_); simp only [Act.put, List.setIfInBounds_toArray, List.set_cons_succ, List.set_cons_zero]; (try simp only [List.cons_append]); (try simp only [List.nil_append]); apply hK; clear hK K) | (refine phi_pureK rfl rfl (fun K hK => ?_); apply Exists.intro; constructor; (focus (rintro w' ⟨h0, hN, hO, hy1, hy2⟩; (have k0 := (hN.cell 0).trans rfl; have l0 := (hO.cell 0).trans rfl; have k1 := (hN.cell 1).trans rfl; have l1 := (hO.cell 1).trans rfl; have k2 := (hN.cell 2).trans rfl; have l2 := (hO.cell 2).trans rfl; have k3 := (hN.cell 3).trans rfl; have l3 := (hO.cell 3).trans rfl; have k4 := (hN.cell 4).trans rfl; have l4 := (hO.cell 4).trans rfl; have k5 := (hN.cell 5).trans rfl; have l5 := (hO.cell 5).trans rfl; have k6 := (hN.cell 6).trans rfl; have l6 := (hO.cell 6).trans rfl; have k7 := (hN.cell 7).trans rfl; have l7 := (hO.cell 7).trans rfl; have k8 := (hN.cell 8).trans rfl; have l8 := (hO.cell 8).trans rfl; have k9 := (hN.cell 9).trans rfl; have l9 := (hO.cell 9).trans rfl; have k10 := (hN.cell 10).trans rfl; have l10 := (hO.cell 10).trans rfl; have k11 := (hN.cell 11).trans rfl; have l11 := (hO.cell 11).trans rfl; have k12 := (hN.cell 12).trans rfl; have l12 := (hO.cell 12).trans rfl; have k13 := (hN.cell 13).trans rfl; have l13 := (hO.cell 13).trans rfl; have s1 := str_of hy1; have s2 := str_of hy2; clear h0 hN hO hy1 hy2); first | (go_simp; done) | (go_simp; (try go_bits); (try go_simp); rfl) | go_simp)); simp only [Act.put, List.setIfInBounds_toArray, List.set_cons_succ, List.set_cons_zero]; (try simp only [List.cons_append]); (try simp only [List.nil_append]); apply hK; clear hK K))
    refine phi_partK (PVal (.bool sm)) rfl rfl ⟨_, rfl⟩ ?_ (fun K hK v hv => ?_)
    · rintro wq ⟨h0, hN, hO, hy1, hy2⟩ _
      unfold gives
      go_simp
      refine (HSA.out wq).mono ?_
      rintro e w'' ⟨rfl, hb⟩
      exact ⟨_, rfl, rfl, trivial, hb⟩
    obtain rfl : v = _ := hv
    simp only [Act.put, List.setIfInBounds_toArray, List.set_cons_succ, List.set_cons_zero]; (try simp only [List.cons_append]); (try simp only [List.nil_append])
    apply hK
    clear hK K
    repeat (first | (refine phi_skipK rfl (fun K hK => ?_); simp only [Act.put, List.setIfInBounds_toArray, List.set_cons_succ, List.set_cons_zero]; (try simp only [List.cons_append]); (try simp only [List.nil_append]); apply hK; clear hK K) | (refine phi_pureK rfl rfl (fun K hK => ?_); apply Exists.intro; constructor; (focus (rintro w' ⟨h0, hN, hO, hy1, hy2⟩; (have k0 := (hN.cell 0).trans rfl; have l0 := (hO.cell 0).trans rfl; have k1 := (hN.cell 1).trans rfl; have l1 := (hO.cell 1).trans rfl; have k2 := (hN.cell 2).trans rfl; have l2 := (hO.cell 2).trans rfl; have k3 := (hN.cell 3).trans rfl; have l3 := (hO.cell 3).trans rfl; have k4 := (hN.cell 4).trans rfl; have l4 := (hO.cell 4).trans rfl; have k5 := (hN.cell 5).trans rfl; have l5 := (hO.cell 5).trans rfl; have k6 := (hN.cell 6).trans rfl; have l6 := (hO.cell 6).trans rfl; have k7 := (hN.cell 7).trans rfl; have l7 := (hO.cell 7).trans rfl; have k8 := (hN.cell 8).trans rfl; have l8 := (hO.cell 8).trans rfl; have k9 := (hN.cell 9).trans rfl; have l9 := (hO.cell 9).trans rfl; have k10 := (hN.cell 10).trans rfl; have l10 := (hO.cell 10).trans rfl; have k11 := (hN.cell 11).trans rfl; have l11 := (hO.cell 11).trans rfl; have k12 := (hN.cell 12).trans rfl; have l12 := (hO.cell 12).trans rfl; have k13 := (hN.cell 13).trans rfl; have l13 := (hO.cell 13).trans rfl; have s1 := str_of hy1; have s2 := str_of hy2; clear h0 hN hO hy1 hy2); first | (go_simp; done) | (go_simp; (try go_bits); (try go_simp); rfl) | go_simp)); simp only [Act.put, List.setIfInBounds_toArray, List.set_cons_succ, List.set_cons_zero]; (try simp only [List.cons_append]); (try simp only [List.nil_append]); apply hK; clear hK K))
    refine phi_done ?_
    rintro w' ⟨hb, hN, hO, hy1, _⟩ _
    have B' := Lib.hid hb
    have N' := Lib.hid hN
    have Y1' := Lib.hid hy1
    clear hb hN hO hy1 B N O Y1 Y2 n0 n1 n2 n3 n4 n5 n6 n7 n8 n9 n10 n11 n12 n13 o0 o1 o2 o3 o4 o5 o6 o7 o8 o9 o10 o11 o12 o13
    have n0 := (N'.out.cell 0).trans rfl
    have n1 := (N'.out.cell 1).trans rfl
    have n2 := (N'.out.cell 2).trans rfl
    have n3 := (N'.out.cell 3).trans rfl
    have n4 := (N'.out.cell 4).trans rfl
    have n5 := (N'.out.cell 5).trans rfl
    have n6 := (N'.out.cell 6).trans rfl
    have n7 := (N'.out.cell 7).trans rfl
    have n8 := (N'.out.cell 8).trans rfl
    have n9 := (N'.out.cell 9).trans rfl
    have n10 := (N'.out.cell 10).trans rfl
    have n11 := (N'.out.cell 11).trans rfl
    have n12 := (N'.out.cell 12).trans rfl
    have n13 := (N'.out.cell 13).trans rfl
    have B := Lib.hid B'.out
    have N := Lib.hid N'.out
    have Y1 := Lib.hid Y1'.out
    clear B' N' Y1'
    refine wpList_nil ?_
    obtain ⟨_, _, hq1, hcl, _, _⟩ := id Y1.out
    injection hq1 with hq1 hq2 hq3
    subst hq1 hq3
    have hsl := fun w => run_slice_to (P := Tryd.prog) Tryd.underlying39 hi' p1 l1.length c1 k (by omega) w
    have HT := Lib.hid (byt_take' Y1.out k (Nat.le_of_lt hkl))
    have hkw := HKW.out
    go_wp2_with fail
    refine (HDT.out _ _ (HG.out _ B.out) HT.out).mono ?_
    rintro e w' ⟨rfl, hb⟩
    have B' := Lib.hid (B.out.trans (hb.mono B.out.size))
    have N' := Lib.hid (N.out.below hb N.out.lt)
    clear hb B N n0 n1 n2 n3 n4 n5 n6 n7 n8 n9 n10 n11 n12 n13
    have n0 := (N'.out.cell 0).trans rfl
    have n1 := (N'.out.cell 1).trans rfl
    have n2 := (N'.out.cell 2).trans rfl
    have n3 := (N'.out.cell 3).trans rfl
    have n4 := (N'.out.cell 4).trans rfl
    have n5 := (N'.out.cell 5).trans rfl
    have n6 := (N'.out.cell 6).trans rfl
    have n7 := (N'.out.cell 7).trans rfl
    have n8 := (N'.out.cell 8).trans rfl
    have n9 := (N'.out.cell 9).trans rfl
    have n10 := (N'.out.cell 10).trans rfl
    have n11 := (N'.out.cell 11).trans rfl
    have n12 := (N'.out.cell 12).trans rfl
    have n13 := (N'.out.cell 13).trans rfl
    have B := Lib.hid B'.out
    have N := Lib.hid N'.out
    clear B' N'
    clear Y1 HT hsl hkw hcl
    have M := Lib.hid (Blk.new w' 33 #[.int .i64 0, .int .i64 0, .int .i64 0, .int .i64 0, .int .i64 0, .int .i64 0, .int .i64 0, .int .i64 0, .int .i64 0, .int .i64 0, .int .i64 0, .int .i64 0, .int .i64 0, .float .f64 0])
    have N' := Lib.hid (N.out.alloc (.cells #[.int .i64 0, .int .i64 0, .int .i64 0, .int .i64 0, .int .i64 0, .int .i64 0, .int .i64 0, .int .i64 0, .int .i64 0, .int .i64 0, .int .i64 0, .int .i64 0, .int .i64 0, .float .f64 0] 33))
    have B' := Lib.hid (below_alloc B.out (.cells #[.int .i64 0, .int .i64 0, .int .i64 0, .int .i64 0, .int .i64 0, .int .i64 0, .int .i64 0, .int .i64 0, .int .i64 0, .int .i64 0, .int .i64 0, .int .i64 0, .int .i64 0, .float .f64 0] 33))
    go_wp2_with (refine wpList_store (.tmp 11) (.tmp 58) 33 rfl rfl w'.heap.size 0 _ _ #[.int .i64 d0, .int .i64 d1, .int .i64 d2, .int .i64 d3, .int .i64 d4, .int .i64 d5, .int .i64 d6, .int .i64 d7, .int .i64 d8, .int .i64 d9, .int .i64 d10, .int .i64 d11, .int .i64 d12, .float .f64 dx] rfl rfl M.out (by kernel_rfl) (by simp [Value.oneCell']) (by simp) ?_)
    intro w7 hn7 ko7
    have h7 : Blk w7 w'.heap.size 33 #[.int .i64 d0, .int .i64 d1, .int .i64 d2, .int .i64 d3, .int .i64 d4, .int .i64 d5, .int .i64 d6, .int .i64 d7, .int .i64 d8, .int .i64 d9, .int .i64 d10, .int .i64 d11, .int .i64 d12, .float .f64 dx] := hn7
    have B7 := Lib.hid (B'.out.trans (ko7.below B.out.size))
    have N7 := Lib.hid (ko7.blk N'.out (Nat.ne_of_lt N.out.lt))
    have H7 := Lib.hid h7
    clear hn7 ko7 h7 M B' B N' N n0 n1 n2 n3 n4 n5 n6 n7 n8 n9 n10 n11 n12 n13
    generalize w'.heap.size = gc at *
    have n0 := (N7.out.cell 0).trans rfl
    have n1 := (N7.out.cell 1).trans rfl
    have n2 := (N7.out.cell 2).trans rfl
    have n3 := (N7.out.cell 3).trans rfl
    have n4 := (N7.out.cell 4).trans rfl
    have n5 := (N7.out.cell 5).trans rfl
    have n6 := (N7.out.cell 6).trans rfl
    have n7 := (N7.out.cell 7).trans rfl
    have n8 := (N7.out.cell 8).trans rfl
    have n9 := (N7.out.cell 9).trans rfl
    have n10 := (N7.out.cell 10).trans rfl
    have n11 := (N7.out.cell 11).trans rfl
    have n12 := (N7.out.cell 12).trans rfl
    have n13 := (N7.out.cell 13).trans rfl
    have c0 := (H7.out.cell 0).trans rfl
    have c1 := (H7.out.cell 1).trans rfl
    have c2 := (H7.out.cell 2).trans rfl
    have c3 := (H7.out.cell 3).trans rfl
    have c4 := (H7.out.cell 4).trans rfl
    have c5 := (H7.out.cell 5).trans rfl
    have c6 := (H7.out.cell 6).trans rfl
    have c7 := (H7.out.cell 7).trans rfl
    have c8 := (H7.out.cell 8).trans rfl
    have c9 := (H7.out.cell 9).trans rfl
    have c10 := (H7.out.cell 10).trans rfl
    have c11 := (H7.out.cell 11).trans rfl
    have c12 := (H7.out.cell 12).trans rfl
    have c13 := (H7.out.cell 13).trans rfl
    have B := Lib.hid B7.out
    have N := Lib.hid N7.out
    have C := Lib.hid H7.out
    clear B7 H7 N7
    go_wp2_with fail
    refine (HRA.out _ (HG.out _ B.out)).mono ?_
    rintro e w' ⟨rfl, hb⟩
    have B' := Lib.hid (B.out.trans (hb.mono B.out.size))
    have N' := Lib.hid (N.out.below hb N.out.lt)
    have C' := Lib.hid (C.out.below hb C.out.lt)
    clear hb B N C n0 n1 n2 n3 n4 n5 n6 n7 n8 n9 n10 n11 n12 n13 c0 c1 c2 c3 c4 c5 c6 c7 c8 c9 c10 c11 c12 c13
    have n0 := (N'.out.cell 0).trans rfl
    have n1 := (N'.out.cell 1).trans rfl
    have n2 := (N'.out.cell 2).trans rfl
    have n3 := (N'.out.cell 3).trans rfl
    have n4 := (N'.out.cell 4).trans rfl
    have n5 := (N'.out.cell 5).trans rfl
    have n6 := (N'.out.cell 6).trans rfl
    have n7 := (N'.out.cell 7).trans rfl
    have n8 := (N'.out.cell 8).trans rfl
    have n9 := (N'.out.cell 9).trans rfl
    have n10 := (N'.out.cell 10).trans rfl
    have n11 := (N'.out.cell 11).trans rfl
    have n12 := (N'.out.cell 12).trans rfl
    have n13 := (N'.out.cell 13).trans rfl
    have c0 := (C'.out.cell 0).trans rfl
    have c1 := (C'.out.cell 1).trans rfl
    have c2 := (C'.out.cell 2).trans rfl
    have c3 := (C'.out.cell 3).trans rfl
    have c4 := (C'.out.cell 4).trans rfl
    have c5 := (C'.out.cell 5).trans rfl
    have c6 := (C'.out.cell 6).trans rfl
    have c7 := (C'.out.cell 7).trans rfl
    have c8 := (C'.out.cell 8).trans rfl
    have c9 := (C'.out.cell 9).trans rfl
    have c10 := (C'.out.cell 10).trans rfl
    have c11 := (C'.out.cell 11).trans rfl
    have c12 := (C'.out.cell 12).trans rfl
    have c13 := (C'.out.cell 13).trans rfl
    have B := Lib.hid B'.out
    have N := Lib.hid N'.out
    have C := Lib.hid C'.out
    clear B' N' C'
    go_wp2_with fail
    go_ret
    exact ⟨rfl, B.out⟩
theorem funlike_law (a b : Fct) (x : Int) (ha : a.wf) (hb : b.wf) (w : World) (E : Nat → Addr) (h : IdsG w E) :
    Calls Tryd.prog 4 #[fctV a, fctV b, .int .i64 x] w fun e w' => e = .returned (.bool true) ∧ Below w.heap.size w w' := by
  cases hr : rightF a
  · exact funlike_bad a b x ha hb hr w E h
  · cases hrb : rightF b
    · exact funlike_one a b x ha hb hr hrb w E h
    · exact funlike_two a b x ha hb hr hrb w E h
end Go.Proofs.YtjklcbdlfmmllaaDoor
