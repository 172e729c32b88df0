/-
  LawBytesF: the walk of FactsBytes.
-/
import Derived.Test.YtjklcbdlfmmllaaGreatDoorFactA
import Derived.Test.YtjklcbdlfmmllaaGreatDoorFactD
import Derived.Test.YtjklcbdlfmmllaaGreatDoorFactB3
import Derived.Test.YtjklcbdlfmmllaaGreatDoorFactR1
import Derived.Test.YtjklcbdlfmmllaaGreatDoorFactR2
import Derived.Test.YtjklcbdlfmmllaaGreatDoorFactR4
namespace Go.Proofs.YtjklcbdlfmmllaaGreatDoor
open Go.RowKit Go.Extern.Stop Go.Stop Go.Extern Ieee
attribute [local go_sem] bs_toList
attribute [local go_sem] flt_def fgt_def feq_def fne_def
attribute [local go_sem] run_store_flt

theorem joinL_small : ∀ fs : List (Int × List UInt8), (∀ f ∈ fs, f.2.length ≤ 8) → (joinL fs).length ≤ 11 * fs.length
  | [], _ => by simp [joinL]
  | f :: fs, h => by
    have h1 := h f (List.mem_cons_self ..)
    have h2 := joinL_small fs (fun g hg => h g (List.mem_cons_of_mem _ hg))
    have e : joinL (f :: fs) = fieldB f ++ joinL fs := by unfold joinL; rw [List.flatMap_cons]
    rw [e, List.length_append, List.length_cons]
    have h3 : (fieldB f).length = f.2.length + 3 := by unfold fieldB; simp
    omega
theorem tagRow_small : ∀ (l : List Int) (i : Nat), numsOk l → ∀ f ∈ tagRow i l, f.2.length ≤ 8
  | [], _, _, f, hf => by simp [tagRow] at hf
  | x :: l, i, h, f, hf => by
    have hx := h x (List.mem_cons_self ..)
    have hr : numsOk l := fun y hy => h y (List.mem_cons_of_mem _ hy)
    simp only [tagRow, List.mem_append] at hf
    rcases hf with hf | hf
    · split at hf
      · simp at hf
      · simp only [List.mem_singleton] at hf
        subst hf
        exact numB_len8 hx.2
    · exact tagRow_small l (i + 1) hr f hf
theorem enc_200 {f : Fct} (h : rightF f = true) : (encL f).length ≤ 200 := by
  have h0 := right_ok h
  have h1 := joinL_small (rowF f) (fun g hg => by
    unfold rowF at hg
    rw [List.mem_append] at hg
    rcases hg with hg | hg
    · exact tagRow_small _ _ h0.nums g hg
    · split at hg
      · simp only [List.mem_singleton] at hg
        subst hg
        exact Nat.le_of_eq (eightB_len _)
      · simp at hg)
  have h3 : (rowF f).length ≤ 14 := by
    unfold rowF
    rw [List.length_append]
    have := tagRow_len f.l 0
    rw [fct_len] at this
    split <;> simp <;> omega
  unfold encL
  rw [if_pos h]
  omega
set_option maxRecDepth 20000 in
set_option maxHeartbeats 8000000 in
theorem fbytes_law (a : Fct) (ha : a.wf) (w : World) (E : Nat → Addr) (h : IdsG w E) :
    Calls Tryz.prog 3 #[fctV a] w fun e w' => e = .returned (.bool true) ∧ Below w.heap.size w w' := by
  have HG := Lib.hid (fun w' (hb : Below w.heap.size w w') => h.below hb)
  have HAL := Lib.hid (fun w' h => falive_any w' E h)
  have HEN := Lib.hid (fun w' h => fbytes_any a ha w' E h)
  have HFR := Lib.hid (fun w' h => fright_any a ha w' E h)
  have HRR := Lib.hid (fun w' => refright14_any a ha.2 w')
  have HN4 := Lib.hid (fun w' h => num_any w' E 4 (by omega) h)
  unfold GivesB at HEN
  clear h
  cases hr : rightF a
  · have he4 : encE a = 4 ∧ encL a = [] := by unfold encE encL; rw [hr]; exact ⟨rfl, rfl⟩
    rw [hr] at HFR HRR
    rw [he4.1] at HEN
    have HL0 := Lib.hid (show (encL a).length = 0 by rw [he4.2]; rfl)
    have hev : ∃ z, errV E 4 = .iface 146 z := ⟨_, rfl⟩
    obtain ⟨ez, hev⟩ := hev
    rw [hev] at HEN HN4
    clear hr ha he4 hev
    generalize encL a = l at *
    obtain ⟨a0, a1, a2, a3, a4, a5, a6, a7, a8, a9, a10, a11, a12, x⟩ := a
    unfold fctV fctA at *
    simp only at *
    have B := Lib.hid (below_alloc1 w (.cells #[.int .i64 a0, .int .i64 a1, .int .i64 a2, .int .i64 a3, .int .i64 a4, .int .i64 a5, .int .i64 a6, .int .i64 a7, .int .i64 a8, .int .i64 a9, .int .i64 a10, .int .i64 a11, .int .i64 a12, .float .f64 x] 26))
    have N := Lib.hid (Blk.new w 26 #[.int .i64 a0, .int .i64 a1, .int .i64 a2, .int .i64 a3, .int .i64 a4, .int .i64 a5, .int .i64 a6, .int .i64 a7, .int .i64 a8, .int .i64 a9, .int .i64 a10, .int .i64 a11, .int .i64 a12, .float .f64 x])
    have n0 := (N.out.cell 0).trans rfl
    have n1 := (N.out.cell 1).trans rfl
    have n2 := (N.out.cell 2).trans rfl
    have n3 := (N.out.cell 3).trans rfl
    have n4 := (N.out.cell 4).trans rfl
    have n5 := (N.out.cell 5).trans rfl
    have n6 := (N.out.cell 6).trans rfl
    have n7 := (N.out.cell 7).trans rfl
    have n8 := (N.out.cell 8).trans rfl
    have n9 := (N.out.cell 9).trans rfl
    have n10 := (N.out.cell 10).trans rfl
    have n11 := (N.out.cell 11).trans rfl
    have n12 := (N.out.cell 12).trans rfl
    have n13 := (N.out.cell 13).trans rfl
    go_enter Tryz.func3, Tryz.ntmps3
    go_wp2_with fail
    refine (HAL.out _ (HG.out _ B.out)).mono ?_
    rintro e w' ⟨rfl, hb⟩
    have B' := Lib.hid (B.out.trans (hb.mono B.out.size))
    have N' := Lib.hid (N.out.below hb N.out.lt)
    clear hb B N n0 n1 n2 n3 n4 n5 n6 n7 n8 n9 n10 n11 n12 n13
    have n0 := (N'.out.cell 0).trans rfl
    have n1 := (N'.out.cell 1).trans rfl
    have n2 := (N'.out.cell 2).trans rfl
    have n3 := (N'.out.cell 3).trans rfl
    have n4 := (N'.out.cell 4).trans rfl
    have n5 := (N'.out.cell 5).trans rfl
    have n6 := (N'.out.cell 6).trans rfl
    have n7 := (N'.out.cell 7).trans rfl
    have n8 := (N'.out.cell 8).trans rfl
    have n9 := (N'.out.cell 9).trans rfl
    have n10 := (N'.out.cell 10).trans rfl
    have n11 := (N'.out.cell 11).trans rfl
    have n12 := (N'.out.cell 12).trans rfl
    have n13 := (N'.out.cell 13).trans rfl
    have B := Lib.hid B'.out
    have N := Lib.hid N'.out
    clear B' N'
    have M := Lib.hid (Blk.new w' 28 #[.int .i64 0, .int .i64 0, .int .i64 0, .int .i64 0, .int .i64 0, .int .i64 0, .int .i64 0, .int .i64 0, .int .i64 0, .int .i64 0, .int .i64 0, .int .i64 0, .int .i64 0, .float .f64 0])
    have N' := Lib.hid (N.out.alloc (.cells #[.int .i64 0, .int .i64 0, .int .i64 0, .int .i64 0, .int .i64 0, .int .i64 0, .int .i64 0, .int .i64 0, .int .i64 0, .int .i64 0, .int .i64 0, .int .i64 0, .int .i64 0, .float .f64 0] 28))
    have B' := Lib.hid (below_alloc B.out (.cells #[.int .i64 0, .int .i64 0, .int .i64 0, .int .i64 0, .int .i64 0, .int .i64 0, .int .i64 0, .int .i64 0, .int .i64 0, .int .i64 0, .int .i64 0, .int .i64 0, .int .i64 0, .float .f64 0] 28))
    go_wp2_with (refine wpList_store (.tmp 3) (.tmp 10) 28 rfl rfl w'.heap.size 0 _ _ #[.int .i64 a0, .int .i64 a1, .int .i64 a2, .int .i64 a3, .int .i64 a4, .int .i64 a5, .int .i64 a6, .int .i64 a7, .int .i64 a8, .int .i64 a9, .int .i64 a10, .int .i64 a11, .int .i64 a12, .float .f64 x] rfl rfl M.out (by kernel_rfl) (by simp [Value.oneCell']) (by simp) ?_)
    intro w7 hn7 ko7
    have h7 : Blk w7 w'.heap.size 28 #[.int .i64 a0, .int .i64 a1, .int .i64 a2, .int .i64 a3, .int .i64 a4, .int .i64 a5, .int .i64 a6, .int .i64 a7, .int .i64 a8, .int .i64 a9, .int .i64 a10, .int .i64 a11, .int .i64 a12, .float .f64 x] := hn7
    have B7 := Lib.hid (B'.out.trans (ko7.below B.out.size))
    have N7 := Lib.hid (ko7.blk N'.out (Nat.ne_of_lt N.out.lt))
    have H7 := Lib.hid h7
    clear hn7 ko7 h7 M B' B N' N n0 n1 n2 n3 n4 n5 n6 n7 n8 n9 n10 n11 n12 n13
    generalize w'.heap.size = gp at *
    have n0 := (N7.out.cell 0).trans rfl
    have n1 := (N7.out.cell 1).trans rfl
    have n2 := (N7.out.cell 2).trans rfl
    have n3 := (N7.out.cell 3).trans rfl
    have n4 := (N7.out.cell 4).trans rfl
    have n5 := (N7.out.cell 5).trans rfl
    have n6 := (N7.out.cell 6).trans rfl
    have n7 := (N7.out.cell 7).trans rfl
    have n8 := (N7.out.cell 8).trans rfl
    have n9 := (N7.out.cell 9).trans rfl
    have n10 := (N7.out.cell 10).trans rfl
    have n11 := (N7.out.cell 11).trans rfl
    have n12 := (N7.out.cell 12).trans rfl
    have n13 := (N7.out.cell 13).trans rfl
    have p0 := (H7.out.cell 0).trans rfl
    have p1 := (H7.out.cell 1).trans rfl
    have p2 := (H7.out.cell 2).trans rfl
    have p3 := (H7.out.cell 3).trans rfl
    have p4 := (H7.out.cell 4).trans rfl
    have p5 := (H7.out.cell 5).trans rfl
    have p6 := (H7.out.cell 6).trans rfl
    have p7 := (H7.out.cell 7).trans rfl
    have p8 := (H7.out.cell 8).trans rfl
    have p9 := (H7.out.cell 9).trans rfl
    have p10 := (H7.out.cell 10).trans rfl
    have p11 := (H7.out.cell 11).trans rfl
    have p12 := (H7.out.cell 12).trans rfl
    have p13 := (H7.out.cell 13).trans rfl
    have B := Lib.hid B7.out
    have N := Lib.hid N7.out
    have P := Lib.hid H7.out
    clear B7 H7 N7
    go_wp2_with fail
    refine (HEN.out _ (HG.out _ B.out)).mono ?_
    rintro e w' ⟨v, rfl, ho, hb⟩
    have hyt := owns_byt ho
    obtain ⟨p, c, rfl, _, _, _⟩ := id hyt
    have Y := Lib.hid hyt
    clear ho hyt
    have B' := Lib.hid (B.out.trans (hb.mono B.out.size))
    have N' := Lib.hid (N.out.below hb N.out.lt)
    have P' := Lib.hid (P.out.below hb P.out.lt)
    clear hb B N P n0 n1 n2 n3 n4 n5 n6 n7 n8 n9 n10 n11 n12 n13 p0 p1 p2 p3 p4 p5 p6 p7 p8 p9 p10 p11 p12 p13
    have n0 := (N'.out.cell 0).trans rfl
    have n1 := (N'.out.cell 1).trans rfl
    have n2 := (N'.out.cell 2).trans rfl
    have n3 := (N'.out.cell 3).trans rfl
    have n4 := (N'.out.cell 4).trans rfl
    have n5 := (N'.out.cell 5).trans rfl
    have n6 := (N'.out.cell 6).trans rfl
    have n7 := (N'.out.cell 7).trans rfl
    have n8 := (N'.out.cell 8).trans rfl
    have n9 := (N'.out.cell 9).trans rfl
    have n10 := (N'.out.cell 10).trans rfl
    have n11 := (N'.out.cell 11).trans rfl
    have n12 := (N'.out.cell 12).trans rfl
    have n13 := (N'.out.cell 13).trans rfl
    have p0 := (P'.out.cell 0).trans rfl
    have p1 := (P'.out.cell 1).trans rfl
    have p2 := (P'.out.cell 2).trans rfl
    have p3 := (P'.out.cell 3).trans rfl
    have p4 := (P'.out.cell 4).trans rfl
    have p5 := (P'.out.cell 5).trans rfl
    have p6 := (P'.out.cell 6).trans rfl
    have p7 := (P'.out.cell 7).trans rfl
    have p8 := (P'.out.cell 8).trans rfl
    have p9 := (P'.out.cell 9).trans rfl
    have p10 := (P'.out.cell 10).trans rfl
    have p11 := (P'.out.cell 11).trans rfl
    have p12 := (P'.out.cell 12).trans rfl
    have p13 := (P'.out.cell 13).trans rfl
    have B := Lib.hid B'.out
    have N := Lib.hid N'.out
    have P := Lib.hid P'.out
    clear B' N' P'
    go_wp2_with fail
    refine wp_phi (fun wq => Below w.heap.size w wq ∧ Blk wq w.heap.size 26 #[.int .i64 a0, .int .i64 a1, .int .i64 a2, .int .i64 a3, .int .i64 a4, .int .i64 a5, .int .i64 a6, .int .i64 a7, .int .i64 a8, .int .i64 a9, .int .i64 a10, .int .i64 a11, .int .i64 a12, .float .f64 x] ∧ Blk wq gp 28 #[.int .i64 a0, .int .i64 a1, .int .i64 a2, .int .i64 a3, .int .i64 a4, .int .i64 a5, .int .i64 a6, .int .i64 a7, .int .i64 a8, .int .i64 a9, .int .i64 a10, .int .i64 a11, .int .i64 a12, .float .f64 x] ∧ Byt wq (.slice p l.length c) l) [(0, PVal (.agg #[.int .i64 a0, .int .i64 a1, .int .i64 a2, .int .i64 a3, .int .i64 a4, .int .i64 a5, .int .i64 a6, .int .i64 a7, .int .i64 a8, .int .i64 a9, .int .i64 a10, .int .i64 a11, .int .i64 a12, .float .f64 x])), (1, PVal (.bool false)), (2, PVal (.agg #[.int .i64 a0, .int .i64 a1, .int .i64 a2, .int .i64 a3, .int .i64 a4, .int .i64 a5, .int .i64 a6, .int .i64 a7, .int .i64 a8, .int .i64 a9, .int .i64 a10, .int .i64 a11, .int .i64 a12, .float .f64 x])), (3, PVal (.bool false))] [] (by kernel_rfl) (by kernel_rfl) ?_ ?_ ⟨B.out.drew, N.out, P.out, Y.out.keep (fun _ _ h => h)⟩ ?_
    · rintro w1 w2 ⟨a1, a2, a3, a4⟩ hb
      exact ⟨a1.trans (hb.mono a1.size), a2.below hb a2.lt, a3.below hb a3.lt, a4.keep (Below.keeps hb)⟩
    · simp only [List.mem_cons, List.not_mem_nil, or_false, forall_eq_or_imp, forall_eq]
      exact ⟨fun _ _ _ _ _ h => h, fun _ _ _ _ _ h => h, fun _ _ _ _ _ h => h, fun _ _ _ _ _ h => h⟩
    refine phi_partK (PVal (.agg #[.int .i64 a0, .int .i64 a1, .int .i64 a2, .int .i64 a3, .int .i64 a4, .int .i64 a5, .int .i64 a6, .int .i64 a7, .int .i64 a8, .int .i64 a9, .int .i64 a10, .int .i64 a11, .int .i64 a12, .float .f64 x])) rfl rfl ⟨_, rfl⟩ ?_ (fun K hK v hv => ?_)
    · rintro wq ⟨h0, hN, hP, hY⟩ hf
      have m0 := (hN.cell 0).trans rfl
      have m1 := (hN.cell 1).trans rfl
      have m2 := (hN.cell 2).trans rfl
      have m3 := (hN.cell 3).trans rfl
      have m4 := (hN.cell 4).trans rfl
      have m5 := (hN.cell 5).trans rfl
      have m6 := (hN.cell 6).trans rfl
      have m7 := (hN.cell 7).trans rfl
      have m8 := (hN.cell 8).trans rfl
      have m9 := (hN.cell 9).trans rfl
      have m10 := (hN.cell 10).trans rfl
      have m11 := (hN.cell 11).trans rfl
      have m12 := (hN.cell 12).trans rfl
      have m13 := (hN.cell 13).trans rfl
      clear h0 hN hP hY hf
      unfold gives
      go_simp
      exact ⟨rfl, trivial, Below.refl _ _⟩
    obtain rfl : v = _ := hv
    simp only [Act.put, List.setIfInBounds_toArray, List.set_cons_succ, List.set_cons_zero]; (try simp only [List.cons_append]); (try simp only [List.nil_append])
    apply hK
    clear hK K
    refine phi_partK (PVal (.bool false)) rfl rfl ⟨_, rfl⟩ ?_ (fun K hK v hv => ?_)
    · rintro wq ⟨h0, hN, hP, hY⟩ hf
      clear hf
      unfold gives
      go_simp
      refine (HFR.out _ (HG.out _ h0)).mono ?_
      rintro e w'' ⟨rfl, hb⟩
      exact ⟨_, rfl, rfl, trivial, hb⟩
    obtain rfl : v = _ := hv
    simp only [Act.put, List.setIfInBounds_toArray, List.set_cons_succ, List.set_cons_zero]; (try simp only [List.cons_append]); (try simp only [List.nil_append])
    apply hK
    clear hK K
    refine phi_partK (PVal (.agg #[.int .i64 a0, .int .i64 a1, .int .i64 a2, .int .i64 a3, .int .i64 a4, .int .i64 a5, .int .i64 a6, .int .i64 a7, .int .i64 a8, .int .i64 a9, .int .i64 a10, .int .i64 a11, .int .i64 a12, .float .f64 x])) rfl rfl ⟨_, rfl⟩ ?_ (fun K hK v hv => ?_)
    · rintro wq ⟨h0, hN, hP, hY⟩ hf
      have m0 := (hP.cell 0).trans rfl
      have m1 := (hP.cell 1).trans rfl
      have m2 := (hP.cell 2).trans rfl
      have m3 := (hP.cell 3).trans rfl
      have m4 := (hP.cell 4).trans rfl
      have m5 := (hP.cell 5).trans rfl
      have m6 := (hP.cell 6).trans rfl
      have m7 := (hP.cell 7).trans rfl
      have m8 := (hP.cell 8).trans rfl
      have m9 := (hP.cell 9).trans rfl
      have m10 := (hP.cell 10).trans rfl
      have m11 := (hP.cell 11).trans rfl
      have m12 := (hP.cell 12).trans rfl
      have m13 := (hP.cell 13).trans rfl
      clear h0 hN hP hY hf
      unfold gives
      go_simp
      exact ⟨rfl, trivial, Below.refl _ _⟩
    obtain rfl : v = _ := hv
    simp only [Act.put, List.setIfInBounds_toArray, List.set_cons_succ, List.set_cons_zero]; (try simp only [List.cons_append]); (try simp only [List.nil_append])
    apply hK
    clear hK K
    refine phi_partK (PVal (.bool false)) rfl rfl ⟨_, rfl⟩ ?_ (fun K hK v hv => ?_)
    · rintro wq ⟨h0, hN, hP, hY⟩ hf
      clear hf
      unfold gives
      go_simp
      refine (HRR.out _).mono ?_
      rintro e w'' ⟨rfl, hb⟩
      exact ⟨_, rfl, rfl, trivial, hb⟩
    obtain rfl : v = _ := hv
    simp only [Act.put, List.setIfInBounds_toArray, List.set_cons_succ, List.set_cons_zero]; (try simp only [List.cons_append]); (try simp only [List.nil_append])
    apply hK
    clear hK K
    repeat (first | (refine phi_skipK rfl (fun K hK => ?_); simp only [Act.put, List.setIfInBounds_toArray, List.set_cons_succ, List.set_cons_zero]; (try simp only [List.cons_append]); (try simp only [List.nil_append]); apply hK; clear hK K) | (refine phi_pureK rfl rfl (fun K hK => ?_); apply Exists.intro; constructor; (focus (rintro w' ⟨h0, hN, hP, hY⟩; (clear h0 hN hP hY); first | (go_simp; done) | (go_simp; (try go_bits); (try go_simp); rfl) | go_simp)); simp only [Act.put, List.setIfInBounds_toArray, List.set_cons_succ, List.set_cons_zero]; (try simp only [List.cons_append]); (try simp only [List.nil_append]); apply hK; clear hK K))
    refine phi_done ?_
    rintro w' ⟨hb, hN, hP, hY⟩ _
    have B' := Lib.hid hb
    have N' := Lib.hid hN
    have P' := Lib.hid hP
    have Y' := Lib.hid hY
    clear hb hN hP hY B N P Y n0 n1 n2 n3 n4 n5 n6 n7 n8 n9 n10 n11 n12 n13 p0 p1 p2 p3 p4 p5 p6 p7 p8 p9 p10 p11 p12 p13
    have B := Lib.hid B'.out
    have N := Lib.hid N'.out
    have P := Lib.hid P'.out
    have Y := Lib.hid Y'.out
    clear B' N' P' Y'
    have n0 := (N.out.cell 0).trans rfl
    have n1 := (N.out.cell 1).trans rfl
    have n2 := (N.out.cell 2).trans rfl
    have n3 := (N.out.cell 3).trans rfl
    have n4 := (N.out.cell 4).trans rfl
    have n5 := (N.out.cell 5).trans rfl
    have n6 := (N.out.cell 6).trans rfl
    have n7 := (N.out.cell 7).trans rfl
    have n8 := (N.out.cell 8).trans rfl
    have n9 := (N.out.cell 9).trans rfl
    have n10 := (N.out.cell 10).trans rfl
    have n11 := (N.out.cell 11).trans rfl
    have n12 := (N.out.cell 12).trans rfl
    have n13 := (N.out.cell 13).trans rfl
    have p0 := (P.out.cell 0).trans rfl
    have p1 := (P.out.cell 1).trans rfl
    have p2 := (P.out.cell 2).trans rfl
    have p3 := (P.out.cell 3).trans rfl
    have p4 := (P.out.cell 4).trans rfl
    have p5 := (P.out.cell 5).trans rfl
    have p6 := (P.out.cell 6).trans rfl
    have p7 := (P.out.cell 7).trans rfl
    have p8 := (P.out.cell 8).trans rfl
    have p9 := (P.out.cell 9).trans rfl
    have p10 := (P.out.cell 10).trans rfl
    have p11 := (P.out.cell 11).trans rfl
    have p12 := (P.out.cell 12).trans rfl
    have p13 := (P.out.cell 13).trans rfl
    refine wpList_nil ?_
    go_wp2_with fail
    refine (HRR.out _).mono ?_
    rintro e w' ⟨rfl, hb⟩
    have B' := Lib.hid (B.out.trans (hb.mono B.out.size))
    have N' := Lib.hid (N.out.below hb N.out.lt)
    have P' := Lib.hid (P.out.below hb P.out.lt)
    have Y' := Lib.hid (Y.out.keep (Below.keeps hb))
    clear hb B N P Y n0 n1 n2 n3 n4 n5 n6 n7 n8 n9 n10 n11 n12 n13 p0 p1 p2 p3 p4 p5 p6 p7 p8 p9 p10 p11 p12 p13
    have n0 := (N'.out.cell 0).trans rfl
    have n1 := (N'.out.cell 1).trans rfl
    have n2 := (N'.out.cell 2).trans rfl
    have n3 := (N'.out.cell 3).trans rfl
    have n4 := (N'.out.cell 4).trans rfl
    have n5 := (N'.out.cell 5).trans rfl
    have n6 := (N'.out.cell 6).trans rfl
    have n7 := (N'.out.cell 7).trans rfl
    have n8 := (N'.out.cell 8).trans rfl
    have n9 := (N'.out.cell 9).trans rfl
    have n10 := (N'.out.cell 10).trans rfl
    have n11 := (N'.out.cell 11).trans rfl
    have n12 := (N'.out.cell 12).trans rfl
    have n13 := (N'.out.cell 13).trans rfl
    have p0 := (P'.out.cell 0).trans rfl
    have p1 := (P'.out.cell 1).trans rfl
    have p2 := (P'.out.cell 2).trans rfl
    have p3 := (P'.out.cell 3).trans rfl
    have p4 := (P'.out.cell 4).trans rfl
    have p5 := (P'.out.cell 5).trans rfl
    have p6 := (P'.out.cell 6).trans rfl
    have p7 := (P'.out.cell 7).trans rfl
    have p8 := (P'.out.cell 8).trans rfl
    have p9 := (P'.out.cell 9).trans rfl
    have p10 := (P'.out.cell 10).trans rfl
    have p11 := (P'.out.cell 11).trans rfl
    have p12 := (P'.out.cell 12).trans rfl
    have p13 := (P'.out.cell 13).trans rfl
    have B := Lib.hid B'.out
    have N := Lib.hid N'.out
    have P := Lib.hid P'.out
    have Y := Lib.hid Y'.out
    clear B' N' P' Y'
    have hl0 : ((l.length : Int) == 0) = true := by rw [beq_iff_eq, HL0.out]; rfl
    go_wp2_with fail
    refine (HN4.out _ (HG.out _ B.out).errs).mono ?_
    rintro e w' ⟨rfl, hb⟩
    have B' := Lib.hid (B.out.trans (hb.mono B.out.size))
    clear hb B
    go_wp2_with fail
    go_ret
    exact ⟨rfl, B'.out⟩
  · have he0 : encE a = 0 := by unfold encE; rw [if_pos hr]
    have HRB := Lib.hid (fun w' => refbytes14_any a hr w')
    have HRD := Lib.hid (fun v w' h hy => fread_any v (encL a) w' E h hy)
    rw [(dec_enc hr).1, (dec_enc hr).2, errV_zero] at HRD
    have HSX := Lib.hid (fun w' => refsame14_any a a ha.2 ha.2 w')
    rw [sameF_self] at HSX
    have HL1 := enc_some hr
    have HL2 := enc_200 hr
    rw [he0, errV_zero] at HEN
    rw [hr] at HFR HRR
    clear hr ha he0 HN4
    generalize encL a = l at *
    have c1 : decide (1 ≤ (l.length : Int)) = true := by simp; omega
    have c2 : decide ((l.length : Int) ≤ 200) = true := by simp; omega
    have c3 : decide (1 ≤ l.length) = true := by simp; omega
    have c4 : decide (l.length ≤ 200) = true := by simp; omega
    obtain ⟨a0, a1, a2, a3, a4, a5, a6, a7, a8, a9, a10, a11, a12, x⟩ := a
    unfold fctV fctA at *
    simp only at *
    have B := Lib.hid (below_alloc1 w (.cells #[.int .i64 a0, .int .i64 a1, .int .i64 a2, .int .i64 a3, .int .i64 a4, .int .i64 a5, .int .i64 a6, .int .i64 a7, .int .i64 a8, .int .i64 a9, .int .i64 a10, .int .i64 a11, .int .i64 a12, .float .f64 x] 26))
    have N := Lib.hid (Blk.new w 26 #[.int .i64 a0, .int .i64 a1, .int .i64 a2, .int .i64 a3, .int .i64 a4, .int .i64 a5, .int .i64 a6, .int .i64 a7, .int .i64 a8, .int .i64 a9, .int .i64 a10, .int .i64 a11, .int .i64 a12, .float .f64 x])
    have n0 := (N.out.cell 0).trans rfl
    have n1 := (N.out.cell 1).trans rfl
    have n2 := (N.out.cell 2).trans rfl
    have n3 := (N.out.cell 3).trans rfl
    have n4 := (N.out.cell 4).trans rfl
    have n5 := (N.out.cell 5).trans rfl
    have n6 := (N.out.cell 6).trans rfl
    have n7 := (N.out.cell 7).trans rfl
    have n8 := (N.out.cell 8).trans rfl
    have n9 := (N.out.cell 9).trans rfl
    have n10 := (N.out.cell 10).trans rfl
    have n11 := (N.out.cell 11).trans rfl
    have n12 := (N.out.cell 12).trans rfl
    have n13 := (N.out.cell 13).trans rfl
    go_enter Tryz.func3, Tryz.ntmps3
    go_wp2_with fail
    refine (HAL.out _ (HG.out _ B.out)).mono ?_
    rintro e w' ⟨rfl, hb⟩
    have B' := Lib.hid (B.out.trans (hb.mono B.out.size))
    have N' := Lib.hid (N.out.below hb N.out.lt)
    clear hb B N n0 n1 n2 n3 n4 n5 n6 n7 n8 n9 n10 n11 n12 n13
    have n0 := (N'.out.cell 0).trans rfl
    have n1 := (N'.out.cell 1).trans rfl
    have n2 := (N'.out.cell 2).trans rfl
    have n3 := (N'.out.cell 3).trans rfl
    have n4 := (N'.out.cell 4).trans rfl
    have n5 := (N'.out.cell 5).trans rfl
    have n6 := (N'.out.cell 6).trans rfl
    have n7 := (N'.out.cell 7).trans rfl
    have n8 := (N'.out.cell 8).trans rfl
    have n9 := (N'.out.cell 9).trans rfl
    have n10 := (N'.out.cell 10).trans rfl
    have n11 := (N'.out.cell 11).trans rfl
    have n12 := (N'.out.cell 12).trans rfl
    have n13 := (N'.out.cell 13).trans rfl
    have B := Lib.hid B'.out
    have N := Lib.hid N'.out
    clear B' N'
    have M := Lib.hid (Blk.new w' 28 #[.int .i64 0, .int .i64 0, .int .i64 0, .int .i64 0, .int .i64 0, .int .i64 0, .int .i64 0, .int .i64 0, .int .i64 0, .int .i64 0, .int .i64 0, .int .i64 0, .int .i64 0, .float .f64 0])
    have N' := Lib.hid (N.out.alloc (.cells #[.int .i64 0, .int .i64 0, .int .i64 0, .int .i64 0, .int .i64 0, .int .i64 0, .int .i64 0, .int .i64 0, .int .i64 0, .int .i64 0, .int .i64 0, .int .i64 0, .int .i64 0, .float .f64 0] 28))
    have B' := Lib.hid (below_alloc B.out (.cells #[.int .i64 0, .int .i64 0, .int .i64 0, .int .i64 0, .int .i64 0, .int .i64 0, .int .i64 0, .int .i64 0, .int .i64 0, .int .i64 0, .int .i64 0, .int .i64 0, .int .i64 0, .float .f64 0] 28))
    go_wp2_with (refine wpList_store (.tmp 3) (.tmp 10) 28 rfl rfl w'.heap.size 0 _ _ #[.int .i64 a0, .int .i64 a1, .int .i64 a2, .int .i64 a3, .int .i64 a4, .int .i64 a5, .int .i64 a6, .int .i64 a7, .int .i64 a8, .int .i64 a9, .int .i64 a10, .int .i64 a11, .int .i64 a12, .float .f64 x] rfl rfl M.out (by kernel_rfl) (by simp [Value.oneCell']) (by simp) ?_)
    intro w7 hn7 ko7
    have h7 : Blk w7 w'.heap.size 28 #[.int .i64 a0, .int .i64 a1, .int .i64 a2, .int .i64 a3, .int .i64 a4, .int .i64 a5, .int .i64 a6, .int .i64 a7, .int .i64 a8, .int .i64 a9, .int .i64 a10, .int .i64 a11, .int .i64 a12, .float .f64 x] := hn7
    have B7 := Lib.hid (B'.out.trans (ko7.below B.out.size))
    have N7 := Lib.hid (ko7.blk N'.out (Nat.ne_of_lt N.out.lt))
    have H7 := Lib.hid h7
    clear hn7 ko7 h7 M B' B N' N n0 n1 n2 n3 n4 n5 n6 n7 n8 n9 n10 n11 n12 n13
    generalize w'.heap.size = gp at *
    have n0 := (N7.out.cell 0).trans rfl
    have n1 := (N7.out.cell 1).trans rfl
    have n2 := (N7.out.cell 2).trans rfl
    have n3 := (N7.out.cell 3).trans rfl
    have n4 := (N7.out.cell 4).trans rfl
    have n5 := (N7.out.cell 5).trans rfl
    have n6 := (N7.out.cell 6).trans rfl
    have n7 := (N7.out.cell 7).trans rfl
    have n8 := (N7.out.cell 8).trans rfl
    have n9 := (N7.out.cell 9).trans rfl
    have n10 := (N7.out.cell 10).trans rfl
    have n11 := (N7.out.cell 11).trans rfl
    have n12 := (N7.out.cell 12).trans rfl
    have n13 := (N7.out.cell 13).trans rfl
    have p0 := (H7.out.cell 0).trans rfl
    have p1 := (H7.out.cell 1).trans rfl
    have p2 := (H7.out.cell 2).trans rfl
    have p3 := (H7.out.cell 3).trans rfl
    have p4 := (H7.out.cell 4).trans rfl
    have p5 := (H7.out.cell 5).trans rfl
    have p6 := (H7.out.cell 6).trans rfl
    have p7 := (H7.out.cell 7).trans rfl
    have p8 := (H7.out.cell 8).trans rfl
    have p9 := (H7.out.cell 9).trans rfl
    have p10 := (H7.out.cell 10).trans rfl
    have p11 := (H7.out.cell 11).trans rfl
    have p12 := (H7.out.cell 12).trans rfl
    have p13 := (H7.out.cell 13).trans rfl
    have B := Lib.hid B7.out
    have N := Lib.hid N7.out
    have P := Lib.hid H7.out
    clear B7 H7 N7
    go_wp2_with fail
    refine (HEN.out _ (HG.out _ B.out)).mono ?_
    rintro e w' ⟨v, rfl, ho, hb⟩
    have hyt := owns_byt ho
    obtain ⟨p, c, rfl, _, _, _⟩ := id hyt
    have Y := Lib.hid hyt
    clear ho hyt
    have B' := Lib.hid (B.out.trans (hb.mono B.out.size))
    have N' := Lib.hid (N.out.below hb N.out.lt)
    have P' := Lib.hid (P.out.below hb P.out.lt)
    clear hb B N P n0 n1 n2 n3 n4 n5 n6 n7 n8 n9 n10 n11 n12 n13 p0 p1 p2 p3 p4 p5 p6 p7 p8 p9 p10 p11 p12 p13
    have n0 := (N'.out.cell 0).trans rfl
    have n1 := (N'.out.cell 1).trans rfl
    have n2 := (N'.out.cell 2).trans rfl
    have n3 := (N'.out.cell 3).trans rfl
    have n4 := (N'.out.cell 4).trans rfl
    have n5 := (N'.out.cell 5).trans rfl
    have n6 := (N'.out.cell 6).trans rfl
    have n7 := (N'.out.cell 7).trans rfl
    have n8 := (N'.out.cell 8).trans rfl
    have n9 := (N'.out.cell 9).trans rfl
    have n10 := (N'.out.cell 10).trans rfl
    have n11 := (N'.out.cell 11).trans rfl
    have n12 := (N'.out.cell 12).trans rfl
    have n13 := (N'.out.cell 13).trans rfl
    have p0 := (P'.out.cell 0).trans rfl
    have p1 := (P'.out.cell 1).trans rfl
    have p2 := (P'.out.cell 2).trans rfl
    have p3 := (P'.out.cell 3).trans rfl
    have p4 := (P'.out.cell 4).trans rfl
    have p5 := (P'.out.cell 5).trans rfl
    have p6 := (P'.out.cell 6).trans rfl
    have p7 := (P'.out.cell 7).trans rfl
    have p8 := (P'.out.cell 8).trans rfl
    have p9 := (P'.out.cell 9).trans rfl
    have p10 := (P'.out.cell 10).trans rfl
    have p11 := (P'.out.cell 11).trans rfl
    have p12 := (P'.out.cell 12).trans rfl
    have p13 := (P'.out.cell 13).trans rfl
    have B := Lib.hid B'.out
    have N := Lib.hid N'.out
    have P := Lib.hid P'.out
    clear B' N' P'
    go_wp2_with fail
    refine wp_phi (fun wq => Below w.heap.size w wq ∧ Blk wq w.heap.size 26 #[.int .i64 a0, .int .i64 a1, .int .i64 a2, .int .i64 a3, .int .i64 a4, .int .i64 a5, .int .i64 a6, .int .i64 a7, .int .i64 a8, .int .i64 a9, .int .i64 a10, .int .i64 a11, .int .i64 a12, .float .f64 x] ∧ Blk wq gp 28 #[.int .i64 a0, .int .i64 a1, .int .i64 a2, .int .i64 a3, .int .i64 a4, .int .i64 a5, .int .i64 a6, .int .i64 a7, .int .i64 a8, .int .i64 a9, .int .i64 a10, .int .i64 a11, .int .i64 a12, .float .f64 x] ∧ Byt wq (.slice p l.length c) l) [(0, PVal (.agg #[.int .i64 a0, .int .i64 a1, .int .i64 a2, .int .i64 a3, .int .i64 a4, .int .i64 a5, .int .i64 a6, .int .i64 a7, .int .i64 a8, .int .i64 a9, .int .i64 a10, .int .i64 a11, .int .i64 a12, .float .f64 x])), (1, PVal (.bool true)), (2, PVal (.agg #[.int .i64 a0, .int .i64 a1, .int .i64 a2, .int .i64 a3, .int .i64 a4, .int .i64 a5, .int .i64 a6, .int .i64 a7, .int .i64 a8, .int .i64 a9, .int .i64 a10, .int .i64 a11, .int .i64 a12, .float .f64 x])), (3, PVal (.bool true))] [] (by kernel_rfl) (by kernel_rfl) ?_ ?_ ⟨B.out.drew, N.out, P.out, Y.out.keep (fun _ _ h => h)⟩ ?_
    · rintro w1 w2 ⟨a1, a2, a3, a4⟩ hb
      exact ⟨a1.trans (hb.mono a1.size), a2.below hb a2.lt, a3.below hb a3.lt, a4.keep (Below.keeps hb)⟩
    · simp only [List.mem_cons, List.not_mem_nil, or_false, forall_eq_or_imp, forall_eq]
      exact ⟨fun _ _ _ _ _ h => h, fun _ _ _ _ _ h => h, fun _ _ _ _ _ h => h, fun _ _ _ _ _ h => h⟩
    refine phi_partK (PVal (.agg #[.int .i64 a0, .int .i64 a1, .int .i64 a2, .int .i64 a3, .int .i64 a4, .int .i64 a5, .int .i64 a6, .int .i64 a7, .int .i64 a8, .int .i64 a9, .int .i64 a10, .int .i64 a11, .int .i64 a12, .float .f64 x])) rfl rfl ⟨_, rfl⟩ ?_ (fun K hK v hv => ?_)
    · rintro wq ⟨h0, hN, hP, hY⟩ hf
      have m0 := (hN.cell 0).trans rfl
      have m1 := (hN.cell 1).trans rfl
      have m2 := (hN.cell 2).trans rfl
      have m3 := (hN.cell 3).trans rfl
      have m4 := (hN.cell 4).trans rfl
      have m5 := (hN.cell 5).trans rfl
      have m6 := (hN.cell 6).trans rfl
      have m7 := (hN.cell 7).trans rfl
      have m8 := (hN.cell 8).trans rfl
      have m9 := (hN.cell 9).trans rfl
      have m10 := (hN.cell 10).trans rfl
      have m11 := (hN.cell 11).trans rfl
      have m12 := (hN.cell 12).trans rfl
      have m13 := (hN.cell 13).trans rfl
      clear h0 hN hP hY hf
      unfold gives
      go_simp
      exact ⟨rfl, trivial, Below.refl _ _⟩
    obtain rfl : v = _ := hv
    simp only [Act.put, List.setIfInBounds_toArray, List.set_cons_succ, List.set_cons_zero]; (try simp only [List.cons_append]); (try simp only [List.nil_append])
    apply hK
    clear hK K
    refine phi_partK (PVal (.bool true)) rfl rfl ⟨_, rfl⟩ ?_ (fun K hK v hv => ?_)
    · rintro wq ⟨h0, hN, hP, hY⟩ hf
      clear hf
      unfold gives
      go_simp
      refine (HFR.out _ (HG.out _ h0)).mono ?_
      rintro e w'' ⟨rfl, hb⟩
      exact ⟨_, rfl, rfl, trivial, hb⟩
    obtain rfl : v = _ := hv
    simp only [Act.put, List.setIfInBounds_toArray, List.set_cons_succ, List.set_cons_zero]; (try simp only [List.cons_append]); (try simp only [List.nil_append])
    apply hK
    clear hK K
    refine phi_partK (PVal (.agg #[.int .i64 a0, .int .i64 a1, .int .i64 a2, .int .i64 a3, .int .i64 a4, .int .i64 a5, .int .i64 a6, .int .i64 a7, .int .i64 a8, .int .i64 a9, .int .i64 a10, .int .i64 a11, .int .i64 a12, .float .f64 x])) rfl rfl ⟨_, rfl⟩ ?_ (fun K hK v hv => ?_)
    · rintro wq ⟨h0, hN, hP, hY⟩ hf
      have m0 := (hP.cell 0).trans rfl
      have m1 := (hP.cell 1).trans rfl
      have m2 := (hP.cell 2).trans rfl
      have m3 := (hP.cell 3).trans rfl
      have m4 := (hP.cell 4).trans rfl
      have m5 := (hP.cell 5).trans rfl
      have m6 := (hP.cell 6).trans rfl
      have m7 := (hP.cell 7).trans rfl
      have m8 := (hP.cell 8).trans rfl
      have m9 := (hP.cell 9).trans rfl
      have m10 := (hP.cell 10).trans rfl
      have m11 := (hP.cell 11).trans rfl
      have m12 := (hP.cell 12).trans rfl
      have m13 := (hP.cell 13).trans rfl
      clear h0 hN hP hY hf
      unfold gives
      go_simp
      exact ⟨rfl, trivial, Below.refl _ _⟩
    obtain rfl : v = _ := hv
    simp only [Act.put, List.setIfInBounds_toArray, List.set_cons_succ, List.set_cons_zero]; (try simp only [List.cons_append]); (try simp only [List.nil_append])
    apply hK
    clear hK K
    refine phi_partK (PVal (.bool true)) rfl rfl ⟨_, rfl⟩ ?_ (fun K hK v hv => ?_)
    · rintro wq ⟨h0, hN, hP, hY⟩ hf
      clear hf
      unfold gives
      go_simp
      refine (HRR.out _).mono ?_
      rintro e w'' ⟨rfl, hb⟩
      exact ⟨_, rfl, rfl, trivial, hb⟩
    obtain rfl : v = _ := hv
    simp only [Act.put, List.setIfInBounds_toArray, List.set_cons_succ, List.set_cons_zero]; (try simp only [List.cons_append]); (try simp only [List.nil_append])
    apply hK
    clear hK K
    repeat (first | (refine phi_skipK rfl (fun K hK => ?_); simp only [Act.put, List.setIfInBounds_toArray, List.set_cons_succ, List.set_cons_zero]; (try simp only [List.cons_append]); (try simp only [List.nil_append]); apply hK; clear hK K) | (refine phi_pureK rfl rfl (fun K hK => ?_); apply Exists.intro; constructor; (focus (rintro w' ⟨h0, hN, hP, hY⟩; (clear h0 hN hP hY); first | (go_simp; done) | (go_simp; (try go_bits); (try go_simp); rfl) | go_simp)); simp only [Act.put, List.setIfInBounds_toArray, List.set_cons_succ, List.set_cons_zero]; (try simp only [List.cons_append]); (try simp only [List.nil_append]); apply hK; clear hK K))
    refine phi_done ?_
    rintro w' ⟨hb, hN, hP, hY⟩ _
    have B' := Lib.hid hb
    have N' := Lib.hid hN
    have P' := Lib.hid hP
    have Y' := Lib.hid hY
    clear hb hN hP hY B N P Y n0 n1 n2 n3 n4 n5 n6 n7 n8 n9 n10 n11 n12 n13 p0 p1 p2 p3 p4 p5 p6 p7 p8 p9 p10 p11 p12 p13
    have B := Lib.hid B'.out
    have N := Lib.hid N'.out
    have P := Lib.hid P'.out
    have Y := Lib.hid Y'.out
    clear B' N' P' Y'
    have n0 := (N.out.cell 0).trans rfl
    have n1 := (N.out.cell 1).trans rfl
    have n2 := (N.out.cell 2).trans rfl
    have n3 := (N.out.cell 3).trans rfl
    have n4 := (N.out.cell 4).trans rfl
    have n5 := (N.out.cell 5).trans rfl
    have n6 := (N.out.cell 6).trans rfl
    have n7 := (N.out.cell 7).trans rfl
    have n8 := (N.out.cell 8).trans rfl
    have n9 := (N.out.cell 9).trans rfl
    have n10 := (N.out.cell 10).trans rfl
    have n11 := (N.out.cell 11).trans rfl
    have n12 := (N.out.cell 12).trans rfl
    have n13 := (N.out.cell 13).trans rfl
    have p0 := (P.out.cell 0).trans rfl
    have p1 := (P.out.cell 1).trans rfl
    have p2 := (P.out.cell 2).trans rfl
    have p3 := (P.out.cell 3).trans rfl
    have p4 := (P.out.cell 4).trans rfl
    have p5 := (P.out.cell 5).trans rfl
    have p6 := (P.out.cell 6).trans rfl
    have p7 := (P.out.cell 7).trans rfl
    have p8 := (P.out.cell 8).trans rfl
    have p9 := (P.out.cell 9).trans rfl
    have p10 := (P.out.cell 10).trans rfl
    have p11 := (P.out.cell 11).trans rfl
    have p12 := (P.out.cell 12).trans rfl
    have p13 := (P.out.cell 13).trans rfl
    refine wpList_nil ?_
    go_wp2_with fail
    refine (HRR.out _).mono ?_
    rintro e w' ⟨rfl, hb⟩
    have B' := Lib.hid (B.out.trans (hb.mono B.out.size))
    have N' := Lib.hid (N.out.below hb N.out.lt)
    have P' := Lib.hid (P.out.below hb P.out.lt)
    have Y' := Lib.hid (Y.out.keep (Below.keeps hb))
    clear hb B N P Y n0 n1 n2 n3 n4 n5 n6 n7 n8 n9 n10 n11 n12 n13 p0 p1 p2 p3 p4 p5 p6 p7 p8 p9 p10 p11 p12 p13
    have n0 := (N'.out.cell 0).trans rfl
    have n1 := (N'.out.cell 1).trans rfl
    have n2 := (N'.out.cell 2).trans rfl
    have n3 := (N'.out.cell 3).trans rfl
    have n4 := (N'.out.cell 4).trans rfl
    have n5 := (N'.out.cell 5).trans rfl
    have n6 := (N'.out.cell 6).trans rfl
    have n7 := (N'.out.cell 7).trans rfl
    have n8 := (N'.out.cell 8).trans rfl
    have n9 := (N'.out.cell 9).trans rfl
    have n10 := (N'.out.cell 10).trans rfl
    have n11 := (N'.out.cell 11).trans rfl
    have n12 := (N'.out.cell 12).trans rfl
    have n13 := (N'.out.cell 13).trans rfl
    have p0 := (P'.out.cell 0).trans rfl
    have p1 := (P'.out.cell 1).trans rfl
    have p2 := (P'.out.cell 2).trans rfl
    have p3 := (P'.out.cell 3).trans rfl
    have p4 := (P'.out.cell 4).trans rfl
    have p5 := (P'.out.cell 5).trans rfl
    have p6 := (P'.out.cell 6).trans rfl
    have p7 := (P'.out.cell 7).trans rfl
    have p8 := (P'.out.cell 8).trans rfl
    have p9 := (P'.out.cell 9).trans rfl
    have p10 := (P'.out.cell 10).trans rfl
    have p11 := (P'.out.cell 11).trans rfl
    have p12 := (P'.out.cell 12).trans rfl
    have p13 := (P'.out.cell 13).trans rfl
    have B := Lib.hid B'.out
    have N := Lib.hid N'.out
    have P := Lib.hid P'.out
    have Y := Lib.hid Y'.out
    clear B' N' P' Y'
    go_wp2_with fail
    refine (HRD.out _ _ (HG.out _ B.out) Y.out).mono ?_
    rintro e w' ⟨rfl, hb⟩
    have B' := Lib.hid (B.out.trans (hb.mono B.out.size))
    have N' := Lib.hid (N.out.below hb N.out.lt)
    have P' := Lib.hid (P.out.below hb P.out.lt)
    have Y' := Lib.hid (Y.out.keep (Below.keeps hb))
    clear hb B N P Y n0 n1 n2 n3 n4 n5 n6 n7 n8 n9 n10 n11 n12 n13 p0 p1 p2 p3 p4 p5 p6 p7 p8 p9 p10 p11 p12 p13
    have n0 := (N'.out.cell 0).trans rfl
    have n1 := (N'.out.cell 1).trans rfl
    have n2 := (N'.out.cell 2).trans rfl
    have n3 := (N'.out.cell 3).trans rfl
    have n4 := (N'.out.cell 4).trans rfl
    have n5 := (N'.out.cell 5).trans rfl
    have n6 := (N'.out.cell 6).trans rfl
    have n7 := (N'.out.cell 7).trans rfl
    have n8 := (N'.out.cell 8).trans rfl
    have n9 := (N'.out.cell 9).trans rfl
    have n10 := (N'.out.cell 10).trans rfl
    have n11 := (N'.out.cell 11).trans rfl
    have n12 := (N'.out.cell 12).trans rfl
    have n13 := (N'.out.cell 13).trans rfl
    have p0 := (P'.out.cell 0).trans rfl
    have p1 := (P'.out.cell 1).trans rfl
    have p2 := (P'.out.cell 2).trans rfl
    have p3 := (P'.out.cell 3).trans rfl
    have p4 := (P'.out.cell 4).trans rfl
    have p5 := (P'.out.cell 5).trans rfl
    have p6 := (P'.out.cell 6).trans rfl
    have p7 := (P'.out.cell 7).trans rfl
    have p8 := (P'.out.cell 8).trans rfl
    have p9 := (P'.out.cell 9).trans rfl
    have p10 := (P'.out.cell 10).trans rfl
    have p11 := (P'.out.cell 11).trans rfl
    have p12 := (P'.out.cell 12).trans rfl
    have p13 := (P'.out.cell 13).trans rfl
    have B := Lib.hid B'.out
    have N := Lib.hid N'.out
    have P := Lib.hid P'.out
    have Y := Lib.hid Y'.out
    clear B' N' P' Y'
    have M := Lib.hid (Blk.new w' 26 #[.int .i64 0, .int .i64 0, .int .i64 0, .int .i64 0, .int .i64 0, .int .i64 0, .int .i64 0, .int .i64 0, .int .i64 0, .int .i64 0, .int .i64 0, .int .i64 0, .int .i64 0, .float .f64 0])
    have N' := Lib.hid (N.out.alloc (.cells #[.int .i64 0, .int .i64 0, .int .i64 0, .int .i64 0, .int .i64 0, .int .i64 0, .int .i64 0, .int .i64 0, .int .i64 0, .int .i64 0, .int .i64 0, .int .i64 0, .int .i64 0, .float .f64 0] 26))
    have P' := Lib.hid (P.out.alloc (.cells #[.int .i64 0, .int .i64 0, .int .i64 0, .int .i64 0, .int .i64 0, .int .i64 0, .int .i64 0, .int .i64 0, .int .i64 0, .int .i64 0, .int .i64 0, .int .i64 0, .int .i64 0, .float .f64 0] 26))
    have B' := Lib.hid (below_alloc B.out (.cells #[.int .i64 0, .int .i64 0, .int .i64 0, .int .i64 0, .int .i64 0, .int .i64 0, .int .i64 0, .int .i64 0, .int .i64 0, .int .i64 0, .int .i64 0, .int .i64 0, .int .i64 0, .float .f64 0] 26))
    go_wp2_with (refine wpList_store (.tmp 6) (.tmp 35) 26 rfl rfl w'.heap.size 0 _ _ #[.int .i64 a0, .int .i64 a1, .int .i64 a2, .int .i64 a3, .int .i64 a4, .int .i64 a5, .int .i64 a6, .int .i64 a7, .int .i64 a8, .int .i64 a9, .int .i64 a10, .int .i64 a11, .int .i64 a12, .float .f64 x] rfl rfl M.out (by kernel_rfl) (by simp [Value.oneCell']) (by simp) ?_)
    intro w7 hn7 ko7
    have h7 : Blk w7 w'.heap.size 26 #[.int .i64 a0, .int .i64 a1, .int .i64 a2, .int .i64 a3, .int .i64 a4, .int .i64 a5, .int .i64 a6, .int .i64 a7, .int .i64 a8, .int .i64 a9, .int .i64 a10, .int .i64 a11, .int .i64 a12, .float .f64 x] := hn7
    have B7 := Lib.hid (B'.out.trans (ko7.below B.out.size))
    have N7 := Lib.hid (ko7.blk N'.out (Nat.ne_of_lt N.out.lt))
    have P7 := Lib.hid (ko7.blk P'.out (Nat.ne_of_lt P.out.lt))
    have Y7 := Lib.hid (Y.out.keep (Below.keeps ((below_alloc1 w' (.cells #[.int .i64 0, .int .i64 0, .int .i64 0, .int .i64 0, .int .i64 0, .int .i64 0, .int .i64 0, .int .i64 0, .int .i64 0, .int .i64 0, .int .i64 0, .int .i64 0, .int .i64 0, .float .f64 0] 26)).trans (ko7.below (Nat.le_refl _)))))
    have H7 := Lib.hid h7
    clear hn7 ko7 h7 M B' B N' P' N P Y n0 n1 n2 n3 n4 n5 n6 n7 n8 n9 n10 n11 n12 n13 p0 p1 p2 p3 p4 p5 p6 p7 p8 p9 p10 p11 p12 p13
    generalize w'.heap.size = gq at *
    have n0 := (N7.out.cell 0).trans rfl
    have n1 := (N7.out.cell 1).trans rfl
    have n2 := (N7.out.cell 2).trans rfl
    have n3 := (N7.out.cell 3).trans rfl
    have n4 := (N7.out.cell 4).trans rfl
    have n5 := (N7.out.cell 5).trans rfl
    have n6 := (N7.out.cell 6).trans rfl
    have n7 := (N7.out.cell 7).trans rfl
    have n8 := (N7.out.cell 8).trans rfl
    have n9 := (N7.out.cell 9).trans rfl
    have n10 := (N7.out.cell 10).trans rfl
    have n11 := (N7.out.cell 11).trans rfl
    have n12 := (N7.out.cell 12).trans rfl
    have n13 := (N7.out.cell 13).trans rfl
    have p0 := (P7.out.cell 0).trans rfl
    have p1 := (P7.out.cell 1).trans rfl
    have p2 := (P7.out.cell 2).trans rfl
    have p3 := (P7.out.cell 3).trans rfl
    have p4 := (P7.out.cell 4).trans rfl
    have p5 := (P7.out.cell 5).trans rfl
    have p6 := (P7.out.cell 6).trans rfl
    have p7 := (P7.out.cell 7).trans rfl
    have p8 := (P7.out.cell 8).trans rfl
    have p9 := (P7.out.cell 9).trans rfl
    have p10 := (P7.out.cell 10).trans rfl
    have p11 := (P7.out.cell 11).trans rfl
    have p12 := (P7.out.cell 12).trans rfl
    have p13 := (P7.out.cell 13).trans rfl
    have q0 := (H7.out.cell 0).trans rfl
    have q1 := (H7.out.cell 1).trans rfl
    have q2 := (H7.out.cell 2).trans rfl
    have q3 := (H7.out.cell 3).trans rfl
    have q4 := (H7.out.cell 4).trans rfl
    have q5 := (H7.out.cell 5).trans rfl
    have q6 := (H7.out.cell 6).trans rfl
    have q7 := (H7.out.cell 7).trans rfl
    have q8 := (H7.out.cell 8).trans rfl
    have q9 := (H7.out.cell 9).trans rfl
    have q10 := (H7.out.cell 10).trans rfl
    have q11 := (H7.out.cell 11).trans rfl
    have q12 := (H7.out.cell 12).trans rfl
    have q13 := (H7.out.cell 13).trans rfl
    have B := Lib.hid B7.out
    have N := Lib.hid N7.out
    have P := Lib.hid P7.out
    have Y := Lib.hid Y7.out
    have Q := Lib.hid H7.out
    clear B7 H7 N7 P7 Y7
    go_wp2_with fail
    refine wp_phi (fun wq => Below w.heap.size w wq ∧ Blk wq gp 28 #[.int .i64 a0, .int .i64 a1, .int .i64 a2, .int .i64 a3, .int .i64 a4, .int .i64 a5, .int .i64 a6, .int .i64 a7, .int .i64 a8, .int .i64 a9, .int .i64 a10, .int .i64 a11, .int .i64 a12, .float .f64 x] ∧ Blk wq gq 26 #[.int .i64 a0, .int .i64 a1, .int .i64 a2, .int .i64 a3, .int .i64 a4, .int .i64 a5, .int .i64 a6, .int .i64 a7, .int .i64 a8, .int .i64 a9, .int .i64 a10, .int .i64 a11, .int .i64 a12, .float .f64 x] ∧ Byt wq (.slice p l.length c) l) [(4, PVal (.string (bs l))), (5, PVal (.agg #[.int .i64 a0, .int .i64 a1, .int .i64 a2, .int .i64 a3, .int .i64 a4, .int .i64 a5, .int .i64 a6, .int .i64 a7, .int .i64 a8, .int .i64 a9, .int .i64 a10, .int .i64 a11, .int .i64 a12, .float .f64 x])), (6, PByt l), (7, PVal (.string (bs l))), (15, PVal (.agg #[.int .i64 a0, .int .i64 a1, .int .i64 a2, .int .i64 a3, .int .i64 a4, .int .i64 a5, .int .i64 a6, .int .i64 a7, .int .i64 a8, .int .i64 a9, .int .i64 a10, .int .i64 a11, .int .i64 a12, .float .f64 x])), (16, PVal (.agg #[.int .i64 a0, .int .i64 a1, .int .i64 a2, .int .i64 a3, .int .i64 a4, .int .i64 a5, .int .i64 a6, .int .i64 a7, .int .i64 a8, .int .i64 a9, .int .i64 a10, .int .i64 a11, .int .i64 a12, .float .f64 x])), (17, PVal (.bool true))] [(7, [6])] (by kernel_rfl) (by kernel_rfl) ?_ ?_ ⟨B.out.drew, P.out, Q.out, Y.out.keep (fun _ _ h => h)⟩ ?_
    · rintro w1 w2 ⟨a1, a2, a3, a4⟩ hb
      exact ⟨a1.trans (hb.mono a1.size), a2.below hb a2.lt, a3.below hb a3.lt, a4.keep (Below.keeps hb)⟩
    · simp only [List.mem_cons, List.not_mem_nil, or_false, forall_eq_or_imp, forall_eq]
      exact ⟨fun _ _ _ _ _ h => h, fun _ _ _ _ _ h => h, fun w w' v _ hb h => PByt_stays _ w w' v hb h, fun _ _ _ _ _ h => h, fun _ _ _ _ _ h => h, fun _ _ _ _ _ h => h, fun _ _ _ _ _ h => h⟩
    repeat (first | (refine phi_skipK rfl (fun K hK => ?_); simp only [Act.put, List.setIfInBounds_toArray, List.set_cons_succ, List.set_cons_zero]; (try simp only [List.cons_append]); (try simp only [List.nil_append]); apply hK; clear hK K) | (refine phi_pureK rfl rfl (fun K hK => ?_); apply Exists.intro; constructor; (focus (rintro w' ⟨h0, hP, hQ, hY⟩; (clear h0 hP hQ hY); first | (go_simp; done) | (go_simp; (try go_bits); (try go_simp); rfl) | go_simp)); simp only [Act.put, List.setIfInBounds_toArray, List.set_cons_succ, List.set_cons_zero]; (try simp only [List.cons_append]); (try simp only [List.nil_append]); apply hK; clear hK K))
    refine phi_partK (PVal (.string (bs l))) rfl rfl ⟨_, rfl⟩ ?_ (fun K hK v hv => ?_)
    · rintro wq ⟨h0, hP, hQ, hY⟩ hf
      have s1 := str_of hY
      clear h0 hP hQ hY hf
      unfold gives
      go_simp
      exact ⟨rfl, trivial, Below.refl _ _⟩
    obtain rfl : v = _ := hv
    simp only [Act.put, List.setIfInBounds_toArray, List.set_cons_succ, List.set_cons_zero]; (try simp only [List.cons_append]); (try simp only [List.nil_append])
    apply hK
    clear hK K
    repeat (first | (refine phi_skipK rfl (fun K hK => ?_); simp only [Act.put, List.setIfInBounds_toArray, List.set_cons_succ, List.set_cons_zero]; (try simp only [List.cons_append]); (try simp only [List.nil_append]); apply hK; clear hK K) | (refine phi_pureK rfl rfl (fun K hK => ?_); apply Exists.intro; constructor; (focus (rintro w' ⟨h0, hP, hQ, hY⟩; (clear h0 hP hQ hY); first | (go_simp; done) | (go_simp; (try go_bits); (try go_simp); rfl) | go_simp)); simp only [Act.put, List.setIfInBounds_toArray, List.set_cons_succ, List.set_cons_zero]; (try simp only [List.cons_append]); (try simp only [List.nil_append]); apply hK; clear hK K))
    refine phi_partK (PVal (.agg #[.int .i64 a0, .int .i64 a1, .int .i64 a2, .int .i64 a3, .int .i64 a4, .int .i64 a5, .int .i64 a6, .int .i64 a7, .int .i64 a8, .int .i64 a9, .int .i64 a10, .int .i64 a11, .int .i64 a12, .float .f64 x])) rfl rfl ⟨_, rfl⟩ ?_ (fun K hK v hv => ?_)
    · rintro wq ⟨h0, hP, hQ, hY⟩ hf
      have m0 := (hP.cell 0).trans rfl
      have m1 := (hP.cell 1).trans rfl
      have m2 := (hP.cell 2).trans rfl
      have m3 := (hP.cell 3).trans rfl
      have m4 := (hP.cell 4).trans rfl
      have m5 := (hP.cell 5).trans rfl
      have m6 := (hP.cell 6).trans rfl
      have m7 := (hP.cell 7).trans rfl
      have m8 := (hP.cell 8).trans rfl
      have m9 := (hP.cell 9).trans rfl
      have m10 := (hP.cell 10).trans rfl
      have m11 := (hP.cell 11).trans rfl
      have m12 := (hP.cell 12).trans rfl
      have m13 := (hP.cell 13).trans rfl
      clear h0 hP hQ hY hf
      unfold gives
      go_simp
      exact ⟨rfl, trivial, Below.refl _ _⟩
    obtain rfl : v = _ := hv
    simp only [Act.put, List.setIfInBounds_toArray, List.set_cons_succ, List.set_cons_zero]; (try simp only [List.cons_append]); (try simp only [List.nil_append])
    apply hK
    clear hK K
    repeat (first | (refine phi_skipK rfl (fun K hK => ?_); simp only [Act.put, List.setIfInBounds_toArray, List.set_cons_succ, List.set_cons_zero]; (try simp only [List.cons_append]); (try simp only [List.nil_append]); apply hK; clear hK K) | (refine phi_pureK rfl rfl (fun K hK => ?_); apply Exists.intro; constructor; (focus (rintro w' ⟨h0, hP, hQ, hY⟩; (clear h0 hP hQ hY); first | (go_simp; done) | (go_simp; (try go_bits); (try go_simp); rfl) | go_simp)); simp only [Act.put, List.setIfInBounds_toArray, List.set_cons_succ, List.set_cons_zero]; (try simp only [List.cons_append]); (try simp only [List.nil_append]); apply hK; clear hK K))
    refine phi_partK (PByt l) rfl rfl ⟨_, none, 0, rfl⟩ ?_ (fun K hK v hv => ?_)
    · rintro wq ⟨h0, hP, hQ, hY⟩ _
      unfold gives
      go_simp
      refine (HRB.out _).mono ?_
      rintro e w'' ⟨p', c', rfl, hy, hb⟩
      exact ⟨_, rfl, ⟨_, _, rfl⟩, hy, hb⟩
    obtain ⟨p', c', rfl⟩ := hv
    simp only [Act.put, List.setIfInBounds_toArray, List.set_cons_succ, List.set_cons_zero]; (try simp only [List.cons_append]); (try simp only [List.nil_append])
    apply hK
    clear hK K
    refine phi_partK (PVal (.string (bs l))) rfl rfl ⟨_, rfl⟩ ?_ (fun K hK v hv => ?_)
    · rintro wq ⟨h0, hP, hQ, hY⟩ hf
      have hby : Byt wq _ l := hf (6, fun w => (PByt l).fact w (.slice p' l.length c')) (by simp) (List.contains_iff_mem.1 rfl)
      have hs := str_of hby
      clear hf hby h0 hP hQ hY
      unfold gives
      go_simp
      exact ⟨rfl, trivial, Below.refl _ _⟩
    obtain rfl : v = _ := hv
    simp only [Act.put, List.setIfInBounds_toArray, List.set_cons_succ, List.set_cons_zero]; (try simp only [List.cons_append]); (try simp only [List.nil_append])
    apply hK
    clear hK K
    repeat (first | (refine phi_skipK rfl (fun K hK => ?_); simp only [Act.put, List.setIfInBounds_toArray, List.set_cons_succ, List.set_cons_zero]; (try simp only [List.cons_append]); (try simp only [List.nil_append]); apply hK; clear hK K) | (refine phi_pureK rfl rfl (fun K hK => ?_); apply Exists.intro; constructor; (focus (rintro w' ⟨h0, hP, hQ, hY⟩; (clear h0 hP hQ hY); first | (go_simp; done) | (go_simp; (try go_bits); (try go_simp); rfl) | go_simp)); simp only [Act.put, List.setIfInBounds_toArray, List.set_cons_succ, List.set_cons_zero]; (try simp only [List.cons_append]); (try simp only [List.nil_append]); apply hK; clear hK K))
    refine phi_partK (PVal (.agg #[.int .i64 a0, .int .i64 a1, .int .i64 a2, .int .i64 a3, .int .i64 a4, .int .i64 a5, .int .i64 a6, .int .i64 a7, .int .i64 a8, .int .i64 a9, .int .i64 a10, .int .i64 a11, .int .i64 a12, .float .f64 x])) rfl rfl ⟨_, rfl⟩ ?_ (fun K hK v hv => ?_)
    · rintro wq ⟨h0, hP, hQ, hY⟩ hf
      have m0 := (hQ.cell 0).trans rfl
      have m1 := (hQ.cell 1).trans rfl
      have m2 := (hQ.cell 2).trans rfl
      have m3 := (hQ.cell 3).trans rfl
      have m4 := (hQ.cell 4).trans rfl
      have m5 := (hQ.cell 5).trans rfl
      have m6 := (hQ.cell 6).trans rfl
      have m7 := (hQ.cell 7).trans rfl
      have m8 := (hQ.cell 8).trans rfl
      have m9 := (hQ.cell 9).trans rfl
      have m10 := (hQ.cell 10).trans rfl
      have m11 := (hQ.cell 11).trans rfl
      have m12 := (hQ.cell 12).trans rfl
      have m13 := (hQ.cell 13).trans rfl
      clear h0 hP hQ hY hf
      unfold gives
      go_simp
      exact ⟨rfl, trivial, Below.refl _ _⟩
    obtain rfl : v = _ := hv
    simp only [Act.put, List.setIfInBounds_toArray, List.set_cons_succ, List.set_cons_zero]; (try simp only [List.cons_append]); (try simp only [List.nil_append])
    apply hK
    clear hK K
    repeat (first | (refine phi_skipK rfl (fun K hK => ?_); simp only [Act.put, List.setIfInBounds_toArray, List.set_cons_succ, List.set_cons_zero]; (try simp only [List.cons_append]); (try simp only [List.nil_append]); apply hK; clear hK K) | (refine phi_pureK rfl rfl (fun K hK => ?_); apply Exists.intro; constructor; (focus (rintro w' ⟨h0, hP, hQ, hY⟩; (clear h0 hP hQ hY); first | (go_simp; done) | (go_simp; (try go_bits); (try go_simp); rfl) | go_simp)); simp only [Act.put, List.setIfInBounds_toArray, List.set_cons_succ, List.set_cons_zero]; (try simp only [List.cons_append]); (try simp only [List.nil_append]); apply hK; clear hK K))
    refine phi_partK (PVal (.agg #[.int .i64 a0, .int .i64 a1, .int .i64 a2, .int .i64 a3, .int .i64 a4, .int .i64 a5, .int .i64 a6, .int .i64 a7, .int .i64 a8, .int .i64 a9, .int .i64 a10, .int .i64 a11, .int .i64 a12, .float .f64 x])) rfl rfl ⟨_, rfl⟩ ?_ (fun K hK v hv => ?_)
    · rintro wq ⟨h0, hP, hQ, hY⟩ hf
      have m0 := (hP.cell 0).trans rfl
      have m1 := (hP.cell 1).trans rfl
      have m2 := (hP.cell 2).trans rfl
      have m3 := (hP.cell 3).trans rfl
      have m4 := (hP.cell 4).trans rfl
      have m5 := (hP.cell 5).trans rfl
      have m6 := (hP.cell 6).trans rfl
      have m7 := (hP.cell 7).trans rfl
      have m8 := (hP.cell 8).trans rfl
      have m9 := (hP.cell 9).trans rfl
      have m10 := (hP.cell 10).trans rfl
      have m11 := (hP.cell 11).trans rfl
      have m12 := (hP.cell 12).trans rfl
      have m13 := (hP.cell 13).trans rfl
      clear h0 hP hQ hY hf
      unfold gives
      go_simp
      exact ⟨rfl, trivial, Below.refl _ _⟩
    obtain rfl : v = _ := hv
    simp only [Act.put, List.setIfInBounds_toArray, List.set_cons_succ, List.set_cons_zero]; (try simp only [List.cons_append]); (try simp only [List.nil_append])
    apply hK
    clear hK K
    repeat (first | (refine phi_skipK rfl (fun K hK => ?_); simp only [Act.put, List.setIfInBounds_toArray, List.set_cons_succ, List.set_cons_zero]; (try simp only [List.cons_append]); (try simp only [List.nil_append]); apply hK; clear hK K) | (refine phi_pureK rfl rfl (fun K hK => ?_); apply Exists.intro; constructor; (focus (rintro w' ⟨h0, hP, hQ, hY⟩; (clear h0 hP hQ hY); first | (go_simp; done) | (go_simp; (try go_bits); (try go_simp); rfl) | go_simp)); simp only [Act.put, List.setIfInBounds_toArray, List.set_cons_succ, List.set_cons_zero]; (try simp only [List.cons_append]); (try simp only [List.nil_append]); apply hK; clear hK K))
    refine phi_partK (PVal (.bool true)) rfl rfl ⟨_, rfl⟩ ?_ (fun K hK v hv => ?_)
    · rintro wq ⟨h0, hP, hQ, hY⟩ hf
      clear hf
      unfold gives
      go_simp
      refine (HSX.out _).mono ?_
      rintro e w'' ⟨rfl, hb⟩
      exact ⟨_, rfl, rfl, trivial, hb⟩
    obtain rfl : v = _ := hv
    simp only [Act.put, List.setIfInBounds_toArray, List.set_cons_succ, List.set_cons_zero]; (try simp only [List.cons_append]); (try simp only [List.nil_append])
    apply hK
    clear hK K
    repeat (first | (refine phi_skipK rfl (fun K hK => ?_); simp only [Act.put, List.setIfInBounds_toArray, List.set_cons_succ, List.set_cons_zero]; (try simp only [List.cons_append]); (try simp only [List.nil_append]); apply hK; clear hK K) | (refine phi_pureK rfl rfl (fun K hK => ?_); apply Exists.intro; constructor; (focus (rintro w' ⟨h0, hP, hQ, hY⟩; (clear h0 hP hQ hY); first | (go_simp; done) | (go_simp; (try go_bits); (try go_simp); rfl) | go_simp)); simp only [Act.put, List.setIfInBounds_toArray, List.set_cons_succ, List.set_cons_zero]; (try simp only [List.cons_append]); (try simp only [List.nil_append]); apply hK; clear hK K))
    refine phi_done ?_
    rintro w9 ⟨hB, _, _, _⟩ _
    have B9 := Lib.hid hB
    clear hB
    refine wpList_nil ?_
    go_wp2_with fail
    go_ret
    exact ⟨rfl, B9.out⟩
end Go.Proofs.YtjklcbdlfmmllaaGreatDoor
