/-
  IdsW2: package ids: Node, Act, Reg, Part, Right.
-/
import Derived.Test.YtehdbiilbbbbpaaDoorIdsW
namespace Go.Proofs.YtehdbiilbbbbpaaDoor
open Go.RowKit Go.Extern.Stop Go.Stop Go.Extern

def actV (x y : Int) : Value := .agg #[.int .i64 x, .int .i64 y]
theorem act_any (w : World) (E : Nat → Addr) (x y : Int) (hx : -9223372036854775808 ≤ x) (hy : -9223372036854775808 ≤ y) (h : IdsG w E) :
    Calls Tryd.prog 10 #[actV x y] w (TextV E (actT x y) w) := by
  have hmf := @run_makeFunc Tryd.prog
  have hb1 := below_alloc1 w (.cells #[.int .i64 x, .int .i64 y] 23)
  have HB1 := Lib.hid hb1
  have HN1 := Lib.hid (Blk.new w 23 #[.int .i64 x, .int .i64 y])
  have HG1 := Lib.hid (h.below hb1)
  clear h hb1
  unfold actV
  go_enter Tryd.func10, Tryd.ntmps10
  go_wp2_with fail
  generalize w.alloc (.cells #[.int .i64 x, .int .i64 y] 23) = w1 at *
  refine (try_text w1 E _ _ (actT x y) HG1.out.errs (fun w => by simp [go_sem]) (fun w2 hb => act1_any w2 E w.heap.size x y hx hy (HG1.out.below hb) (HN1.out.below hb HN1.out.lt))).mono ?_
  rintro e w2 ⟨hb2, rfl⟩
  have HB2 := Lib.hid (HB1.out.trans (hb2.mono HB1.out.size))
  clear hb2
  go_wp2_with fail
  go_ret2
  exact ⟨HB2.out, rfl⟩
theorem node_any (w : World) (E : Nat → Addr) (x : Int) (hx : -9223372036854775808 ≤ x) (h : IdsG w E) :
    Calls Tryd.prog 12 #[.int .i64 x] w (TextV E (nodeT x) w) := by
  have hmf := @run_makeFunc Tryd.prog
  have hb1 := below_alloc1 w (.cells #[.int .i64 x] 3)
  have HB1 := Lib.hid hb1
  have HN1 := Lib.hid (Blk.new w 3 #[.int .i64 x])
  have HG1 := Lib.hid (h.below hb1)
  clear h hb1
  go_enter Tryd.func12, Tryd.ntmps12
  go_wp2_with fail
  generalize w.alloc (.cells #[.int .i64 x] 3) = w1 at *
  refine (try_text w1 E _ _ (nodeT x) HG1.out.errs (fun w => by simp [go_sem]) (fun w2 hb => node1_any w2 E w.heap.size x hx (HG1.out.below hb) (HN1.out.below hb HN1.out.lt))).mono ?_
  rintro e w2 ⟨hb2, rfl⟩
  have HB2 := Lib.hid (HB1.out.trans (hb2.mono HB1.out.size))
  clear hb2
  go_wp2_with fail
  go_ret2
  exact ⟨HB2.out, rfl⟩
theorem part_any (w : World) (E : Nat → Addr) (x y : Int) (hx : -9223372036854775808 ≤ x) (hy : -9223372036854775808 ≤ y) (h : IdsG w E) :
    Calls Tryd.prog 9 #[.int .i64 x, .int .i64 y] w (TextV E (partT x y) w) := by
  have hmf := @run_makeFunc Tryd.prog
  have hb1 := below_alloc (below_alloc1 w (.cells #[.int .i64 x] 3)) (.cells #[.int .i64 y] 3)
  have HB1 := Lib.hid hb1
  have HN1 := Lib.hid ((Blk.new w 3 #[.int .i64 x]).alloc (.cells #[.int .i64 y] 3))
  have HM1 := Lib.hid (show Blk ((w.alloc (.cells #[.int .i64 x] 3)).alloc (.cells #[.int .i64 y] 3)) (w.heap.size + 1) 3 #[.int .i64 y] from by
    have := Blk.new (w.alloc (.cells #[.int .i64 x] 3)) 3 #[.int .i64 y]
    rwa [World.size_alloc] at this)
  have HG1 := Lib.hid (h.below hb1)
  clear h hb1
  go_enter Tryd.func9, Tryd.ntmps9
  go_wp2_with fail
  generalize (w.alloc (.cells #[.int .i64 x] 3)).alloc (.cells #[.int .i64 y] 3) = w1 at *
  refine (try_text w1 E _ _ (partT x y) HG1.out.errs (fun w => by simp [go_sem]) (fun w2 hb => part1_any w2 E w.heap.size (w.heap.size + 1) x y hx hy (HG1.out.below hb) (HN1.out.below hb HN1.out.lt) (HM1.out.below hb HM1.out.lt))).mono ?_
  rintro e w2 ⟨hb2, rfl⟩
  have HB2 := Lib.hid (HB1.out.trans (hb2.mono HB1.out.size))
  clear hb2
  go_wp2_with fail
  go_ret2
  exact ⟨HB2.out, rfl⟩
theorem must_text (w : World) (E : Nat → Addr) (o : Option (List UInt8)) :
    Calls Tryd.prog 27 #[.string (bs (o.getD [])), errV E (ebad o)] w (TextR E o w) := by
  cases o with
  | some l =>
    show Calls Tryd.prog 27 #[.string (bs l), .nilIface] w _
    go_enter Tryd.func27, Tryd.ntmps27
    go_wp2_with fail
    refine (check_nil w).mono ?_
    rintro e w1 ⟨rfl, rfl⟩
    go_wp2_with fail
    go_ret
    exact ⟨Below.refl _ _, .inl ⟨_, rfl, rfl⟩⟩
  | none =>
    have HC := Lib.hid (check_err w E 0)
    rw [errV_suc] at HC
    show Calls Tryd.prog 27 #[.string (bs []), errV E 1] w _
    rw [errV_suc]
    unfold panE errAt at HC
    go_enter Tryd.func27, Tryd.ntmps27
    go_wp2_with fail
    refine HC.out.mono ?_
    rintro e w1 ⟨rfl, rfl⟩
    go_wp2_with fail
    exact ⟨rfl, Below.refl _ _, .inr ⟨rfl, rfl⟩⟩
theorem right_any (w : World) (E : Nat → Addr) (x y : Int) (hx : -9223372036854775808 ≤ x) (hy : -9223372036854775808 ≤ y) (h : IdsG w E) :
    Calls Tryd.prog 17 #[actV x y] w fun e w' => e = .returned (.bool (actT x y).isSome) ∧ Below w.heap.size w w' := by
  have hb1 := below_alloc1 w (.cells #[.int .i64 x, .int .i64 y] 23)
  have HB1 := Lib.hid hb1
  have hn1 := Blk.new w 23 #[.int .i64 x, .int .i64 y]
  have c0 := (hn1.cell 0).trans rfl
  have c1 := (hn1.cell 1).trans rfl
  have HA := Lib.hid (act_any _ E x y hx hy (h.below hb1))
  clear h hb1 hn1
  unfold actV at HA ⊢
  go_enter Tryd.func17, Tryd.ntmps17
  go_wp2_with fail
  refine HA.out.mono ?_
  rintro e w2 ⟨hb2, rfl⟩
  have HB2 := Lib.hid (HB1.out.trans (hb2.mono HB1.out.size))
  clear hb2 HA
  cases ho : actT x y with
  | some l =>
    have HO := Lib.hid ho
    clear ho
    rw [show errV E (ebad (some l)) = .nilIface from rfl]
    go_wp2_with fail
    go_ret
    rw [HO.out]
    exact ⟨rfl, HB2.out⟩
  | none =>
    have HO := Lib.hid ho
    clear ho
    rw [show errV E (ebad (none : Option (List UInt8))) = .iface 124 (.pointer (some (E 0))) from rfl]
    go_wp2_with fail
    go_ret
    rw [HO.out]
    exact ⟨rfl, HB2.out⟩
theorem regT_some {a b r : Int} (h1 : actT a b ≠ none) (h2 : numT r 5 ≠ none) : regT a b r = some ((actT a b).getD [] ++ 47 :: (numT r 5).getD []) := by
  unfold regT
  cases h : actT a b with
  | none => exact absurd h h1
  | some l =>
    cases h' : numT r 5 with
    | none => exact absurd h' h2
    | some m => rfl
theorem regT_none {a b r : Int} (h : actT a b = none ∨ numT r 5 = none) : regT a b r = none := by
  unfold regT
  rcases h with h | h
  · rw [h]; rfl
  · rw [h]; cases actT a b <;> rfl
theorem actT_getD (a b : Int) : ((actT a b).getD []).length ≤ 20 := by
  cases h : actT a b with
  | none => simp
  | some l => exact actT_len h
theorem reg1_any (w : World) (E : Nat → Addr) (b c : Nat) (x y r : Int) (hx : -9223372036854775808 ≤ x) (hy : -9223372036854775808 ≤ y) (hr : -9223372036854775808 ≤ r) (h : IdsG w E) (hb : Blk w b 23 #[.int .i64 x, .int .i64 y]) (hc : Blk w c 3 #[.int .i64 r]) :
    Calls Tryd.prog 26 #[.pointer (some ⟨b, 0, none⟩), .pointer (some ⟨c, 0, none⟩)] w (TextR E (regT x y r) w) := by
  have HG := Lib.hid h
  have HB := Lib.hid hb
  have HC := Lib.hid hc
  have hs : ∀ w (a b : List UInt8), a.length ≤ 100 → b.length ≤ 100 → (Op.stringOp .add (bs a) (bs b)).run Tryd.prog w = .ok (.string (bs (a ++ b))) w := fun w a b h1 h2 => run_str_add w a b (by omega)
  have l1 := actT_getD x y
  have l2 := numT_getD r 5 (by omega)
  clear h hb hc
  go_enter Tryd.func26, Tryd.ntmps26
  go_wp2_with fail
  refine PX.wp_phi_tail (List.take 9 _) (List.drop 9 _) (List.take_append_drop 9 _).symm (fun ch w' => ch = panE E 0 ∧ Below w.heap.size w w' ∧ regT x y r = none) ?_ (fun w' => Below w.heap.size w w' ∧ Blk w' b 23 #[.int .i64 x, .int .i64 y] ∧ Blk w' c 3 #[.int .i64 r] ∧ IdsG w' E) [(1, PVal (.tuple #[.string (bs ((actT x y).getD [])), errV E (ebad (actT x y))])), (4, PTxt (actT x y)), (7, PTxt (numT r 5))] [] (by kernel_rfl) (by kernel_rfl) ?_ ?_ ⟨(Below.refl _ _).drew, HB.out, HC.out, HG.out.below (Below.refl _ _).drew⟩ ?_
  · rintro ch a w' hd ⟨rfl, hb, ho⟩
    simp only [Exit.then, bodyPost]
    exact ⟨hd, hb, .inr ⟨ho, rfl⟩⟩
  · rintro w1' w2' ⟨h1, h2, h3, h4⟩ hb
    exact ⟨h1.trans (hb.mono h1.size), h2.below hb h2.lt, h3.below hb h3.lt, h4.below hb⟩
  · simp only [List.mem_cons, List.not_mem_nil, or_false, forall_eq_or_imp, forall_eq]
    exact ⟨fun _ _ _ _ _ h => h, fun _ _ _ _ _ h => h, fun _ _ _ _ _ h => h⟩
  simp only [List.take_succ_cons, List.take_zero, List.drop_succ_cons, List.drop_zero]
  repeat (first | (refine PX.phi_skipK rfl (fun K hK => ?_); simp only [Act.put, List.setIfInBounds_toArray, List.set_cons_succ, List.set_cons_zero]; (try simp only [List.cons_append]); (try simp only [List.nil_append]); apply hK; clear hK K) | (refine PX.phi_pureK rfl rfl (fun K hK => ?_); apply Exists.intro; constructor; (focus (rintro w' ⟨h1, h2, h3, h4⟩; (have c0 := (h2.cell 0).trans rfl; have c1 := (h2.cell 1).trans rfl); first | (go_simp; done) | (go_simp; (try go_bits); (try go_simp); rfl) | go_simp)); simp only [Act.put, List.setIfInBounds_toArray, List.set_cons_succ, List.set_cons_zero]; (try simp only [List.cons_append]); (try simp only [List.nil_append]); apply hK; clear hK K))
  refine PX.phi_partK (PVal (.tuple #[.string (bs ((actT x y).getD [])), errV E (ebad (actT x y))])) rfl rfl ⟨_, rfl⟩ ?_ (fun K hK v hv => ?_)
  · rintro w' ⟨h1, h2, h3, h4⟩ _
    unfold PX.gives
    go_simp
    refine (act_any w' E x y hx hy h4).mono ?_
    rintro e w'' ⟨hb, rfl⟩
    exact .inl ⟨_, rfl, rfl, trivial, hb⟩
  obtain rfl : v = _ := hv
  simp only [Act.put, List.setIfInBounds_toArray, List.set_cons_succ, List.set_cons_zero]; (try simp only [List.cons_append]); (try simp only [List.nil_append])
  apply hK
  clear hK K
  repeat (first | (refine PX.phi_skipK rfl (fun K hK => ?_); simp only [Act.put, List.setIfInBounds_toArray, List.set_cons_succ, List.set_cons_zero]; (try simp only [List.cons_append]); (try simp only [List.nil_append]); apply hK; clear hK K) | (refine PX.phi_pureK rfl rfl (fun K hK => ?_); apply Exists.intro; constructor; (focus (rintro w' ⟨h1, h2, h3, h4⟩; (skip); first | (go_simp; done) | (go_simp; (try go_bits); (try go_simp); rfl) | go_simp)); simp only [Act.put, List.setIfInBounds_toArray, List.set_cons_succ, List.set_cons_zero]; (try simp only [List.cons_append]); (try simp only [List.nil_append]); apply hK; clear hK K))
  refine PX.phi_partK (PTxt (actT x y)) rfl rfl ⟨_, rfl⟩ ?_ (fun K hK v hv => ?_)
  · rintro w' ⟨h1, h2, h3, h4⟩ _
    unfold PX.gives
    go_simp
    refine (must_text w' E (actT x y)).mono ?_
    rintro e w'' ⟨hb, ⟨l, ho, rfl⟩ | ⟨ho, rfl⟩⟩
    · exact .inl ⟨_, rfl, by unfold PTxt; rw [ho]; rfl, by unfold PTxt; rw [ho]; simp, hb⟩
    · exact .inr ⟨_, rfl, rfl, h1.trans (hb.mono h1.size), regT_none (.inl ho)⟩
  obtain rfl : v = _ := hv
  simp only [Act.put, List.setIfInBounds_toArray, List.set_cons_succ, List.set_cons_zero]; (try simp only [List.cons_append]); (try simp only [List.nil_append])
  apply hK
  clear hK K
  repeat (first | (refine PX.phi_skipK rfl (fun K hK => ?_); simp only [Act.put, List.setIfInBounds_toArray, List.set_cons_succ, List.set_cons_zero]; (try simp only [List.cons_append]); (try simp only [List.nil_append]); apply hK; clear hK K) | (refine PX.phi_pureK rfl rfl (fun K hK => ?_); apply Exists.intro; constructor; (focus (rintro w' ⟨h1, h2, h3, h4⟩; (have c0 := (h3.cell 0).trans rfl; have s2 : (Op.stringOp .add (bs ((actT x y).getD [])) ⟨#[47]⟩).run Tryd.prog w' = .ok (.string (bs ((actT x y).getD [] ++ [47]))) w' := hs w' ((actT x y).getD []) [47] (by omega) (by simp)); first | (go_simp; done) | (go_simp; (try go_bits); (try go_simp); rfl) | go_simp)); simp only [Act.put, List.setIfInBounds_toArray, List.set_cons_succ, List.set_cons_zero]; (try simp only [List.cons_append]); (try simp only [List.nil_append]); apply hK; clear hK K))
  refine PX.phi_partK (PTxt (numT r 5)) rfl rfl ⟨_, rfl⟩ ?_ (fun K hK v hv => ?_)
  · rintro w' ⟨h1, h2, h3, h4⟩ _
    unfold PX.gives
    go_simp
    refine (number_any r 5 (by omega) hr w' E h4).mono ?_
    rintro e w'' ⟨hb, ⟨l, ho, rfl⟩ | ⟨ho, rfl⟩⟩
    · exact .inl ⟨_, rfl, by unfold PTxt; rw [ho]; rfl, by unfold PTxt; rw [ho]; simp, hb⟩
    · exact .inr ⟨_, rfl, rfl, h1.trans (hb.mono h1.size), regT_none (.inr ho)⟩
  obtain rfl : v = _ := hv
  simp only [Act.put, List.setIfInBounds_toArray, List.set_cons_succ, List.set_cons_zero]; (try simp only [List.cons_append]); (try simp only [List.nil_append])
  apply hK
  clear hK K
  repeat (first | (refine PX.phi_skipK rfl (fun K hK => ?_); simp only [Act.put, List.setIfInBounds_toArray, List.set_cons_succ, List.set_cons_zero]; (try simp only [List.cons_append]); (try simp only [List.nil_append]); apply hK; clear hK K) | (refine PX.phi_pureK rfl rfl (fun K hK => ?_); apply Exists.intro; constructor; (focus (rintro w' ⟨h1, h2, h3, h4⟩; (have s1 : (Op.stringOp .add (bs ((actT x y).getD [] ++ [47])) (bs ((numT r 5).getD []))).run Tryd.prog w' = .ok (.string (bs ((actT x y).getD [] ++ [47] ++ (numT r 5).getD []))) w' := hs w' ((actT x y).getD [] ++ [47]) ((numT r 5).getD []) (by simp; omega) (by omega)); first | (go_simp; done) | (go_simp; (try go_bits); (try go_simp); rfl) | go_simp)); simp only [Act.put, List.setIfInBounds_toArray, List.set_cons_succ, List.set_cons_zero]; (try simp only [List.cons_append]); (try simp only [List.nil_append]); apply hK; clear hK K))
  refine PX.phi_done ?_
  rintro w1 ⟨h1, h2, h3, h4⟩ hf
  have e1 : actT x y ≠ none := hf (4, fun w => (PTxt (actT x y)).fact w (.string (bs ((actT x y).getD [])))) (by simp)
  have e2 : numT r 5 ≠ none := hf (7, fun w => (PTxt (numT r 5)).fact w (.string (bs ((numT r 5).getD [])))) (by simp)
  have HT := Lib.hid (regT_some e1 e2)
  have HB1 := Lib.hid h1
  clear hf e1 e2 h1 h2 h3 h4
  go_wp2_with fail
  go_ret
  exact ⟨HB1.out, .inl ⟨_, HT.out, by simp⟩⟩
theorem reg_any (w : World) (E : Nat → Addr) (x y r : Int) (hx : -9223372036854775808 ≤ x) (hy : -9223372036854775808 ≤ y) (hr : -9223372036854775808 ≤ r) (h : IdsG w E) :
    Calls Tryd.prog 8 #[actV x y, .int .i64 r] w (TextV E (regT x y r) w) := by
  have hmf := @run_makeFunc Tryd.prog
  have hb1 := below_alloc (below_alloc1 w (.cells #[.int .i64 x, .int .i64 y] 23)) (.cells #[.int .i64 r] 3)
  have HB1 := Lib.hid hb1
  have HN1 := Lib.hid ((Blk.new w 23 #[.int .i64 x, .int .i64 y]).alloc (.cells #[.int .i64 r] 3))
  have HM1 := Lib.hid (show Blk ((w.alloc (.cells #[.int .i64 x, .int .i64 y] 23)).alloc (.cells #[.int .i64 r] 3)) (w.heap.size + 1) 3 #[.int .i64 r] from by
    have := Blk.new (w.alloc (.cells #[.int .i64 x, .int .i64 y] 23)) 3 #[.int .i64 r]
    rwa [World.size_alloc] at this)
  have HG1 := Lib.hid (h.below hb1)
  clear h hb1
  unfold actV
  go_enter Tryd.func8, Tryd.ntmps8
  go_wp2_with fail
  generalize (w.alloc (.cells #[.int .i64 x, .int .i64 y] 23)).alloc (.cells #[.int .i64 r] 3) = w1 at *
  refine (try_text w1 E _ _ (regT x y r) HG1.out.errs (fun w => by simp [go_sem]) (fun w2 hb => reg1_any w2 E w.heap.size (w.heap.size + 1) x y r hx hy hr (HG1.out.below hb) (HN1.out.below hb HN1.out.lt) (HM1.out.below hb HM1.out.lt))).mono ?_
  rintro e w2 ⟨hb2, rfl⟩
  have HB2 := Lib.hid (HB1.out.trans (hb2.mono HB1.out.size))
  clear hb2
  go_wp2_with fail
  go_ret2
  exact ⟨HB2.out, rfl⟩
end Go.Proofs.YtehdbiilbbbbpaaDoor
