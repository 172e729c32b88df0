/-
  IdsL2: the laws of chapter 5: the document's texts; told; IdsTexts.
-/
import Derived.Test.YtehdbiilbbbbpaaDoorIdsL
namespace Go.Proofs.YtehdbiilbbbbpaaDoor
open Go.RowKit Go.Extern.Stop Go.Stop Go.Extern

theorem actT_isSome (x y : Int) : (actT x y).isSome = (decide (0 ≤ x) && decide (x < 4) && decide (0 ≤ y) && decide (y < 1000000)) := by
  unfold actT numT
  by_cases h1 : 0 ≤ x ∧ x ≤ 3
  · rw [if_pos h1]
    by_cases h2 : 0 ≤ y ∧ y ≤ 999999
    · rw [if_pos h2]
      simp only [Option.bind_some, Option.map_some, Option.isSome_some]
      symm
      simp only [Bool.and_eq_true, decide_eq_true_eq]
      omega
    · rw [if_neg h2]
      symm
      simp only [Option.bind_some, Option.map_none, Option.isSome_none, Bool.and_eq_false_iff, decide_eq_false_iff_not]
      omega
  · rw [if_neg h1]
    symm
    simp only [Option.bind_none, Option.isSome_none, Bool.and_eq_false_iff, decide_eq_false_iff_not]
    omega
theorem refright_any (x y : Int) (w : World) : Calls Tryd.prog 11 #[actV x y] w fun e w' => e = .returned (.bool (actT x y).isSome) ∧ Below w.heap.size w w' := by
  have HX := Lib.hid (actT_isSome x y)
  have hn := Blk.new w 23 #[.int .i64 x, .int .i64 y]
  have HB := Lib.hid (below_alloc1 w (.cells #[.int .i64 x, .int .i64 y] 23))
  have c0 := (hn.cell 0).trans rfl
  have c1 := (hn.cell 1).trans rfl
  clear hn
  unfold actV
  generalize ho : (actT x y).isSome = o at *
  clear ho
  cases h1 : decide (0 ≤ x) <;> cases h2 : decide (x < 4) <;> cases h3 : decide (0 ≤ y) <;> cases h4 : decide (y < 1000000) <;> rw [h1, h2, h3, h4] at HX
  all_goals
    obtain rfl : o = _ := HX.out
    clear HX
    go_enter Tryd.func11, Tryd.ntmps11
    go_wp2_with fail
    go_ret
    exact ⟨rfl, HB.out⟩
def actS (a b : Nat) : List UInt8 := 97 :: (dec a ++ 46 :: dec b)
theorem refact_any (a b : Nat) (ha : a ≤ 1000000) (hb : b ≤ 1000000) (w : World) : Calls Tryd.prog 14 #[actV (a : Int) (b : Int)] w fun e w' => e = .returned (.string (bs (actS a b))) ∧ Below w.heap.size w w' := by
  have hb1 := below_alloc1 w (.cells #[.int .i64 (a : Int), .int .i64 (b : Int)] 23)
  have HB := Lib.hid hb1
  have HN := Lib.hid (Blk.new w 23 #[.int .i64 (a : Int), .int .i64 (b : Int)])
  have la := (dec_len a 6 (by omega)).2
  have lb := (dec_len b 6 (by omega)).2
  have HDa := Lib.hid (fun w => refdig_any a ha w)
  have HDb := Lib.hid (fun w => refdig_any b hb w)
  unfold actS actV
  clear hb1 ha hb
  generalize dec a = A at *
  generalize dec b = B at *
  go_enter Tryd.func14, Tryd.ntmps14
  go_wp2_with fail
  generalize w.alloc (.cells #[.int .i64 (a : Int), .int .i64 (b : Int)] 23) = w1 at *
  refine wp_phi_tail (List.take 9 _) (List.drop 9 _) (List.take_append_drop 9 _).symm (fun w' => Below w.heap.size w w' ∧ Blk w' w.heap.size 23 #[.int .i64 (a : Int), .int .i64 (b : Int)]) [(2, PVal (.string (bs A))), (7, PVal (.string (bs B)))] [] (by kernel_rfl) (by kernel_rfl) ?_ ?_ ⟨HB.out.drew, HN.out⟩ ?_
  · rintro w1' w2' ⟨h1, h2⟩ hb
    exact ⟨h1.trans (hb.mono h1.size), h2.below hb h2.lt⟩
  · simp only [List.mem_cons, List.not_mem_nil, or_false, forall_eq_or_imp, forall_eq]
    exact ⟨fun _ _ _ _ _ h => h, fun _ _ _ _ _ h => h⟩
  simp only [List.take_succ_cons, List.take_zero, List.drop_succ_cons, List.drop_zero]
  repeat (first | (refine phi_skipK rfl (fun K hK => ?_); simp only [Act.put, List.setIfInBounds_toArray, List.set_cons_succ, List.set_cons_zero]; (try simp only [List.cons_append]); (try simp only [List.nil_append]); apply hK; clear hK K) | (refine phi_pureK rfl rfl (fun K hK => ?_); apply Exists.intro; constructor; (focus (rintro w' ⟨h1, h2⟩; (have c0 := (h2.cell 0).trans rfl; have c1 := (h2.cell 1).trans rfl); first | (go_simp; done) | (go_simp; (try go_bits); (try go_simp); rfl) | go_simp)); simp only [Act.put, List.setIfInBounds_toArray, List.set_cons_succ, List.set_cons_zero]; (try simp only [List.cons_append]); (try simp only [List.nil_append]); apply hK; clear hK K))
  refine phi_partK (PVal (.string (bs A))) rfl rfl ⟨_, rfl⟩ ?_ (fun K hK v hv => ?_)
  · rintro w' ⟨h1, h2⟩ _
    unfold gives
    go_simp
    refine (HDa.out w').mono ?_
    rintro e w'' ⟨rfl, hb⟩
    exact ⟨_, rfl, rfl, trivial, hb⟩
  obtain rfl : v = _ := hv
  simp only [Act.put, List.setIfInBounds_toArray, List.set_cons_succ, List.set_cons_zero]; (try simp only [List.cons_append]); (try simp only [List.nil_append])
  apply hK
  clear hK K
  repeat (first | (refine phi_skipK rfl (fun K hK => ?_); simp only [Act.put, List.setIfInBounds_toArray, List.set_cons_succ, List.set_cons_zero]; (try simp only [List.cons_append]); (try simp only [List.nil_append]); apply hK; clear hK K) | (refine phi_pureK rfl rfl (fun K hK => ?_); apply Exists.intro; constructor; (focus (rintro w' ⟨h1, h2⟩; (have c0 := (h2.cell 0).trans rfl; have c1 := (h2.cell 1).trans rfl; have s1 : (Op.stringOp .add ⟨#[97]⟩ (bs A)).run Tryd.prog w' = .ok (.string (bs (97 :: A))) w' := run_str_add w' [97] A (by simp; omega); have s2 : (Op.stringOp .add (bs (97 :: A)) ⟨#[46]⟩).run Tryd.prog w' = .ok (.string (bs (97 :: (A ++ [46])))) w' := run_str_add w' (97 :: A) [46] (by simp; omega)); first | (go_simp; done) | (go_simp; (try go_bits); (try go_simp); rfl) | go_simp)); simp only [Act.put, List.setIfInBounds_toArray, List.set_cons_succ, List.set_cons_zero]; (try simp only [List.cons_append]); (try simp only [List.nil_append]); apply hK; clear hK K))
  refine phi_partK (PVal (.string (bs B))) rfl rfl ⟨_, rfl⟩ ?_ (fun K hK v hv => ?_)
  · rintro w' ⟨h1, h2⟩ _
    unfold gives
    go_simp
    refine (HDb.out w').mono ?_
    rintro e w'' ⟨rfl, hb⟩
    exact ⟨_, rfl, rfl, trivial, hb⟩
  obtain rfl : v = _ := hv
  simp only [Act.put, List.setIfInBounds_toArray, List.set_cons_succ, List.set_cons_zero]; (try simp only [List.cons_append]); (try simp only [List.nil_append])
  apply hK
  clear hK K
  repeat (first | (refine phi_skipK rfl (fun K hK => ?_); simp only [Act.put, List.setIfInBounds_toArray, List.set_cons_succ, List.set_cons_zero]; (try simp only [List.cons_append]); (try simp only [List.nil_append]); apply hK; clear hK K) | (refine phi_pureK rfl rfl (fun K hK => ?_); apply Exists.intro; constructor; (focus (rintro w' ⟨h1, h2⟩; (have s2 : (Op.stringOp .add (bs (97 :: (A ++ [46]))) (bs B)).run Tryd.prog w' = .ok (.string (bs (97 :: (A ++ [46] ++ B)))) w' := run_str_add w' (97 :: (A ++ [46])) B (by simp; omega)); first | (go_simp; done) | (go_simp; (try go_bits); (try go_simp); rfl) | go_simp)); simp only [Act.put, List.setIfInBounds_toArray, List.set_cons_succ, List.set_cons_zero]; (try simp only [List.cons_append]); (try simp only [List.nil_append]); apply hK; clear hK K))
  refine phi_done ?_
  rintro w2 ⟨h1, h2⟩ _
  have HB2 := Lib.hid h1
  clear h1 h2
  go_wp2_with fail
  go_ret
  exact ⟨rfl, HB2.out⟩
theorem refreg_any (a b r : Nat) (ha : a ≤ 1000000) (hb : b ≤ 1000000) (hr : r ≤ 1000000) (w : World) : Calls Tryd.prog 15 #[actV (a : Int) (b : Int), .int .i64 (r : Int)] w fun e w' => e = .returned (.string (bs (actS a b ++ 47 :: dec r))) ∧ Below w.heap.size w w' := by
  have hb1 := below_alloc1 w (.cells #[.int .i64 (a : Int), .int .i64 (b : Int)] 23)
  have HB := Lib.hid hb1
  have hn := Blk.new w 23 #[.int .i64 (a : Int), .int .i64 (b : Int)]
  have c0 := (hn.cell 0).trans rfl
  have c1 := (hn.cell 1).trans rfl
  have la := (dec_len a 6 (by omega)).2
  have lb := (dec_len b 6 (by omega)).2
  have lr := (dec_len r 6 (by omega)).2
  have lS : (actS a b).length ≤ 20 := by unfold actS; simp; omega
  have HDa := Lib.hid (fun w => refact_any a b ha hb w)
  have HDb := Lib.hid (fun w => refdig_any r hr w)
  unfold actV at HDa ⊢
  clear hb1 ha hb hn la lb
  generalize actS a b = A at *
  generalize dec r = B at *
  go_enter Tryd.func15, Tryd.ntmps15
  go_wp2_with fail
  refine (HDa.out _).mono ?_
  rintro e w2 ⟨rfl, hb2⟩
  have HB2 := Lib.hid (HB.out.trans (hb2.mono HB.out.size))
  have s1 : ∀ w', (Op.stringOp .add (bs A) ⟨#[47]⟩).run Tryd.prog w' = .ok (.string (bs (A ++ [47]))) w' := fun w' => run_str_add w' A [47] (by simp; omega)
  have s2 : ∀ w', (Op.stringOp .add (bs (A ++ [47])) (bs B)).run Tryd.prog w' = .ok (.string (bs (A ++ [47] ++ B))) w' := fun w' => run_str_add w' (A ++ [47]) B (by simp; omega)
  clear hb2 c0 c1
  go_wp2_with fail
  refine (HDb.out w2).mono ?_
  rintro e w3 ⟨rfl, hb3⟩
  have HB3 := Lib.hid (HB2.out.trans (hb3.mono HB2.out.size))
  clear hb3
  go_wp2_with fail
  go_ret
  exact ⟨rfl, HB3.out⟩
theorem refpart_any (a b : Nat) (ha : a ≤ 1000000) (hb : b ≤ 1000000) (w : World) : Calls Tryd.prog 16 #[.int .i64 (a : Int), .int .i64 (b : Int)] w fun e w' => e = .returned (.string (bs (112 :: (dec a ++ 46 :: dec b)))) ∧ Below w.heap.size w w' := by
  have la := (dec_len a 6 (by omega)).2
  have lb := (dec_len b 6 (by omega)).2
  have HDa := Lib.hid (fun w => refdig_any a ha w)
  have HDb := Lib.hid (fun w => refdig_any b hb w)
  clear ha hb
  generalize dec a = A at *
  generalize dec b = B at *
  go_enter Tryd.func16, Tryd.ntmps16
  go_wp2_with fail
  refine (HDa.out _).mono ?_
  rintro e w2 ⟨rfl, hb2⟩
  have HB2 := Lib.hid hb2
  have s0 : ∀ w', (Op.stringOp .add ⟨#[112]⟩ (bs A)).run Tryd.prog w' = .ok (.string (bs (112 :: A))) w' := fun w' => run_str_add w' [112] A (by simp; omega)
  have s1 : ∀ w', (Op.stringOp .add (bs (112 :: A)) ⟨#[46]⟩).run Tryd.prog w' = .ok (.string (bs (112 :: (A ++ [46])))) w' := fun w' => run_str_add w' (112 :: A) [46] (by simp; omega)
  have s2 : ∀ w', (Op.stringOp .add (bs (112 :: (A ++ [46]))) (bs B)).run Tryd.prog w' = .ok (.string (bs (112 :: (A ++ [46] ++ B)))) w' := fun w' => run_str_add w' (112 :: (A ++ [46])) B (by simp; omega)
  clear hb2
  go_wp2_with fail
  refine (HDb.out w2).mono ?_
  rintro e w3 ⟨rfl, hb3⟩
  have HB3 := Lib.hid (HB2.out.trans (hb3.mono HB2.out.size))
  clear hb3
  go_wp2_with fail
  go_ret
  exact ⟨rfl, HB3.out⟩
theorem told_any' (o : Option (List UInt8)) (m : List UInt8) (hm : ∀ l, o = some l → m = l) (w : World) (E : Nat → Addr) (he : Errs w E) :
    Calls Tryd.prog 18 #[.string (bs (o.getD [])), errV E (ebad o), .string (bs m), .bool o.isSome] w fun e w' => e = .returned (.bool true) ∧ Below w.heap.size w w' := by
  cases o with
  | some l =>
    obtain rfl := hm l rfl
    have hq : ((bs m).toList == (bs m).toList) = true := by simp
    have hq2 : (bs m == bs m) = true := by show ((bs m).data == (bs m).data) = true; simp
    show Calls _ _ #[.string (bs m), .nilIface, .string (bs m), .bool true] w _
    clear he hm
    go_enter Tryd.func18, Tryd.ntmps18
    go_wp2_with fail
    go_ret
    exact ⟨rfl, Below.refl _ _⟩
  | none =>
    have hem : (bs []).toList.isEmpty = true := by rw [bs_toList]; rfl
    have HM := Lib.hid (num_any w E 1 (by omega) he)
    rw [show errV E 1 = .iface 124 (.pointer (some (E 0))) from rfl] at HM
    show Calls _ _ #[.string (bs []), .iface 124 (.pointer (some (E 0))), .string (bs m), .bool false] w _
    clear he hm
    go_enter Tryd.func18, Tryd.ntmps18
    go_wp2_with fail
    refine HM.out.mono ?_
    rintro e w3 ⟨rfl, hb3⟩
    have HB3 := Lib.hid hb3
    clear hb3
    go_wp2_with fail
    go_ret
    exact ⟨rfl, HB3.out⟩
end Go.Proofs.YtehdbiilbbbbpaaDoor
