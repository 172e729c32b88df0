/- BndW -/
import Derived.Test.YthboiahdheehkaaGreatDoorBQ
import Derived.Test.YthboiahdheehkaaGreatDoorPA
import Derived.Test.YthboiahdheehkaaGreatDoorPD
import Derived.Test.YthboiahdheehkaaGreatDoorBA
namespace Go.Proofs.YthboiahdheehkaaGreatDoor
set_option maxHeartbeats 4000000
set_option maxRecDepth 20000
open Go.RowKit Go.Extern.Stop Go.Stop Go.Extern
attribute [local go_sem] bs_toList bs_size
attribute [local irreducible] wpPhi wpPhiU
theorem attr_any (n v : List UInt8) (w : World) : Calls Tryz.prog 63 #[.string (bs n), .string (bs v)] w (Gives w (.agg #[.string (bs []), .string (bs n), .string (bs v)])) := by
  have N0 := Blk.new w 87 #[.string ⟨#[]⟩, .string (bs n), .string (bs v)]
  have q0 := (N0.cell 0).trans rfl
  have q1 := (N0.cell 1).trans rfl
  have q2 := (N0.cell 2).trans rfl
  have hb := below_alloc1 w (.cells #[.string ⟨#[]⟩, .string (bs n), .string (bs v)] 87)
  clear N0
  go_enter Tryz.func63, Tryz.ntmps63
  go_wp2_with fail
  refine bodyPost_ret (v := .agg #[.string ⟨#[]⟩, .string (bs n), .string (bs v)]) (by simp [results, Tryz.results63, go_sem, q0, q1, q2]) rfl ?_
  exact ⟨rfl, hb⟩
theorem actT_right {a b : Int} (h : 0 ≤ a ∧ a < 4 ∧ 0 ≤ b ∧ b < 1000000) : actT a b = some (actS a.toNat b.toNat) := by
  unfold actT numT actS
  rw [if_pos (by omega), if_pos (by omega)]
  rfl
theorem must_str (s : List UInt8) (w : World) : Calls Tryz.prog 29 #[.string (bs s), .nilIface] w fun e w' => e = .returned (.string (bs s)) ∧ w = w' := by
  go_enter Tryz.func29, Tryz.ntmps29
  go_wp2_with (go_at_call 61; refine (check_nil _).mono ?_; rintro e w' ⟨rfl, rfl⟩)
  go_ret
  exact ⟨rfl, rfl⟩
theorem must_strG (s : List UInt8) (w : World) : Calls Tryz.prog 29 #[.string (bs s), .nilIface] w (Gives w (.string (bs s))) := by
  refine (must_str s w).mono ?_
  rintro e w' ⟨rfl, rfl⟩
  exact ⟨rfl, Below.refl _ _⟩
theorem itoa_nat (n : Nat) (h : n < 10000000000) (w : World) (E : Nat → Addr) (hg : IdsG w E) : Calls Tryz.prog 119 #[.int .i64 (n : Int)] w (Gives w (.string (bs (dec n)))) :=
  (Tryz.strconv_Itoa _ (by omega) (by omega) w hg.tab).mono (by
    rintro e w' ⟨rfl, kk, os, rfl⟩
    rw [Lib.itoa_nonneg]
    exact ⟨rfl, (below_drewN w kk).trans (below_grow (w.drewN kk) os)⟩)
theorem act_right {a b : Int} (h : 0 ≤ a ∧ a < 4 ∧ 0 ≤ b ∧ b < 1000000) (w : World) (E : Nat → Addr) (hg : IdsG w E) :
    Calls Tryz.prog 67 #[.agg #[.int .i64 a, .int .i64 b]] w (Gives w (.tuple #[.string (bs (actS a.toNat b.toNat)), .nilIface])) := by
  refine (act_any w E a b (by omega) (by omega) hg).mono ?_
  rintro e w' ⟨hb, rfl⟩
  rw [actT_right h]
  exact ⟨rfl, hb⟩
theorem id_any (n : Nat) (h : n < 1000000000) (w : World) (E : Nat → Addr) (hg : IdsG w E) : Calls Tryz.prog 65 #[.int .i64 (n : Int)] w (Gives w (.string (bs (idS (n : Int))))) := by
  have HI := Lib.hid (itoa_nat n (by omega) w E hg)
  have hl := (dec_len n 9 (by omega)).2
  have ha : ∀ w, (Op.stringOp .add ⟨#[117, 114, 110, 58, 108, 105, 97, 105, 115, 111, 110, 58, 109]⟩ (bs (dec n))).run Tryz.prog w = .ok (.string (bs (idS (n : Int)))) w := fun w =>
    run_str_add (P := Tryz.prog) w [117, 114, 110, 58, 108, 105, 97, 105, 115, 111, 110, 58, 109] (dec n) (by simp only [List.length_cons, List.length_nil]; omega)
  clear hg hl
  go_enter Tryz.func65, Tryz.ntmps65
  go_wp2_with (go_at_call 119; refine HI.out.mono ?_; rintro e w1 ⟨rfl, hb1⟩; have HB1 := Lib.hid hb1; clear hb1)
  go_ret
  exact ⟨rfl, HB1.out⟩
theorem reference_any (k f t : Int) (n s r p : Nat) (q c : Int) (h : n < 4 ∧ s < 1000000 ∧ r < 100 ∧ p < 100) (w : World) (E : Nat → Addr) (hg : IdsG w E) :
    Calls Tryz.prog 66 #[.agg #[.int .i64 k, .int .i64 f, .int .i64 t, .int .i64 n, .int .i64 s, .int .i64 r, .int .i64 p, .int .i64 q, .int .i64 c]] w fun e w' => ∃ g, e = .returned (.agg #[.string (bs ownL), .string (bs cRef), .slice (some ⟨g, 0, none⟩) 3 3, .slice none 0 0, .string (bs [])]) ∧ w.heap.size ≤ g ∧ g < w'.heap.size ∧
      Blk w' g 87 #[.string (bs []), .string (bs cAct), .string (bs (actS n s)), .string (bs []), .string (bs cReg), .string (bs (dec r)), .string (bs []), .string (bs cPart), .string (bs (dec p))] ∧ Below w.heap.size w w' := by
  have hb1 := below_alloc (below_alloc1 w (.cells #[.int .i64 k, .int .i64 f, .int .i64 t, .int .i64 n, .int .i64 s, .int .i64 r, .int .i64 p, .int .i64 q, .int .i64 c] 25)) (.cells #[.string ⟨#[]⟩, .string ⟨#[]⟩, .slice none 0 0, .slice none 0 0, .string ⟨#[]⟩] 44)
  have N1 := (Blk.new w 25 #[.int .i64 k, .int .i64 f, .int .i64 t, .int .i64 n, .int .i64 s, .int .i64 r, .int .i64 p, .int .i64 q, .int .i64 c]).alloc (.cells #[.string ⟨#[]⟩, .string ⟨#[]⟩, .slice none 0 0, .slice none 0 0, .string ⟨#[]⟩] 44)
  have M1 := Blk.new (w.alloc (.cells #[.int .i64 k, .int .i64 f, .int .i64 t, .int .i64 n, .int .i64 s, .int .i64 r, .int .i64 p, .int .i64 q, .int .i64 c] 25)) 44 #[.string ⟨#[]⟩, .string ⟨#[]⟩, .slice none 0 0, .slice none 0 0, .string ⟨#[]⟩]
  rw [World.size_alloc] at M1
  have HW1 := Lib.hid (hg.below hb1)
  have HB1 := Lib.hid hb1
  have HN1 := Lib.hid N1
  have HM1 := Lib.hid M1
  have HACT := Lib.hid (fun (w' : World) (hg : IdsG w' E) => act_right (a := (n : Int)) (b := (s : Int)) (by omega) w' E hg)
  have HIR := Lib.hid (fun (w' : World) (hg : IdsG w' E) => itoa_nat r (by omega) w' E hg)
  have HIP := Lib.hid (fun (w' : World) (hg : IdsG w' E) => itoa_nat p (by omega) w' E hg)
  clear hb1 N1 M1 hg h
  go_enter Tryz.func66, Tryz.ntmps66
  go_wp2_with fail
  generalize (w.alloc (.cells #[.int .i64 k, .int .i64 f, .int .i64 t, .int .i64 n, .int .i64 s, .int .i64 r, .int .i64 p, .int .i64 q, .int .i64 c] 25)).alloc (.cells #[.string ⟨#[]⟩, .string ⟨#[]⟩, .slice none 0 0, .slice none 0 0, .string ⟨#[]⟩] 44) = w1 at *
  refine wp_phi_tail (List.take 18 _) (List.drop 18 _) (List.take_append_drop 18 _).symm (fun w' => (Blk w' w.heap.size 25 #[.int .i64 k, .int .i64 f, .int .i64 t, .int .i64 n, .int .i64 s, .int .i64 r, .int .i64 p, .int .i64 q, .int .i64 c]) ∧ (Blk w' (w.heap.size + 1) 44 #[.string ⟨#[]⟩, .string ⟨#[]⟩, .slice none 0 0, .slice none 0 0, .string ⟨#[]⟩]) ∧ (IdsG w' E) ∧ Below w.heap.size w w') [(3, PVal (.tuple #[.string (bs (actS n s)), .nilIface])), (6, PVal (.string (bs (actS n s)))), (7, PVal (.agg #[.string (bs []), .string (bs cAct), .string (bs (actS n s))])), (10, PVal (.string (bs (dec r)))), (11, PVal (.agg #[.string (bs []), .string (bs cReg), .string (bs (dec r))])), (14, PVal (.string (bs (dec p)))), (15, PVal (.agg #[.string (bs []), .string (bs cPart), .string (bs (dec p))])), (16, PBlk w.heap.size 87 #[.string (bs []), .string (bs cAct), .string (bs (actS n s)), .string (bs []), .string (bs cReg), .string (bs (dec r)), .string (bs []), .string (bs cPart), .string (bs (dec p))] 3)] [] (by kernel_rfl) (by kernel_rfl) ?_ ?_ ⟨HN1.out, HM1.out, HW1.out.below (Below.drew (Below.refl _ _)), (HB1.out).drew⟩ ?_
  · rintro w1' w2' ⟨f1, f2, f3, hIB⟩ hb
    exact ⟨(by first | exact f1.below hb | exact f1.keep (Below.keeps hb) | exact Below.keeps hb _ _ f1 | exact Blk.below f1 hb (Blk.lt f1)), (by first | exact f2.below hb | exact f2.keep (Below.keeps hb) | exact Below.keeps hb _ _ f2 | exact Blk.below f2 hb (Blk.lt f2)), (by first | exact f3.below hb | exact f3.keep (Below.keeps hb) | exact Below.keeps hb _ _ f3 | exact Blk.below f3 hb (Blk.lt f3)), hIB.trans (hb.mono hIB.size)⟩
  · simp only [List.mem_cons, List.not_mem_nil, or_false, forall_eq_or_imp, forall_eq]
    exact ⟨fun _ _ _ _ h' h => PVal_stays _ _ _ _ h' h, fun _ _ _ _ h' h => PVal_stays _ _ _ _ h' h, fun _ _ _ _ h' h => PVal_stays _ _ _ _ h' h, fun _ _ _ _ h' h => PVal_stays _ _ _ _ h' h, fun _ _ _ _ h' h => PVal_stays _ _ _ _ h' h, fun _ _ _ _ h' h => PVal_stays _ _ _ _ h' h, fun _ _ _ _ h' h => PVal_stays _ _ _ _ h' h, fun _ _ _ _ h' h => PBlk_stays h' h⟩
  simp only [List.take_succ_cons, List.take_zero, List.drop_succ_cons, List.drop_zero]
  repeat (first | (refine phi_skipK rfl (fun K hK => ?_); simp only [Act.put, List.setIfInBounds_toArray, List.set_cons_succ, List.set_cons_zero, List.cons_append, List.nil_append]; apply hK; clear hK K) | (refine phi_pureK rfl rfl (fun K hK => ?_); apply Exists.intro; constructor; (focus (rintro w' ⟨f1, f2, f3, hIB⟩; have k3 := (f1.cell 3).trans rfl; have k4 := (f1.cell 4).trans rfl; have k5 := (f1.cell 5).trans rfl; have k6 := (f1.cell 6).trans rfl; clear f1 f2 f3 hIB; first | (go_simp; done) | (go_simp; (try go_bits); (try go_simp); rfl) | go_simp)); simp only [Act.put, List.setIfInBounds_toArray, List.set_cons_succ, List.set_cons_zero, List.cons_append, List.nil_append]; apply hK; clear hK K))
  refine phi_partK (PVal (.tuple #[.string (bs (actS n s)), .nilIface])) rfl rfl ⟨_, rfl⟩ ?_ (fun K hK v hv => ?_)
  · rintro w' ⟨f1, f2, f3, hIB⟩ hf
    unfold gives
    clear hf
    go_simp
    refine (HACT.out _ f3).mono ?_
    rintro e w'' ⟨rfl, hb⟩
    exact ⟨_, rfl, rfl, trivial, hb⟩
  obtain rfl : v = _ := hv
  simp only [Act.put, List.setIfInBounds_toArray, List.set_cons_succ, List.set_cons_zero, List.cons_append, List.nil_append]
  apply hK
  clear hK K
  repeat (first | (refine phi_skipK rfl (fun K hK => ?_); simp only [Act.put, List.setIfInBounds_toArray, List.set_cons_succ, List.set_cons_zero, List.cons_append, List.nil_append]; apply hK; clear hK K) | (refine phi_pureK rfl rfl (fun K hK => ?_); apply Exists.intro; constructor; (focus (rintro w' ⟨f1, f2, f3, hIB⟩; have k3 := (f1.cell 3).trans rfl; have k4 := (f1.cell 4).trans rfl; have k5 := (f1.cell 5).trans rfl; have k6 := (f1.cell 6).trans rfl; clear f1 f2 f3 hIB; first | (go_simp; done) | (go_simp; (try go_bits); (try go_simp); rfl) | go_simp)); simp only [Act.put, List.setIfInBounds_toArray, List.set_cons_succ, List.set_cons_zero, List.cons_append, List.nil_append]; apply hK; clear hK K))
  refine phi_partK (PVal (.string (bs (actS n s)))) rfl rfl ⟨_, rfl⟩ ?_ (fun K hK v hv => ?_)
  · rintro w' ⟨f1, f2, f3, hIB⟩ hf
    unfold gives
    clear hf
    go_simp
    refine (must_strG (actS n s) _).mono ?_
    rintro e w'' ⟨rfl, hb⟩
    exact ⟨_, rfl, rfl, trivial, hb⟩
  obtain rfl : v = _ := hv
  simp only [Act.put, List.setIfInBounds_toArray, List.set_cons_succ, List.set_cons_zero, List.cons_append, List.nil_append]
  apply hK
  clear hK K
  repeat (first | (refine phi_skipK rfl (fun K hK => ?_); simp only [Act.put, List.setIfInBounds_toArray, List.set_cons_succ, List.set_cons_zero, List.cons_append, List.nil_append]; apply hK; clear hK K) | (refine phi_pureK rfl rfl (fun K hK => ?_); apply Exists.intro; constructor; (focus (rintro w' ⟨f1, f2, f3, hIB⟩; have k3 := (f1.cell 3).trans rfl; have k4 := (f1.cell 4).trans rfl; have k5 := (f1.cell 5).trans rfl; have k6 := (f1.cell 6).trans rfl; clear f1 f2 f3 hIB; first | (go_simp; done) | (go_simp; (try go_bits); (try go_simp); rfl) | go_simp)); simp only [Act.put, List.setIfInBounds_toArray, List.set_cons_succ, List.set_cons_zero, List.cons_append, List.nil_append]; apply hK; clear hK K))
  refine phi_partK (PVal (.agg #[.string (bs []), .string (bs cAct), .string (bs (actS n s))])) rfl rfl ⟨_, rfl⟩ ?_ (fun K hK v hv => ?_)
  · rintro w' ⟨f1, f2, f3, hIB⟩ hf
    unfold gives
    clear hf
    go_simp
    refine (attr_any cAct _ _).mono ?_
    rintro e w'' ⟨rfl, hb⟩
    exact ⟨_, rfl, rfl, trivial, hb⟩
  obtain rfl : v = _ := hv
  simp only [Act.put, List.setIfInBounds_toArray, List.set_cons_succ, List.set_cons_zero, List.cons_append, List.nil_append]
  apply hK
  clear hK K
  repeat (first | (refine phi_skipK rfl (fun K hK => ?_); simp only [Act.put, List.setIfInBounds_toArray, List.set_cons_succ, List.set_cons_zero, List.cons_append, List.nil_append]; apply hK; clear hK K) | (refine phi_pureK rfl rfl (fun K hK => ?_); apply Exists.intro; constructor; (focus (rintro w' ⟨f1, f2, f3, hIB⟩; have k3 := (f1.cell 3).trans rfl; have k4 := (f1.cell 4).trans rfl; have k5 := (f1.cell 5).trans rfl; have k6 := (f1.cell 6).trans rfl; clear f1 f2 f3 hIB; first | (go_simp; done) | (go_simp; (try go_bits); (try go_simp); rfl) | go_simp)); simp only [Act.put, List.setIfInBounds_toArray, List.set_cons_succ, List.set_cons_zero, List.cons_append, List.nil_append]; apply hK; clear hK K))
  refine phi_partK (PVal (.string (bs (dec r)))) rfl rfl ⟨_, rfl⟩ ?_ (fun K hK v hv => ?_)
  · rintro w' ⟨f1, f2, f3, hIB⟩ hf
    unfold gives
    clear hf
    go_simp
    refine (HIR.out _ f3).mono ?_
    rintro e w'' ⟨rfl, hb⟩
    exact ⟨_, rfl, rfl, trivial, hb⟩
  obtain rfl : v = _ := hv
  simp only [Act.put, List.setIfInBounds_toArray, List.set_cons_succ, List.set_cons_zero, List.cons_append, List.nil_append]
  apply hK
  clear hK K
  repeat (first | (refine phi_skipK rfl (fun K hK => ?_); simp only [Act.put, List.setIfInBounds_toArray, List.set_cons_succ, List.set_cons_zero, List.cons_append, List.nil_append]; apply hK; clear hK K) | (refine phi_pureK rfl rfl (fun K hK => ?_); apply Exists.intro; constructor; (focus (rintro w' ⟨f1, f2, f3, hIB⟩; have k3 := (f1.cell 3).trans rfl; have k4 := (f1.cell 4).trans rfl; have k5 := (f1.cell 5).trans rfl; have k6 := (f1.cell 6).trans rfl; clear f1 f2 f3 hIB; first | (go_simp; done) | (go_simp; (try go_bits); (try go_simp); rfl) | go_simp)); simp only [Act.put, List.setIfInBounds_toArray, List.set_cons_succ, List.set_cons_zero, List.cons_append, List.nil_append]; apply hK; clear hK K))
  refine phi_partK (PVal (.agg #[.string (bs []), .string (bs cReg), .string (bs (dec r))])) rfl rfl ⟨_, rfl⟩ ?_ (fun K hK v hv => ?_)
  · rintro w' ⟨f1, f2, f3, hIB⟩ hf
    unfold gives
    clear hf
    go_simp
    refine (attr_any cReg _ _).mono ?_
    rintro e w'' ⟨rfl, hb⟩
    exact ⟨_, rfl, rfl, trivial, hb⟩
  obtain rfl : v = _ := hv
  simp only [Act.put, List.setIfInBounds_toArray, List.set_cons_succ, List.set_cons_zero, List.cons_append, List.nil_append]
  apply hK
  clear hK K
  repeat (first | (refine phi_skipK rfl (fun K hK => ?_); simp only [Act.put, List.setIfInBounds_toArray, List.set_cons_succ, List.set_cons_zero, List.cons_append, List.nil_append]; apply hK; clear hK K) | (refine phi_pureK rfl rfl (fun K hK => ?_); apply Exists.intro; constructor; (focus (rintro w' ⟨f1, f2, f3, hIB⟩; have k3 := (f1.cell 3).trans rfl; have k4 := (f1.cell 4).trans rfl; have k5 := (f1.cell 5).trans rfl; have k6 := (f1.cell 6).trans rfl; clear f1 f2 f3 hIB; first | (go_simp; done) | (go_simp; (try go_bits); (try go_simp); rfl) | go_simp)); simp only [Act.put, List.setIfInBounds_toArray, List.set_cons_succ, List.set_cons_zero, List.cons_append, List.nil_append]; apply hK; clear hK K))
  refine phi_partK (PVal (.string (bs (dec p)))) rfl rfl ⟨_, rfl⟩ ?_ (fun K hK v hv => ?_)
  · rintro w' ⟨f1, f2, f3, hIB⟩ hf
    unfold gives
    clear hf
    go_simp
    refine (HIP.out _ f3).mono ?_
    rintro e w'' ⟨rfl, hb⟩
    exact ⟨_, rfl, rfl, trivial, hb⟩
  obtain rfl : v = _ := hv
  simp only [Act.put, List.setIfInBounds_toArray, List.set_cons_succ, List.set_cons_zero, List.cons_append, List.nil_append]
  apply hK
  clear hK K
  repeat (first | (refine phi_skipK rfl (fun K hK => ?_); simp only [Act.put, List.setIfInBounds_toArray, List.set_cons_succ, List.set_cons_zero, List.cons_append, List.nil_append]; apply hK; clear hK K) | (refine phi_pureK rfl rfl (fun K hK => ?_); apply Exists.intro; constructor; (focus (rintro w' ⟨f1, f2, f3, hIB⟩; have k3 := (f1.cell 3).trans rfl; have k4 := (f1.cell 4).trans rfl; have k5 := (f1.cell 5).trans rfl; have k6 := (f1.cell 6).trans rfl; clear f1 f2 f3 hIB; first | (go_simp; done) | (go_simp; (try go_bits); (try go_simp); rfl) | go_simp)); simp only [Act.put, List.setIfInBounds_toArray, List.set_cons_succ, List.set_cons_zero, List.cons_append, List.nil_append]; apply hK; clear hK K))
  refine phi_partK (PVal (.agg #[.string (bs []), .string (bs cPart), .string (bs (dec p))])) rfl rfl ⟨_, rfl⟩ ?_ (fun K hK v hv => ?_)
  · rintro w' ⟨f1, f2, f3, hIB⟩ hf
    unfold gives
    clear hf
    go_simp
    refine (attr_any cPart _ _).mono ?_
    rintro e w'' ⟨rfl, hb⟩
    exact ⟨_, rfl, rfl, trivial, hb⟩
  obtain rfl : v = _ := hv
  simp only [Act.put, List.setIfInBounds_toArray, List.set_cons_succ, List.set_cons_zero, List.cons_append, List.nil_append]
  apply hK
  clear hK K
  repeat (first | (refine phi_skipK rfl (fun K hK => ?_); simp only [Act.put, List.setIfInBounds_toArray, List.set_cons_succ, List.set_cons_zero, List.cons_append, List.nil_append]; apply hK; clear hK K) | (refine phi_pureK rfl rfl (fun K hK => ?_); apply Exists.intro; constructor; (focus (rintro w' ⟨f1, f2, f3, hIB⟩; have k3 := (f1.cell 3).trans rfl; have k4 := (f1.cell 4).trans rfl; have k5 := (f1.cell 5).trans rfl; have k6 := (f1.cell 6).trans rfl; clear f1 f2 f3 hIB; first | (go_simp; done) | (go_simp; (try go_bits); (try go_simp); rfl) | go_simp)); simp only [Act.put, List.setIfInBounds_toArray, List.set_cons_succ, List.set_cons_zero, List.cons_append, List.nil_append]; apply hK; clear hK K))
  refine phi_partK (PBlk w.heap.size 87 #[.string (bs []), .string (bs cAct), .string (bs (actS n s)), .string (bs []), .string (bs cReg), .string (bs (dec r)), .string (bs []), .string (bs cPart), .string (bs (dec p))] 3) rfl rfl ⟨_, 0, rfl⟩ ?_ (fun K hK v hv => ?_)
  · rintro w' ⟨f1, f2, f3, hIB⟩ hf
    have HGS := Lib.hid hIB.size
    clear hf f1 f2 f3 hIB
    unfold gives
    go_simp
    refine ⟨⟨_, rfl⟩, fun g hg => ?_, below_alloc1 _ _⟩
    obtain rfl : w'.heap.size = g := by simpa using hg
    exact ⟨HGS.out, Blk.new _ _ _⟩
  obtain ⟨g_16, rfl⟩ := hv
  simp only [Act.put, List.setIfInBounds_toArray, List.set_cons_succ, List.set_cons_zero, List.cons_append, List.nil_append]
  apply hK
  clear hK K
  repeat (first | (refine phi_skipK rfl (fun K hK => ?_); simp only [Act.put, List.setIfInBounds_toArray, List.set_cons_succ, List.set_cons_zero, List.cons_append, List.nil_append]; apply hK; clear hK K) | (refine phi_pureK rfl rfl (fun K hK => ?_); apply Exists.intro; constructor; (focus (rintro w' ⟨f1, f2, f3, hIB⟩; have k3 := (f1.cell 3).trans rfl; have k4 := (f1.cell 4).trans rfl; have k5 := (f1.cell 5).trans rfl; have k6 := (f1.cell 6).trans rfl; clear f1 f2 f3 hIB; first | (go_simp; done) | (go_simp; (try go_bits); (try go_simp); rfl) | go_simp)); simp only [Act.put, List.setIfInBounds_toArray, List.set_cons_succ, List.set_cons_zero, List.cons_append, List.nil_append]; apply hK; clear hK K))
  refine phi_done ?_
  rintro w9 ⟨f1, f2, f3, hb9⟩ hk9
  have hb_16 := hk9 (16, fun w1 => (PBlk w.heap.size 87 #[.string (bs []), .string (bs cAct), .string (bs (actS n s)), .string (bs []), .string (bs cReg), .string (bs (dec r)), .string (bs []), .string (bs cPart), .string (bs (dec p))] 3).fact w1 (.slice (some ⟨g_16, 0, none⟩) 3 3)) (by simp) g_16 rfl
  clear hk9
  have HW := Lib.hid hb_16
  have HF2 := Lib.hid f2
  have HB9 := Lib.hid hb9
  clear f1 f2 f3 hb_16 hb9
  go_wp2_with (refine wpList_store (.tmp 2) (.tmp 20) 44 rfl rfl (w.heap.size + 1) 0 _ _ #[.string (bs ownL), .string (bs cRef), .slice (some ⟨g_16, 0, none⟩) 3 3, .slice none 0 0, .string (bs [])] rfl rfl HF2.out ?s0 ?s1 ?s2 ?_)
  case s0 => kernel_rfl
  case s1 => simp [Value.oneCell']
  case s2 => simp
  intro w8 hb8 ho8
  rw [putCells_all #[.string ⟨#[]⟩, .string ⟨#[]⟩, .slice none 0 0, .slice none 0 0, .string ⟨#[]⟩] #[.string (bs ownL), .string (bs cRef), .slice (some ⟨g_16, 0, none⟩) 3 3, .slice none 0 0, .string (bs [])] rfl] at hb8
  have z0 := (hb8.cell 0).trans rfl; have z1 := (hb8.cell 1).trans rfl; have z2 := (hb8.cell 2).trans rfl; have z3 := (hb8.cell 3).trans rfl; have z4 := (hb8.cell 4).trans rfl
  have HB8 := Lib.hid hb8; have HO8 := Lib.hid ho8
  clear hb8 ho8
  go_wp2_with fail
  refine bodyPost_ret (v := .agg #[.string (bs ownL), .string (bs cRef), .slice (some ⟨g_16, 0, none⟩) 3 3, .slice none 0 0, .string (bs [])]) (by simp [results, Tryz.results66, go_sem, z0, z1, z2, z3, z4]) rfl ?_
  obtain ⟨hg9, hk9⟩ := HW.out
  have hne : g_16 ≠ w.heap.size + 1 := fun e => by
    have h2 := HF2.out
    unfold Blk at hk9 h2
    rw [e, h2] at hk9
    cases hk9
  have hkb := HO8.out.blk hk9 hne
  exact ⟨g_16, rfl, hg9, hkb.lt, hkb, HB9.out.trans (Only.below HO8.out (by omega))⟩
end Go.Proofs.YthboiahdheehkaaGreatDoor
namespace Go.Proofs.YthboiahdheehkaaGreatDoor
set_option maxHeartbeats 4000000
set_option maxRecDepth 20000
open Go.RowKit Go.Extern.Stop Go.Stop Go.Extern
attribute [local go_sem] bs_toList bs_size
theorem node1_any (w : World) (E : Nat → Addr) (b : Nat) (x : Int) (hx : -9223372036854775808 ≤ x) (h : IdsG w E) (hb : Blk w b 3 #[.int .i64 x]) :
    Calls Tryz.prog 166 #[.pointer (some ⟨b, 0, none⟩)] w (TextR E (nodeT x) w) := by
  have HN := Lib.hid (idnum_any x 3 (by omega) hx w E h)
  have c0 := (hb.cell 0).trans rfl
  clear h hb
  go_enter Tryz.func166, Tryz.ntmps166
  go_wp2_with fail
  refine HN.out.mono ?_
  rintro e w1 ⟨hb, ⟨l, ho, rfl⟩ | ⟨ho, rfl⟩⟩
  · have HB := Lib.hid hb
    have s1 : (Op.stringOp .add ⟨#[110]⟩ (bs l)).run Tryz.prog w1 = .ok (.string (bs (110 :: l))) w1 := run_str_add w1 [110] l (by have := numT_len (by omega) ho; simp; omega)
    have HO := Lib.hid ho
    clear hb ho
    go_wp2_with fail
    go_ret
    exact ⟨HB.out, .inl ⟨_, by unfold nodeT; rw [HO.out]; rfl, rfl⟩⟩
  · have HB := Lib.hid hb
    have HO := Lib.hid ho
    clear hb ho
    unfold panE errAt
    go_wp2_with fail
    exact ⟨rfl, HB.out, .inr ⟨by unfold nodeT; rw [HO.out]; rfl, rfl⟩⟩
theorem node_any (w : World) (E : Nat → Addr) (x : Int) (hx : -9223372036854775808 ≤ x) (h : IdsG w E) :
    Calls Tryz.prog 118 #[.int .i64 x] w (TextV E (nodeT x) w) := by
  have hmf := @run_makeFunc Tryz.prog
  have hb1 := below_alloc1 w (.cells #[.int .i64 x] 3)
  have HB1 := Lib.hid hb1
  have HN1 := Lib.hid (Blk.new w 3 #[.int .i64 x])
  have HG1 := Lib.hid (h.below hb1)
  clear h hb1
  go_enter Tryz.func118, Tryz.ntmps118
  go_wp2_with fail
  generalize w.alloc (.cells #[.int .i64 x] 3) = w1 at *
  refine (try_text w1 E _ _ (nodeT x) HG1.out.errs (fun w => by simp [go_sem]) (fun w2 hb => node1_any w2 E w.heap.size x hx (HG1.out.below hb) (HN1.out.below hb HN1.out.lt))).mono ?_
  rintro e w2 ⟨hb2, rfl⟩
  have HB2 := Lib.hid (HB1.out.trans (hb2.mono HB1.out.size))
  clear hb2
  go_wp2_with fail
  go_ret2
  exact ⟨HB2.out, rfl⟩
theorem address_any (n : Nat) (h : n < 4) (w : World) (E : Nat → Addr) (hg : IdsG w E) : Calls Tryz.prog 64 #[.int .i64 (n : Int)] w (Gives w (.string (bs (addrS (n : Int))))) := by
  have hn : nodeT (n : Int) = some (110 :: dec n) := by
    unfold nodeT numT
    rw [if_pos (by omega)]
    rfl
  have hN := node_any w E (n : Int) (by omega) hg
  rw [hn] at hN
  have HN := Lib.hid (hN.mono (R' := fun e w' => e = .returned (.tuple #[.string (bs (110 :: dec n)), .nilIface]) ∧ Below w.heap.size w w') fun e w' h => ⟨h.2, h.1⟩)
  have HM := Lib.hid (fun w => must_str (110 :: dec n) w)
  have hl := (dec_len n 0 (by omega)).2
  have ha : ∀ w, (Op.stringOp .add ⟨#[117, 114, 110, 58, 108, 105, 97, 105, 115, 111, 110, 58]⟩ (bs (110 :: dec n))).run Tryz.prog w = .ok (.string (bs (addrS (n : Int)))) w := fun w => by
    have := run_str_add (P := Tryz.prog) w [117, 114, 110, 58, 108, 105, 97, 105, 115, 111, 110, 58] (110 :: dec n) (by simp only [List.length_cons, List.length_nil]; omega)
    unfold addrS
    rw [hn]
    exact this
  clear hg hl hn hN
  go_enter Tryz.func64, Tryz.ntmps64
  go_wp2_with (first | (go_at_call 118; refine HN.out.mono ?_; rintro e w1 ⟨rfl, hb1⟩; have HB1 := Lib.hid hb1; clear hb1) | (go_at_call 29; refine (HM.out w1).mono ?_; rintro e w2 ⟨rfl, rfl⟩))
  go_ret
  exact ⟨rfl, HB1.out⟩
end Go.Proofs.YthboiahdheehkaaGreatDoor
namespace Go.Proofs.YthboiahdheehkaaGreatDoor
set_option maxHeartbeats 4000000
set_option maxRecDepth 20000
open Go.RowKit Go.Extern.Stop Go.Stop Go.Extern
attribute [local go_sem] bs_toList
theorem must_strN (E : Nat → Addr) (s : List UInt8) (k : Nat) (w : World) : Calls Tryz.prog 29 #[.string (bs s), errV E (k + 1)] w fun e w' => e = .panicked (panE E k) ∧ Below w.heap.size w w' := by
  have HC := Lib.hid (fun w => check_err w E k)
  rw [show errV E (k + 1) = errAt (E k) from rfl] at HC ⊢
  unfold panE errAt at HC ⊢
  go_enter Tryz.func29, Tryz.ntmps29
  go_wp2_with (go_at_call 61; refine (HC.out _).mono ?_; rintro e w2 ⟨rfl, rfl⟩)
  exact ⟨rfl, rfl, Below.refl _ _⟩
def TxR (E : Nat → Addr) (s : List UInt8) (n : Nat) (w : World) (e : Ending) (w' : World) : Prop :=
  Below w.heap.size w w' ∧ ((n = 0 ∧ e = .returned (.string (bs s))) ∨ ∃ k, n = k + 1 ∧ k < 14 ∧ e = .panicked (panE E k))
theorem must_txt (E : Nat → Addr) (s : List UInt8) (n : Nat) (hn : n ≤ 14) (w : World) : Calls Tryz.prog 29 #[.string (bs s), errV E n] w (TxR E s n w) := by
  cases n with
  | zero =>
    refine (must_str s w).mono ?_
    rintro e w' ⟨rfl, rfl⟩
    exact ⟨Below.refl _ _, .inl ⟨rfl, rfl⟩⟩
  | succ k =>
    refine (must_strN E s k w).mono ?_
    rintro e w' ⟨rfl, hb⟩
    exact ⟨hb, .inr ⟨k, rfl, by omega, rfl⟩⟩
theorem try_txt (w : World) (E : Nat → Addr) (f : FuncId) (caps : Array Value) (s : List UInt8) (n : Nat) (he : Errs w E) (hcf : ∀ w, (callFunc f caps).run Tryz.prog w = .ok (.enter f caps) w)
    (hdo : ∀ w1, Below w.heap.size w w1 → Calls Tryz.prog f caps w1 (TxR E s n w1)) : Calls Tryz.prog 27 #[.func (.func f) #[] caps] w fun e w' => e = .returned (.tuple #[.string (bs (if n = 0 then s else [])), errV E n]) ∧ Below w.heap.size w w' := by
  refine (tryStr_any w E f caps [] (fun _ v _ => n = 0 ∧ v = .string (bs s)) (fun k _ _ => n = k + 1) (by simp) (fun w' h => he.below h.nil_below) (fun _ v _ h => by obtain ⟨_, rfl⟩ := h; exact ⟨_, rfl⟩) hcf (fun w1 hb _ => (hdo w1 hb).mono ?_)).mono ?_
  · rintro e w2 ⟨h1, h2⟩
    refine PanR.may (Q := fun k => n = k + 1) ⟨h1, ?_⟩
    rcases h2 with ⟨ho, rfl⟩ | ⟨k, ho, hk, rfl⟩
    · exact .inl ⟨_, rfl, ho, rfl⟩
    · exact .inr ⟨k, hk, ho, rfl⟩
  · intro e w' h
    obtain ⟨h1, h2⟩ := TryG.v (R := fun v _ => n = 0 ∧ v = .string (bs s)) (Q := fun k => n = k + 1) (fun _ _ _ _ h => h) h
    refine ⟨?_, h1⟩
    rcases h2 with ⟨v, rfl, rfl, rfl⟩ | ⟨k, _, rfl, rfl⟩
    · rfl
    · rw [if_neg (by omega)]
      rfl
end Go.Proofs.YthboiahdheehkaaGreatDoor
namespace Go.Proofs.YthboiahdheehkaaGreatDoor
set_option maxHeartbeats 4000000
set_option maxRecDepth 20000
open Go.RowKit
attribute [local go_sem] bs_toList bs_size
theorem errV_nil (E : Nat → Addr) : errV E 0 = .nilIface := rfl
theorem errV_four (E : Nat → Addr) : errV E 4 = .iface 313 (.pointer (some (E 3))) := rfl
def Tab (w : World) (g : Nat) (l : List (List UInt8)) : Prop := ∀ i, i < l.length → w.cell? ⟨g, i, none⟩ = some (.string (bs (l.getD i [])))
theorem Tab.below {w w' : World} {g : Nat} {l : List (List UInt8)} (h : Tab w g l) (hb : Below w.heap.size w w') : Tab w' g l := fun i hi => Below.keeps hb _ _ (h i hi)
theorem bnamed_any (l : List (List UInt8)) (g : Nat) (n : Int) (w : World) (ht : Tab w g l) (hl : l.length ≤ 100) :
    Calls Tryz.prog 112 #[.slice (some ⟨g, 0, none⟩) l.length l.length, .int .i64 n] w (Gives w (.string (bs (nameF l n)))) := by
  by_cases h1 : n < 1
  · have d1 : decide (n < 1) = true := by simpa using h1
    have HR := Lib.hid (show nameF l n = [] by unfold nameF; rw [if_pos (.inl h1)])
    clear h1
    go_enter Tryz.func112, Tryz.ntmps112
    go_wp2_with fail
    go_ret
    exact ⟨by rw [HR.out]; rfl, Below.refl _ _⟩
  · have d1 : decide (n < 1) = false := by simpa using h1
    by_cases h2 : (l.length : Int) < n
    · have d2 : decide ((l.length : Int) < n) = true := by simpa using h2
      have HR := Lib.hid (show nameF l n = [] by unfold nameF; rw [if_pos (.inr h2)])
      clear h1 h2
      go_enter Tryz.func112, Tryz.ntmps112
      go_wp2_with fail
      go_ret
      exact ⟨by rw [HR.out]; rfl, Below.refl _ _⟩
    · obtain ⟨k, rfl⟩ : ∃ k : Nat, n = (k : Int) + 1 := ⟨(n - 1).toNat, by omega⟩
      have hk : k < l.length := by omega
      have hki : (k : Int) < (l.length : Int) := by omega
      have d2 : decide ((l.length : Int) < (k : Int) + 1) = false := by simp; omega
      have HR := Lib.hid (show nameF l ((k : Int) + 1) = l.getD k [] by
        unfold nameF
        rw [if_neg (by omega)]
        congr 1; omega)
      have hc := ht k hk
      clear h1 h2 ht
      generalize l.getD k [] = s at *
      go_enter Tryz.func112, Tryz.ntmps112
      go_wp2_with fail
      go_ret
      exact ⟨by rw [HR.out]; rfl, Below.refl _ _⟩
theorem kindName_any (n : Int) (w : World) (ht : Tab w 14 kindsL) :
    Calls Tryz.prog 58 #[.int .i64 n] w (Gives w (.agg #[.string (bs (spaceF n)), .string (bs (kindF n))])) := by
  have HT := Lib.hid ht
  clear ht
  by_cases h : 17 ≤ n
  · have d : decide (17 ≤ n) = true := by simpa using h
    have HS := Lib.hid (show (16 < n) by omega)
    clear h
    go_enter Tryz.func58, Tryz.ntmps58
    go_wp2_with fail
    have hb1 := below_alloc1 w (.cells #[.string ⟨#[]⟩, .string ⟨#[]⟩] 41)
    refine (bnamed_any kindsL 14 n _ (HT.out.below hb1) (by decide)).mono ?_
    rintro e w2 ⟨rfl, hb2⟩
    have HN := Lib.hid (Blk.below (Blk.new w 41 #[.string ⟨#[]⟩, .string ⟨#[]⟩]) hb2 (by simp))
    have hb := hb1.trans (hb2.mono hb1.size)
    clear hb1 hb2
    go_wp2_with (refine wpList_store (.tmp 2) (.tmp 8) 41 rfl rfl w.heap.size 0 _ _ #[.string (bs wscoorL), .string (bs (nameF kindsL n))] rfl rfl HN.out (by kernel_rfl) ?s1 ?s2 ?_)
    case s1 => first | exact ⟨rfl, rfl⟩ | simp [Value.oneCell']
    case s2 => simp
    intro w7 hn7 ko7
    have h7 : Blk w7 w.heap.size 41 #[.string (bs wscoorL), .string (bs (nameF kindsL n))] := hn7
    have q0 := (h7.cell 0).trans rfl
    have q1 := (h7.cell 1).trans rfl
    go_wp2_with fail
    refine bodyPost_ret (v := .agg #[.string (bs wscoorL), .string (bs (nameF kindsL n))]) (by simp [results, Tryz.results58, go_sem, q0, q1]) rfl ?_
    exact ⟨by unfold spaceF kindF; rw [if_pos HS.out], hb.trans (ko7.below (Nat.le_refl _))⟩
  · have d : decide (17 ≤ n) = false := by simpa using h
    have HS := Lib.hid (show n ≤ 16 by omega)
    clear h
    go_enter Tryz.func58, Tryz.ntmps58
    go_wp2_with fail
    have hb1 := below_alloc1 w (.cells #[.string ⟨#[]⟩, .string ⟨#[]⟩] 41)
    refine (bnamed_any kindsL 14 n _ (HT.out.below hb1) (by decide)).mono ?_
    rintro e w2 ⟨rfl, hb2⟩
    have HN := Lib.hid (Blk.below (Blk.new w 41 #[.string ⟨#[]⟩, .string ⟨#[]⟩]) hb2 (by simp))
    have hb := hb1.trans (hb2.mono hb1.size)
    clear hb1 hb2
    go_wp2_with (refine wpList_store (.tmp 2) (.tmp 12) 41 rfl rfl w.heap.size 0 _ _ #[.string (bs wsbaL), .string (bs (nameF kindsL n))] rfl rfl HN.out (by kernel_rfl) ?s1 ?s2 ?_)
    case s1 => first | exact ⟨rfl, rfl⟩ | simp [Value.oneCell']
    case s2 => simp
    intro w7 hn7 ko7
    have h7 : Blk w7 w.heap.size 41 #[.string (bs wsbaL), .string (bs (nameF kindsL n))] := hn7
    have q0 := (h7.cell 0).trans rfl
    have q1 := (h7.cell 1).trans rfl
    go_wp2_with fail
    refine bodyPost_ret (v := .agg #[.string (bs wsbaL), .string (bs (nameF kindsL n))]) (by simp [results, Tryz.results58, go_sem, q0, q1]) rfl ?_
    exact ⟨by unfold spaceF kindF; rw [if_neg (Int.not_lt.2 HS.out)], hb.trans (ko7.below (Nat.le_refl _))⟩
def actE (n : Int) : Nat := if kindF n = [] then 4 else 0
theorem action_any (n : Int) (w : World) (E : Nat → Addr) (he : ErrsOn [3] w E) (ht : Tab w 14 kindsL) :
    Calls Tryz.prog 26 #[.int .i64 n] w (Gives w (.tuple #[.string (bs (actF n)), errV E (actE n)])) := by
  have HE := Lib.hid he
  have l1 := spaceF_len n
  have l2 := kindF_len n
  have HK := Lib.hid (kindName_any n w ht)
  clear he ht
  go_enter Tryz.func26, Tryz.ntmps26
  go_wp2_with fail
  refine HK.out.mono ?_
  rintro e w1 ⟨rfl, hb1⟩
  by_cases hk : kindF n = []
  · have hA := Lib.hid (show actF n = [] ∧ actE n = 4 by unfold actF actE; rw [if_pos hk, if_pos hk]; exact ⟨rfl, rfl⟩)
    rw [hk]
    have he3 := (HE.out.below (below_alloc hb1 (.cells #[.string (bs (spaceF n)), .string (bs [])] 41))).cell 3 rfl
    simp only [errVar, List.getD_cons_zero, List.getD_cons_succ, errAt] at he3
    clear hk HK
    go_wp2_with fail
    go_quiet (fail)
    go_wp2_with fail
    go_ret2
    exact ⟨by rw [hA.out.1, hA.out.2, errV_four]; rfl, (below_alloc hb1 _).trans ((below_drewN _ _).mono (below_alloc hb1 _).size)⟩
  · have hA := Lib.hid (show actF n = spaceF n ++ [47] ++ kindF n ∧ actE n = 0 by unfold actF actE; rw [if_neg hk, if_neg hk]; exact ⟨rfl, rfl⟩)
    have g1 : (kindF n == []) = false := by simpa using hk
    have g2 : (kindF n).isEmpty = false := by simpa using hk
    have s1 := fun w => run_str_add (P := Tryz.prog) w (spaceF n) [47] (by simp; omega)
    have s2 := fun w => run_str_add (P := Tryz.prog) w (spaceF n ++ [47]) (kindF n) (by simp; omega)
    clear hk HK
    go_wp2_with fail
    go_ret2
    exact ⟨by rw [hA.out.1, hA.out.2, ← bs_append, ← bs_append]; rfl, below_alloc hb1 _⟩
end Go.Proofs.YthboiahdheehkaaGreatDoor
namespace Go.Proofs.YthboiahdheehkaaGreatDoor
set_option maxHeartbeats 4000000
set_option maxRecDepth 20000
open Go.RowKit Go.Extern.Stop Go.Stop Go.Extern
attribute [local go_sem] bs_toList bs_size
attribute [local irreducible] wpPhi
structure TabB (w : World) : Prop where
  kinds : Tab w 14 kindsL
  states : Tab w 16 statesL
  codes : Tab w 17 codesL
  prots : Tab w 15 protsL
theorem TabB.below {w w' : World} (h : TabB w) (hb : Below w.heap.size w w') : TabB w' := ⟨h.kinds.below hb, h.states.below hb, h.codes.below hb, h.prots.below hb⟩
theorem stateName_any (n : Int) (w : World) (ht : Tab w 16 statesL) :
    Calls Tryz.prog 116 #[.int .i64 n] w (Gives w (.string (bs (nameF statesL n)))) := by
  have HN := Lib.hid (bnamed_any statesL 16 n w ht (by decide))
  clear ht
  go_enter Tryz.func116, Tryz.ntmps116
  go_wp2_with fail
  refine HN.out.mono ?_
  rintro e w1 ⟨rfl, hb1⟩
  go_wp2_with fail
  go_ret
  exact ⟨rfl, hb1⟩
theorem codeName_any (n : Int) (w : World) (ht : Tab w 17 codesL) :
    Calls Tryz.prog 117 #[.int .i64 n] w (Gives w (.string (bs (nameF codesL n)))) := by
  have HN := Lib.hid (bnamed_any codesL 17 n w ht (by decide))
  clear ht
  go_enter Tryz.func117, Tryz.ntmps117
  go_wp2_with fail
  refine HN.out.mono ?_
  rintro e w1 ⟨rfl, hb1⟩
  go_wp2_with fail
  go_ret
  exact ⟨rfl, hb1⟩
theorem says_any (m : Msg) (w : World) (ht : TabB w) :
    Calls Tryz.prog 62 #[msgV m] w (Gives w (.tuple #[.string (bs (saysF m).1), .string (bs (saysF m).2)])) := by
  obtain ⟨k, f, t, n, s, r, p, q, c⟩ := m
  unfold msgV saysF
  simp only
  have hb1 := below_alloc1 w (.cells #[.int .i64 k, .int .i64 f, .int .i64 t, .int .i64 n, .int .i64 s, .int .i64 r, .int .i64 p, .int .i64 q, .int .i64 c] 25)
  have hN := Blk.new w 25 #[.int .i64 k, .int .i64 f, .int .i64 t, .int .i64 n, .int .i64 s, .int .i64 r, .int .i64 p, .int .i64 q, .int .i64 c]
  have k0 := (hN.cell 0).trans rfl
  have k6 := (hN.cell 7).trans rfl
  have k7 := (hN.cell 8).trans rfl
  have HN := Lib.hid hN
  have HB1 := Lib.hid hb1
  have HT := Lib.hid (ht.below hb1)
  clear hb1 ht
  by_cases g1 : k = 17
  · subst g1
    rw [if_pos (.inl rfl)]
    clear hN k6 k7
    go_enter Tryz.func62, Tryz.ntmps62
    go_wp2_with fail
    clear k0
    generalize w.alloc (.cells #[.int .i64 17, .int .i64 f, .int .i64 t, .int .i64 n, .int .i64 s, .int .i64 r, .int .i64 p, .int .i64 q, .int .i64 c] 25) = w1 at *
    refine wp_phi (fun w' => (Blk w' w.heap.size 25 #[.int .i64 17, .int .i64 f, .int .i64 t, .int .i64 n, .int .i64 s, .int .i64 r, .int .i64 p, .int .i64 q, .int .i64 c]) ∧ (TabB w') ∧ Below w.heap.size w w') [(3, PVal (.string (bs (nameF protsL q))))] [] (by kernel_rfl) (by kernel_rfl) ?_ ?_ ⟨HN.out, HT.out.below (Below.drew (Below.refl _ _)), (HB1.out).drew⟩ ?_
    · rintro w1' w2' ⟨f1, f2, hIB⟩ hb
      exact ⟨(by first | exact f1.below hb | exact f1.keep (Below.keeps hb) | exact Below.keeps hb _ _ f1 | exact Blk.below f1 hb (Blk.lt f1)), (by first | exact f2.below hb | exact f2.keep (Below.keeps hb) | exact Below.keeps hb _ _ f2 | exact Blk.below f2 hb (Blk.lt f2)), hIB.trans (hb.mono hIB.size)⟩
    · simp only [List.mem_cons, List.not_mem_nil, or_false, forall_eq_or_imp, forall_eq]
      exact fun _ _ _ _ h' h => PVal_stays _ _ _ _ h' h
    repeat (first | (refine phi_skipK rfl (fun K hK => ?_); simp only [Act.put, List.setIfInBounds_toArray, List.set_cons_succ, List.set_cons_zero, List.cons_append, List.nil_append]; apply hK; clear hK K) | (refine phi_pureK rfl rfl (fun K hK => ?_); apply Exists.intro; constructor; (focus (rintro w' ⟨f1, f2, hIB⟩; have k6 := (f1.cell 7).trans rfl; clear f1 f2 hIB; first | (go_simp; done) | (go_simp; (try go_bits); (try go_simp); rfl) | go_simp)); simp only [Act.put, List.setIfInBounds_toArray, List.set_cons_succ, List.set_cons_zero, List.cons_append, List.nil_append]; apply hK; clear hK K))
    refine phi_partK (PVal (.string (bs (nameF protsL q)))) rfl rfl ⟨_, rfl⟩ ?_ (fun K hK v hv => ?_)
    · rintro w' ⟨f1, f2, hIB⟩ hf
      unfold gives
      clear hf
      go_simp
      refine (bnamed_any protsL 15 q _ f2.prots (by decide)).mono ?_
      rintro e w'' ⟨rfl, hb⟩
      exact ⟨_, rfl, rfl, trivial, hb⟩
    obtain rfl : v = _ := hv
    simp only [Act.put, List.setIfInBounds_toArray, List.set_cons_succ, List.set_cons_zero, List.cons_append, List.nil_append]
    apply hK
    clear hK K
    repeat (first | (refine phi_skipK rfl (fun K hK => ?_); simp only [Act.put, List.setIfInBounds_toArray, List.set_cons_succ, List.set_cons_zero, List.cons_append, List.nil_append]; apply hK; clear hK K) | (refine phi_pureK rfl rfl (fun K hK => ?_); apply Exists.intro; constructor; (focus (rintro w' ⟨f1, f2, hIB⟩; have k6 := (f1.cell 7).trans rfl; clear f1 f2 hIB; first | (go_simp; done) | (go_simp; (try go_bits); (try go_simp); rfl) | go_simp)); simp only [Act.put, List.setIfInBounds_toArray, List.set_cons_succ, List.set_cons_zero, List.cons_append, List.nil_append]; apply hK; clear hK K))
    refine phi_done ?_
    rintro w9 ⟨f1, f2, hb9⟩ _
    refine wpList_nil ?_
    have HB9 := Lib.hid hb9
    clear f1 f2 hb9
    go_wp2_with fail
    go_ret2
    exact ⟨rfl, HB9.out⟩
  by_cases g2 : k = 18
  · subst g2
    rw [if_pos (.inr rfl)]
    clear hN k6 k7
    go_enter Tryz.func62, Tryz.ntmps62
    go_wp2_with fail
    clear k0
    generalize w.alloc (.cells #[.int .i64 18, .int .i64 f, .int .i64 t, .int .i64 n, .int .i64 s, .int .i64 r, .int .i64 p, .int .i64 q, .int .i64 c] 25) = w1 at *
    refine wp_phi (fun w' => (Blk w' w.heap.size 25 #[.int .i64 18, .int .i64 f, .int .i64 t, .int .i64 n, .int .i64 s, .int .i64 r, .int .i64 p, .int .i64 q, .int .i64 c]) ∧ (TabB w') ∧ Below w.heap.size w w') [(3, PVal (.string (bs (nameF protsL q))))] [] (by kernel_rfl) (by kernel_rfl) ?_ ?_ ⟨HN.out, HT.out.below (Below.drew (Below.refl _ _)), (HB1.out).drew⟩ ?_
    · rintro w1' w2' ⟨f1, f2, hIB⟩ hb
      exact ⟨(by first | exact f1.below hb | exact f1.keep (Below.keeps hb) | exact Below.keeps hb _ _ f1 | exact Blk.below f1 hb (Blk.lt f1)), (by first | exact f2.below hb | exact f2.keep (Below.keeps hb) | exact Below.keeps hb _ _ f2 | exact Blk.below f2 hb (Blk.lt f2)), hIB.trans (hb.mono hIB.size)⟩
    · simp only [List.mem_cons, List.not_mem_nil, or_false, forall_eq_or_imp, forall_eq]
      exact fun _ _ _ _ h' h => PVal_stays _ _ _ _ h' h
    repeat (first | (refine phi_skipK rfl (fun K hK => ?_); simp only [Act.put, List.setIfInBounds_toArray, List.set_cons_succ, List.set_cons_zero, List.cons_append, List.nil_append]; apply hK; clear hK K) | (refine phi_pureK rfl rfl (fun K hK => ?_); apply Exists.intro; constructor; (focus (rintro w' ⟨f1, f2, hIB⟩; have k6 := (f1.cell 7).trans rfl; clear f1 f2 hIB; first | (go_simp; done) | (go_simp; (try go_bits); (try go_simp); rfl) | go_simp)); simp only [Act.put, List.setIfInBounds_toArray, List.set_cons_succ, List.set_cons_zero, List.cons_append, List.nil_append]; apply hK; clear hK K))
    refine phi_partK (PVal (.string (bs (nameF protsL q)))) rfl rfl ⟨_, rfl⟩ ?_ (fun K hK v hv => ?_)
    · rintro w' ⟨f1, f2, hIB⟩ hf
      unfold gives
      clear hf
      go_simp
      refine (bnamed_any protsL 15 q _ f2.prots (by decide)).mono ?_
      rintro e w'' ⟨rfl, hb⟩
      exact ⟨_, rfl, rfl, trivial, hb⟩
    obtain rfl : v = _ := hv
    simp only [Act.put, List.setIfInBounds_toArray, List.set_cons_succ, List.set_cons_zero, List.cons_append, List.nil_append]
    apply hK
    clear hK K
    repeat (first | (refine phi_skipK rfl (fun K hK => ?_); simp only [Act.put, List.setIfInBounds_toArray, List.set_cons_succ, List.set_cons_zero, List.cons_append, List.nil_append]; apply hK; clear hK K) | (refine phi_pureK rfl rfl (fun K hK => ?_); apply Exists.intro; constructor; (focus (rintro w' ⟨f1, f2, hIB⟩; have k6 := (f1.cell 7).trans rfl; clear f1 f2 hIB; first | (go_simp; done) | (go_simp; (try go_bits); (try go_simp); rfl) | go_simp)); simp only [Act.put, List.setIfInBounds_toArray, List.set_cons_succ, List.set_cons_zero, List.cons_append, List.nil_append]; apply hK; clear hK K))
    refine phi_done ?_
    rintro w9 ⟨f1, f2, hb9⟩ _
    refine wpList_nil ?_
    have HB9 := Lib.hid hb9
    clear f1 f2 hb9
    go_wp2_with fail
    go_ret2
    exact ⟨rfl, HB9.out⟩
  rw [if_neg (by rintro (h | h); exact g1 h; exact g2 h)]
  by_cases g3 : k = 16
  · subst g3
    rw [if_pos rfl]
    clear g1 g2
    have HC := Lib.hid (stateName_any c _ HT.out.states)
    clear hN k6
    go_enter Tryz.func62, Tryz.ntmps62
    go_wp2_with (go_at_call 116; refine HC.out.mono ?_; rintro e w2 ⟨rfl, hb2⟩; have HB2 := Lib.hid (HB1.out.trans (hb2.mono HB1.out.size)); clear hb2)
    go_ret2
    exact ⟨rfl, HB2.out⟩
  rw [if_neg g3]
  by_cases g4 : k = 19
  · subst g4
    rw [if_pos rfl]
    clear g1 g2 g3
    have HC := Lib.hid (codeName_any c _ HT.out.codes)
    clear hN k6
    go_enter Tryz.func62, Tryz.ntmps62
    go_wp2_with (go_at_call 117; refine HC.out.mono ?_; rintro e w2 ⟨rfl, hb2⟩; have HB2 := Lib.hid (HB1.out.trans (hb2.mono HB1.out.size)); clear hb2)
    go_ret2
    exact ⟨rfl, HB2.out⟩
  rw [if_neg g4]
  clear hN k6 k7
  go_enter Tryz.func62, Tryz.ntmps62
  go_wp2_with fail
  go_ret2
  exact ⟨rfl, HB1.out⟩
end Go.Proofs.YthboiahdheehkaaGreatDoor
