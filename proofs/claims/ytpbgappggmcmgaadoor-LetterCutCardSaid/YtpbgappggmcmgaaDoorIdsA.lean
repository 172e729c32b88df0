/-
  IdsA: the walks of package ids that make an activity's text (out of IdsW, IdsW2: for seats that hold no more of the package).
-/
import Derived.Test.YtpbgappggmcmgaaDoorIdsP
import Derived.Test.YtpbgappggmcmgaaDoorCheckP0
import Derived.Test.YtpbgappggmcmgaaDoorTryStr
import Derived.Test.YtpbgappggmcmgaaDoorPhiX
import Derived.Test.YtpbgappggmcmgaaDoorShelf
import Derived.WalkSmall
namespace Go.Proofs.YtpbgappggmcmgaaDoor
open Go.RowKit Go.Extern.Stop Go.Stop Go.Extern

/-- what is laid: package api's errors, the table of powers -/
structure IdsG (w : World) (E : Nat → Addr) : Prop where
  errs : Errs w E
  tab : Lib.TabIs Tryd.prog w "internal/strconv.uint64pow10" .u64 Lib.pow10Tab
theorem IdsG.below {w w' : World} {E : Nat → Addr} (h : IdsG w E) (hb : Below w.heap.size w w') : IdsG w' E := by
  refine ⟨h.errs.below hb, ?_⟩
  have ht := h.tab
  unfold Lib.TabIs at ht ⊢
  have hg : Tryd.prog.globalNamed "internal/strconv.uint64pow10" = some 14 := by kernel_rfl
  refine var?_below hb hg ?_ ht
  simp only [World.var?, hg, Option.bind_some] at ht
  split at ht
  · rename_i hh
    exact (Array.getElem?_eq_some_iff.1 hh).1
  · cases ht
theorem below_grow (w : World) (os : Array Obj) : Below w.heap.size w (Sort.grow w os) :=
  ⟨rfl, rfl, rfl, by simp [Sort.grow], fun k hk => by simp [Sort.grow, Array.getElem?_append_left hk]⟩
/-- ends with a text, or panics with ErrRange -/
def TextR (E : Nat → Addr) (o : Option (List UInt8)) (w : World) (e : Ending) (w' : World) : Prop :=
  Below w.heap.size w w' ∧ ((∃ l, o = some l ∧ e = .returned (.string (bs l))) ∨ (o = none ∧ e = .panicked (panE E 0)))
theorem idnum_any (n m : Int) (hm : m ≤ 999999) (hn : -9223372036854775808 ≤ n) (w : World) (E : Nat → Addr) (h : IdsG w E) :
    Calls Tryd.prog 62 #[.int .i64 n, .int .i64 m] w (TextR E (numT n m) w) := by
  have cE := h.errs.cell 0 (by omega)
  simp only [errVar, errAt, List.getD_cons_zero, List.getD_cons_succ] at cE
  have ht := h.tab
  by_cases h0 : 0 ≤ n
  · by_cases h1 : n ≤ m
    · have d0 : decide (n < 0) = false := decide_eq_false (by omega)
      have d1 : decide (m < n) = false := decide_eq_false (by omega)
      have HI := Lib.hid (Tryd.strconv_Itoa n hn (by omega) w ht)
      have HT := Lib.hid (show numT n m = some (Lib.itoa n) by
        unfold numT
        rw [if_pos ⟨h0, h1⟩]
        obtain ⟨k, rfl⟩ : ∃ k : Nat, n = (k : Int) := ⟨n.toNat, by omega⟩
        rw [Lib.itoa_nonneg]; rfl)
      clear cE ht h0 h1
      go_enter Tryd.func62, Tryd.ntmps62
      go_wp2_with fail
      refine HI.out.mono ?_
      rintro e w1 ⟨rfl, k, os, rfl⟩
      go_wp2_with fail
      go_ret
      rw [HT.out]
      exact ⟨(below_drewN w k).trans (below_grow (w.drewN k) os), .inl ⟨_, rfl, rfl⟩⟩
    · have d0 : decide (n < 0) = false := decide_eq_false (by omega)
      have d1 : decide (m < n) = true := decide_eq_true (by omega)
      have HT := Lib.hid (show numT n m = none by unfold numT; rw [if_neg (fun h => h1 h.2)])
      clear ht h0 h1
      go_enter Tryd.func62, Tryd.ntmps62
      go_wp2_with fail
      rw [HT.out]
      exact ⟨rfl, Below.refl _ _, .inr ⟨rfl, rfl⟩⟩
  · have d0 : decide (n < 0) = true := decide_eq_true (by omega)
    have HT := Lib.hid (show numT n m = none by unfold numT; rw [if_neg (fun h => h0 h.1)])
    clear ht h0
    go_enter Tryd.func62, Tryd.ntmps62
    go_wp2_with fail
    rw [HT.out]
    exact ⟨rfl, Below.refl _ _, .inr ⟨rfl, rfl⟩⟩
/-- a part of a region that is a text, or panics -/
def PTxt (o : Option (List UInt8)) : Part := ⟨fun v => v = .string (bs (o.getD [])), fun _ _ => o ≠ none⟩
theorem actT_some {a b : Int} (h1 : numT a 3 ≠ none) (h2 : numT b 999999 ≠ none) : actT a b = some (97 :: (numT a 3).getD [] ++ 46 :: (numT b 999999).getD []) := by
  unfold actT
  cases h : numT a 3 with
  | none => exact absurd h h1
  | some l =>
    cases h' : numT b 999999 with
    | none => exact absurd h' h2
    | some m => rfl
theorem actT_none {a b : Int} (h : numT a 3 = none ∨ numT b 999999 = none) : actT a b = none := by
  unfold actT
  rcases h with h | h
  · rw [h]; rfl
  · rw [h]; cases numT a 3 <;> rfl
theorem numT_getD (n m : Int) (hm : m ≤ 999999) : ((numT n m).getD []).length ≤ 6 := by
  cases h : numT n m with
  | none => simp
  | some l => exact numT_len hm h
theorem act1_any (w : World) (E : Nat → Addr) (b : Nat) (x y : Int) (hx : -9223372036854775808 ≤ x) (hy : -9223372036854775808 ≤ y) (h : IdsG w E) (hb : Blk w b 23 #[.int .i64 x, .int .i64 y]) :
    Calls Tryd.prog 61 #[.pointer (some ⟨b, 0, none⟩)] w (TextR E (actT x y) w) := by
  have HG := Lib.hid h
  have HB := Lib.hid hb
  have hs : ∀ w (a b : List UInt8), a.length ≤ 100 → b.length ≤ 100 → (Op.stringOp .add (bs a) (bs b)).run Tryd.prog w = .ok (.string (bs (a ++ b))) w := fun w a b h1 h2 => run_str_add w a b (by omega)
  have l1 := numT_getD x 3 (by omega)
  have l2 := numT_getD y 999999 (by omega)
  clear h hb
  go_enter Tryd.func61, Tryd.ntmps61
  go_wp2_with fail
  refine PX.wp_phi_tail (List.take 9 _) (List.drop 9 _) (List.take_append_drop 9 _).symm (fun ch w' => ch = panE E 0 ∧ Below w.heap.size w w' ∧ actT x y = none) ?_ (fun w' => Below w.heap.size w w' ∧ Blk w' b 23 #[.int .i64 x, .int .i64 y] ∧ IdsG w' E) [(2, PTxt (numT x 3)), (7, PTxt (numT y 999999))] [] (by kernel_rfl) (by kernel_rfl) ?_ ?_ ⟨(Below.refl _ _).drew, HB.out, HG.out.below (Below.refl _ _).drew⟩ ?_
  · rintro ch a w' hd ⟨rfl, hb, ho⟩
    simp only [Exit.then, bodyPost]
    exact ⟨hd, hb, .inr ⟨ho, rfl⟩⟩
  · rintro w1' w2' ⟨h1, h2, h3⟩ hb
    exact ⟨h1.trans (hb.mono h1.size), h2.below hb h2.lt, h3.below hb⟩
  · simp only [List.mem_cons, List.not_mem_nil, or_false, forall_eq_or_imp, forall_eq]
    exact ⟨fun _ _ _ _ _ h => h, fun _ _ _ _ _ h => h⟩
  simp only [List.take_succ_cons, List.take_zero, List.drop_succ_cons, List.drop_zero]
  repeat (first | (refine PX.phi_skipK rfl (fun K hK => ?_); simp only [Act.put, List.setIfInBounds_toArray, List.set_cons_succ, List.set_cons_zero]; (try simp only [List.cons_append]); (try simp only [List.nil_append]); apply hK; clear hK K) | (refine PX.phi_pureK rfl rfl (fun K hK => ?_); apply Exists.intro; constructor; (focus (rintro w' ⟨h1, h2, h3⟩; (have c0 := (h2.cell 0).trans rfl; have c1 := (h2.cell 1).trans rfl); first | (go_simp; done) | (go_simp; (try go_bits); (try go_simp); rfl) | go_simp)); simp only [Act.put, List.setIfInBounds_toArray, List.set_cons_succ, List.set_cons_zero]; (try simp only [List.cons_append]); (try simp only [List.nil_append]); apply hK; clear hK K))
  refine PX.phi_partK (PTxt (numT x 3)) rfl rfl ⟨_, rfl⟩ ?_ (fun K hK v hv => ?_)
  · rintro w' ⟨h1, h2, h3⟩ _
    unfold PX.gives
    go_simp
    refine (idnum_any x 3 (by omega) hx w' E h3).mono ?_
    rintro e w'' ⟨hb, ⟨l, ho, rfl⟩ | ⟨ho, rfl⟩⟩
    · exact .inl ⟨_, rfl, by unfold PTxt; rw [ho]; rfl, by unfold PTxt; rw [ho]; simp, hb⟩
    · exact .inr ⟨_, rfl, rfl, h1.trans (hb.mono h1.size), actT_none (.inl ho)⟩
  obtain rfl : v = _ := hv
  simp only [Act.put, List.setIfInBounds_toArray, List.set_cons_succ, List.set_cons_zero]; (try simp only [List.cons_append]); (try simp only [List.nil_append])
  apply hK
  clear hK K
  repeat (first | (refine PX.phi_skipK rfl (fun K hK => ?_); simp only [Act.put, List.setIfInBounds_toArray, List.set_cons_succ, List.set_cons_zero]; (try simp only [List.cons_append]); (try simp only [List.nil_append]); apply hK; clear hK K) | (refine PX.phi_pureK rfl rfl (fun K hK => ?_); apply Exists.intro; constructor; (focus (rintro w' ⟨h1, h2, h3⟩; (have c0 := (h2.cell 0).trans rfl; have c1 := (h2.cell 1).trans rfl; have s1 : (Op.stringOp .add ⟨#[97]⟩ (bs ((numT x 3).getD []))).run Tryd.prog w' = .ok (.string (bs (97 :: (numT x 3).getD []))) w' := hs w' [97] ((numT x 3).getD []) (by simp) (by omega); have s2 : (Op.stringOp .add (bs (97 :: (numT x 3).getD [])) ⟨#[46]⟩).run Tryd.prog w' = .ok (.string (bs (97 :: ((numT x 3).getD [] ++ [46])))) w' := hs w' (97 :: (numT x 3).getD []) [46] (by simp; omega) (by simp)); first | (go_simp; done) | (go_simp; (try go_bits); (try go_simp); rfl) | go_simp)); simp only [Act.put, List.setIfInBounds_toArray, List.set_cons_succ, List.set_cons_zero]; (try simp only [List.cons_append]); (try simp only [List.nil_append]); apply hK; clear hK K))
  refine PX.phi_partK (PTxt (numT y 999999)) rfl rfl ⟨_, rfl⟩ ?_ (fun K hK v hv => ?_)
  · rintro w' ⟨h1, h2, h3⟩ _
    unfold PX.gives
    go_simp
    refine (idnum_any y 999999 (by omega) hy w' E h3).mono ?_
    rintro e w'' ⟨hb, ⟨l, ho, rfl⟩ | ⟨ho, rfl⟩⟩
    · exact .inl ⟨_, rfl, by unfold PTxt; rw [ho]; rfl, by unfold PTxt; rw [ho]; simp, hb⟩
    · exact .inr ⟨_, rfl, rfl, h1.trans (hb.mono h1.size), actT_none (.inr ho)⟩
  obtain rfl : v = _ := hv
  simp only [Act.put, List.setIfInBounds_toArray, List.set_cons_succ, List.set_cons_zero]; (try simp only [List.cons_append]); (try simp only [List.nil_append])
  apply hK
  clear hK K
  repeat (first | (refine PX.phi_skipK rfl (fun K hK => ?_); simp only [Act.put, List.setIfInBounds_toArray, List.set_cons_succ, List.set_cons_zero]; (try simp only [List.cons_append]); (try simp only [List.nil_append]); apply hK; clear hK K) | (refine PX.phi_pureK rfl rfl (fun K hK => ?_); apply Exists.intro; constructor; (focus (rintro w' ⟨h1, h2, h3⟩; (have s1 : (Op.stringOp .add (bs (97 :: ((numT x 3).getD [] ++ [46]))) (bs ((numT y 999999).getD []))).run Tryd.prog w' = .ok (.string (bs (97 :: ((numT x 3).getD [] ++ [46] ++ (numT y 999999).getD [])))) w' := hs w' (97 :: ((numT x 3).getD [] ++ [46])) ((numT y 999999).getD []) (by simp; omega) (by omega)); first | (go_simp; done) | (go_simp; (try go_bits); (try go_simp); rfl) | go_simp)); simp only [Act.put, List.setIfInBounds_toArray, List.set_cons_succ, List.set_cons_zero]; (try simp only [List.cons_append]); (try simp only [List.nil_append]); apply hK; clear hK K))
  refine PX.phi_done ?_
  rintro w1 ⟨h1, h2, h3⟩ hf
  have e1 : numT x 3 ≠ none := hf (2, fun w => (PTxt (numT x 3)).fact w (.string (bs ((numT x 3).getD [])))) (by simp)
  have e2 : numT y 999999 ≠ none := hf (7, fun w => (PTxt (numT y 999999)).fact w (.string (bs ((numT y 999999).getD [])))) (by simp)
  have HT := Lib.hid (actT_some e1 e2)
  have HB1 := Lib.hid h1
  clear hf e1 e2 h1 h2 h3
  go_wp2_with fail
  go_ret
  exact ⟨HB1.out, .inl ⟨_, HT.out, by simp⟩⟩
/-- 1: it is none -/
def ebad {α : Type} (o : Option α) : Nat := match o with | some _ => 0 | none => 1
/-- a text and its error -/
def TextV (E : Nat → Addr) (o : Option (List UInt8)) (w : World) (e : Ending) (w' : World) : Prop :=
  Below w.heap.size w w' ∧ e = .returned (.tuple #[.string (bs (o.getD [])), errV E (ebad o)])
theorem try_text (w : World) (E : Nat → Addr) (f : FuncId) (caps : Array Value) (o : Option (List UInt8)) (he : Errs w E) (hcf : ∀ w, (callFunc f caps).run Tryd.prog w = .ok (.enter f caps) w)
    (hdo : ∀ w1, Below w.heap.size w w1 → Calls Tryd.prog f caps w1 (TextR E o w1)) : Calls Tryd.prog 60 #[.func (.func f) #[] caps] w (TextV E o w) := by
  refine (tryStr_any w E f caps [] (fun _ v _ => ∃ l, o = some l ∧ v = .string (bs l)) (fun n _ _ => n = 0 ∧ o = none) (by simp) (fun w' h => he.below h.nil_below) (fun _ v _ h => by obtain ⟨l, _, rfl⟩ := h; exact ⟨_, rfl⟩) hcf (fun w1 hb _ => (hdo w1 hb).mono ?_)).mono ?_
  · rintro e w2 ⟨h1, h2⟩
    refine PanR.may (Q := fun n => n = 0 ∧ o = none) ⟨h1, ?_⟩
    rcases h2 with ⟨l, ho, rfl⟩ | ⟨ho, rfl⟩
    · exact .inl ⟨_, rfl, l, ho, rfl⟩
    · exact .inr ⟨0, by omega, ⟨rfl, ho⟩, rfl⟩
  · intro e w' h
    obtain ⟨h1, h2⟩ := TryG.v (R := fun v _ => ∃ l, o = some l ∧ v = .string (bs l)) (Q := fun n => n = 0 ∧ o = none) (fun _ _ _ _ h => h) h
    refine ⟨h1, ?_⟩
    rcases h2 with ⟨v, rfl, l, rfl, rfl⟩ | ⟨n, _, ⟨rfl, rfl⟩, rfl⟩ <;> rfl
def actV (x y : Int) : Value := .agg #[.int .i64 x, .int .i64 y]
theorem act_any (w : World) (E : Nat → Addr) (x y : Int) (hx : -9223372036854775808 ≤ x) (hy : -9223372036854775808 ≤ y) (h : IdsG w E) :
    Calls Tryd.prog 49 #[actV x y] w (TextV E (actT x y) w) := by
  have hmf := @run_makeFunc Tryd.prog
  have hb1 := below_alloc1 w (.cells #[.int .i64 x, .int .i64 y] 23)
  have HB1 := Lib.hid hb1
  have HN1 := Lib.hid (Blk.new w 23 #[.int .i64 x, .int .i64 y])
  have HG1 := Lib.hid (h.below hb1)
  clear h hb1
  unfold actV
  go_enter Tryd.func49, Tryd.ntmps49
  go_wp2_with fail
  generalize w.alloc (.cells #[.int .i64 x, .int .i64 y] 23) = w1 at *
  refine (try_text w1 E _ _ (actT x y) HG1.out.errs (fun w => by simp [go_sem]) (fun w2 hb => act1_any w2 E w.heap.size x y hx hy (HG1.out.below hb) (HN1.out.below hb HN1.out.lt))).mono ?_
  rintro e w2 ⟨hb2, rfl⟩
  have HB2 := Lib.hid (HB1.out.trans (hb2.mono HB1.out.size))
  clear hb2
  go_wp2_with fail
  go_ret2
  exact ⟨HB2.out, rfl⟩
theorem right_any (w : World) (E : Nat → Addr) (x y : Int) (hx : -9223372036854775808 ≤ x) (hy : -9223372036854775808 ≤ y) (h : IdsG w E) :
    Calls Tryd.prog 32 #[actV x y] w fun e w' => e = .returned (.bool (actT x y).isSome) ∧ Below w.heap.size w w' := by
  have hb1 := below_alloc1 w (.cells #[.int .i64 x, .int .i64 y] 23)
  have HB1 := Lib.hid hb1
  have hn1 := Blk.new w 23 #[.int .i64 x, .int .i64 y]
  have c0 := (hn1.cell 0).trans rfl
  have c1 := (hn1.cell 1).trans rfl
  have HA := Lib.hid (act_any _ E x y hx hy (h.below hb1))
  clear h hb1 hn1
  unfold actV at HA ⊢
  go_enter Tryd.func32, Tryd.ntmps32
  go_wp2_with fail
  refine HA.out.mono ?_
  rintro e w2 ⟨hb2, rfl⟩
  have HB2 := Lib.hid (HB1.out.trans (hb2.mono HB1.out.size))
  clear hb2 HA
  cases ho : actT x y with
  | some l =>
    have HO := Lib.hid ho
    clear ho
    rw [show errV E (ebad (some l)) = .nilIface from rfl]
    go_wp2_with fail
    go_ret
    rw [HO.out]
    exact ⟨rfl, HB2.out⟩
  | none =>
    have HO := Lib.hid ho
    clear ho
    rw [show errV E (ebad (none : Option (List UInt8))) = .iface 128 (.pointer (some (E 0))) from rfl]
    go_wp2_with fail
    go_ret
    rw [HO.out]
    exact ⟨rfl, HB2.out⟩
end Go.Proofs.YtpbgappggmcmgaaDoor
