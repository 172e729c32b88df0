/-
  BctxH: package binding: Context.
-/
import Derived.Test.YtgmiockaecklaaaGreatDoorBctxG
import Derived.Test.YtgmiockaecklaaaGreatDoorPBlk
import Derived.Test.YtgmiockaecklaaaGreatDoorTryElemB
namespace Go.Proofs.YtgmiockaecklaaaGreatDoor
open Go.RowKit Go.Extern.Stop Go.Stop Go.Extern Ieee
attribute [local go_sem] bs_toList bs_size
attribute [local irreducible] wpPhi

def ccL : List UInt8 := [67, 111, 111, 114, 100, 105, 110, 97, 116, 105, 111, 110, 67, 111, 110, 116, 101, 120, 116]
def actL : List UInt8 := [97, 99, 116]
def outcomeL : List UInt8 := [111, 117, 116, 99, 111, 109, 101]
def depthL : List UInt8 := [100, 101, 112, 116, 104]
def expiresL : List UInt8 := [101, 120, 112, 105, 114, 101, 115]
/-- a context's element -/
def ctxTr (a o d x : List UInt8) : Tr := .node [wscoorL, ccL] [[[], actL, a], [[], outcomeL, o], [[], depthL, d], [[], expiresL, x]] [] []
/-- the cells of a context's attributes, of its element -/
def atC (a o d x : List UInt8) : Array Value := #[.string (bs []), .string (bs actL), .string (bs a), .string (bs []), .string (bs outcomeL), .string (bs o), .string (bs []), .string (bs depthL), .string (bs d), .string (bs []), .string (bs expiresL), .string (bs x)]
def ctxE (g : Nat) : Array Value := #[.string (bs wscoorL), .string (bs ccL), .slice (some ⟨g, 0, none⟩) 4 4, .slice none 0 0, .string (bs [])]
/-- a call gives an element whose attributes are a block of its own -/
def CtxO (a o d x : List UInt8) (w : World) (e : Ending) (w' : World) : Prop :=
  ∃ g, e = .returned (.agg (ctxE g)) ∧ w.heap.size ≤ g ∧ Blk w' g 54 (atC a o d x) ∧ Below w.heap.size w w'
theorem ctxTr_of {w : World} {g : Nat} {t : TypeId} {a o d x : List UInt8} {P : Nat → Prop} (h : Blk w g t (atC a o d x)) (hP : P g) : TrC w P (ctxTr a o d x) (ctxE g).toList := by
  unfold ctxTr TrC
  refine ⟨some ⟨g, 0, none⟩, 4, none, 0, [], rfl, ⟨Nat.le_refl _, by unfold maxLen; omega, .inr ⟨g, 0, rfl, fun i u hu => ?_⟩, fun a ha => by cases ha; exact hP⟩, ⟨Nat.le_refl _, by unfold maxLen; omega, .inl rfl, fun a ha => by cases ha⟩, (by unfold TrL; rfl)⟩
  rw [Nat.zero_add, h.cell]
  rw [← List.getElem?_toArray] at hu
  exact hu
theorem actT_right {a b : Int} (h : 0 ≤ a ∧ a < 4 ∧ 0 ≤ b ∧ b < 1000000) : actT a b = some (actS a.toNat b.toNat) := by
  unfold actT numT actS
  rw [if_pos (by omega), if_pos (by omega)]
  rfl
theorem must_str (s : List UInt8) (w : World) : Calls Tryz.prog 23 #[.string (bs s), .nilIface] w fun e w' => e = .returned (.string (bs s)) ∧ w = w' := by
  go_enter Tryz.func23, Tryz.ntmps23
  go_wp2_with (go_at_call 60; refine (check_nil _).mono ?_; rintro e w' ⟨rfl, rfl⟩)
  go_ret
  exact ⟨rfl, rfl⟩
theorem must_strG (s : List UInt8) (w : World) : Calls Tryz.prog 23 #[.string (bs s), .nilIface] w (Gives w (.string (bs s))) := by
  refine (must_str s w).mono ?_
  rintro e w' ⟨rfl, rfl⟩
  exact ⟨rfl, Below.refl _ _⟩
theorem itoa4 (n : Nat) (h : n < 100) (w : World) : Calls Tryz.prog 26 #[.int .i64 (n : Int)] w (Gives w (.string (bs (dec n)))) := by
  refine (Tryz.strconv_Itoa_small n h w).mono ?_
  rintro e w' ⟨rfl, rfl⟩
  exact ⟨rfl, Below.refl _ _⟩
theorem act_right {a b : Int} (h : 0 ≤ a ∧ a < 4 ∧ 0 ≤ b ∧ b < 1000000) (w : World) (E : Nat → Addr) (hg : IdsG w E) :
    Calls Tryz.prog 24 #[.agg #[.int .i64 a, .int .i64 b]] w (Gives w (.tuple #[.string (bs (actS a.toNat b.toNat)), .nilIface])) := by
  refine (act_any w E a b (by omega) (by omega) hg).mono ?_
  rintro e w' ⟨hb, rfl⟩
  rw [actT_right h]
  exact ⟨rfl, hb⟩
set_option maxRecDepth 20000 in
set_option maxHeartbeats 4000000 in
theorem ctx1_any (n s o d : Int) (x : Nat) (hr : rightC ⟨n, s, o, d, x⟩ = true) (c0 : Nat) (w : World) (E : Nat → Addr) (hg : IdsG w E) (ht : Tab w 1 outsL) (hc : Blk w c0 26 #[.int .i64 n, .int .i64 s, .int .i64 o, .int .i64 d, .float .f64 x]) :
    Calls Tryz.prog 18 #[.pointer (some ⟨c0, 0, none⟩)] w (CtxO (actS n.toNat s.toNat) (nameF outsL o) (dec d.toNat) (expT x) w) := by
  have HP := Lib.hid (show x ≤ infR ∧ (0 ≤ n ∧ n < 4 ∧ 0 ≤ s ∧ s < 1000000) ∧ (o = 1 ∨ o = 2) ∧ 0 ≤ d ∧ d ≤ 3 from right_parts hr)
  have hx : x ≤ infR := HP.out.1
  have HG := Lib.hid hg; have HT := Lib.hid ht; have HC := Lib.hid hc
  have B1 := below_alloc1 w (.cells #[.string ⟨#[]⟩, .string ⟨#[]⟩, .slice none 0 0, .slice none 0 0, .string ⟨#[]⟩] 34)
  have N1 := Blk.new w 34 #[.string ⟨#[]⟩, .string ⟨#[]⟩, .slice none 0 0, .slice none 0 0, .string ⟨#[]⟩]
  have HX3 : ∀ u, (w.alloc (.cells #[.string ⟨#[]⟩, .string ⟨#[]⟩, .slice none 0 0, .slice none 0 0, .string ⟨#[]⟩] 34)).cell? ⟨c0, 3 + 1, none⟩ = u → u = some (.float .f64 x) := fun u h => by
    rw [← h]; exact ((hc.alloc _).cell 4).trans rfl
  have c4 := HX3 _ rfl
  have HF := Lib.hid (finite_any x (w.alloc (.cells #[.string ⟨#[]⟩, .string ⟨#[]⟩, .slice none 0 0, .slice none 0 0, .string ⟨#[]⟩] 34)))
  have HD := Lib.hid (fun w => show Calls Tryz.prog 26 #[.int .i64 d] w (Gives w (.string (bs (dec d.toNat)))) from by
    have := itoa4 d.toNat (by have := HP.out.2.2.2; omega) w
    rwa [Int.toNat_of_nonneg HP.out.2.2.2.1] at this)
  have BB1 := Lib.hid B1; have NN1 := Lib.hid N1
  clear hg ht hc B1 N1 HX3
  by_cases hi : x = infR
  · have hif : isFin x = false := by cases h : isFin x with
      | false => rfl
      | true => exact absurd hi ((fin_small hx).1 h)
    rw [hif] at HF
    have HE := Lib.hid (show neverL = expT x by unfold expT; rw [if_pos hi])
    clear hi hif
    go_enter Tryz.func18, Tryz.ntmps18
    go_wp2_with fail
    refine HF.out.mono ?_
    rintro e w1 ⟨rfl, hb1⟩
    clear c4
    go_wp2_with fail
    have HB1 := Lib.hid (BB1.out.trans (hb1.mono BB1.out.size))
    have HC1 := Lib.hid (((HC.out.alloc _).below hb1 (HC.out.alloc _).lt))
    have HR1 := Lib.hid (NN1.out.below hb1 NN1.out.lt)
    have HG1 := Lib.hid (HG.out.below HB1.out)
    have HT1 := Lib.hid (HT.out.below HB1.out)
    clear hb1
    refine wp_phi_tail (List.take 21 _) (List.drop 21 _) (List.take_append_drop 21 _).symm (fun w' => (Blk w' c0 26 #[.int .i64 n, .int .i64 s, .int .i64 o, .int .i64 d, .float .f64 x]) ∧ (Blk w' w.heap.size 34 #[.string ⟨#[]⟩, .string ⟨#[]⟩, .slice none 0 0, .slice none 0 0, .string ⟨#[]⟩]) ∧ (IdsG w' E) ∧ (Tab w' 1 outsL) ∧ Below w.heap.size w w') [(3, PVal (.tuple #[.string (bs (actS n.toNat s.toNat)), .nilIface])), (6, PVal (.string (bs (actS n.toNat s.toNat)))), (7, PVal (.agg #[.string (bs []), .string (bs actL), .string (bs (actS n.toNat s.toNat))])), (11, PVal (.string (bs (nameF outsL o)))), (12, PVal (.agg #[.string (bs []), .string (bs outcomeL), .string (bs (nameF outsL o))])), (15, PVal (.string (bs (dec d.toNat)))), (16, PVal (.agg #[.string (bs []), .string (bs depthL), .string (bs (dec d.toNat))])), (18, PVal (.agg #[.string (bs []), .string (bs expiresL), .string (bs (neverL))])), (19, PBlk w.heap.size 54 #[.string (bs []), .string (bs actL), .string (bs (actS n.toNat s.toNat)), .string (bs []), .string (bs outcomeL), .string (bs (nameF outsL o)), .string (bs []), .string (bs depthL), .string (bs (dec d.toNat)), .string (bs []), .string (bs expiresL), .string (bs (neverL))] 4)] [] (by kernel_rfl) (by kernel_rfl) ?_ ?_ ⟨HC1.out, HR1.out, HG1.out.below (Below.refl _ _).drew, HT1.out.below (Below.refl _ _).drew, (HB1.out).drew⟩ ?_
    · rintro w1' w2' ⟨f1, f2, f3, f4, hIB⟩ hb
      exact ⟨(by first | exact f1.below hb | exact f1.keep (Below.keeps hb) | exact Below.keeps hb _ _ f1 | exact Blk.below f1 hb (Blk.lt f1)), (by first | exact f2.below hb | exact f2.keep (Below.keeps hb) | exact Below.keeps hb _ _ f2 | exact Blk.below f2 hb (Blk.lt f2)), (by first | exact f3.below hb | exact f3.keep (Below.keeps hb) | exact Below.keeps hb _ _ f3 | exact Blk.below f3 hb (Blk.lt f3)), (by first | exact f4.below hb | exact f4.keep (Below.keeps hb) | exact Below.keeps hb _ _ f4 | exact Blk.below f4 hb (Blk.lt f4)), hIB.trans (hb.mono hIB.size)⟩
    · simp only [List.mem_cons, List.not_mem_nil, or_false, forall_eq_or_imp, forall_eq]
      exact ⟨fun _ _ _ _ h' h => PVal_stays _ _ _ _ h' h, fun _ _ _ _ h' h => PVal_stays _ _ _ _ h' h, fun _ _ _ _ h' h => PVal_stays _ _ _ _ h' h, fun _ _ _ _ h' h => PVal_stays _ _ _ _ h' h, fun _ _ _ _ h' h => PVal_stays _ _ _ _ h' h, fun _ _ _ _ h' h => PVal_stays _ _ _ _ h' h, fun _ _ _ _ h' h => PVal_stays _ _ _ _ h' h, fun _ _ _ _ h' h => PVal_stays _ _ _ _ h' h, fun _ _ _ _ h' h => PBlk_stays h' h⟩
    simp only [List.take_succ_cons, List.take_zero, List.drop_succ_cons, List.drop_zero]
    repeat (first | (refine phi_skipK rfl (fun K hK => ?_); simp only [Act.put, List.setIfInBounds_toArray, List.set_cons_succ, List.set_cons_zero]; (try simp only [List.cons_append]); (try simp only [List.nil_append]); apply hK; clear hK K) | (refine phi_pureK rfl rfl (fun K hK => ?_); apply Exists.intro; constructor; (focus (rintro w' ⟨f1, f2, f3, f4, hIB⟩; have k0 := (f1.cell 0).trans rfl; have k1 := (f1.cell 1).trans rfl; have k2 := (f1.cell 2).trans rfl; have k3 := (f1.cell 3).trans rfl; clear f1 f2 f3 f4 hIB; first | (go_simp; done) | (go_simp; (try go_bits); (try go_simp); rfl) | go_simp)); simp only [Act.put, List.setIfInBounds_toArray, List.set_cons_succ, List.set_cons_zero]; (try simp only [List.cons_append]); (try simp only [List.nil_append]); apply hK; clear hK K))
    refine phi_partK (PVal (.tuple #[.string (bs (actS n.toNat s.toNat)), .nilIface])) rfl rfl ⟨_, rfl⟩ ?_ (fun K hK v hv => ?_)
    · rintro w' ⟨f1, f2, f3, f4, hIB⟩ hf
      unfold gives
      clear hf
      go_simp
      refine (act_right HP.out.2.1 _ E f3).mono ?_
      rintro e w'' ⟨rfl, hb⟩
      exact ⟨_, rfl, rfl, trivial, hb⟩
    obtain rfl : v = _ := hv
    simp only [Act.put, List.setIfInBounds_toArray, List.set_cons_succ, List.set_cons_zero]; (try simp only [List.cons_append]); (try simp only [List.nil_append])
    apply hK
    clear hK K
    repeat (first | (refine phi_skipK rfl (fun K hK => ?_); simp only [Act.put, List.setIfInBounds_toArray, List.set_cons_succ, List.set_cons_zero]; (try simp only [List.cons_append]); (try simp only [List.nil_append]); apply hK; clear hK K) | (refine phi_pureK rfl rfl (fun K hK => ?_); apply Exists.intro; constructor; (focus (rintro w' ⟨f1, f2, f3, f4, hIB⟩; have k0 := (f1.cell 0).trans rfl; have k1 := (f1.cell 1).trans rfl; have k2 := (f1.cell 2).trans rfl; have k3 := (f1.cell 3).trans rfl; clear f1 f2 f3 f4 hIB; first | (go_simp; done) | (go_simp; (try go_bits); (try go_simp); rfl) | go_simp)); simp only [Act.put, List.setIfInBounds_toArray, List.set_cons_succ, List.set_cons_zero]; (try simp only [List.cons_append]); (try simp only [List.nil_append]); apply hK; clear hK K))
    refine phi_partK (PVal (.string (bs (actS n.toNat s.toNat)))) rfl rfl ⟨_, rfl⟩ ?_ (fun K hK v hv => ?_)
    · rintro w' ⟨f1, f2, f3, f4, hIB⟩ hf
      unfold gives
      clear hf
      go_simp
      refine (must_strG (actS n.toNat s.toNat) _).mono ?_
      rintro e w'' ⟨rfl, hb⟩
      exact ⟨_, rfl, rfl, trivial, hb⟩
    obtain rfl : v = _ := hv
    simp only [Act.put, List.setIfInBounds_toArray, List.set_cons_succ, List.set_cons_zero]; (try simp only [List.cons_append]); (try simp only [List.nil_append])
    apply hK
    clear hK K
    repeat (first | (refine phi_skipK rfl (fun K hK => ?_); simp only [Act.put, List.setIfInBounds_toArray, List.set_cons_succ, List.set_cons_zero]; (try simp only [List.cons_append]); (try simp only [List.nil_append]); apply hK; clear hK K) | (refine phi_pureK rfl rfl (fun K hK => ?_); apply Exists.intro; constructor; (focus (rintro w' ⟨f1, f2, f3, f4, hIB⟩; have k0 := (f1.cell 0).trans rfl; have k1 := (f1.cell 1).trans rfl; have k2 := (f1.cell 2).trans rfl; have k3 := (f1.cell 3).trans rfl; clear f1 f2 f3 f4 hIB; first | (go_simp; done) | (go_simp; (try go_bits); (try go_simp); rfl) | go_simp)); simp only [Act.put, List.setIfInBounds_toArray, List.set_cons_succ, List.set_cons_zero]; (try simp only [List.cons_append]); (try simp only [List.nil_append]); apply hK; clear hK K))
    refine phi_partK (PVal (.agg #[.string (bs []), .string (bs actL), .string (bs (actS n.toNat s.toNat))])) rfl rfl ⟨_, rfl⟩ ?_ (fun K hK v hv => ?_)
    · rintro w' ⟨f1, f2, f3, f4, hIB⟩ hf
      unfold gives
      clear hf
      go_simp
      refine (attr_any actL _ _).mono ?_
      rintro e w'' ⟨rfl, hb⟩
      exact ⟨_, rfl, rfl, trivial, hb⟩
    obtain rfl : v = _ := hv
    simp only [Act.put, List.setIfInBounds_toArray, List.set_cons_succ, List.set_cons_zero]; (try simp only [List.cons_append]); (try simp only [List.nil_append])
    apply hK
    clear hK K
    repeat (first | (refine phi_skipK rfl (fun K hK => ?_); simp only [Act.put, List.setIfInBounds_toArray, List.set_cons_succ, List.set_cons_zero]; (try simp only [List.cons_append]); (try simp only [List.nil_append]); apply hK; clear hK K) | (refine phi_pureK rfl rfl (fun K hK => ?_); apply Exists.intro; constructor; (focus (rintro w' ⟨f1, f2, f3, f4, hIB⟩; have k0 := (f1.cell 0).trans rfl; have k1 := (f1.cell 1).trans rfl; have k2 := (f1.cell 2).trans rfl; have k3 := (f1.cell 3).trans rfl; clear f1 f2 f3 f4 hIB; first | (go_simp; done) | (go_simp; (try go_bits); (try go_simp); rfl) | go_simp)); simp only [Act.put, List.setIfInBounds_toArray, List.set_cons_succ, List.set_cons_zero]; (try simp only [List.cons_append]); (try simp only [List.nil_append]); apply hK; clear hK K))
    refine phi_partK (PVal (.string (bs (nameF outsL o)))) rfl rfl ⟨_, rfl⟩ ?_ (fun K hK v hv => ?_)
    · rintro w' ⟨f1, f2, f3, f4, hIB⟩ hf
      unfold gives
      clear hf
      go_simp
      refine (named_any outsL 1 o _ f4 (by decide)).mono ?_
      rintro e w'' ⟨rfl, hb⟩
      exact ⟨_, rfl, rfl, trivial, hb⟩
    obtain rfl : v = _ := hv
    simp only [Act.put, List.setIfInBounds_toArray, List.set_cons_succ, List.set_cons_zero]; (try simp only [List.cons_append]); (try simp only [List.nil_append])
    apply hK
    clear hK K
    repeat (first | (refine phi_skipK rfl (fun K hK => ?_); simp only [Act.put, List.setIfInBounds_toArray, List.set_cons_succ, List.set_cons_zero]; (try simp only [List.cons_append]); (try simp only [List.nil_append]); apply hK; clear hK K) | (refine phi_pureK rfl rfl (fun K hK => ?_); apply Exists.intro; constructor; (focus (rintro w' ⟨f1, f2, f3, f4, hIB⟩; have k0 := (f1.cell 0).trans rfl; have k1 := (f1.cell 1).trans rfl; have k2 := (f1.cell 2).trans rfl; have k3 := (f1.cell 3).trans rfl; clear f1 f2 f3 f4 hIB; first | (go_simp; done) | (go_simp; (try go_bits); (try go_simp); rfl) | go_simp)); simp only [Act.put, List.setIfInBounds_toArray, List.set_cons_succ, List.set_cons_zero]; (try simp only [List.cons_append]); (try simp only [List.nil_append]); apply hK; clear hK K))
    refine phi_partK (PVal (.agg #[.string (bs []), .string (bs outcomeL), .string (bs (nameF outsL o))])) rfl rfl ⟨_, rfl⟩ ?_ (fun K hK v hv => ?_)
    · rintro w' ⟨f1, f2, f3, f4, hIB⟩ hf
      unfold gives
      clear hf
      go_simp
      refine (attr_any outcomeL _ _).mono ?_
      rintro e w'' ⟨rfl, hb⟩
      exact ⟨_, rfl, rfl, trivial, hb⟩
    obtain rfl : v = _ := hv
    simp only [Act.put, List.setIfInBounds_toArray, List.set_cons_succ, List.set_cons_zero]; (try simp only [List.cons_append]); (try simp only [List.nil_append])
    apply hK
    clear hK K
    repeat (first | (refine phi_skipK rfl (fun K hK => ?_); simp only [Act.put, List.setIfInBounds_toArray, List.set_cons_succ, List.set_cons_zero]; (try simp only [List.cons_append]); (try simp only [List.nil_append]); apply hK; clear hK K) | (refine phi_pureK rfl rfl (fun K hK => ?_); apply Exists.intro; constructor; (focus (rintro w' ⟨f1, f2, f3, f4, hIB⟩; have k0 := (f1.cell 0).trans rfl; have k1 := (f1.cell 1).trans rfl; have k2 := (f1.cell 2).trans rfl; have k3 := (f1.cell 3).trans rfl; clear f1 f2 f3 f4 hIB; first | (go_simp; done) | (go_simp; (try go_bits); (try go_simp); rfl) | go_simp)); simp only [Act.put, List.setIfInBounds_toArray, List.set_cons_succ, List.set_cons_zero]; (try simp only [List.cons_append]); (try simp only [List.nil_append]); apply hK; clear hK K))
    refine phi_partK (PVal (.string (bs (dec d.toNat)))) rfl rfl ⟨_, rfl⟩ ?_ (fun K hK v hv => ?_)
    · rintro w' ⟨f1, f2, f3, f4, hIB⟩ hf
      unfold gives
      clear hf
      go_simp
      refine (HD.out _).mono ?_
      rintro e w'' ⟨rfl, hb⟩
      exact ⟨_, rfl, rfl, trivial, hb⟩
    obtain rfl : v = _ := hv
    simp only [Act.put, List.setIfInBounds_toArray, List.set_cons_succ, List.set_cons_zero]; (try simp only [List.cons_append]); (try simp only [List.nil_append])
    apply hK
    clear hK K
    repeat (first | (refine phi_skipK rfl (fun K hK => ?_); simp only [Act.put, List.setIfInBounds_toArray, List.set_cons_succ, List.set_cons_zero]; (try simp only [List.cons_append]); (try simp only [List.nil_append]); apply hK; clear hK K) | (refine phi_pureK rfl rfl (fun K hK => ?_); apply Exists.intro; constructor; (focus (rintro w' ⟨f1, f2, f3, f4, hIB⟩; have k0 := (f1.cell 0).trans rfl; have k1 := (f1.cell 1).trans rfl; have k2 := (f1.cell 2).trans rfl; have k3 := (f1.cell 3).trans rfl; clear f1 f2 f3 f4 hIB; first | (go_simp; done) | (go_simp; (try go_bits); (try go_simp); rfl) | go_simp)); simp only [Act.put, List.setIfInBounds_toArray, List.set_cons_succ, List.set_cons_zero]; (try simp only [List.cons_append]); (try simp only [List.nil_append]); apply hK; clear hK K))
    refine phi_partK (PVal (.agg #[.string (bs []), .string (bs depthL), .string (bs (dec d.toNat))])) rfl rfl ⟨_, rfl⟩ ?_ (fun K hK v hv => ?_)
    · rintro w' ⟨f1, f2, f3, f4, hIB⟩ hf
      unfold gives
      clear hf
      go_simp
      refine (attr_any depthL _ _).mono ?_
      rintro e w'' ⟨rfl, hb⟩
      exact ⟨_, rfl, rfl, trivial, hb⟩
    obtain rfl : v = _ := hv
    simp only [Act.put, List.setIfInBounds_toArray, List.set_cons_succ, List.set_cons_zero]; (try simp only [List.cons_append]); (try simp only [List.nil_append])
    apply hK
    clear hK K
    repeat (first | (refine phi_skipK rfl (fun K hK => ?_); simp only [Act.put, List.setIfInBounds_toArray, List.set_cons_succ, List.set_cons_zero]; (try simp only [List.cons_append]); (try simp only [List.nil_append]); apply hK; clear hK K) | (refine phi_pureK rfl rfl (fun K hK => ?_); apply Exists.intro; constructor; (focus (rintro w' ⟨f1, f2, f3, f4, hIB⟩; have k0 := (f1.cell 0).trans rfl; have k1 := (f1.cell 1).trans rfl; have k2 := (f1.cell 2).trans rfl; have k3 := (f1.cell 3).trans rfl; clear f1 f2 f3 f4 hIB; first | (go_simp; done) | (go_simp; (try go_bits); (try go_simp); rfl) | go_simp)); simp only [Act.put, List.setIfInBounds_toArray, List.set_cons_succ, List.set_cons_zero]; (try simp only [List.cons_append]); (try simp only [List.nil_append]); apply hK; clear hK K))
    refine phi_partK (PVal (.agg #[.string (bs []), .string (bs expiresL), .string (bs (neverL))])) rfl rfl ⟨_, rfl⟩ ?_ (fun K hK v hv => ?_)
    · rintro w' ⟨f1, f2, f3, f4, hIB⟩ hf
      unfold gives
      clear hf
      go_simp
      refine (attr_any expiresL (neverL) _).mono ?_
      rintro e w'' ⟨rfl, hb⟩
      exact ⟨_, rfl, rfl, trivial, hb⟩
    obtain rfl : v = _ := hv
    simp only [Act.put, List.setIfInBounds_toArray, List.set_cons_succ, List.set_cons_zero]; (try simp only [List.cons_append]); (try simp only [List.nil_append])
    apply hK
    clear hK K
    repeat (first | (refine phi_skipK rfl (fun K hK => ?_); simp only [Act.put, List.setIfInBounds_toArray, List.set_cons_succ, List.set_cons_zero]; (try simp only [List.cons_append]); (try simp only [List.nil_append]); apply hK; clear hK K) | (refine phi_pureK rfl rfl (fun K hK => ?_); apply Exists.intro; constructor; (focus (rintro w' ⟨f1, f2, f3, f4, hIB⟩; have k0 := (f1.cell 0).trans rfl; have k1 := (f1.cell 1).trans rfl; have k2 := (f1.cell 2).trans rfl; have k3 := (f1.cell 3).trans rfl; clear f1 f2 f3 f4 hIB; first | (go_simp; done) | (go_simp; (try go_bits); (try go_simp); rfl) | go_simp)); simp only [Act.put, List.setIfInBounds_toArray, List.set_cons_succ, List.set_cons_zero]; (try simp only [List.cons_append]); (try simp only [List.nil_append]); apply hK; clear hK K))
    refine phi_partK (PBlk w.heap.size 54 #[.string (bs []), .string (bs actL), .string (bs (actS n.toNat s.toNat)), .string (bs []), .string (bs outcomeL), .string (bs (nameF outsL o)), .string (bs []), .string (bs depthL), .string (bs (dec d.toNat)), .string (bs []), .string (bs expiresL), .string (bs (neverL))] 4) rfl rfl ⟨_, 0, rfl⟩ ?_ (fun K hK v hv => ?_)
    · rintro w' ⟨f1, f2, f3, f4, hIB⟩ hf
      have HGS := Lib.hid hIB.size
      clear hf f1 f2 f3 f4 hIB
      unfold gives
      go_simp
      refine ⟨⟨_, rfl⟩, fun g hg => ?_, below_alloc1 _ _⟩
      obtain rfl : w'.heap.size = g := by simpa using hg
      exact ⟨HGS.out, Blk.new _ _ _⟩
    obtain ⟨g_19, rfl⟩ := hv
    simp only [Act.put, List.setIfInBounds_toArray, List.set_cons_succ, List.set_cons_zero]; (try simp only [List.cons_append]); (try simp only [List.nil_append])
    apply hK
    clear hK K
    repeat (first | (refine phi_skipK rfl (fun K hK => ?_); simp only [Act.put, List.setIfInBounds_toArray, List.set_cons_succ, List.set_cons_zero]; (try simp only [List.cons_append]); (try simp only [List.nil_append]); apply hK; clear hK K) | (refine phi_pureK rfl rfl (fun K hK => ?_); apply Exists.intro; constructor; (focus (rintro w' ⟨f1, f2, f3, f4, hIB⟩; have k0 := (f1.cell 0).trans rfl; have k1 := (f1.cell 1).trans rfl; have k2 := (f1.cell 2).trans rfl; have k3 := (f1.cell 3).trans rfl; clear f1 f2 f3 f4 hIB; first | (go_simp; done) | (go_simp; (try go_bits); (try go_simp); rfl) | go_simp)); simp only [Act.put, List.setIfInBounds_toArray, List.set_cons_succ, List.set_cons_zero]; (try simp only [List.cons_append]); (try simp only [List.nil_append]); apply hK; clear hK K))
    refine phi_done ?_
    rintro w9 ⟨f1, f2, f3, f4, hb9⟩ hk9
    have hb_19 := hk9 (19, fun w1 => (PBlk w.heap.size 54 #[.string (bs []), .string (bs actL), .string (bs (actS n.toNat s.toNat)), .string (bs []), .string (bs outcomeL), .string (bs (nameF outsL o)), .string (bs []), .string (bs depthL), .string (bs (dec d.toNat)), .string (bs []), .string (bs expiresL), .string (bs (neverL))] 4).fact w1 (.slice (some ⟨g_19, 0, none⟩) 4 4)) (by simp) g_19 rfl
    clear hk9
    have HW := Lib.hid hb_19
    have HF2 := Lib.hid f2
    have HB9 := Lib.hid hb9
    clear f1 f2 f3 f4 hb_19 hb9
    go_wp2_with (refine wpList_store (.tmp 1) (.tmp 30) 34 rfl rfl w.heap.size 0 _ _ #[.string (bs wscoorL), .string (bs ccL), .slice (some ⟨g_19, 0, none⟩) 4 4, .slice none 0 0, .string (bs [])] rfl rfl HF2.out ?s0 ?s1 ?s2 ?_)
    case s0 => kernel_rfl
    case s1 => simp [Value.oneCell']
    case s2 => simp
    intro w8 hb8 ho8
    rw [putCells_all #[.string ⟨#[]⟩, .string ⟨#[]⟩, .slice none 0 0, .slice none 0 0, .string ⟨#[]⟩] #[.string (bs wscoorL), .string (bs ccL), .slice (some ⟨g_19, 0, none⟩) 4 4, .slice none 0 0, .string (bs [])] rfl] at hb8
    have z0 := (hb8.cell 0).trans rfl; have z1 := (hb8.cell 1).trans rfl; have z2 := (hb8.cell 2).trans rfl; have z3 := (hb8.cell 3).trans rfl; have z4 := (hb8.cell 4).trans rfl
    have HB8 := Lib.hid hb8; have HO8 := Lib.hid ho8
    clear hb8 ho8
    go_wp2_with fail
    refine bodyPost_ret (v := .agg #[.string (bs wscoorL), .string (bs ccL), .slice (some ⟨g_19, 0, none⟩) 4 4, .slice none 0 0, .string (bs [])]) (by simp [results, Tryz.results18, go_sem, z0, z1, z2, z3, z4]) rfl ?_
    obtain ⟨hg9, hk9⟩ := HW.out
    have hkb : Blk w8 g_19 54 #[.string (bs []), .string (bs actL), .string (bs (actS n.toNat s.toNat)), .string (bs []), .string (bs outcomeL), .string (bs (nameF outsL o)), .string (bs []), .string (bs depthL), .string (bs (dec d.toNat)), .string (bs []), .string (bs expiresL), .string (bs (neverL))] := HO8.out.blk hk9 (fun e => hk9.ne_ HF2.out (by decide) e)
    have hbw := HB9.out.trans (Only.below HO8.out (Nat.le_refl _))
    refine ⟨g_19, rfl, hg9, ?_, hbw⟩
    rw [← HE.out]
    exact hkb
  · have hif : isFin x = true := (fin_small hx).2 hi
    rw [hif] at HF
    have HE := Lib.hid (show hexN 16 x = expT x by unfold expT; rw [if_neg hi])
    have HI := Lib.hid hi
    clear hi hif
    go_enter Tryz.func18, Tryz.ntmps18
    go_wp2_with fail
    refine HF.out.mono ?_
    rintro e w1 ⟨rfl, hb1⟩
    have C1 := Lib.hid ((HC.out.alloc _).below hb1 (HC.out.alloc _).lt)
    have k4 := (C1.out.cell 4).trans rfl
    have bb1 := BB1.out.trans (hb1.mono BB1.out.size)
    clear c4
    go_wp2_with fail
    refine (bits_any x (by unfold infR at hx; omega) _).mono ?_
    rintro e w2 ⟨rfl, hb2⟩
    clear k4
    have bb2 := bb1.trans (hb2.mono bb1.size)
    rw [plain_small hx]
    go_wp2_with fail
    refine (hex_any x (by unfold infR at hx; omega) _).mono ?_
    rintro e w3 ⟨rfl, hb3⟩
    go_wp2_with fail
    have HB1 := Lib.hid (bb2.trans (hb3.mono bb2.size))
    have HC1 := Lib.hid (((C1.out.below hb2 C1.out.lt).below hb3 (C1.out.below hb2 C1.out.lt).lt))
    have HR1 := Lib.hid (NN1.out.below (hb1.trans ((hb2.trans (hb3.mono hb2.size)).mono hb1.size)) NN1.out.lt)
    have HG1 := Lib.hid (HG.out.below HB1.out)
    have HT1 := Lib.hid (HT.out.below HB1.out)
    clear hb1 hb2 hb3 bb1 bb2 C1
    refine wp_phi_tail (List.take 21 _) (List.drop 21 _) (List.take_append_drop 21 _).symm (fun w' => (Blk w' c0 26 #[.int .i64 n, .int .i64 s, .int .i64 o, .int .i64 d, .float .f64 x]) ∧ (Blk w' w.heap.size 34 #[.string ⟨#[]⟩, .string ⟨#[]⟩, .slice none 0 0, .slice none 0 0, .string ⟨#[]⟩]) ∧ (IdsG w' E) ∧ (Tab w' 1 outsL) ∧ Below w.heap.size w w') [(3, PVal (.tuple #[.string (bs (actS n.toNat s.toNat)), .nilIface])), (6, PVal (.string (bs (actS n.toNat s.toNat)))), (7, PVal (.agg #[.string (bs []), .string (bs actL), .string (bs (actS n.toNat s.toNat))])), (11, PVal (.string (bs (nameF outsL o)))), (12, PVal (.agg #[.string (bs []), .string (bs outcomeL), .string (bs (nameF outsL o))])), (15, PVal (.string (bs (dec d.toNat)))), (16, PVal (.agg #[.string (bs []), .string (bs depthL), .string (bs (dec d.toNat))])), (18, PVal (.agg #[.string (bs []), .string (bs expiresL), .string (bs (hexN 16 x))])), (19, PBlk w.heap.size 54 #[.string (bs []), .string (bs actL), .string (bs (actS n.toNat s.toNat)), .string (bs []), .string (bs outcomeL), .string (bs (nameF outsL o)), .string (bs []), .string (bs depthL), .string (bs (dec d.toNat)), .string (bs []), .string (bs expiresL), .string (bs (hexN 16 x))] 4)] [] (by kernel_rfl) (by kernel_rfl) ?_ ?_ ⟨HC1.out, HR1.out, HG1.out.below (Below.refl _ _).drew, HT1.out.below (Below.refl _ _).drew, (HB1.out).drew⟩ ?_
    · rintro w1' w2' ⟨f1, f2, f3, f4, hIB⟩ hb
      exact ⟨(by first | exact f1.below hb | exact f1.keep (Below.keeps hb) | exact Below.keeps hb _ _ f1 | exact Blk.below f1 hb (Blk.lt f1)), (by first | exact f2.below hb | exact f2.keep (Below.keeps hb) | exact Below.keeps hb _ _ f2 | exact Blk.below f2 hb (Blk.lt f2)), (by first | exact f3.below hb | exact f3.keep (Below.keeps hb) | exact Below.keeps hb _ _ f3 | exact Blk.below f3 hb (Blk.lt f3)), (by first | exact f4.below hb | exact f4.keep (Below.keeps hb) | exact Below.keeps hb _ _ f4 | exact Blk.below f4 hb (Blk.lt f4)), hIB.trans (hb.mono hIB.size)⟩
    · simp only [List.mem_cons, List.not_mem_nil, or_false, forall_eq_or_imp, forall_eq]
      exact ⟨fun _ _ _ _ h' h => PVal_stays _ _ _ _ h' h, fun _ _ _ _ h' h => PVal_stays _ _ _ _ h' h, fun _ _ _ _ h' h => PVal_stays _ _ _ _ h' h, fun _ _ _ _ h' h => PVal_stays _ _ _ _ h' h, fun _ _ _ _ h' h => PVal_stays _ _ _ _ h' h, fun _ _ _ _ h' h => PVal_stays _ _ _ _ h' h, fun _ _ _ _ h' h => PVal_stays _ _ _ _ h' h, fun _ _ _ _ h' h => PVal_stays _ _ _ _ h' h, fun _ _ _ _ h' h => PBlk_stays h' h⟩
    simp only [List.take_succ_cons, List.take_zero, List.drop_succ_cons, List.drop_zero]
    repeat (first | (refine phi_skipK rfl (fun K hK => ?_); simp only [Act.put, List.setIfInBounds_toArray, List.set_cons_succ, List.set_cons_zero]; (try simp only [List.cons_append]); (try simp only [List.nil_append]); apply hK; clear hK K) | (refine phi_pureK rfl rfl (fun K hK => ?_); apply Exists.intro; constructor; (focus (rintro w' ⟨f1, f2, f3, f4, hIB⟩; have k0 := (f1.cell 0).trans rfl; have k1 := (f1.cell 1).trans rfl; have k2 := (f1.cell 2).trans rfl; have k3 := (f1.cell 3).trans rfl; clear f1 f2 f3 f4 hIB; first | (go_simp; done) | (go_simp; (try go_bits); (try go_simp); rfl) | go_simp)); simp only [Act.put, List.setIfInBounds_toArray, List.set_cons_succ, List.set_cons_zero]; (try simp only [List.cons_append]); (try simp only [List.nil_append]); apply hK; clear hK K))
    refine phi_partK (PVal (.tuple #[.string (bs (actS n.toNat s.toNat)), .nilIface])) rfl rfl ⟨_, rfl⟩ ?_ (fun K hK v hv => ?_)
    · rintro w' ⟨f1, f2, f3, f4, hIB⟩ hf
      unfold gives
      clear hf
      go_simp
      refine (act_right HP.out.2.1 _ E f3).mono ?_
      rintro e w'' ⟨rfl, hb⟩
      exact ⟨_, rfl, rfl, trivial, hb⟩
    obtain rfl : v = _ := hv
    simp only [Act.put, List.setIfInBounds_toArray, List.set_cons_succ, List.set_cons_zero]; (try simp only [List.cons_append]); (try simp only [List.nil_append])
    apply hK
    clear hK K
    repeat (first | (refine phi_skipK rfl (fun K hK => ?_); simp only [Act.put, List.setIfInBounds_toArray, List.set_cons_succ, List.set_cons_zero]; (try simp only [List.cons_append]); (try simp only [List.nil_append]); apply hK; clear hK K) | (refine phi_pureK rfl rfl (fun K hK => ?_); apply Exists.intro; constructor; (focus (rintro w' ⟨f1, f2, f3, f4, hIB⟩; have k0 := (f1.cell 0).trans rfl; have k1 := (f1.cell 1).trans rfl; have k2 := (f1.cell 2).trans rfl; have k3 := (f1.cell 3).trans rfl; clear f1 f2 f3 f4 hIB; first | (go_simp; done) | (go_simp; (try go_bits); (try go_simp); rfl) | go_simp)); simp only [Act.put, List.setIfInBounds_toArray, List.set_cons_succ, List.set_cons_zero]; (try simp only [List.cons_append]); (try simp only [List.nil_append]); apply hK; clear hK K))
    refine phi_partK (PVal (.string (bs (actS n.toNat s.toNat)))) rfl rfl ⟨_, rfl⟩ ?_ (fun K hK v hv => ?_)
    · rintro w' ⟨f1, f2, f3, f4, hIB⟩ hf
      unfold gives
      clear hf
      go_simp
      refine (must_strG (actS n.toNat s.toNat) _).mono ?_
      rintro e w'' ⟨rfl, hb⟩
      exact ⟨_, rfl, rfl, trivial, hb⟩
    obtain rfl : v = _ := hv
    simp only [Act.put, List.setIfInBounds_toArray, List.set_cons_succ, List.set_cons_zero]; (try simp only [List.cons_append]); (try simp only [List.nil_append])
    apply hK
    clear hK K
    repeat (first | (refine phi_skipK rfl (fun K hK => ?_); simp only [Act.put, List.setIfInBounds_toArray, List.set_cons_succ, List.set_cons_zero]; (try simp only [List.cons_append]); (try simp only [List.nil_append]); apply hK; clear hK K) | (refine phi_pureK rfl rfl (fun K hK => ?_); apply Exists.intro; constructor; (focus (rintro w' ⟨f1, f2, f3, f4, hIB⟩; have k0 := (f1.cell 0).trans rfl; have k1 := (f1.cell 1).trans rfl; have k2 := (f1.cell 2).trans rfl; have k3 := (f1.cell 3).trans rfl; clear f1 f2 f3 f4 hIB; first | (go_simp; done) | (go_simp; (try go_bits); (try go_simp); rfl) | go_simp)); simp only [Act.put, List.setIfInBounds_toArray, List.set_cons_succ, List.set_cons_zero]; (try simp only [List.cons_append]); (try simp only [List.nil_append]); apply hK; clear hK K))
    refine phi_partK (PVal (.agg #[.string (bs []), .string (bs actL), .string (bs (actS n.toNat s.toNat))])) rfl rfl ⟨_, rfl⟩ ?_ (fun K hK v hv => ?_)
    · rintro w' ⟨f1, f2, f3, f4, hIB⟩ hf
      unfold gives
      clear hf
      go_simp
      refine (attr_any actL _ _).mono ?_
      rintro e w'' ⟨rfl, hb⟩
      exact ⟨_, rfl, rfl, trivial, hb⟩
    obtain rfl : v = _ := hv
    simp only [Act.put, List.setIfInBounds_toArray, List.set_cons_succ, List.set_cons_zero]; (try simp only [List.cons_append]); (try simp only [List.nil_append])
    apply hK
    clear hK K
    repeat (first | (refine phi_skipK rfl (fun K hK => ?_); simp only [Act.put, List.setIfInBounds_toArray, List.set_cons_succ, List.set_cons_zero]; (try simp only [List.cons_append]); (try simp only [List.nil_append]); apply hK; clear hK K) | (refine phi_pureK rfl rfl (fun K hK => ?_); apply Exists.intro; constructor; (focus (rintro w' ⟨f1, f2, f3, f4, hIB⟩; have k0 := (f1.cell 0).trans rfl; have k1 := (f1.cell 1).trans rfl; have k2 := (f1.cell 2).trans rfl; have k3 := (f1.cell 3).trans rfl; clear f1 f2 f3 f4 hIB; first | (go_simp; done) | (go_simp; (try go_bits); (try go_simp); rfl) | go_simp)); simp only [Act.put, List.setIfInBounds_toArray, List.set_cons_succ, List.set_cons_zero]; (try simp only [List.cons_append]); (try simp only [List.nil_append]); apply hK; clear hK K))
    refine phi_partK (PVal (.string (bs (nameF outsL o)))) rfl rfl ⟨_, rfl⟩ ?_ (fun K hK v hv => ?_)
    · rintro w' ⟨f1, f2, f3, f4, hIB⟩ hf
      unfold gives
      clear hf
      go_simp
      refine (named_any outsL 1 o _ f4 (by decide)).mono ?_
      rintro e w'' ⟨rfl, hb⟩
      exact ⟨_, rfl, rfl, trivial, hb⟩
    obtain rfl : v = _ := hv
    simp only [Act.put, List.setIfInBounds_toArray, List.set_cons_succ, List.set_cons_zero]; (try simp only [List.cons_append]); (try simp only [List.nil_append])
    apply hK
    clear hK K
    repeat (first | (refine phi_skipK rfl (fun K hK => ?_); simp only [Act.put, List.setIfInBounds_toArray, List.set_cons_succ, List.set_cons_zero]; (try simp only [List.cons_append]); (try simp only [List.nil_append]); apply hK; clear hK K) | (refine phi_pureK rfl rfl (fun K hK => ?_); apply Exists.intro; constructor; (focus (rintro w' ⟨f1, f2, f3, f4, hIB⟩; have k0 := (f1.cell 0).trans rfl; have k1 := (f1.cell 1).trans rfl; have k2 := (f1.cell 2).trans rfl; have k3 := (f1.cell 3).trans rfl; clear f1 f2 f3 f4 hIB; first | (go_simp; done) | (go_simp; (try go_bits); (try go_simp); rfl) | go_simp)); simp only [Act.put, List.setIfInBounds_toArray, List.set_cons_succ, List.set_cons_zero]; (try simp only [List.cons_append]); (try simp only [List.nil_append]); apply hK; clear hK K))
    refine phi_partK (PVal (.agg #[.string (bs []), .string (bs outcomeL), .string (bs (nameF outsL o))])) rfl rfl ⟨_, rfl⟩ ?_ (fun K hK v hv => ?_)
    · rintro w' ⟨f1, f2, f3, f4, hIB⟩ hf
      unfold gives
      clear hf
      go_simp
      refine (attr_any outcomeL _ _).mono ?_
      rintro e w'' ⟨rfl, hb⟩
      exact ⟨_, rfl, rfl, trivial, hb⟩
    obtain rfl : v = _ := hv
    simp only [Act.put, List.setIfInBounds_toArray, List.set_cons_succ, List.set_cons_zero]; (try simp only [List.cons_append]); (try simp only [List.nil_append])
    apply hK
    clear hK K
    repeat (first | (refine phi_skipK rfl (fun K hK => ?_); simp only [Act.put, List.setIfInBounds_toArray, List.set_cons_succ, List.set_cons_zero]; (try simp only [List.cons_append]); (try simp only [List.nil_append]); apply hK; clear hK K) | (refine phi_pureK rfl rfl (fun K hK => ?_); apply Exists.intro; constructor; (focus (rintro w' ⟨f1, f2, f3, f4, hIB⟩; have k0 := (f1.cell 0).trans rfl; have k1 := (f1.cell 1).trans rfl; have k2 := (f1.cell 2).trans rfl; have k3 := (f1.cell 3).trans rfl; clear f1 f2 f3 f4 hIB; first | (go_simp; done) | (go_simp; (try go_bits); (try go_simp); rfl) | go_simp)); simp only [Act.put, List.setIfInBounds_toArray, List.set_cons_succ, List.set_cons_zero]; (try simp only [List.cons_append]); (try simp only [List.nil_append]); apply hK; clear hK K))
    refine phi_partK (PVal (.string (bs (dec d.toNat)))) rfl rfl ⟨_, rfl⟩ ?_ (fun K hK v hv => ?_)
    · rintro w' ⟨f1, f2, f3, f4, hIB⟩ hf
      unfold gives
      clear hf
      go_simp
      refine (HD.out _).mono ?_
      rintro e w'' ⟨rfl, hb⟩
      exact ⟨_, rfl, rfl, trivial, hb⟩
    obtain rfl : v = _ := hv
    simp only [Act.put, List.setIfInBounds_toArray, List.set_cons_succ, List.set_cons_zero]; (try simp only [List.cons_append]); (try simp only [List.nil_append])
    apply hK
    clear hK K
    repeat (first | (refine phi_skipK rfl (fun K hK => ?_); simp only [Act.put, List.setIfInBounds_toArray, List.set_cons_succ, List.set_cons_zero]; (try simp only [List.cons_append]); (try simp only [List.nil_append]); apply hK; clear hK K) | (refine phi_pureK rfl rfl (fun K hK => ?_); apply Exists.intro; constructor; (focus (rintro w' ⟨f1, f2, f3, f4, hIB⟩; have k0 := (f1.cell 0).trans rfl; have k1 := (f1.cell 1).trans rfl; have k2 := (f1.cell 2).trans rfl; have k3 := (f1.cell 3).trans rfl; clear f1 f2 f3 f4 hIB; first | (go_simp; done) | (go_simp; (try go_bits); (try go_simp); rfl) | go_simp)); simp only [Act.put, List.setIfInBounds_toArray, List.set_cons_succ, List.set_cons_zero]; (try simp only [List.cons_append]); (try simp only [List.nil_append]); apply hK; clear hK K))
    refine phi_partK (PVal (.agg #[.string (bs []), .string (bs depthL), .string (bs (dec d.toNat))])) rfl rfl ⟨_, rfl⟩ ?_ (fun K hK v hv => ?_)
    · rintro w' ⟨f1, f2, f3, f4, hIB⟩ hf
      unfold gives
      clear hf
      go_simp
      refine (attr_any depthL _ _).mono ?_
      rintro e w'' ⟨rfl, hb⟩
      exact ⟨_, rfl, rfl, trivial, hb⟩
    obtain rfl : v = _ := hv
    simp only [Act.put, List.setIfInBounds_toArray, List.set_cons_succ, List.set_cons_zero]; (try simp only [List.cons_append]); (try simp only [List.nil_append])
    apply hK
    clear hK K
    repeat (first | (refine phi_skipK rfl (fun K hK => ?_); simp only [Act.put, List.setIfInBounds_toArray, List.set_cons_succ, List.set_cons_zero]; (try simp only [List.cons_append]); (try simp only [List.nil_append]); apply hK; clear hK K) | (refine phi_pureK rfl rfl (fun K hK => ?_); apply Exists.intro; constructor; (focus (rintro w' ⟨f1, f2, f3, f4, hIB⟩; have k0 := (f1.cell 0).trans rfl; have k1 := (f1.cell 1).trans rfl; have k2 := (f1.cell 2).trans rfl; have k3 := (f1.cell 3).trans rfl; clear f1 f2 f3 f4 hIB; first | (go_simp; done) | (go_simp; (try go_bits); (try go_simp); rfl) | go_simp)); simp only [Act.put, List.setIfInBounds_toArray, List.set_cons_succ, List.set_cons_zero]; (try simp only [List.cons_append]); (try simp only [List.nil_append]); apply hK; clear hK K))
    refine phi_partK (PVal (.agg #[.string (bs []), .string (bs expiresL), .string (bs (hexN 16 x))])) rfl rfl ⟨_, rfl⟩ ?_ (fun K hK v hv => ?_)
    · rintro w' ⟨f1, f2, f3, f4, hIB⟩ hf
      unfold gives
      clear hf
      go_simp
      refine (attr_any expiresL (hexN 16 x) _).mono ?_
      rintro e w'' ⟨rfl, hb⟩
      exact ⟨_, rfl, rfl, trivial, hb⟩
    obtain rfl : v = _ := hv
    simp only [Act.put, List.setIfInBounds_toArray, List.set_cons_succ, List.set_cons_zero]; (try simp only [List.cons_append]); (try simp only [List.nil_append])
    apply hK
    clear hK K
    repeat (first | (refine phi_skipK rfl (fun K hK => ?_); simp only [Act.put, List.setIfInBounds_toArray, List.set_cons_succ, List.set_cons_zero]; (try simp only [List.cons_append]); (try simp only [List.nil_append]); apply hK; clear hK K) | (refine phi_pureK rfl rfl (fun K hK => ?_); apply Exists.intro; constructor; (focus (rintro w' ⟨f1, f2, f3, f4, hIB⟩; have k0 := (f1.cell 0).trans rfl; have k1 := (f1.cell 1).trans rfl; have k2 := (f1.cell 2).trans rfl; have k3 := (f1.cell 3).trans rfl; clear f1 f2 f3 f4 hIB; first | (go_simp; done) | (go_simp; (try go_bits); (try go_simp); rfl) | go_simp)); simp only [Act.put, List.setIfInBounds_toArray, List.set_cons_succ, List.set_cons_zero]; (try simp only [List.cons_append]); (try simp only [List.nil_append]); apply hK; clear hK K))
    refine phi_partK (PBlk w.heap.size 54 #[.string (bs []), .string (bs actL), .string (bs (actS n.toNat s.toNat)), .string (bs []), .string (bs outcomeL), .string (bs (nameF outsL o)), .string (bs []), .string (bs depthL), .string (bs (dec d.toNat)), .string (bs []), .string (bs expiresL), .string (bs (hexN 16 x))] 4) rfl rfl ⟨_, 0, rfl⟩ ?_ (fun K hK v hv => ?_)
    · rintro w' ⟨f1, f2, f3, f4, hIB⟩ hf
      have HGS := Lib.hid hIB.size
      clear hf f1 f2 f3 f4 hIB
      unfold gives
      go_simp
      refine ⟨⟨_, rfl⟩, fun g hg => ?_, below_alloc1 _ _⟩
      obtain rfl : w'.heap.size = g := by simpa using hg
      exact ⟨HGS.out, Blk.new _ _ _⟩
    obtain ⟨g_19, rfl⟩ := hv
    simp only [Act.put, List.setIfInBounds_toArray, List.set_cons_succ, List.set_cons_zero]; (try simp only [List.cons_append]); (try simp only [List.nil_append])
    apply hK
    clear hK K
    repeat (first | (refine phi_skipK rfl (fun K hK => ?_); simp only [Act.put, List.setIfInBounds_toArray, List.set_cons_succ, List.set_cons_zero]; (try simp only [List.cons_append]); (try simp only [List.nil_append]); apply hK; clear hK K) | (refine phi_pureK rfl rfl (fun K hK => ?_); apply Exists.intro; constructor; (focus (rintro w' ⟨f1, f2, f3, f4, hIB⟩; have k0 := (f1.cell 0).trans rfl; have k1 := (f1.cell 1).trans rfl; have k2 := (f1.cell 2).trans rfl; have k3 := (f1.cell 3).trans rfl; clear f1 f2 f3 f4 hIB; first | (go_simp; done) | (go_simp; (try go_bits); (try go_simp); rfl) | go_simp)); simp only [Act.put, List.setIfInBounds_toArray, List.set_cons_succ, List.set_cons_zero]; (try simp only [List.cons_append]); (try simp only [List.nil_append]); apply hK; clear hK K))
    refine phi_done ?_
    rintro w9 ⟨f1, f2, f3, f4, hb9⟩ hk9
    have hb_19 := hk9 (19, fun w1 => (PBlk w.heap.size 54 #[.string (bs []), .string (bs actL), .string (bs (actS n.toNat s.toNat)), .string (bs []), .string (bs outcomeL), .string (bs (nameF outsL o)), .string (bs []), .string (bs depthL), .string (bs (dec d.toNat)), .string (bs []), .string (bs expiresL), .string (bs (hexN 16 x))] 4).fact w1 (.slice (some ⟨g_19, 0, none⟩) 4 4)) (by simp) g_19 rfl
    clear hk9
    have HW := Lib.hid hb_19
    have HF2 := Lib.hid f2
    have HB9 := Lib.hid hb9
    clear f1 f2 f3 f4 hb_19 hb9
    go_wp2_with (refine wpList_store (.tmp 1) (.tmp 30) 34 rfl rfl w.heap.size 0 _ _ #[.string (bs wscoorL), .string (bs ccL), .slice (some ⟨g_19, 0, none⟩) 4 4, .slice none 0 0, .string (bs [])] rfl rfl HF2.out ?s0 ?s1 ?s2 ?_)
    case s0 => kernel_rfl
    case s1 => simp [Value.oneCell']
    case s2 => simp
    intro w8 hb8 ho8
    rw [putCells_all #[.string ⟨#[]⟩, .string ⟨#[]⟩, .slice none 0 0, .slice none 0 0, .string ⟨#[]⟩] #[.string (bs wscoorL), .string (bs ccL), .slice (some ⟨g_19, 0, none⟩) 4 4, .slice none 0 0, .string (bs [])] rfl] at hb8
    have z0 := (hb8.cell 0).trans rfl; have z1 := (hb8.cell 1).trans rfl; have z2 := (hb8.cell 2).trans rfl; have z3 := (hb8.cell 3).trans rfl; have z4 := (hb8.cell 4).trans rfl
    have HB8 := Lib.hid hb8; have HO8 := Lib.hid ho8
    clear hb8 ho8
    go_wp2_with fail
    refine bodyPost_ret (v := .agg #[.string (bs wscoorL), .string (bs ccL), .slice (some ⟨g_19, 0, none⟩) 4 4, .slice none 0 0, .string (bs [])]) (by simp [results, Tryz.results18, go_sem, z0, z1, z2, z3, z4]) rfl ?_
    obtain ⟨hg9, hk9⟩ := HW.out
    have hkb : Blk w8 g_19 54 #[.string (bs []), .string (bs actL), .string (bs (actS n.toNat s.toNat)), .string (bs []), .string (bs outcomeL), .string (bs (nameF outsL o)), .string (bs []), .string (bs depthL), .string (bs (dec d.toNat)), .string (bs []), .string (bs expiresL), .string (bs (hexN 16 x))] := HO8.out.blk hk9 (fun e => hk9.ne_ HF2.out (by decide) e)
    have hbw := HB9.out.trans (Only.below HO8.out (Nat.le_refl _))
    refine ⟨g_19, rfl, hg9, ?_, hbw⟩
    rw [← HE.out]
    exact hkb
end Go.Proofs.YtgmiockaecklaaaGreatDoor
