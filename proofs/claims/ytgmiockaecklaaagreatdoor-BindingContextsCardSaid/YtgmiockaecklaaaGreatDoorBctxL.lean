/-
  BctxL: the document's Context.
-/
import Derived.Test.YtgmiockaecklaaaGreatDoorBctxJ
import Derived.Test.YtgmiockaecklaaaGreatDoorBctxF
namespace Go.Proofs.YtgmiockaecklaaaGreatDoor
open Go.RowKit Go.Extern.Stop Go.Stop Go.Extern Ieee
attribute [local go_sem] bs_toList bs_size
attribute [local irreducible] wpPhi

theorem refactG (a b : Int) (h : 0 ≤ a ∧ a < 4 ∧ 0 ≤ b ∧ b < 1000000) (w : World) : Calls Tryz.prog 36 #[.agg #[.int .i64 a, .int .i64 b]] w (Gives w (.string (bs (actS a.toNat b.toNat)))) := by
  have := refact_any a.toNat b.toNat (by omega) (by omega) w
  rw [Int.toNat_of_nonneg h.1, Int.toNat_of_nonneg h.2.2.1] at this
  exact this
theorem refdigG (d : Int) (h : 0 ≤ d ∧ d ≤ 1000000) (w : World) : Calls Tryz.prog 37 #[.int .i64 d] w (Gives w (.string (bs (dec d.toNat)))) := by
  have := refdig_any d.toNat (by omega) w
  rw [Int.toNat_of_nonneg h.1] at this
  exact this
set_option maxRecDepth 20000 in
set_option maxHeartbeats 8000000 in
theorem refctx_any (n s o d : Int) (x : Nat) (hr : rightC ⟨n, s, o, d, x⟩ = true) (w : World) :
    Calls Tryz.prog 11 #[.agg #[.int .i64 n, .int .i64 s, .int .i64 o, .int .i64 d, .float .f64 x]] w (TrR (ctxT ⟨n, s, o, d, x⟩) w) := by
  show Calls _ _ _ _ (TrR (ctxTr (actS n.toNat s.toNat) (nameF outsL o) (dec d.toNat) (expT x)) w)
  have HP := Lib.hid (show x ≤ infR ∧ (0 ≤ n ∧ n < 4 ∧ 0 ≤ s ∧ s < 1000000) ∧ (o = 1 ∨ o = 2) ∧ 0 ≤ d ∧ d ≤ 3 from right_parts hr)
  have hx : x ≤ infR := HP.out.1
  have ho12 := HP.out.2.2.1
  have HD := Lib.hid (fun w => refdigG d (by have := HP.out.2.2.2; omega) w)
  have BB := Lib.hid (below_alloc (below_alloc1 w (.cells #[.int .i64 n, .int .i64 s, .int .i64 o, .int .i64 d, .float .f64 x] 26)) (.cells #[.string ⟨#[]⟩, .string ⟨#[]⟩, .slice none 0 0, .slice none 0 0, .string ⟨#[]⟩] 47))
  have NN := Lib.hid ((Blk.new w 26 #[.int .i64 n, .int .i64 s, .int .i64 o, .int .i64 d, .float .f64 x]).alloc (.cells #[.string ⟨#[]⟩, .string ⟨#[]⟩, .slice none 0 0, .slice none 0 0, .string ⟨#[]⟩] 47))
  have MM := Lib.hid (show Blk ((w.alloc (.cells #[.int .i64 n, .int .i64 s, .int .i64 o, .int .i64 d, .float .f64 x] 26)).alloc (.cells #[.string ⟨#[]⟩, .string ⟨#[]⟩, .slice none 0 0, .slice none 0 0, .string ⟨#[]⟩] 47)) (w.heap.size + 1) 47 #[.string ⟨#[]⟩, .string ⟨#[]⟩, .slice none 0 0, .slice none 0 0, .string ⟨#[]⟩] from by
    have := Blk.new (w.alloc (.cells #[.int .i64 n, .int .i64 s, .int .i64 o, .int .i64 d, .float .f64 x] 26)) 47 #[.string ⟨#[]⟩, .string ⟨#[]⟩, .slice none 0 0, .slice none 0 0, .string ⟨#[]⟩]
    rwa [World.size_alloc] at this)
  have c1 := (NN.out.cell 1).trans rfl
  have c4 := (NN.out.cell 4).trans rfl
  clear hr
  rcases ho12 with ho | ho
  all_goals
    have HOV := Lib.hid ho
    first
    | (have hq : (o == 2) = false := by (rw [ho]; rfl))
    | (have hq : (o == 2) = true := by (rw [ho]; rfl))
    clear ho
    by_cases hi : x = infR
    · have hn1 : ((x : Int) != 9218868437227405312) = false := by (rw [hi]; rfl)
      have HE := Lib.hid (show neverL = expT x by unfold expT; rw [if_pos hi])
      clear hi
      go_enter Tryz.func11, Tryz.ntmps11
      go_wp2_with fail
      refine (raw_any x _).mono ?_
      rintro e w1 ⟨rfl, hb1⟩
      clear c1 c4
      go_wp2_with fail
      have HB1 := Lib.hid (BB.out.trans (hb1.mono BB.out.size))
      have HC1 := Lib.hid (NN.out.below hb1 NN.out.lt)
      have HR1 := Lib.hid (MM.out.below hb1 MM.out.lt)
      clear hb1 hn1 hq
      first
      | (have HO := Lib.hid (show ([97, 116, 111, 109, 105, 99] : List UInt8) = nameF outsL o by rw [HOV.out]; rfl)
         refine wp_phi_tail (List.take 15 _) (List.drop 15 _) (List.take_append_drop 15 _).symm (fun w' => (Blk w' w.heap.size 26 #[.int .i64 n, .int .i64 s, .int .i64 o, .int .i64 d, .float .f64 x]) ∧ (Blk w' (w.heap.size + 1) 47 #[.string ⟨#[]⟩, .string ⟨#[]⟩, .slice none 0 0, .slice none 0 0, .string ⟨#[]⟩]) ∧ Below w.heap.size w w') [(3, PVal (.string (bs (actS n.toNat s.toNat)))), (4, PVal (.agg #[.string (bs []), .string (bs actL), .string (bs (actS n.toNat s.toNat))])), (6, PVal (.agg #[.string (bs []), .string (bs outcomeL), .string (bs ([97, 116, 111, 109, 105, 99]))])), (9, PVal (.string (bs (dec d.toNat)))), (10, PVal (.agg #[.string (bs []), .string (bs depthL), .string (bs (dec d.toNat))])), (12, PVal (.agg #[.string (bs []), .string (bs expiresL), .string (bs (neverL))])), (13, PBlk w.heap.size 78 #[.string (bs []), .string (bs actL), .string (bs (actS n.toNat s.toNat)), .string (bs []), .string (bs outcomeL), .string (bs ([97, 116, 111, 109, 105, 99])), .string (bs []), .string (bs depthL), .string (bs (dec d.toNat)), .string (bs []), .string (bs expiresL), .string (bs (neverL))] 4)] [] (by kernel_rfl) (by kernel_rfl) ?_ ?_ ⟨HC1.out, HR1.out, (HB1.out).drew⟩ ?_
         · rintro w1' w2' ⟨f1, f2, hIB⟩ hb
           exact ⟨(by first | exact f1.below hb | exact f1.keep (Below.keeps hb) | exact Below.keeps hb _ _ f1 | exact Blk.below f1 hb (Blk.lt f1)), (by first | exact f2.below hb | exact f2.keep (Below.keeps hb) | exact Below.keeps hb _ _ f2 | exact Blk.below f2 hb (Blk.lt f2)), hIB.trans (hb.mono hIB.size)⟩
         · simp only [List.mem_cons, List.not_mem_nil, or_false, forall_eq_or_imp, forall_eq]
           exact ⟨fun _ _ _ _ h' h => PVal_stays _ _ _ _ h' h, fun _ _ _ _ h' h => PVal_stays _ _ _ _ h' h, fun _ _ _ _ h' h => PVal_stays _ _ _ _ h' h, fun _ _ _ _ h' h => PVal_stays _ _ _ _ h' h, fun _ _ _ _ h' h => PVal_stays _ _ _ _ h' h, fun _ _ _ _ h' h => PVal_stays _ _ _ _ h' h, fun _ _ _ _ h' h => PBlk_stays h' h⟩
         simp only [List.take_succ_cons, List.take_zero, List.drop_succ_cons, List.drop_zero]
         repeat (first | (refine phi_skipK rfl (fun K hK => ?_); simp only [Act.put, List.setIfInBounds_toArray, List.set_cons_succ, List.set_cons_zero]; (try simp only [List.cons_append]); (try simp only [List.nil_append]); apply hK; clear hK K) | (refine phi_pureK rfl rfl (fun K hK => ?_); apply Exists.intro; constructor; (focus (rintro w' ⟨f1, f2, hIB⟩; have k0 := (f1.cell 0).trans rfl; have k1 := (f1.cell 1).trans rfl; have k2 := (f1.cell 2).trans rfl; have k3 := (f1.cell 3).trans rfl; clear f1 f2 hIB; first | (go_simp; done) | (go_simp; (try go_bits); (try go_simp); rfl) | go_simp)); simp only [Act.put, List.setIfInBounds_toArray, List.set_cons_succ, List.set_cons_zero]; (try simp only [List.cons_append]); (try simp only [List.nil_append]); apply hK; clear hK K))
         refine phi_partK (PVal (.string (bs (actS n.toNat s.toNat)))) rfl rfl ⟨_, rfl⟩ ?_ (fun K hK v hv => ?_)
         · rintro w' ⟨f1, f2, hIB⟩ hf
           unfold gives
           clear hf
           go_simp
           refine (refactG n s HP.out.2.1 _).mono ?_
           rintro e w'' ⟨rfl, hb⟩
           exact ⟨_, rfl, rfl, trivial, hb⟩
         obtain rfl : v = _ := hv
         simp only [Act.put, List.setIfInBounds_toArray, List.set_cons_succ, List.set_cons_zero]; (try simp only [List.cons_append]); (try simp only [List.nil_append])
         apply hK
         clear hK K
         repeat (first | (refine phi_skipK rfl (fun K hK => ?_); simp only [Act.put, List.setIfInBounds_toArray, List.set_cons_succ, List.set_cons_zero]; (try simp only [List.cons_append]); (try simp only [List.nil_append]); apply hK; clear hK K) | (refine phi_pureK rfl rfl (fun K hK => ?_); apply Exists.intro; constructor; (focus (rintro w' ⟨f1, f2, hIB⟩; have k0 := (f1.cell 0).trans rfl; have k1 := (f1.cell 1).trans rfl; have k2 := (f1.cell 2).trans rfl; have k3 := (f1.cell 3).trans rfl; clear f1 f2 hIB; first | (go_simp; done) | (go_simp; (try go_bits); (try go_simp); rfl) | go_simp)); simp only [Act.put, List.setIfInBounds_toArray, List.set_cons_succ, List.set_cons_zero]; (try simp only [List.cons_append]); (try simp only [List.nil_append]); apply hK; clear hK K))
         refine phi_partK (PVal (.agg #[.string (bs []), .string (bs actL), .string (bs (actS n.toNat s.toNat))])) rfl rfl ⟨_, rfl⟩ ?_ (fun K hK v hv => ?_)
         · rintro w' ⟨f1, f2, hIB⟩ hf
           unfold gives
           clear hf
           go_simp
           refine (refattr_any actL _ _).mono ?_
           rintro e w'' ⟨rfl, hb⟩
           exact ⟨_, rfl, rfl, trivial, hb⟩
         obtain rfl : v = _ := hv
         simp only [Act.put, List.setIfInBounds_toArray, List.set_cons_succ, List.set_cons_zero]; (try simp only [List.cons_append]); (try simp only [List.nil_append])
         apply hK
         clear hK K
         repeat (first | (refine phi_skipK rfl (fun K hK => ?_); simp only [Act.put, List.setIfInBounds_toArray, List.set_cons_succ, List.set_cons_zero]; (try simp only [List.cons_append]); (try simp only [List.nil_append]); apply hK; clear hK K) | (refine phi_pureK rfl rfl (fun K hK => ?_); apply Exists.intro; constructor; (focus (rintro w' ⟨f1, f2, hIB⟩; have k0 := (f1.cell 0).trans rfl; have k1 := (f1.cell 1).trans rfl; have k2 := (f1.cell 2).trans rfl; have k3 := (f1.cell 3).trans rfl; clear f1 f2 hIB; first | (go_simp; done) | (go_simp; (try go_bits); (try go_simp); rfl) | go_simp)); simp only [Act.put, List.setIfInBounds_toArray, List.set_cons_succ, List.set_cons_zero]; (try simp only [List.cons_append]); (try simp only [List.nil_append]); apply hK; clear hK K))
         refine phi_partK (PVal (.agg #[.string (bs []), .string (bs outcomeL), .string (bs ([97, 116, 111, 109, 105, 99]))])) rfl rfl ⟨_, rfl⟩ ?_ (fun K hK v hv => ?_)
         · rintro w' ⟨f1, f2, hIB⟩ hf
           unfold gives
           clear hf
           go_simp
           refine (refattr_any outcomeL ([97, 116, 111, 109, 105, 99]) _).mono ?_
           rintro e w'' ⟨rfl, hb⟩
           exact ⟨_, rfl, rfl, trivial, hb⟩
         obtain rfl : v = _ := hv
         simp only [Act.put, List.setIfInBounds_toArray, List.set_cons_succ, List.set_cons_zero]; (try simp only [List.cons_append]); (try simp only [List.nil_append])
         apply hK
         clear hK K
         repeat (first | (refine phi_skipK rfl (fun K hK => ?_); simp only [Act.put, List.setIfInBounds_toArray, List.set_cons_succ, List.set_cons_zero]; (try simp only [List.cons_append]); (try simp only [List.nil_append]); apply hK; clear hK K) | (refine phi_pureK rfl rfl (fun K hK => ?_); apply Exists.intro; constructor; (focus (rintro w' ⟨f1, f2, hIB⟩; have k0 := (f1.cell 0).trans rfl; have k1 := (f1.cell 1).trans rfl; have k2 := (f1.cell 2).trans rfl; have k3 := (f1.cell 3).trans rfl; clear f1 f2 hIB; first | (go_simp; done) | (go_simp; (try go_bits); (try go_simp); rfl) | go_simp)); simp only [Act.put, List.setIfInBounds_toArray, List.set_cons_succ, List.set_cons_zero]; (try simp only [List.cons_append]); (try simp only [List.nil_append]); apply hK; clear hK K))
         refine phi_partK (PVal (.string (bs (dec d.toNat)))) rfl rfl ⟨_, rfl⟩ ?_ (fun K hK v hv => ?_)
         · rintro w' ⟨f1, f2, hIB⟩ hf
           unfold gives
           clear hf
           go_simp
           refine (HD.out _).mono ?_
           rintro e w'' ⟨rfl, hb⟩
           exact ⟨_, rfl, rfl, trivial, hb⟩
         obtain rfl : v = _ := hv
         simp only [Act.put, List.setIfInBounds_toArray, List.set_cons_succ, List.set_cons_zero]; (try simp only [List.cons_append]); (try simp only [List.nil_append])
         apply hK
         clear hK K
         repeat (first | (refine phi_skipK rfl (fun K hK => ?_); simp only [Act.put, List.setIfInBounds_toArray, List.set_cons_succ, List.set_cons_zero]; (try simp only [List.cons_append]); (try simp only [List.nil_append]); apply hK; clear hK K) | (refine phi_pureK rfl rfl (fun K hK => ?_); apply Exists.intro; constructor; (focus (rintro w' ⟨f1, f2, hIB⟩; have k0 := (f1.cell 0).trans rfl; have k1 := (f1.cell 1).trans rfl; have k2 := (f1.cell 2).trans rfl; have k3 := (f1.cell 3).trans rfl; clear f1 f2 hIB; first | (go_simp; done) | (go_simp; (try go_bits); (try go_simp); rfl) | go_simp)); simp only [Act.put, List.setIfInBounds_toArray, List.set_cons_succ, List.set_cons_zero]; (try simp only [List.cons_append]); (try simp only [List.nil_append]); apply hK; clear hK K))
         refine phi_partK (PVal (.agg #[.string (bs []), .string (bs depthL), .string (bs (dec d.toNat))])) rfl rfl ⟨_, rfl⟩ ?_ (fun K hK v hv => ?_)
         · rintro w' ⟨f1, f2, hIB⟩ hf
           unfold gives
           clear hf
           go_simp
           refine (refattr_any depthL _ _).mono ?_
           rintro e w'' ⟨rfl, hb⟩
           exact ⟨_, rfl, rfl, trivial, hb⟩
         obtain rfl : v = _ := hv
         simp only [Act.put, List.setIfInBounds_toArray, List.set_cons_succ, List.set_cons_zero]; (try simp only [List.cons_append]); (try simp only [List.nil_append])
         apply hK
         clear hK K
         repeat (first | (refine phi_skipK rfl (fun K hK => ?_); simp only [Act.put, List.setIfInBounds_toArray, List.set_cons_succ, List.set_cons_zero]; (try simp only [List.cons_append]); (try simp only [List.nil_append]); apply hK; clear hK K) | (refine phi_pureK rfl rfl (fun K hK => ?_); apply Exists.intro; constructor; (focus (rintro w' ⟨f1, f2, hIB⟩; have k0 := (f1.cell 0).trans rfl; have k1 := (f1.cell 1).trans rfl; have k2 := (f1.cell 2).trans rfl; have k3 := (f1.cell 3).trans rfl; clear f1 f2 hIB; first | (go_simp; done) | (go_simp; (try go_bits); (try go_simp); rfl) | go_simp)); simp only [Act.put, List.setIfInBounds_toArray, List.set_cons_succ, List.set_cons_zero]; (try simp only [List.cons_append]); (try simp only [List.nil_append]); apply hK; clear hK K))
         refine phi_partK (PVal (.agg #[.string (bs []), .string (bs expiresL), .string (bs (neverL))])) rfl rfl ⟨_, rfl⟩ ?_ (fun K hK v hv => ?_)
         · rintro w' ⟨f1, f2, hIB⟩ hf
           unfold gives
           clear hf
           go_simp
           refine (refattr_any expiresL (neverL) _).mono ?_
           rintro e w'' ⟨rfl, hb⟩
           exact ⟨_, rfl, rfl, trivial, hb⟩
         obtain rfl : v = _ := hv
         simp only [Act.put, List.setIfInBounds_toArray, List.set_cons_succ, List.set_cons_zero]; (try simp only [List.cons_append]); (try simp only [List.nil_append])
         apply hK
         clear hK K
         repeat (first | (refine phi_skipK rfl (fun K hK => ?_); simp only [Act.put, List.setIfInBounds_toArray, List.set_cons_succ, List.set_cons_zero]; (try simp only [List.cons_append]); (try simp only [List.nil_append]); apply hK; clear hK K) | (refine phi_pureK rfl rfl (fun K hK => ?_); apply Exists.intro; constructor; (focus (rintro w' ⟨f1, f2, hIB⟩; have k0 := (f1.cell 0).trans rfl; have k1 := (f1.cell 1).trans rfl; have k2 := (f1.cell 2).trans rfl; have k3 := (f1.cell 3).trans rfl; clear f1 f2 hIB; first | (go_simp; done) | (go_simp; (try go_bits); (try go_simp); rfl) | go_simp)); simp only [Act.put, List.setIfInBounds_toArray, List.set_cons_succ, List.set_cons_zero]; (try simp only [List.cons_append]); (try simp only [List.nil_append]); apply hK; clear hK K))
         refine phi_partK (PBlk w.heap.size 78 #[.string (bs []), .string (bs actL), .string (bs (actS n.toNat s.toNat)), .string (bs []), .string (bs outcomeL), .string (bs ([97, 116, 111, 109, 105, 99])), .string (bs []), .string (bs depthL), .string (bs (dec d.toNat)), .string (bs []), .string (bs expiresL), .string (bs (neverL))] 4) rfl rfl ⟨_, 0, rfl⟩ ?_ (fun K hK v hv => ?_)
         · rintro w' ⟨f1, f2, hIB⟩ hf
           have HGS := Lib.hid hIB.size
           clear hf f1 f2 hIB
           unfold gives
           go_simp
           refine ⟨⟨_, rfl⟩, fun g hg => ?_, below_alloc1 _ _⟩
           obtain rfl : w'.heap.size = g := by simpa using hg
           exact ⟨HGS.out, Blk.new _ _ _⟩
         obtain ⟨g_13, rfl⟩ := hv
         simp only [Act.put, List.setIfInBounds_toArray, List.set_cons_succ, List.set_cons_zero]; (try simp only [List.cons_append]); (try simp only [List.nil_append])
         apply hK
         clear hK K
         repeat (first | (refine phi_skipK rfl (fun K hK => ?_); simp only [Act.put, List.setIfInBounds_toArray, List.set_cons_succ, List.set_cons_zero]; (try simp only [List.cons_append]); (try simp only [List.nil_append]); apply hK; clear hK K) | (refine phi_pureK rfl rfl (fun K hK => ?_); apply Exists.intro; constructor; (focus (rintro w' ⟨f1, f2, hIB⟩; have k0 := (f1.cell 0).trans rfl; have k1 := (f1.cell 1).trans rfl; have k2 := (f1.cell 2).trans rfl; have k3 := (f1.cell 3).trans rfl; clear f1 f2 hIB; first | (go_simp; done) | (go_simp; (try go_bits); (try go_simp); rfl) | go_simp)); simp only [Act.put, List.setIfInBounds_toArray, List.set_cons_succ, List.set_cons_zero]; (try simp only [List.cons_append]); (try simp only [List.nil_append]); apply hK; clear hK K))
         refine phi_done ?_
         rintro w9 ⟨f1, f2, hb9⟩ hk9
         have hb_13 := hk9 (13, fun w1 => (PBlk w.heap.size 78 #[.string (bs []), .string (bs actL), .string (bs (actS n.toNat s.toNat)), .string (bs []), .string (bs outcomeL), .string (bs ([97, 116, 111, 109, 105, 99])), .string (bs []), .string (bs depthL), .string (bs (dec d.toNat)), .string (bs []), .string (bs expiresL), .string (bs (neverL))] 4).fact w1 (.slice (some ⟨g_13, 0, none⟩) 4 4)) (by simp) g_13 rfl
         clear hk9
         have HW := Lib.hid hb_13
         have HF2 := Lib.hid f2
         have HB9 := Lib.hid hb9
         clear f1 f2 hb_13 hb9
         go_wp2_with (refine wpList_store (.tmp 2) (.tmp 30) 47 rfl rfl (w.heap.size + 1) 0 _ _ #[.string (bs wscoorL), .string (bs ccL), .slice (some ⟨g_13, 0, none⟩) 4 4, .slice none 0 0, .string (bs [])] rfl rfl HF2.out ?s0 ?s1 ?s2 ?_)
         case s0 => kernel_rfl
         case s1 => simp [Value.oneCell']
         case s2 => simp
         intro w8 hb8 ho8
         rw [putCells_all #[.string ⟨#[]⟩, .string ⟨#[]⟩, .slice none 0 0, .slice none 0 0, .string ⟨#[]⟩] #[.string (bs wscoorL), .string (bs ccL), .slice (some ⟨g_13, 0, none⟩) 4 4, .slice none 0 0, .string (bs [])] rfl] at hb8
         have z0 := (hb8.cell 0).trans rfl; have z1 := (hb8.cell 1).trans rfl; have z2 := (hb8.cell 2).trans rfl; have z3 := (hb8.cell 3).trans rfl; have z4 := (hb8.cell 4).trans rfl
         have HB8 := Lib.hid hb8; have HO8 := Lib.hid ho8
         clear hb8 ho8
         go_wp2_with fail
         refine bodyPost_ret (v := .agg #[.string (bs wscoorL), .string (bs ccL), .slice (some ⟨g_13, 0, none⟩) 4 4, .slice none 0 0, .string (bs [])]) (by simp [results, Tryz.results11, go_sem, z0, z1, z2, z3, z4]) rfl ?_
         obtain ⟨hg9, hk9⟩ := HW.out
         have hkb : Blk w8 g_13 78 #[.string (bs []), .string (bs actL), .string (bs (actS n.toNat s.toNat)), .string (bs []), .string (bs outcomeL), .string (bs ([97, 116, 111, 109, 105, 99])), .string (bs []), .string (bs depthL), .string (bs (dec d.toNat)), .string (bs []), .string (bs expiresL), .string (bs (neverL))] := HO8.out.blk hk9 (fun e => hk9.ne_ HF2.out (by decide) e)
         have hbw := HB9.out.trans (Only.below HO8.out (by omega))
         refine ⟨[.string (bs wscoorL), .string (bs ccL), .slice (some ⟨g_13, 0, none⟩) 4 4, .slice none 0 0, .string (bs [])], rfl, ?_, hbw⟩
         rw [← HO.out, ← HE.out]
         unfold ctxTr TrC
         refine ⟨some ⟨g_13, 0, none⟩, 4, none, 0, [], rfl, ⟨Nat.le_refl _, by unfold maxLen; omega, .inr ⟨g_13, 0, rfl, fun i u hu => ?_⟩, fun a ha => ?_⟩, ⟨Nat.le_refl _, by unfold maxLen; omega, .inl rfl, fun a ha => by cases ha⟩, (by unfold TrL; rfl)⟩
         · rw [Nat.zero_add, hkb.cell]
           rw [← List.getElem?_toArray] at hu
           exact hu
         · cases ha
           exact ⟨hg9, hkb.lt, by simp⟩
        )
      | (have HO := Lib.hid (show ([109, 105, 120, 101, 100] : List UInt8) = nameF outsL o by rw [HOV.out]; rfl)
         refine wp_phi_tail (List.take 15 _) (List.drop 15 _) (List.take_append_drop 15 _).symm (fun w' => (Blk w' w.heap.size 26 #[.int .i64 n, .int .i64 s, .int .i64 o, .int .i64 d, .float .f64 x]) ∧ (Blk w' (w.heap.size + 1) 47 #[.string ⟨#[]⟩, .string ⟨#[]⟩, .slice none 0 0, .slice none 0 0, .string ⟨#[]⟩]) ∧ Below w.heap.size w w') [(3, PVal (.string (bs (actS n.toNat s.toNat)))), (4, PVal (.agg #[.string (bs []), .string (bs actL), .string (bs (actS n.toNat s.toNat))])), (6, PVal (.agg #[.string (bs []), .string (bs outcomeL), .string (bs ([109, 105, 120, 101, 100]))])), (9, PVal (.string (bs (dec d.toNat)))), (10, PVal (.agg #[.string (bs []), .string (bs depthL), .string (bs (dec d.toNat))])), (12, PVal (.agg #[.string (bs []), .string (bs expiresL), .string (bs (neverL))])), (13, PBlk w.heap.size 78 #[.string (bs []), .string (bs actL), .string (bs (actS n.toNat s.toNat)), .string (bs []), .string (bs outcomeL), .string (bs ([109, 105, 120, 101, 100])), .string (bs []), .string (bs depthL), .string (bs (dec d.toNat)), .string (bs []), .string (bs expiresL), .string (bs (neverL))] 4)] [] (by kernel_rfl) (by kernel_rfl) ?_ ?_ ⟨HC1.out, HR1.out, (HB1.out).drew⟩ ?_
         · rintro w1' w2' ⟨f1, f2, hIB⟩ hb
           exact ⟨(by first | exact f1.below hb | exact f1.keep (Below.keeps hb) | exact Below.keeps hb _ _ f1 | exact Blk.below f1 hb (Blk.lt f1)), (by first | exact f2.below hb | exact f2.keep (Below.keeps hb) | exact Below.keeps hb _ _ f2 | exact Blk.below f2 hb (Blk.lt f2)), hIB.trans (hb.mono hIB.size)⟩
         · simp only [List.mem_cons, List.not_mem_nil, or_false, forall_eq_or_imp, forall_eq]
           exact ⟨fun _ _ _ _ h' h => PVal_stays _ _ _ _ h' h, fun _ _ _ _ h' h => PVal_stays _ _ _ _ h' h, fun _ _ _ _ h' h => PVal_stays _ _ _ _ h' h, fun _ _ _ _ h' h => PVal_stays _ _ _ _ h' h, fun _ _ _ _ h' h => PVal_stays _ _ _ _ h' h, fun _ _ _ _ h' h => PVal_stays _ _ _ _ h' h, fun _ _ _ _ h' h => PBlk_stays h' h⟩
         simp only [List.take_succ_cons, List.take_zero, List.drop_succ_cons, List.drop_zero]
         repeat (first | (refine phi_skipK rfl (fun K hK => ?_); simp only [Act.put, List.setIfInBounds_toArray, List.set_cons_succ, List.set_cons_zero]; (try simp only [List.cons_append]); (try simp only [List.nil_append]); apply hK; clear hK K) | (refine phi_pureK rfl rfl (fun K hK => ?_); apply Exists.intro; constructor; (focus (rintro w' ⟨f1, f2, hIB⟩; have k0 := (f1.cell 0).trans rfl; have k1 := (f1.cell 1).trans rfl; have k2 := (f1.cell 2).trans rfl; have k3 := (f1.cell 3).trans rfl; clear f1 f2 hIB; first | (go_simp; done) | (go_simp; (try go_bits); (try go_simp); rfl) | go_simp)); simp only [Act.put, List.setIfInBounds_toArray, List.set_cons_succ, List.set_cons_zero]; (try simp only [List.cons_append]); (try simp only [List.nil_append]); apply hK; clear hK K))
         refine phi_partK (PVal (.string (bs (actS n.toNat s.toNat)))) rfl rfl ⟨_, rfl⟩ ?_ (fun K hK v hv => ?_)
         · rintro w' ⟨f1, f2, hIB⟩ hf
           unfold gives
           clear hf
           go_simp
           refine (refactG n s HP.out.2.1 _).mono ?_
           rintro e w'' ⟨rfl, hb⟩
           exact ⟨_, rfl, rfl, trivial, hb⟩
         obtain rfl : v = _ := hv
         simp only [Act.put, List.setIfInBounds_toArray, List.set_cons_succ, List.set_cons_zero]; (try simp only [List.cons_append]); (try simp only [List.nil_append])
         apply hK
         clear hK K
         repeat (first | (refine phi_skipK rfl (fun K hK => ?_); simp only [Act.put, List.setIfInBounds_toArray, List.set_cons_succ, List.set_cons_zero]; (try simp only [List.cons_append]); (try simp only [List.nil_append]); apply hK; clear hK K) | (refine phi_pureK rfl rfl (fun K hK => ?_); apply Exists.intro; constructor; (focus (rintro w' ⟨f1, f2, hIB⟩; have k0 := (f1.cell 0).trans rfl; have k1 := (f1.cell 1).trans rfl; have k2 := (f1.cell 2).trans rfl; have k3 := (f1.cell 3).trans rfl; clear f1 f2 hIB; first | (go_simp; done) | (go_simp; (try go_bits); (try go_simp); rfl) | go_simp)); simp only [Act.put, List.setIfInBounds_toArray, List.set_cons_succ, List.set_cons_zero]; (try simp only [List.cons_append]); (try simp only [List.nil_append]); apply hK; clear hK K))
         refine phi_partK (PVal (.agg #[.string (bs []), .string (bs actL), .string (bs (actS n.toNat s.toNat))])) rfl rfl ⟨_, rfl⟩ ?_ (fun K hK v hv => ?_)
         · rintro w' ⟨f1, f2, hIB⟩ hf
           unfold gives
           clear hf
           go_simp
           refine (refattr_any actL _ _).mono ?_
           rintro e w'' ⟨rfl, hb⟩
           exact ⟨_, rfl, rfl, trivial, hb⟩
         obtain rfl : v = _ := hv
         simp only [Act.put, List.setIfInBounds_toArray, List.set_cons_succ, List.set_cons_zero]; (try simp only [List.cons_append]); (try simp only [List.nil_append])
         apply hK
         clear hK K
         repeat (first | (refine phi_skipK rfl (fun K hK => ?_); simp only [Act.put, List.setIfInBounds_toArray, List.set_cons_succ, List.set_cons_zero]; (try simp only [List.cons_append]); (try simp only [List.nil_append]); apply hK; clear hK K) | (refine phi_pureK rfl rfl (fun K hK => ?_); apply Exists.intro; constructor; (focus (rintro w' ⟨f1, f2, hIB⟩; have k0 := (f1.cell 0).trans rfl; have k1 := (f1.cell 1).trans rfl; have k2 := (f1.cell 2).trans rfl; have k3 := (f1.cell 3).trans rfl; clear f1 f2 hIB; first | (go_simp; done) | (go_simp; (try go_bits); (try go_simp); rfl) | go_simp)); simp only [Act.put, List.setIfInBounds_toArray, List.set_cons_succ, List.set_cons_zero]; (try simp only [List.cons_append]); (try simp only [List.nil_append]); apply hK; clear hK K))
         refine phi_partK (PVal (.agg #[.string (bs []), .string (bs outcomeL), .string (bs ([109, 105, 120, 101, 100]))])) rfl rfl ⟨_, rfl⟩ ?_ (fun K hK v hv => ?_)
         · rintro w' ⟨f1, f2, hIB⟩ hf
           unfold gives
           clear hf
           go_simp
           refine (refattr_any outcomeL ([109, 105, 120, 101, 100]) _).mono ?_
           rintro e w'' ⟨rfl, hb⟩
           exact ⟨_, rfl, rfl, trivial, hb⟩
         obtain rfl : v = _ := hv
         simp only [Act.put, List.setIfInBounds_toArray, List.set_cons_succ, List.set_cons_zero]; (try simp only [List.cons_append]); (try simp only [List.nil_append])
         apply hK
         clear hK K
         repeat (first | (refine phi_skipK rfl (fun K hK => ?_); simp only [Act.put, List.setIfInBounds_toArray, List.set_cons_succ, List.set_cons_zero]; (try simp only [List.cons_append]); (try simp only [List.nil_append]); apply hK; clear hK K) | (refine phi_pureK rfl rfl (fun K hK => ?_); apply Exists.intro; constructor; (focus (rintro w' ⟨f1, f2, hIB⟩; have k0 := (f1.cell 0).trans rfl; have k1 := (f1.cell 1).trans rfl; have k2 := (f1.cell 2).trans rfl; have k3 := (f1.cell 3).trans rfl; clear f1 f2 hIB; first | (go_simp; done) | (go_simp; (try go_bits); (try go_simp); rfl) | go_simp)); simp only [Act.put, List.setIfInBounds_toArray, List.set_cons_succ, List.set_cons_zero]; (try simp only [List.cons_append]); (try simp only [List.nil_append]); apply hK; clear hK K))
         refine phi_partK (PVal (.string (bs (dec d.toNat)))) rfl rfl ⟨_, rfl⟩ ?_ (fun K hK v hv => ?_)
         · rintro w' ⟨f1, f2, hIB⟩ hf
           unfold gives
           clear hf
           go_simp
           refine (HD.out _).mono ?_
           rintro e w'' ⟨rfl, hb⟩
           exact ⟨_, rfl, rfl, trivial, hb⟩
         obtain rfl : v = _ := hv
         simp only [Act.put, List.setIfInBounds_toArray, List.set_cons_succ, List.set_cons_zero]; (try simp only [List.cons_append]); (try simp only [List.nil_append])
         apply hK
         clear hK K
         repeat (first | (refine phi_skipK rfl (fun K hK => ?_); simp only [Act.put, List.setIfInBounds_toArray, List.set_cons_succ, List.set_cons_zero]; (try simp only [List.cons_append]); (try simp only [List.nil_append]); apply hK; clear hK K) | (refine phi_pureK rfl rfl (fun K hK => ?_); apply Exists.intro; constructor; (focus (rintro w' ⟨f1, f2, hIB⟩; have k0 := (f1.cell 0).trans rfl; have k1 := (f1.cell 1).trans rfl; have k2 := (f1.cell 2).trans rfl; have k3 := (f1.cell 3).trans rfl; clear f1 f2 hIB; first | (go_simp; done) | (go_simp; (try go_bits); (try go_simp); rfl) | go_simp)); simp only [Act.put, List.setIfInBounds_toArray, List.set_cons_succ, List.set_cons_zero]; (try simp only [List.cons_append]); (try simp only [List.nil_append]); apply hK; clear hK K))
         refine phi_partK (PVal (.agg #[.string (bs []), .string (bs depthL), .string (bs (dec d.toNat))])) rfl rfl ⟨_, rfl⟩ ?_ (fun K hK v hv => ?_)
         · rintro w' ⟨f1, f2, hIB⟩ hf
           unfold gives
           clear hf
           go_simp
           refine (refattr_any depthL _ _).mono ?_
           rintro e w'' ⟨rfl, hb⟩
           exact ⟨_, rfl, rfl, trivial, hb⟩
         obtain rfl : v = _ := hv
         simp only [Act.put, List.setIfInBounds_toArray, List.set_cons_succ, List.set_cons_zero]; (try simp only [List.cons_append]); (try simp only [List.nil_append])
         apply hK
         clear hK K
         repeat (first | (refine phi_skipK rfl (fun K hK => ?_); simp only [Act.put, List.setIfInBounds_toArray, List.set_cons_succ, List.set_cons_zero]; (try simp only [List.cons_append]); (try simp only [List.nil_append]); apply hK; clear hK K) | (refine phi_pureK rfl rfl (fun K hK => ?_); apply Exists.intro; constructor; (focus (rintro w' ⟨f1, f2, hIB⟩; have k0 := (f1.cell 0).trans rfl; have k1 := (f1.cell 1).trans rfl; have k2 := (f1.cell 2).trans rfl; have k3 := (f1.cell 3).trans rfl; clear f1 f2 hIB; first | (go_simp; done) | (go_simp; (try go_bits); (try go_simp); rfl) | go_simp)); simp only [Act.put, List.setIfInBounds_toArray, List.set_cons_succ, List.set_cons_zero]; (try simp only [List.cons_append]); (try simp only [List.nil_append]); apply hK; clear hK K))
         refine phi_partK (PVal (.agg #[.string (bs []), .string (bs expiresL), .string (bs (neverL))])) rfl rfl ⟨_, rfl⟩ ?_ (fun K hK v hv => ?_)
         · rintro w' ⟨f1, f2, hIB⟩ hf
           unfold gives
           clear hf
           go_simp
           refine (refattr_any expiresL (neverL) _).mono ?_
           rintro e w'' ⟨rfl, hb⟩
           exact ⟨_, rfl, rfl, trivial, hb⟩
         obtain rfl : v = _ := hv
         simp only [Act.put, List.setIfInBounds_toArray, List.set_cons_succ, List.set_cons_zero]; (try simp only [List.cons_append]); (try simp only [List.nil_append])
         apply hK
         clear hK K
         repeat (first | (refine phi_skipK rfl (fun K hK => ?_); simp only [Act.put, List.setIfInBounds_toArray, List.set_cons_succ, List.set_cons_zero]; (try simp only [List.cons_append]); (try simp only [List.nil_append]); apply hK; clear hK K) | (refine phi_pureK rfl rfl (fun K hK => ?_); apply Exists.intro; constructor; (focus (rintro w' ⟨f1, f2, hIB⟩; have k0 := (f1.cell 0).trans rfl; have k1 := (f1.cell 1).trans rfl; have k2 := (f1.cell 2).trans rfl; have k3 := (f1.cell 3).trans rfl; clear f1 f2 hIB; first | (go_simp; done) | (go_simp; (try go_bits); (try go_simp); rfl) | go_simp)); simp only [Act.put, List.setIfInBounds_toArray, List.set_cons_succ, List.set_cons_zero]; (try simp only [List.cons_append]); (try simp only [List.nil_append]); apply hK; clear hK K))
         refine phi_partK (PBlk w.heap.size 78 #[.string (bs []), .string (bs actL), .string (bs (actS n.toNat s.toNat)), .string (bs []), .string (bs outcomeL), .string (bs ([109, 105, 120, 101, 100])), .string (bs []), .string (bs depthL), .string (bs (dec d.toNat)), .string (bs []), .string (bs expiresL), .string (bs (neverL))] 4) rfl rfl ⟨_, 0, rfl⟩ ?_ (fun K hK v hv => ?_)
         · rintro w' ⟨f1, f2, hIB⟩ hf
           have HGS := Lib.hid hIB.size
           clear hf f1 f2 hIB
           unfold gives
           go_simp
           refine ⟨⟨_, rfl⟩, fun g hg => ?_, below_alloc1 _ _⟩
           obtain rfl : w'.heap.size = g := by simpa using hg
           exact ⟨HGS.out, Blk.new _ _ _⟩
         obtain ⟨g_13, rfl⟩ := hv
         simp only [Act.put, List.setIfInBounds_toArray, List.set_cons_succ, List.set_cons_zero]; (try simp only [List.cons_append]); (try simp only [List.nil_append])
         apply hK
         clear hK K
         repeat (first | (refine phi_skipK rfl (fun K hK => ?_); simp only [Act.put, List.setIfInBounds_toArray, List.set_cons_succ, List.set_cons_zero]; (try simp only [List.cons_append]); (try simp only [List.nil_append]); apply hK; clear hK K) | (refine phi_pureK rfl rfl (fun K hK => ?_); apply Exists.intro; constructor; (focus (rintro w' ⟨f1, f2, hIB⟩; have k0 := (f1.cell 0).trans rfl; have k1 := (f1.cell 1).trans rfl; have k2 := (f1.cell 2).trans rfl; have k3 := (f1.cell 3).trans rfl; clear f1 f2 hIB; first | (go_simp; done) | (go_simp; (try go_bits); (try go_simp); rfl) | go_simp)); simp only [Act.put, List.setIfInBounds_toArray, List.set_cons_succ, List.set_cons_zero]; (try simp only [List.cons_append]); (try simp only [List.nil_append]); apply hK; clear hK K))
         refine phi_done ?_
         rintro w9 ⟨f1, f2, hb9⟩ hk9
         have hb_13 := hk9 (13, fun w1 => (PBlk w.heap.size 78 #[.string (bs []), .string (bs actL), .string (bs (actS n.toNat s.toNat)), .string (bs []), .string (bs outcomeL), .string (bs ([109, 105, 120, 101, 100])), .string (bs []), .string (bs depthL), .string (bs (dec d.toNat)), .string (bs []), .string (bs expiresL), .string (bs (neverL))] 4).fact w1 (.slice (some ⟨g_13, 0, none⟩) 4 4)) (by simp) g_13 rfl
         clear hk9
         have HW := Lib.hid hb_13
         have HF2 := Lib.hid f2
         have HB9 := Lib.hid hb9
         clear f1 f2 hb_13 hb9
         go_wp2_with (refine wpList_store (.tmp 2) (.tmp 30) 47 rfl rfl (w.heap.size + 1) 0 _ _ #[.string (bs wscoorL), .string (bs ccL), .slice (some ⟨g_13, 0, none⟩) 4 4, .slice none 0 0, .string (bs [])] rfl rfl HF2.out ?s0 ?s1 ?s2 ?_)
         case s0 => kernel_rfl
         case s1 => simp [Value.oneCell']
         case s2 => simp
         intro w8 hb8 ho8
         rw [putCells_all #[.string ⟨#[]⟩, .string ⟨#[]⟩, .slice none 0 0, .slice none 0 0, .string ⟨#[]⟩] #[.string (bs wscoorL), .string (bs ccL), .slice (some ⟨g_13, 0, none⟩) 4 4, .slice none 0 0, .string (bs [])] rfl] at hb8
         have z0 := (hb8.cell 0).trans rfl; have z1 := (hb8.cell 1).trans rfl; have z2 := (hb8.cell 2).trans rfl; have z3 := (hb8.cell 3).trans rfl; have z4 := (hb8.cell 4).trans rfl
         have HB8 := Lib.hid hb8; have HO8 := Lib.hid ho8
         clear hb8 ho8
         go_wp2_with fail
         refine bodyPost_ret (v := .agg #[.string (bs wscoorL), .string (bs ccL), .slice (some ⟨g_13, 0, none⟩) 4 4, .slice none 0 0, .string (bs [])]) (by simp [results, Tryz.results11, go_sem, z0, z1, z2, z3, z4]) rfl ?_
         obtain ⟨hg9, hk9⟩ := HW.out
         have hkb : Blk w8 g_13 78 #[.string (bs []), .string (bs actL), .string (bs (actS n.toNat s.toNat)), .string (bs []), .string (bs outcomeL), .string (bs ([109, 105, 120, 101, 100])), .string (bs []), .string (bs depthL), .string (bs (dec d.toNat)), .string (bs []), .string (bs expiresL), .string (bs (neverL))] := HO8.out.blk hk9 (fun e => hk9.ne_ HF2.out (by decide) e)
         have hbw := HB9.out.trans (Only.below HO8.out (by omega))
         refine ⟨[.string (bs wscoorL), .string (bs ccL), .slice (some ⟨g_13, 0, none⟩) 4 4, .slice none 0 0, .string (bs [])], rfl, ?_, hbw⟩
         rw [← HO.out, ← HE.out]
         unfold ctxTr TrC
         refine ⟨some ⟨g_13, 0, none⟩, 4, none, 0, [], rfl, ⟨Nat.le_refl _, by unfold maxLen; omega, .inr ⟨g_13, 0, rfl, fun i u hu => ?_⟩, fun a ha => ?_⟩, ⟨Nat.le_refl _, by unfold maxLen; omega, .inl rfl, fun a ha => by cases ha⟩, (by unfold TrL; rfl)⟩
         · rw [Nat.zero_add, hkb.cell]
           rw [← List.getElem?_toArray] at hu
           exact hu
         · cases ha
           exact ⟨hg9, hkb.lt, by simp⟩
        )
    · have hxl : x < 18446744073709551616 := by (have := infR_lt; omega)
      have hn1 : ((x : Int) != 9218868437227405312) = true := by
        rw [bne_iff_ne]
        intro e
        apply hi
        show x = 9218868437227405312
        omega
      have HE := Lib.hid (show hexN 16 x = expT x by unfold expT; rw [if_neg hi])
      clear hi
      go_enter Tryz.func11, Tryz.ntmps11
      go_wp2_with fail
      refine (raw_any x _).mono ?_
      rintro e w1 ⟨rfl, hb1⟩
      have HB0 := Lib.hid (BB.out.trans (hb1.mono BB.out.size))
      have HC0 := Lib.hid (NN.out.below hb1 NN.out.lt)
      have HR0 := Lib.hid (MM.out.below hb1 MM.out.lt)
      have d4 := (HC0.out.cell 4).trans rfl
      clear hb1 c1 c4
      go_wp2_with fail
      refine (refbits_any x hxl _).mono ?_
      rintro e w2 ⟨rfl, hb2⟩
      have HB3 := HB0.out.trans (hb2.mono HB0.out.size)
      have HC3 := HC0.out.below hb2 HC0.out.lt
      have HR3 := HR0.out.below hb2 HR0.out.lt
      rw [plain_small hx]
      clear d4 hb2 hn1 hq
      go_wp2_with fail
      refine (refhex_any x hxl _).mono ?_
      rintro e w3 ⟨rfl, hb3⟩
      go_wp2_with fail
      have HB1 := Lib.hid (HB3.trans (hb3.mono HB3.size))
      have HC1 := Lib.hid (HC3.below hb3 HC3.lt)
      have HR1 := Lib.hid (HR3.below hb3 HR3.lt)
      clear hb3 HB3 HC3 HR3
      first
      | (have HO := Lib.hid (show ([97, 116, 111, 109, 105, 99] : List UInt8) = nameF outsL o by rw [HOV.out]; rfl)
         refine wp_phi_tail (List.take 15 _) (List.drop 15 _) (List.take_append_drop 15 _).symm (fun w' => (Blk w' w.heap.size 26 #[.int .i64 n, .int .i64 s, .int .i64 o, .int .i64 d, .float .f64 x]) ∧ (Blk w' (w.heap.size + 1) 47 #[.string ⟨#[]⟩, .string ⟨#[]⟩, .slice none 0 0, .slice none 0 0, .string ⟨#[]⟩]) ∧ Below w.heap.size w w') [(3, PVal (.string (bs (actS n.toNat s.toNat)))), (4, PVal (.agg #[.string (bs []), .string (bs actL), .string (bs (actS n.toNat s.toNat))])), (6, PVal (.agg #[.string (bs []), .string (bs outcomeL), .string (bs ([97, 116, 111, 109, 105, 99]))])), (9, PVal (.string (bs (dec d.toNat)))), (10, PVal (.agg #[.string (bs []), .string (bs depthL), .string (bs (dec d.toNat))])), (12, PVal (.agg #[.string (bs []), .string (bs expiresL), .string (bs (hexN 16 x))])), (13, PBlk w.heap.size 78 #[.string (bs []), .string (bs actL), .string (bs (actS n.toNat s.toNat)), .string (bs []), .string (bs outcomeL), .string (bs ([97, 116, 111, 109, 105, 99])), .string (bs []), .string (bs depthL), .string (bs (dec d.toNat)), .string (bs []), .string (bs expiresL), .string (bs (hexN 16 x))] 4)] [] (by kernel_rfl) (by kernel_rfl) ?_ ?_ ⟨HC1.out, HR1.out, (HB1.out).drew⟩ ?_
         · rintro w1' w2' ⟨f1, f2, hIB⟩ hb
           exact ⟨(by first | exact f1.below hb | exact f1.keep (Below.keeps hb) | exact Below.keeps hb _ _ f1 | exact Blk.below f1 hb (Blk.lt f1)), (by first | exact f2.below hb | exact f2.keep (Below.keeps hb) | exact Below.keeps hb _ _ f2 | exact Blk.below f2 hb (Blk.lt f2)), hIB.trans (hb.mono hIB.size)⟩
         · simp only [List.mem_cons, List.not_mem_nil, or_false, forall_eq_or_imp, forall_eq]
           exact ⟨fun _ _ _ _ h' h => PVal_stays _ _ _ _ h' h, fun _ _ _ _ h' h => PVal_stays _ _ _ _ h' h, fun _ _ _ _ h' h => PVal_stays _ _ _ _ h' h, fun _ _ _ _ h' h => PVal_stays _ _ _ _ h' h, fun _ _ _ _ h' h => PVal_stays _ _ _ _ h' h, fun _ _ _ _ h' h => PVal_stays _ _ _ _ h' h, fun _ _ _ _ h' h => PBlk_stays h' h⟩
         simp only [List.take_succ_cons, List.take_zero, List.drop_succ_cons, List.drop_zero]
         repeat (first | (refine phi_skipK rfl (fun K hK => ?_); simp only [Act.put, List.setIfInBounds_toArray, List.set_cons_succ, List.set_cons_zero]; (try simp only [List.cons_append]); (try simp only [List.nil_append]); apply hK; clear hK K) | (refine phi_pureK rfl rfl (fun K hK => ?_); apply Exists.intro; constructor; (focus (rintro w' ⟨f1, f2, hIB⟩; have k0 := (f1.cell 0).trans rfl; have k1 := (f1.cell 1).trans rfl; have k2 := (f1.cell 2).trans rfl; have k3 := (f1.cell 3).trans rfl; clear f1 f2 hIB; first | (go_simp; done) | (go_simp; (try go_bits); (try go_simp); rfl) | go_simp)); simp only [Act.put, List.setIfInBounds_toArray, List.set_cons_succ, List.set_cons_zero]; (try simp only [List.cons_append]); (try simp only [List.nil_append]); apply hK; clear hK K))
         refine phi_partK (PVal (.string (bs (actS n.toNat s.toNat)))) rfl rfl ⟨_, rfl⟩ ?_ (fun K hK v hv => ?_)
         · rintro w' ⟨f1, f2, hIB⟩ hf
           unfold gives
           clear hf
           go_simp
           refine (refactG n s HP.out.2.1 _).mono ?_
           rintro e w'' ⟨rfl, hb⟩
           exact ⟨_, rfl, rfl, trivial, hb⟩
         obtain rfl : v = _ := hv
         simp only [Act.put, List.setIfInBounds_toArray, List.set_cons_succ, List.set_cons_zero]; (try simp only [List.cons_append]); (try simp only [List.nil_append])
         apply hK
         clear hK K
         repeat (first | (refine phi_skipK rfl (fun K hK => ?_); simp only [Act.put, List.setIfInBounds_toArray, List.set_cons_succ, List.set_cons_zero]; (try simp only [List.cons_append]); (try simp only [List.nil_append]); apply hK; clear hK K) | (refine phi_pureK rfl rfl (fun K hK => ?_); apply Exists.intro; constructor; (focus (rintro w' ⟨f1, f2, hIB⟩; have k0 := (f1.cell 0).trans rfl; have k1 := (f1.cell 1).trans rfl; have k2 := (f1.cell 2).trans rfl; have k3 := (f1.cell 3).trans rfl; clear f1 f2 hIB; first | (go_simp; done) | (go_simp; (try go_bits); (try go_simp); rfl) | go_simp)); simp only [Act.put, List.setIfInBounds_toArray, List.set_cons_succ, List.set_cons_zero]; (try simp only [List.cons_append]); (try simp only [List.nil_append]); apply hK; clear hK K))
         refine phi_partK (PVal (.agg #[.string (bs []), .string (bs actL), .string (bs (actS n.toNat s.toNat))])) rfl rfl ⟨_, rfl⟩ ?_ (fun K hK v hv => ?_)
         · rintro w' ⟨f1, f2, hIB⟩ hf
           unfold gives
           clear hf
           go_simp
           refine (refattr_any actL _ _).mono ?_
           rintro e w'' ⟨rfl, hb⟩
           exact ⟨_, rfl, rfl, trivial, hb⟩
         obtain rfl : v = _ := hv
         simp only [Act.put, List.setIfInBounds_toArray, List.set_cons_succ, List.set_cons_zero]; (try simp only [List.cons_append]); (try simp only [List.nil_append])
         apply hK
         clear hK K
         repeat (first | (refine phi_skipK rfl (fun K hK => ?_); simp only [Act.put, List.setIfInBounds_toArray, List.set_cons_succ, List.set_cons_zero]; (try simp only [List.cons_append]); (try simp only [List.nil_append]); apply hK; clear hK K) | (refine phi_pureK rfl rfl (fun K hK => ?_); apply Exists.intro; constructor; (focus (rintro w' ⟨f1, f2, hIB⟩; have k0 := (f1.cell 0).trans rfl; have k1 := (f1.cell 1).trans rfl; have k2 := (f1.cell 2).trans rfl; have k3 := (f1.cell 3).trans rfl; clear f1 f2 hIB; first | (go_simp; done) | (go_simp; (try go_bits); (try go_simp); rfl) | go_simp)); simp only [Act.put, List.setIfInBounds_toArray, List.set_cons_succ, List.set_cons_zero]; (try simp only [List.cons_append]); (try simp only [List.nil_append]); apply hK; clear hK K))
         refine phi_partK (PVal (.agg #[.string (bs []), .string (bs outcomeL), .string (bs ([97, 116, 111, 109, 105, 99]))])) rfl rfl ⟨_, rfl⟩ ?_ (fun K hK v hv => ?_)
         · rintro w' ⟨f1, f2, hIB⟩ hf
           unfold gives
           clear hf
           go_simp
           refine (refattr_any outcomeL ([97, 116, 111, 109, 105, 99]) _).mono ?_
           rintro e w'' ⟨rfl, hb⟩
           exact ⟨_, rfl, rfl, trivial, hb⟩
         obtain rfl : v = _ := hv
         simp only [Act.put, List.setIfInBounds_toArray, List.set_cons_succ, List.set_cons_zero]; (try simp only [List.cons_append]); (try simp only [List.nil_append])
         apply hK
         clear hK K
         repeat (first | (refine phi_skipK rfl (fun K hK => ?_); simp only [Act.put, List.setIfInBounds_toArray, List.set_cons_succ, List.set_cons_zero]; (try simp only [List.cons_append]); (try simp only [List.nil_append]); apply hK; clear hK K) | (refine phi_pureK rfl rfl (fun K hK => ?_); apply Exists.intro; constructor; (focus (rintro w' ⟨f1, f2, hIB⟩; have k0 := (f1.cell 0).trans rfl; have k1 := (f1.cell 1).trans rfl; have k2 := (f1.cell 2).trans rfl; have k3 := (f1.cell 3).trans rfl; clear f1 f2 hIB; first | (go_simp; done) | (go_simp; (try go_bits); (try go_simp); rfl) | go_simp)); simp only [Act.put, List.setIfInBounds_toArray, List.set_cons_succ, List.set_cons_zero]; (try simp only [List.cons_append]); (try simp only [List.nil_append]); apply hK; clear hK K))
         refine phi_partK (PVal (.string (bs (dec d.toNat)))) rfl rfl ⟨_, rfl⟩ ?_ (fun K hK v hv => ?_)
         · rintro w' ⟨f1, f2, hIB⟩ hf
           unfold gives
           clear hf
           go_simp
           refine (HD.out _).mono ?_
           rintro e w'' ⟨rfl, hb⟩
           exact ⟨_, rfl, rfl, trivial, hb⟩
         obtain rfl : v = _ := hv
         simp only [Act.put, List.setIfInBounds_toArray, List.set_cons_succ, List.set_cons_zero]; (try simp only [List.cons_append]); (try simp only [List.nil_append])
         apply hK
         clear hK K
         repeat (first | (refine phi_skipK rfl (fun K hK => ?_); simp only [Act.put, List.setIfInBounds_toArray, List.set_cons_succ, List.set_cons_zero]; (try simp only [List.cons_append]); (try simp only [List.nil_append]); apply hK; clear hK K) | (refine phi_pureK rfl rfl (fun K hK => ?_); apply Exists.intro; constructor; (focus (rintro w' ⟨f1, f2, hIB⟩; have k0 := (f1.cell 0).trans rfl; have k1 := (f1.cell 1).trans rfl; have k2 := (f1.cell 2).trans rfl; have k3 := (f1.cell 3).trans rfl; clear f1 f2 hIB; first | (go_simp; done) | (go_simp; (try go_bits); (try go_simp); rfl) | go_simp)); simp only [Act.put, List.setIfInBounds_toArray, List.set_cons_succ, List.set_cons_zero]; (try simp only [List.cons_append]); (try simp only [List.nil_append]); apply hK; clear hK K))
         refine phi_partK (PVal (.agg #[.string (bs []), .string (bs depthL), .string (bs (dec d.toNat))])) rfl rfl ⟨_, rfl⟩ ?_ (fun K hK v hv => ?_)
         · rintro w' ⟨f1, f2, hIB⟩ hf
           unfold gives
           clear hf
           go_simp
           refine (refattr_any depthL _ _).mono ?_
           rintro e w'' ⟨rfl, hb⟩
           exact ⟨_, rfl, rfl, trivial, hb⟩
         obtain rfl : v = _ := hv
         simp only [Act.put, List.setIfInBounds_toArray, List.set_cons_succ, List.set_cons_zero]; (try simp only [List.cons_append]); (try simp only [List.nil_append])
         apply hK
         clear hK K
         repeat (first | (refine phi_skipK rfl (fun K hK => ?_); simp only [Act.put, List.setIfInBounds_toArray, List.set_cons_succ, List.set_cons_zero]; (try simp only [List.cons_append]); (try simp only [List.nil_append]); apply hK; clear hK K) | (refine phi_pureK rfl rfl (fun K hK => ?_); apply Exists.intro; constructor; (focus (rintro w' ⟨f1, f2, hIB⟩; have k0 := (f1.cell 0).trans rfl; have k1 := (f1.cell 1).trans rfl; have k2 := (f1.cell 2).trans rfl; have k3 := (f1.cell 3).trans rfl; clear f1 f2 hIB; first | (go_simp; done) | (go_simp; (try go_bits); (try go_simp); rfl) | go_simp)); simp only [Act.put, List.setIfInBounds_toArray, List.set_cons_succ, List.set_cons_zero]; (try simp only [List.cons_append]); (try simp only [List.nil_append]); apply hK; clear hK K))
         refine phi_partK (PVal (.agg #[.string (bs []), .string (bs expiresL), .string (bs (hexN 16 x))])) rfl rfl ⟨_, rfl⟩ ?_ (fun K hK v hv => ?_)
         · rintro w' ⟨f1, f2, hIB⟩ hf
           unfold gives
           clear hf
           go_simp
           refine (refattr_any expiresL (hexN 16 x) _).mono ?_
           rintro e w'' ⟨rfl, hb⟩
           exact ⟨_, rfl, rfl, trivial, hb⟩
         obtain rfl : v = _ := hv
         simp only [Act.put, List.setIfInBounds_toArray, List.set_cons_succ, List.set_cons_zero]; (try simp only [List.cons_append]); (try simp only [List.nil_append])
         apply hK
         clear hK K
         repeat (first | (refine phi_skipK rfl (fun K hK => ?_); simp only [Act.put, List.setIfInBounds_toArray, List.set_cons_succ, List.set_cons_zero]; (try simp only [List.cons_append]); (try simp only [List.nil_append]); apply hK; clear hK K) | (refine phi_pureK rfl rfl (fun K hK => ?_); apply Exists.intro; constructor; (focus (rintro w' ⟨f1, f2, hIB⟩; have k0 := (f1.cell 0).trans rfl; have k1 := (f1.cell 1).trans rfl; have k2 := (f1.cell 2).trans rfl; have k3 := (f1.cell 3).trans rfl; clear f1 f2 hIB; first | (go_simp; done) | (go_simp; (try go_bits); (try go_simp); rfl) | go_simp)); simp only [Act.put, List.setIfInBounds_toArray, List.set_cons_succ, List.set_cons_zero]; (try simp only [List.cons_append]); (try simp only [List.nil_append]); apply hK; clear hK K))
         refine phi_partK (PBlk w.heap.size 78 #[.string (bs []), .string (bs actL), .string (bs (actS n.toNat s.toNat)), .string (bs []), .string (bs outcomeL), .string (bs ([97, 116, 111, 109, 105, 99])), .string (bs []), .string (bs depthL), .string (bs (dec d.toNat)), .string (bs []), .string (bs expiresL), .string (bs (hexN 16 x))] 4) rfl rfl ⟨_, 0, rfl⟩ ?_ (fun K hK v hv => ?_)
         · rintro w' ⟨f1, f2, hIB⟩ hf
           have HGS := Lib.hid hIB.size
           clear hf f1 f2 hIB
           unfold gives
           go_simp
           refine ⟨⟨_, rfl⟩, fun g hg => ?_, below_alloc1 _ _⟩
           obtain rfl : w'.heap.size = g := by simpa using hg
           exact ⟨HGS.out, Blk.new _ _ _⟩
         obtain ⟨g_13, rfl⟩ := hv
         simp only [Act.put, List.setIfInBounds_toArray, List.set_cons_succ, List.set_cons_zero]; (try simp only [List.cons_append]); (try simp only [List.nil_append])
         apply hK
         clear hK K
         repeat (first | (refine phi_skipK rfl (fun K hK => ?_); simp only [Act.put, List.setIfInBounds_toArray, List.set_cons_succ, List.set_cons_zero]; (try simp only [List.cons_append]); (try simp only [List.nil_append]); apply hK; clear hK K) | (refine phi_pureK rfl rfl (fun K hK => ?_); apply Exists.intro; constructor; (focus (rintro w' ⟨f1, f2, hIB⟩; have k0 := (f1.cell 0).trans rfl; have k1 := (f1.cell 1).trans rfl; have k2 := (f1.cell 2).trans rfl; have k3 := (f1.cell 3).trans rfl; clear f1 f2 hIB; first | (go_simp; done) | (go_simp; (try go_bits); (try go_simp); rfl) | go_simp)); simp only [Act.put, List.setIfInBounds_toArray, List.set_cons_succ, List.set_cons_zero]; (try simp only [List.cons_append]); (try simp only [List.nil_append]); apply hK; clear hK K))
         refine phi_done ?_
         rintro w9 ⟨f1, f2, hb9⟩ hk9
         have hb_13 := hk9 (13, fun w1 => (PBlk w.heap.size 78 #[.string (bs []), .string (bs actL), .string (bs (actS n.toNat s.toNat)), .string (bs []), .string (bs outcomeL), .string (bs ([97, 116, 111, 109, 105, 99])), .string (bs []), .string (bs depthL), .string (bs (dec d.toNat)), .string (bs []), .string (bs expiresL), .string (bs (hexN 16 x))] 4).fact w1 (.slice (some ⟨g_13, 0, none⟩) 4 4)) (by simp) g_13 rfl
         clear hk9
         have HW := Lib.hid hb_13
         have HF2 := Lib.hid f2
         have HB9 := Lib.hid hb9
         clear f1 f2 hb_13 hb9
         go_wp2_with (refine wpList_store (.tmp 2) (.tmp 30) 47 rfl rfl (w.heap.size + 1) 0 _ _ #[.string (bs wscoorL), .string (bs ccL), .slice (some ⟨g_13, 0, none⟩) 4 4, .slice none 0 0, .string (bs [])] rfl rfl HF2.out ?s0 ?s1 ?s2 ?_)
         case s0 => kernel_rfl
         case s1 => simp [Value.oneCell']
         case s2 => simp
         intro w8 hb8 ho8
         rw [putCells_all #[.string ⟨#[]⟩, .string ⟨#[]⟩, .slice none 0 0, .slice none 0 0, .string ⟨#[]⟩] #[.string (bs wscoorL), .string (bs ccL), .slice (some ⟨g_13, 0, none⟩) 4 4, .slice none 0 0, .string (bs [])] rfl] at hb8
         have z0 := (hb8.cell 0).trans rfl; have z1 := (hb8.cell 1).trans rfl; have z2 := (hb8.cell 2).trans rfl; have z3 := (hb8.cell 3).trans rfl; have z4 := (hb8.cell 4).trans rfl
         have HB8 := Lib.hid hb8; have HO8 := Lib.hid ho8
         clear hb8 ho8
         go_wp2_with fail
         refine bodyPost_ret (v := .agg #[.string (bs wscoorL), .string (bs ccL), .slice (some ⟨g_13, 0, none⟩) 4 4, .slice none 0 0, .string (bs [])]) (by simp [results, Tryz.results11, go_sem, z0, z1, z2, z3, z4]) rfl ?_
         obtain ⟨hg9, hk9⟩ := HW.out
         have hkb : Blk w8 g_13 78 #[.string (bs []), .string (bs actL), .string (bs (actS n.toNat s.toNat)), .string (bs []), .string (bs outcomeL), .string (bs ([97, 116, 111, 109, 105, 99])), .string (bs []), .string (bs depthL), .string (bs (dec d.toNat)), .string (bs []), .string (bs expiresL), .string (bs (hexN 16 x))] := HO8.out.blk hk9 (fun e => hk9.ne_ HF2.out (by decide) e)
         have hbw := HB9.out.trans (Only.below HO8.out (by omega))
         refine ⟨[.string (bs wscoorL), .string (bs ccL), .slice (some ⟨g_13, 0, none⟩) 4 4, .slice none 0 0, .string (bs [])], rfl, ?_, hbw⟩
         rw [← HO.out, ← HE.out]
         unfold ctxTr TrC
         refine ⟨some ⟨g_13, 0, none⟩, 4, none, 0, [], rfl, ⟨Nat.le_refl _, by unfold maxLen; omega, .inr ⟨g_13, 0, rfl, fun i u hu => ?_⟩, fun a ha => ?_⟩, ⟨Nat.le_refl _, by unfold maxLen; omega, .inl rfl, fun a ha => by cases ha⟩, (by unfold TrL; rfl)⟩
         · rw [Nat.zero_add, hkb.cell]
           rw [← List.getElem?_toArray] at hu
           exact hu
         · cases ha
           exact ⟨hg9, hkb.lt, by simp⟩
        )
      | (have HO := Lib.hid (show ([109, 105, 120, 101, 100] : List UInt8) = nameF outsL o by rw [HOV.out]; rfl)
         refine wp_phi_tail (List.take 15 _) (List.drop 15 _) (List.take_append_drop 15 _).symm (fun w' => (Blk w' w.heap.size 26 #[.int .i64 n, .int .i64 s, .int .i64 o, .int .i64 d, .float .f64 x]) ∧ (Blk w' (w.heap.size + 1) 47 #[.string ⟨#[]⟩, .string ⟨#[]⟩, .slice none 0 0, .slice none 0 0, .string ⟨#[]⟩]) ∧ Below w.heap.size w w') [(3, PVal (.string (bs (actS n.toNat s.toNat)))), (4, PVal (.agg #[.string (bs []), .string (bs actL), .string (bs (actS n.toNat s.toNat))])), (6, PVal (.agg #[.string (bs []), .string (bs outcomeL), .string (bs ([109, 105, 120, 101, 100]))])), (9, PVal (.string (bs (dec d.toNat)))), (10, PVal (.agg #[.string (bs []), .string (bs depthL), .string (bs (dec d.toNat))])), (12, PVal (.agg #[.string (bs []), .string (bs expiresL), .string (bs (hexN 16 x))])), (13, PBlk w.heap.size 78 #[.string (bs []), .string (bs actL), .string (bs (actS n.toNat s.toNat)), .string (bs []), .string (bs outcomeL), .string (bs ([109, 105, 120, 101, 100])), .string (bs []), .string (bs depthL), .string (bs (dec d.toNat)), .string (bs []), .string (bs expiresL), .string (bs (hexN 16 x))] 4)] [] (by kernel_rfl) (by kernel_rfl) ?_ ?_ ⟨HC1.out, HR1.out, (HB1.out).drew⟩ ?_
         · rintro w1' w2' ⟨f1, f2, hIB⟩ hb
           exact ⟨(by first | exact f1.below hb | exact f1.keep (Below.keeps hb) | exact Below.keeps hb _ _ f1 | exact Blk.below f1 hb (Blk.lt f1)), (by first | exact f2.below hb | exact f2.keep (Below.keeps hb) | exact Below.keeps hb _ _ f2 | exact Blk.below f2 hb (Blk.lt f2)), hIB.trans (hb.mono hIB.size)⟩
         · simp only [List.mem_cons, List.not_mem_nil, or_false, forall_eq_or_imp, forall_eq]
           exact ⟨fun _ _ _ _ h' h => PVal_stays _ _ _ _ h' h, fun _ _ _ _ h' h => PVal_stays _ _ _ _ h' h, fun _ _ _ _ h' h => PVal_stays _ _ _ _ h' h, fun _ _ _ _ h' h => PVal_stays _ _ _ _ h' h, fun _ _ _ _ h' h => PVal_stays _ _ _ _ h' h, fun _ _ _ _ h' h => PVal_stays _ _ _ _ h' h, fun _ _ _ _ h' h => PBlk_stays h' h⟩
         simp only [List.take_succ_cons, List.take_zero, List.drop_succ_cons, List.drop_zero]
         repeat (first | (refine phi_skipK rfl (fun K hK => ?_); simp only [Act.put, List.setIfInBounds_toArray, List.set_cons_succ, List.set_cons_zero]; (try simp only [List.cons_append]); (try simp only [List.nil_append]); apply hK; clear hK K) | (refine phi_pureK rfl rfl (fun K hK => ?_); apply Exists.intro; constructor; (focus (rintro w' ⟨f1, f2, hIB⟩; have k0 := (f1.cell 0).trans rfl; have k1 := (f1.cell 1).trans rfl; have k2 := (f1.cell 2).trans rfl; have k3 := (f1.cell 3).trans rfl; clear f1 f2 hIB; first | (go_simp; done) | (go_simp; (try go_bits); (try go_simp); rfl) | go_simp)); simp only [Act.put, List.setIfInBounds_toArray, List.set_cons_succ, List.set_cons_zero]; (try simp only [List.cons_append]); (try simp only [List.nil_append]); apply hK; clear hK K))
         refine phi_partK (PVal (.string (bs (actS n.toNat s.toNat)))) rfl rfl ⟨_, rfl⟩ ?_ (fun K hK v hv => ?_)
         · rintro w' ⟨f1, f2, hIB⟩ hf
           unfold gives
           clear hf
           go_simp
           refine (refactG n s HP.out.2.1 _).mono ?_
           rintro e w'' ⟨rfl, hb⟩
           exact ⟨_, rfl, rfl, trivial, hb⟩
         obtain rfl : v = _ := hv
         simp only [Act.put, List.setIfInBounds_toArray, List.set_cons_succ, List.set_cons_zero]; (try simp only [List.cons_append]); (try simp only [List.nil_append])
         apply hK
         clear hK K
         repeat (first | (refine phi_skipK rfl (fun K hK => ?_); simp only [Act.put, List.setIfInBounds_toArray, List.set_cons_succ, List.set_cons_zero]; (try simp only [List.cons_append]); (try simp only [List.nil_append]); apply hK; clear hK K) | (refine phi_pureK rfl rfl (fun K hK => ?_); apply Exists.intro; constructor; (focus (rintro w' ⟨f1, f2, hIB⟩; have k0 := (f1.cell 0).trans rfl; have k1 := (f1.cell 1).trans rfl; have k2 := (f1.cell 2).trans rfl; have k3 := (f1.cell 3).trans rfl; clear f1 f2 hIB; first | (go_simp; done) | (go_simp; (try go_bits); (try go_simp); rfl) | go_simp)); simp only [Act.put, List.setIfInBounds_toArray, List.set_cons_succ, List.set_cons_zero]; (try simp only [List.cons_append]); (try simp only [List.nil_append]); apply hK; clear hK K))
         refine phi_partK (PVal (.agg #[.string (bs []), .string (bs actL), .string (bs (actS n.toNat s.toNat))])) rfl rfl ⟨_, rfl⟩ ?_ (fun K hK v hv => ?_)
         · rintro w' ⟨f1, f2, hIB⟩ hf
           unfold gives
           clear hf
           go_simp
           refine (refattr_any actL _ _).mono ?_
           rintro e w'' ⟨rfl, hb⟩
           exact ⟨_, rfl, rfl, trivial, hb⟩
         obtain rfl : v = _ := hv
         simp only [Act.put, List.setIfInBounds_toArray, List.set_cons_succ, List.set_cons_zero]; (try simp only [List.cons_append]); (try simp only [List.nil_append])
         apply hK
         clear hK K
         repeat (first | (refine phi_skipK rfl (fun K hK => ?_); simp only [Act.put, List.setIfInBounds_toArray, List.set_cons_succ, List.set_cons_zero]; (try simp only [List.cons_append]); (try simp only [List.nil_append]); apply hK; clear hK K) | (refine phi_pureK rfl rfl (fun K hK => ?_); apply Exists.intro; constructor; (focus (rintro w' ⟨f1, f2, hIB⟩; have k0 := (f1.cell 0).trans rfl; have k1 := (f1.cell 1).trans rfl; have k2 := (f1.cell 2).trans rfl; have k3 := (f1.cell 3).trans rfl; clear f1 f2 hIB; first | (go_simp; done) | (go_simp; (try go_bits); (try go_simp); rfl) | go_simp)); simp only [Act.put, List.setIfInBounds_toArray, List.set_cons_succ, List.set_cons_zero]; (try simp only [List.cons_append]); (try simp only [List.nil_append]); apply hK; clear hK K))
         refine phi_partK (PVal (.agg #[.string (bs []), .string (bs outcomeL), .string (bs ([109, 105, 120, 101, 100]))])) rfl rfl ⟨_, rfl⟩ ?_ (fun K hK v hv => ?_)
         · rintro w' ⟨f1, f2, hIB⟩ hf
           unfold gives
           clear hf
           go_simp
           refine (refattr_any outcomeL ([109, 105, 120, 101, 100]) _).mono ?_
           rintro e w'' ⟨rfl, hb⟩
           exact ⟨_, rfl, rfl, trivial, hb⟩
         obtain rfl : v = _ := hv
         simp only [Act.put, List.setIfInBounds_toArray, List.set_cons_succ, List.set_cons_zero]; (try simp only [List.cons_append]); (try simp only [List.nil_append])
         apply hK
         clear hK K
         repeat (first | (refine phi_skipK rfl (fun K hK => ?_); simp only [Act.put, List.setIfInBounds_toArray, List.set_cons_succ, List.set_cons_zero]; (try simp only [List.cons_append]); (try simp only [List.nil_append]); apply hK; clear hK K) | (refine phi_pureK rfl rfl (fun K hK => ?_); apply Exists.intro; constructor; (focus (rintro w' ⟨f1, f2, hIB⟩; have k0 := (f1.cell 0).trans rfl; have k1 := (f1.cell 1).trans rfl; have k2 := (f1.cell 2).trans rfl; have k3 := (f1.cell 3).trans rfl; clear f1 f2 hIB; first | (go_simp; done) | (go_simp; (try go_bits); (try go_simp); rfl) | go_simp)); simp only [Act.put, List.setIfInBounds_toArray, List.set_cons_succ, List.set_cons_zero]; (try simp only [List.cons_append]); (try simp only [List.nil_append]); apply hK; clear hK K))
         refine phi_partK (PVal (.string (bs (dec d.toNat)))) rfl rfl ⟨_, rfl⟩ ?_ (fun K hK v hv => ?_)
         · rintro w' ⟨f1, f2, hIB⟩ hf
           unfold gives
           clear hf
           go_simp
           refine (HD.out _).mono ?_
           rintro e w'' ⟨rfl, hb⟩
           exact ⟨_, rfl, rfl, trivial, hb⟩
         obtain rfl : v = _ := hv
         simp only [Act.put, List.setIfInBounds_toArray, List.set_cons_succ, List.set_cons_zero]; (try simp only [List.cons_append]); (try simp only [List.nil_append])
         apply hK
         clear hK K
         repeat (first | (refine phi_skipK rfl (fun K hK => ?_); simp only [Act.put, List.setIfInBounds_toArray, List.set_cons_succ, List.set_cons_zero]; (try simp only [List.cons_append]); (try simp only [List.nil_append]); apply hK; clear hK K) | (refine phi_pureK rfl rfl (fun K hK => ?_); apply Exists.intro; constructor; (focus (rintro w' ⟨f1, f2, hIB⟩; have k0 := (f1.cell 0).trans rfl; have k1 := (f1.cell 1).trans rfl; have k2 := (f1.cell 2).trans rfl; have k3 := (f1.cell 3).trans rfl; clear f1 f2 hIB; first | (go_simp; done) | (go_simp; (try go_bits); (try go_simp); rfl) | go_simp)); simp only [Act.put, List.setIfInBounds_toArray, List.set_cons_succ, List.set_cons_zero]; (try simp only [List.cons_append]); (try simp only [List.nil_append]); apply hK; clear hK K))
         refine phi_partK (PVal (.agg #[.string (bs []), .string (bs depthL), .string (bs (dec d.toNat))])) rfl rfl ⟨_, rfl⟩ ?_ (fun K hK v hv => ?_)
         · rintro w' ⟨f1, f2, hIB⟩ hf
           unfold gives
           clear hf
           go_simp
           refine (refattr_any depthL _ _).mono ?_
           rintro e w'' ⟨rfl, hb⟩
           exact ⟨_, rfl, rfl, trivial, hb⟩
         obtain rfl : v = _ := hv
         simp only [Act.put, List.setIfInBounds_toArray, List.set_cons_succ, List.set_cons_zero]; (try simp only [List.cons_append]); (try simp only [List.nil_append])
         apply hK
         clear hK K
         repeat (first | (refine phi_skipK rfl (fun K hK => ?_); simp only [Act.put, List.setIfInBounds_toArray, List.set_cons_succ, List.set_cons_zero]; (try simp only [List.cons_append]); (try simp only [List.nil_append]); apply hK; clear hK K) | (refine phi_pureK rfl rfl (fun K hK => ?_); apply Exists.intro; constructor; (focus (rintro w' ⟨f1, f2, hIB⟩; have k0 := (f1.cell 0).trans rfl; have k1 := (f1.cell 1).trans rfl; have k2 := (f1.cell 2).trans rfl; have k3 := (f1.cell 3).trans rfl; clear f1 f2 hIB; first | (go_simp; done) | (go_simp; (try go_bits); (try go_simp); rfl) | go_simp)); simp only [Act.put, List.setIfInBounds_toArray, List.set_cons_succ, List.set_cons_zero]; (try simp only [List.cons_append]); (try simp only [List.nil_append]); apply hK; clear hK K))
         refine phi_partK (PVal (.agg #[.string (bs []), .string (bs expiresL), .string (bs (hexN 16 x))])) rfl rfl ⟨_, rfl⟩ ?_ (fun K hK v hv => ?_)
         · rintro w' ⟨f1, f2, hIB⟩ hf
           unfold gives
           clear hf
           go_simp
           refine (refattr_any expiresL (hexN 16 x) _).mono ?_
           rintro e w'' ⟨rfl, hb⟩
           exact ⟨_, rfl, rfl, trivial, hb⟩
         obtain rfl : v = _ := hv
         simp only [Act.put, List.setIfInBounds_toArray, List.set_cons_succ, List.set_cons_zero]; (try simp only [List.cons_append]); (try simp only [List.nil_append])
         apply hK
         clear hK K
         repeat (first | (refine phi_skipK rfl (fun K hK => ?_); simp only [Act.put, List.setIfInBounds_toArray, List.set_cons_succ, List.set_cons_zero]; (try simp only [List.cons_append]); (try simp only [List.nil_append]); apply hK; clear hK K) | (refine phi_pureK rfl rfl (fun K hK => ?_); apply Exists.intro; constructor; (focus (rintro w' ⟨f1, f2, hIB⟩; have k0 := (f1.cell 0).trans rfl; have k1 := (f1.cell 1).trans rfl; have k2 := (f1.cell 2).trans rfl; have k3 := (f1.cell 3).trans rfl; clear f1 f2 hIB; first | (go_simp; done) | (go_simp; (try go_bits); (try go_simp); rfl) | go_simp)); simp only [Act.put, List.setIfInBounds_toArray, List.set_cons_succ, List.set_cons_zero]; (try simp only [List.cons_append]); (try simp only [List.nil_append]); apply hK; clear hK K))
         refine phi_partK (PBlk w.heap.size 78 #[.string (bs []), .string (bs actL), .string (bs (actS n.toNat s.toNat)), .string (bs []), .string (bs outcomeL), .string (bs ([109, 105, 120, 101, 100])), .string (bs []), .string (bs depthL), .string (bs (dec d.toNat)), .string (bs []), .string (bs expiresL), .string (bs (hexN 16 x))] 4) rfl rfl ⟨_, 0, rfl⟩ ?_ (fun K hK v hv => ?_)
         · rintro w' ⟨f1, f2, hIB⟩ hf
           have HGS := Lib.hid hIB.size
           clear hf f1 f2 hIB
           unfold gives
           go_simp
           refine ⟨⟨_, rfl⟩, fun g hg => ?_, below_alloc1 _ _⟩
           obtain rfl : w'.heap.size = g := by simpa using hg
           exact ⟨HGS.out, Blk.new _ _ _⟩
         obtain ⟨g_13, rfl⟩ := hv
         simp only [Act.put, List.setIfInBounds_toArray, List.set_cons_succ, List.set_cons_zero]; (try simp only [List.cons_append]); (try simp only [List.nil_append])
         apply hK
         clear hK K
         repeat (first | (refine phi_skipK rfl (fun K hK => ?_); simp only [Act.put, List.setIfInBounds_toArray, List.set_cons_succ, List.set_cons_zero]; (try simp only [List.cons_append]); (try simp only [List.nil_append]); apply hK; clear hK K) | (refine phi_pureK rfl rfl (fun K hK => ?_); apply Exists.intro; constructor; (focus (rintro w' ⟨f1, f2, hIB⟩; have k0 := (f1.cell 0).trans rfl; have k1 := (f1.cell 1).trans rfl; have k2 := (f1.cell 2).trans rfl; have k3 := (f1.cell 3).trans rfl; clear f1 f2 hIB; first | (go_simp; done) | (go_simp; (try go_bits); (try go_simp); rfl) | go_simp)); simp only [Act.put, List.setIfInBounds_toArray, List.set_cons_succ, List.set_cons_zero]; (try simp only [List.cons_append]); (try simp only [List.nil_append]); apply hK; clear hK K))
         refine phi_done ?_
         rintro w9 ⟨f1, f2, hb9⟩ hk9
         have hb_13 := hk9 (13, fun w1 => (PBlk w.heap.size 78 #[.string (bs []), .string (bs actL), .string (bs (actS n.toNat s.toNat)), .string (bs []), .string (bs outcomeL), .string (bs ([109, 105, 120, 101, 100])), .string (bs []), .string (bs depthL), .string (bs (dec d.toNat)), .string (bs []), .string (bs expiresL), .string (bs (hexN 16 x))] 4).fact w1 (.slice (some ⟨g_13, 0, none⟩) 4 4)) (by simp) g_13 rfl
         clear hk9
         have HW := Lib.hid hb_13
         have HF2 := Lib.hid f2
         have HB9 := Lib.hid hb9
         clear f1 f2 hb_13 hb9
         go_wp2_with (refine wpList_store (.tmp 2) (.tmp 30) 47 rfl rfl (w.heap.size + 1) 0 _ _ #[.string (bs wscoorL), .string (bs ccL), .slice (some ⟨g_13, 0, none⟩) 4 4, .slice none 0 0, .string (bs [])] rfl rfl HF2.out ?s0 ?s1 ?s2 ?_)
         case s0 => kernel_rfl
         case s1 => simp [Value.oneCell']
         case s2 => simp
         intro w8 hb8 ho8
         rw [putCells_all #[.string ⟨#[]⟩, .string ⟨#[]⟩, .slice none 0 0, .slice none 0 0, .string ⟨#[]⟩] #[.string (bs wscoorL), .string (bs ccL), .slice (some ⟨g_13, 0, none⟩) 4 4, .slice none 0 0, .string (bs [])] rfl] at hb8
         have z0 := (hb8.cell 0).trans rfl; have z1 := (hb8.cell 1).trans rfl; have z2 := (hb8.cell 2).trans rfl; have z3 := (hb8.cell 3).trans rfl; have z4 := (hb8.cell 4).trans rfl
         have HB8 := Lib.hid hb8; have HO8 := Lib.hid ho8
         clear hb8 ho8
         go_wp2_with fail
         refine bodyPost_ret (v := .agg #[.string (bs wscoorL), .string (bs ccL), .slice (some ⟨g_13, 0, none⟩) 4 4, .slice none 0 0, .string (bs [])]) (by simp [results, Tryz.results11, go_sem, z0, z1, z2, z3, z4]) rfl ?_
         obtain ⟨hg9, hk9⟩ := HW.out
         have hkb : Blk w8 g_13 78 #[.string (bs []), .string (bs actL), .string (bs (actS n.toNat s.toNat)), .string (bs []), .string (bs outcomeL), .string (bs ([109, 105, 120, 101, 100])), .string (bs []), .string (bs depthL), .string (bs (dec d.toNat)), .string (bs []), .string (bs expiresL), .string (bs (hexN 16 x))] := HO8.out.blk hk9 (fun e => hk9.ne_ HF2.out (by decide) e)
         have hbw := HB9.out.trans (Only.below HO8.out (by omega))
         refine ⟨[.string (bs wscoorL), .string (bs ccL), .slice (some ⟨g_13, 0, none⟩) 4 4, .slice none 0 0, .string (bs [])], rfl, ?_, hbw⟩
         rw [← HO.out, ← HE.out]
         unfold ctxTr TrC
         refine ⟨some ⟨g_13, 0, none⟩, 4, none, 0, [], rfl, ⟨Nat.le_refl _, by unfold maxLen; omega, .inr ⟨g_13, 0, rfl, fun i u hu => ?_⟩, fun a ha => ?_⟩, ⟨Nat.le_refl _, by unfold maxLen; omega, .inl rfl, fun a ha => by cases ha⟩, (by unfold TrL; rfl)⟩
         · rw [Nat.zero_add, hkb.cell]
           rw [← List.getElem?_toArray] at hu
           exact hu
         · cases ha
           exact ⟨hg9, hkb.lt, by simp⟩
        )
end Go.Proofs.YtgmiockaecklaaaGreatDoor
