/-
  LawRows: the walk of FactsRows.
-/
import Derived.Test.YtjklcbdlfmmllaaDoorFactA
import Derived.Test.YtjklcbdlfmmllaaDoorRowsW
import Derived.Test.YtjklcbdlfmmllaaDoorFactR1
import Derived.Test.YtjklcbdlfmmllaaDoorFactR4
namespace Go.Proofs.YtjklcbdlfmmllaaDoor
open Go.RowKit Go.Extern.Stop Go.Stop Go.Extern Ieee
attribute [local go_sem] flt_def fgt_def feq_def fne_def

/-- the cells of a fact at a place -/
def FctAt (w : World) (b o : Nat) (f : Fct) : Prop := ∀ j, j < 14 → w.cell? ⟨b, o + j, none⟩ = (fctA f)[j]?
theorem FctAt.keep {w w' : World} {b o : Nat} {f : Fct} (h : FctAt w b o f) (hk : ∀ a v, w.cell? a = some v → w'.cell? a = some v) : FctAt w' b o f := by
  intro j hj
  have h := h j hj
  have hs : j < (fctA f).size := hj
  rw [Array.getElem?_eq_getElem hs] at h ⊢
  exact hk _ _ h
theorem sameF_refl (f : Fct) : sameF f f = true := by unfold sameF eqF; simp
set_option maxRecDepth 20000 in
set_option maxHeartbeats 8000000 in
theorem rows_law (fs : List Fct) (hwf : ∀ f ∈ fs, f.wf) (v : Value) (w : World) (E : Nat → Addr) (h : IdsG w E) (hv : FctL w v fs) :
    Calls Tryd.prog 3 #[v] w fun e w' => e = .returned (.bool true) ∧ Below w.heap.size w w' := by
  have HG := Lib.hid (fun w' (hb : Below w.heap.size w w') => h.below hb)
  have HAL := Lib.hid (fun w' h => falive_any w' E h)
  have HWF := Lib.hid hwf
  have HV := Lib.hid hv
  obtain ⟨p, cap, rfl, h1, h2, h3⟩ := hv
  obtain ⟨i1, hi1, hy0, hy1, hy2⟩ := info_parts fctInfo
  unfold maxLen at h2
  clear h hwf
  by_cases hlen : 50 < fs.length
  · have d1 : decide (50 < (fs.length : Int)) = true := by simp; omega
    have d1' : decide (50 < fs.length) = true := by simp; omega
    clear hlen h3
    go_enter Tryd.func3, Tryd.ntmps3
    go_wp2_with fail
    refine (HAL.out _ (HG.out _ (Below.refl _ _))).mono ?_
    rintro e w' ⟨rfl, hb⟩
    have B := Lib.hid hb
    clear hb
    go_wp2_with fail
    go_ret
    exact ⟨rfl, B.out⟩
  have d1 : decide (50 < (fs.length : Int)) = false := by simp; omega
  have d1' : decide (50 < fs.length) = false := by simp; omega
  have HRW := Lib.hid (fun v w' h hv => rows_any fs (by omega) HWF.out v w' E h hv)
  have HL50 := Lib.hid hlen
  have H3 := Lib.hid h3
  clear hlen h3
  go_enter Tryd.func3, Tryd.ntmps3
  go_wp2_with fail
  refine (HAL.out _ (HG.out _ (Below.refl _ _))).mono ?_
  rintro e w1 ⟨rfl, hb⟩
  have B1 := Lib.hid hb
  clear hb HAL
  go_wp2_with fail
  refine (HRW.out _ _ (HG.out _ B1.out) (HV.out.keep (Below.keeps B1.out))).mono ?_
  rintro e w2 ⟨hb, hor⟩
  have B2 := Lib.hid (B1.out.trans (hb.mono B1.out.size))
  clear hb B1 HRW
  have HOR := Lib.hid hor
  have hrr : ∃ rv ev, e = .returned (.tuple #[rv, ev]) := by
    rcases hor with ⟨_, v, rfl, _⟩ | ⟨_, rfl⟩
    · exact ⟨_, _, rfl⟩
    · exact ⟨_, _, rfl⟩
  obtain ⟨rv, ev, rfl⟩ := hrr
  have HOR2 := Lib.hid (show (fs.all rightF = true ∧ ev = .nilIface ∧ BytL w2 rv (fs.map encL)) ∨ (fs.all rightF = false ∧ rv = .slice none 0 0 ∧ ev = errAt (E 3)) by
    rcases hor with ⟨h1, v, h2, h3⟩ | ⟨h1, h2⟩
    · simp only [Ending.returned.injEq, Value.tuple.injEq, Array.mk.injEq, List.cons.injEq, and_true] at h2
      obtain ⟨rfl, rfl⟩ := h2
      exact .inl ⟨h1, rfl, h3⟩
    · simp only [Ending.returned.injEq, Value.tuple.injEq, Array.mk.injEq, List.cons.injEq, and_true] at h2
      obtain ⟨rfl, rfl⟩ := h2
      exact .inr ⟨h1, rfl, rfl⟩)
  clear hor HOR
  go_wp2_with fail
  go_loopw [5, 22] (fun r i wr => ∃ k : Nat, k ≤ fs.length ∧ i = .int .i64 k ∧ r = .bool ((fs.take k).all rightF) ∧ Below w2.heap.size w2 wr) (fun _ i _ => fs.length - (intOf i).toNat)
  case atStart => exact ⟨0, by omega, rfl, rfl, Below.refl _ _⟩
  case round =>
    obtain ⟨k, hk, rfl, rfl, hbw⟩ := hrel
    have B := Lib.hid (B2.out.trans (hbw.mono B2.out.size))
    by_cases hlt : k < fs.length
    · obtain ⟨b, off, rfl, hcs⟩ := H3.out k fs[k] (by simp [hlt])
      have h0l : 0 < fs.length := by omega
      obtain ⟨b', off', he, hcs0⟩ := H3.out 0 fs[0] (by simp [h0l])
      obtain ⟨rfl, rfl⟩ : b' = b ∧ off' = off := by
        have := he
        simp only [Option.some.injEq, Addr.mk.injEq, and_true] at this
        exact ⟨this.1.symm, this.2.symm⟩
      clear he
      have CK := Lib.hid (FctAt.keep (show FctAt w b' (off' + k * 14) fs[k] from hcs) (Below.keeps B.out))
      have C0 := Lib.hid (FctAt.keep (show FctAt w b' off' fs[0] from fun j hj => by have := hcs0 j hj; rwa [Nat.zero_mul, Nat.add_zero] at this) (Below.keeps B.out))
      have HW := Lib.hid (HWF.out fs[k] (List.getElem_mem hlt))
      have HW0 := Lib.hid (HWF.out fs[0] (List.getElem_mem h0l))
      have HT := Lib.hid (all_take rightF fs k hlt)
      clear hcs hcs0
      generalize fs[k] = f at *
      generalize fs[0] = f0 at *
      have HS0 := Lib.hid (fun w' => fsame_any f f0 HW.out.2 HW0.out.2 w')
      have HR0 := Lib.hid (fun w' => refsame14_any f f0 HW.out.2 HW0.out.2 w')
      have HSS := Lib.hid (fun w' => fsame_any f f HW.out.2 HW.out.2 w')
      rw [sameF_refl] at HSS
      have HRR := Lib.hid (fun w' => refright14_any f HW.out.2 w')
      generalize sameF f f0 = s at *
      have g0 := (CK.out 0 (by omega)).trans (show (fctA f)[0]? = some (.int .i64 f.k) from rfl)
      have g1 := (CK.out 1 (by omega)).trans (show (fctA f)[1]? = some (.int .i64 f.n) from rfl)
      have g2 := (CK.out 2 (by omega)).trans (show (fctA f)[2]? = some (.int .i64 f.s) from rfl)
      have g3 := (CK.out 3 (by omega)).trans (show (fctA f)[3]? = some (.int .i64 f.r) from rfl)
      have g4 := (CK.out 4 (by omega)).trans (show (fctA f)[4]? = some (.int .i64 f.nd) from rfl)
      have g5 := (CK.out 5 (by omega)).trans (show (fctA f)[5]? = some (.int .i64 f.p) from rfl)
      have g6 := (CK.out 6 (by omega)).trans (show (fctA f)[6]? = some (.int .i64 f.q) from rfl)
      have g7 := (CK.out 7 (by omega)).trans (show (fctA f)[7]? = some (.int .i64 f.o) from rfl)
      have g8 := (CK.out 8 (by omega)).trans (show (fctA f)[8]? = some (.int .i64 f.d) from rfl)
      have g9 := (CK.out 9 (by omega)).trans (show (fctA f)[9]? = some (.int .i64 f.pa) from rfl)
      have g10 := (CK.out 10 (by omega)).trans (show (fctA f)[10]? = some (.int .i64 f.st) from rfl)
      have g11 := (CK.out 11 (by omega)).trans (show (fctA f)[11]? = some (.int .i64 f.hw) from rfl)
      have g12 := (CK.out 12 (by omega)).trans (show (fctA f)[12]? = some (.int .i64 f.dc) from rfl)
      have g13 := (CK.out 13 (by omega)).trans (show (fctA f)[13]? = some (.float .f64 f.x) from rfl)
      rw [Nat.add_zero] at g0
      have X := Lib.hid (below_alloc hbw (.cells #[.int .i64 0, .int .i64 0, .int .i64 0, .int .i64 0, .int .i64 0, .int .i64 0, .int .i64 0, .int .i64 0, .int .i64 0, .int .i64 0, .int .i64 0, .int .i64 0, .int .i64 0, .float .f64 0] 33))
      have BX := Lib.hid (below_alloc B.out (.cells #[.int .i64 0, .int .i64 0, .int .i64 0, .int .i64 0, .int .i64 0, .int .i64 0, .int .i64 0, .int .i64 0, .int .i64 0, .int .i64 0, .int .i64 0, .int .i64 0, .int .i64 0, .float .f64 0] 33))
      have M := Lib.hid (Blk.new wr 33 #[.int .i64 0, .int .i64 0, .int .i64 0, .int .i64 0, .int .i64 0, .int .i64 0, .int .i64 0, .int .i64 0, .int .i64 0, .int .i64 0, .int .i64 0, .int .i64 0, .int .i64 0, .float .f64 0])
      go_wp2_with (refine wpList_store (.tmp 7) (.tmp 26) 33 rfl rfl wr.heap.size 0 _ _ (fctA f) rfl rfl M.out (by kernel_rfl) (by simp [Value.oneCell', fctA]) (by simp [fctA]) ?_)
      intro w7 hn7 ko7
      have h7 : Blk w7 wr.heap.size 33 (fctA f) := hn7
      have kp7 := (below_alloc1 wr (.cells #[.int .i64 0, .int .i64 0, .int .i64 0, .int .i64 0, .int .i64 0, .int .i64 0, .int .i64 0, .int .i64 0, .int .i64 0, .int .i64 0, .int .i64 0, .int .i64 0, .int .i64 0, .float .f64 0] 33)).trans (ko7.below (Nat.le_refl _))
      have M7 := Lib.hid h7
      have X7 := Lib.hid (X.out.trans (ko7.below hbw.size))
      have B7 := Lib.hid (BX.out.trans (ko7.below B.out.size))
      have CK7 := Lib.hid (CK.out.keep (Below.keeps kp7))
      have C07 := Lib.hid (C0.out.keep (Below.keeps kp7))
      clear hn7 ko7 kp7 M B BX X CK C0 hbw g0 g1 g2 g3 g4 g5 g6 g7 g8 g9 g10 g11 g12 g13
      have hk0 : (0 : Int) < (fs.length : Int) := by omega
      have hkk : (k : Int) < (fs.length : Int) := by omega
      generalize hgf : wr.heap.size = gf at *
      clear hgf
      cases hra : (fs.take k).all rightF
      · rw [hra, Bool.false_and] at HT
        clear hra
        go_wp2_with fail
        refine wp_phi (fun wq => Below w2.heap.size w2 wq ∧ Blk wq gf 33 (fctA f) ∧ FctAt wq b' off' f0 ∧ FctAt wq b' (off' + k * 14) f) [(0, PVal (fctV f)), (3, PVal (fctV f0)), (4, PVal (.bool s)), (5, PVal (fctV f)), (8, PVal (fctV f0)), (9, PVal (.bool s)), (15, PVal (fctV f)), (16, PVal (fctV f)), (17, PVal (.bool true))] [] (by kernel_rfl) (by kernel_rfl) ?_ ?_ ⟨X7.out.drew, M7.out, C07.out.keep (fun _ _ h => h), CK7.out.keep (fun _ _ h => h)⟩ ?_
        · rintro w1' w2' ⟨a1, a2, a3, a4⟩ hb
          exact ⟨a1.trans (hb.mono a1.size), a2.below hb a2.lt, a3.keep (Below.keeps hb), a4.keep (Below.keeps hb)⟩
        · simp only [List.mem_cons, List.not_mem_nil, or_false, forall_eq_or_imp, forall_eq]
          exact ⟨fun _ _ _ _ _ h => h, fun _ _ _ _ _ h => h, fun _ _ _ _ _ h => h, fun _ _ _ _ _ h => h, fun _ _ _ _ _ h => h, fun _ _ _ _ _ h => h, fun _ _ _ _ _ h => h, fun _ _ _ _ _ h => h, fun _ _ _ _ _ h => h⟩
        repeat (first | (refine phi_skipK rfl (fun K hK => ?_); simp only [Act.put, List.setIfInBounds_toArray, List.set_cons_succ, List.set_cons_zero]; (try simp only [List.cons_append]); (try simp only [List.nil_append]); apply hK; clear hK K) | (refine phi_pureK rfl rfl (fun K hK => ?_); apply Exists.intro; constructor; (focus (rintro w' ⟨h0, hM, hA, hC⟩; (clear h0 hM hA hC); first | (go_simp; done) | (go_simp; (try go_bits); (try go_simp); rfl) | go_simp)); simp only [Act.put, List.setIfInBounds_toArray, List.set_cons_succ, List.set_cons_zero]; (try simp only [List.cons_append]); (try simp only [List.nil_append]); apply hK; clear hK K))
        refine phi_partK (PVal (fctV f)) rfl rfl ⟨_, rfl⟩ ?_ (fun K hK v hv => ?_)
        · rintro wq ⟨h0, hM, hA, hC⟩ _
          have m0 := (hM.cell 0).trans (show (fctA f)[0]? = some (.int .i64 f.k) from rfl)
          have m1 := (hM.cell 1).trans (show (fctA f)[1]? = some (.int .i64 f.n) from rfl)
          have m2 := (hM.cell 2).trans (show (fctA f)[2]? = some (.int .i64 f.s) from rfl)
          have m3 := (hM.cell 3).trans (show (fctA f)[3]? = some (.int .i64 f.r) from rfl)
          have m4 := (hM.cell 4).trans (show (fctA f)[4]? = some (.int .i64 f.nd) from rfl)
          have m5 := (hM.cell 5).trans (show (fctA f)[5]? = some (.int .i64 f.p) from rfl)
          have m6 := (hM.cell 6).trans (show (fctA f)[6]? = some (.int .i64 f.q) from rfl)
          have m7 := (hM.cell 7).trans (show (fctA f)[7]? = some (.int .i64 f.o) from rfl)
          have m8 := (hM.cell 8).trans (show (fctA f)[8]? = some (.int .i64 f.d) from rfl)
          have m9 := (hM.cell 9).trans (show (fctA f)[9]? = some (.int .i64 f.pa) from rfl)
          have m10 := (hM.cell 10).trans (show (fctA f)[10]? = some (.int .i64 f.st) from rfl)
          have m11 := (hM.cell 11).trans (show (fctA f)[11]? = some (.int .i64 f.hw) from rfl)
          have m12 := (hM.cell 12).trans (show (fctA f)[12]? = some (.int .i64 f.dc) from rfl)
          have m13 := (hM.cell 13).trans (show (fctA f)[13]? = some (.float .f64 f.x) from rfl)
          clear h0 hM hA hC
          unfold gives
          go_simp
          exact ⟨rfl, trivial, Below.refl _ _⟩
        obtain rfl : v = _ := hv
        simp only [Act.put, List.setIfInBounds_toArray, List.set_cons_succ, List.set_cons_zero]; (try simp only [List.cons_append]); (try simp only [List.nil_append])
        apply hK
        clear hK K
        repeat (first | (refine phi_skipK rfl (fun K hK => ?_); simp only [Act.put, List.setIfInBounds_toArray, List.set_cons_succ, List.set_cons_zero]; (try simp only [List.cons_append]); (try simp only [List.nil_append]); apply hK; clear hK K) | (refine phi_pureK rfl rfl (fun K hK => ?_); apply Exists.intro; constructor; (focus (rintro w' ⟨h0, hM, hA, hC⟩; (clear h0 hM hA hC); first | (go_simp; done) | (go_simp; (try go_bits); (try go_simp); rfl) | go_simp)); simp only [Act.put, List.setIfInBounds_toArray, List.set_cons_succ, List.set_cons_zero]; (try simp only [List.cons_append]); (try simp only [List.nil_append]); apply hK; clear hK K))
        refine phi_partK (PVal (fctV f0)) rfl rfl ⟨_, rfl⟩ ?_ (fun K hK v hv => ?_)
        · rintro wq ⟨h0, hM, hA, hC⟩ _
          have m0 := (hA 0 (by omega)).trans (show (fctA f0)[0]? = some (.int .i64 f0.k) from rfl)
          have m1 := (hA 1 (by omega)).trans (show (fctA f0)[1]? = some (.int .i64 f0.n) from rfl)
          have m2 := (hA 2 (by omega)).trans (show (fctA f0)[2]? = some (.int .i64 f0.s) from rfl)
          have m3 := (hA 3 (by omega)).trans (show (fctA f0)[3]? = some (.int .i64 f0.r) from rfl)
          have m4 := (hA 4 (by omega)).trans (show (fctA f0)[4]? = some (.int .i64 f0.nd) from rfl)
          have m5 := (hA 5 (by omega)).trans (show (fctA f0)[5]? = some (.int .i64 f0.p) from rfl)
          have m6 := (hA 6 (by omega)).trans (show (fctA f0)[6]? = some (.int .i64 f0.q) from rfl)
          have m7 := (hA 7 (by omega)).trans (show (fctA f0)[7]? = some (.int .i64 f0.o) from rfl)
          have m8 := (hA 8 (by omega)).trans (show (fctA f0)[8]? = some (.int .i64 f0.d) from rfl)
          have m9 := (hA 9 (by omega)).trans (show (fctA f0)[9]? = some (.int .i64 f0.pa) from rfl)
          have m10 := (hA 10 (by omega)).trans (show (fctA f0)[10]? = some (.int .i64 f0.st) from rfl)
          have m11 := (hA 11 (by omega)).trans (show (fctA f0)[11]? = some (.int .i64 f0.hw) from rfl)
          have m12 := (hA 12 (by omega)).trans (show (fctA f0)[12]? = some (.int .i64 f0.dc) from rfl)
          have m13 := (hA 13 (by omega)).trans (show (fctA f0)[13]? = some (.float .f64 f0.x) from rfl)
          rw [Nat.add_zero] at m0
          clear h0 hM hA hC
          unfold gives
          go_simp
          exact ⟨rfl, trivial, Below.refl _ _⟩
        obtain rfl : v = _ := hv
        simp only [Act.put, List.setIfInBounds_toArray, List.set_cons_succ, List.set_cons_zero]; (try simp only [List.cons_append]); (try simp only [List.nil_append])
        apply hK
        clear hK K
        repeat (first | (refine phi_skipK rfl (fun K hK => ?_); simp only [Act.put, List.setIfInBounds_toArray, List.set_cons_succ, List.set_cons_zero]; (try simp only [List.cons_append]); (try simp only [List.nil_append]); apply hK; clear hK K) | (refine phi_pureK rfl rfl (fun K hK => ?_); apply Exists.intro; constructor; (focus (rintro w' ⟨h0, hM, hA, hC⟩; (clear h0 hM hA hC); first | (go_simp; done) | (go_simp; (try go_bits); (try go_simp); rfl) | go_simp)); simp only [Act.put, List.setIfInBounds_toArray, List.set_cons_succ, List.set_cons_zero]; (try simp only [List.cons_append]); (try simp only [List.nil_append]); apply hK; clear hK K))
        refine phi_partK (PVal (.bool s)) rfl rfl ⟨_, rfl⟩ ?_ (fun K hK v hv => ?_)
        · rintro wq ⟨h0, hM, hA, hC⟩ _
          clear hM hA hC
          unfold gives
          go_simp
          refine (HS0.out _).mono ?_
          rintro e w'' ⟨rfl, hb⟩
          exact ⟨_, rfl, rfl, trivial, hb⟩
        obtain rfl : v = _ := hv
        simp only [Act.put, List.setIfInBounds_toArray, List.set_cons_succ, List.set_cons_zero]; (try simp only [List.cons_append]); (try simp only [List.nil_append])
        apply hK
        clear hK K
        repeat (first | (refine phi_skipK rfl (fun K hK => ?_); simp only [Act.put, List.setIfInBounds_toArray, List.set_cons_succ, List.set_cons_zero]; (try simp only [List.cons_append]); (try simp only [List.nil_append]); apply hK; clear hK K) | (refine phi_pureK rfl rfl (fun K hK => ?_); apply Exists.intro; constructor; (focus (rintro w' ⟨h0, hM, hA, hC⟩; (clear h0 hM hA hC); first | (go_simp; done) | (go_simp; (try go_bits); (try go_simp); rfl) | go_simp)); simp only [Act.put, List.setIfInBounds_toArray, List.set_cons_succ, List.set_cons_zero]; (try simp only [List.cons_append]); (try simp only [List.nil_append]); apply hK; clear hK K))
        refine phi_partK (PVal (fctV f)) rfl rfl ⟨_, rfl⟩ ?_ (fun K hK v hv => ?_)
        · rintro wq ⟨h0, hM, hA, hC⟩ _
          have m0 := (hM.cell 0).trans (show (fctA f)[0]? = some (.int .i64 f.k) from rfl)
          have m1 := (hM.cell 1).trans (show (fctA f)[1]? = some (.int .i64 f.n) from rfl)
          have m2 := (hM.cell 2).trans (show (fctA f)[2]? = some (.int .i64 f.s) from rfl)
          have m3 := (hM.cell 3).trans (show (fctA f)[3]? = some (.int .i64 f.r) from rfl)
          have m4 := (hM.cell 4).trans (show (fctA f)[4]? = some (.int .i64 f.nd) from rfl)
          have m5 := (hM.cell 5).trans (show (fctA f)[5]? = some (.int .i64 f.p) from rfl)
          have m6 := (hM.cell 6).trans (show (fctA f)[6]? = some (.int .i64 f.q) from rfl)
          have m7 := (hM.cell 7).trans (show (fctA f)[7]? = some (.int .i64 f.o) from rfl)
          have m8 := (hM.cell 8).trans (show (fctA f)[8]? = some (.int .i64 f.d) from rfl)
          have m9 := (hM.cell 9).trans (show (fctA f)[9]? = some (.int .i64 f.pa) from rfl)
          have m10 := (hM.cell 10).trans (show (fctA f)[10]? = some (.int .i64 f.st) from rfl)
          have m11 := (hM.cell 11).trans (show (fctA f)[11]? = some (.int .i64 f.hw) from rfl)
          have m12 := (hM.cell 12).trans (show (fctA f)[12]? = some (.int .i64 f.dc) from rfl)
          have m13 := (hM.cell 13).trans (show (fctA f)[13]? = some (.float .f64 f.x) from rfl)
          clear h0 hM hA hC
          unfold gives
          go_simp
          exact ⟨rfl, trivial, Below.refl _ _⟩
        obtain rfl : v = _ := hv
        simp only [Act.put, List.setIfInBounds_toArray, List.set_cons_succ, List.set_cons_zero]; (try simp only [List.cons_append]); (try simp only [List.nil_append])
        apply hK
        clear hK K
        repeat (first | (refine phi_skipK rfl (fun K hK => ?_); simp only [Act.put, List.setIfInBounds_toArray, List.set_cons_succ, List.set_cons_zero]; (try simp only [List.cons_append]); (try simp only [List.nil_append]); apply hK; clear hK K) | (refine phi_pureK rfl rfl (fun K hK => ?_); apply Exists.intro; constructor; (focus (rintro w' ⟨h0, hM, hA, hC⟩; (clear h0 hM hA hC); first | (go_simp; done) | (go_simp; (try go_bits); (try go_simp); rfl) | go_simp)); simp only [Act.put, List.setIfInBounds_toArray, List.set_cons_succ, List.set_cons_zero]; (try simp only [List.cons_append]); (try simp only [List.nil_append]); apply hK; clear hK K))
        refine phi_partK (PVal (fctV f0)) rfl rfl ⟨_, rfl⟩ ?_ (fun K hK v hv => ?_)
        · rintro wq ⟨h0, hM, hA, hC⟩ _
          have m0 := (hA 0 (by omega)).trans (show (fctA f0)[0]? = some (.int .i64 f0.k) from rfl)
          have m1 := (hA 1 (by omega)).trans (show (fctA f0)[1]? = some (.int .i64 f0.n) from rfl)
          have m2 := (hA 2 (by omega)).trans (show (fctA f0)[2]? = some (.int .i64 f0.s) from rfl)
          have m3 := (hA 3 (by omega)).trans (show (fctA f0)[3]? = some (.int .i64 f0.r) from rfl)
          have m4 := (hA 4 (by omega)).trans (show (fctA f0)[4]? = some (.int .i64 f0.nd) from rfl)
          have m5 := (hA 5 (by omega)).trans (show (fctA f0)[5]? = some (.int .i64 f0.p) from rfl)
          have m6 := (hA 6 (by omega)).trans (show (fctA f0)[6]? = some (.int .i64 f0.q) from rfl)
          have m7 := (hA 7 (by omega)).trans (show (fctA f0)[7]? = some (.int .i64 f0.o) from rfl)
          have m8 := (hA 8 (by omega)).trans (show (fctA f0)[8]? = some (.int .i64 f0.d) from rfl)
          have m9 := (hA 9 (by omega)).trans (show (fctA f0)[9]? = some (.int .i64 f0.pa) from rfl)
          have m10 := (hA 10 (by omega)).trans (show (fctA f0)[10]? = some (.int .i64 f0.st) from rfl)
          have m11 := (hA 11 (by omega)).trans (show (fctA f0)[11]? = some (.int .i64 f0.hw) from rfl)
          have m12 := (hA 12 (by omega)).trans (show (fctA f0)[12]? = some (.int .i64 f0.dc) from rfl)
          have m13 := (hA 13 (by omega)).trans (show (fctA f0)[13]? = some (.float .f64 f0.x) from rfl)
          rw [Nat.add_zero] at m0
          clear h0 hM hA hC
          unfold gives
          go_simp
          exact ⟨rfl, trivial, Below.refl _ _⟩
        obtain rfl : v = _ := hv
        simp only [Act.put, List.setIfInBounds_toArray, List.set_cons_succ, List.set_cons_zero]; (try simp only [List.cons_append]); (try simp only [List.nil_append])
        apply hK
        clear hK K
        repeat (first | (refine phi_skipK rfl (fun K hK => ?_); simp only [Act.put, List.setIfInBounds_toArray, List.set_cons_succ, List.set_cons_zero]; (try simp only [List.cons_append]); (try simp only [List.nil_append]); apply hK; clear hK K) | (refine phi_pureK rfl rfl (fun K hK => ?_); apply Exists.intro; constructor; (focus (rintro w' ⟨h0, hM, hA, hC⟩; (clear h0 hM hA hC); first | (go_simp; done) | (go_simp; (try go_bits); (try go_simp); rfl) | go_simp)); simp only [Act.put, List.setIfInBounds_toArray, List.set_cons_succ, List.set_cons_zero]; (try simp only [List.cons_append]); (try simp only [List.nil_append]); apply hK; clear hK K))
        refine phi_partK (PVal (.bool s)) rfl rfl ⟨_, rfl⟩ ?_ (fun K hK v hv => ?_)
        · rintro wq ⟨h0, hM, hA, hC⟩ _
          clear hM hA hC
          unfold gives
          go_simp
          refine (HR0.out _).mono ?_
          rintro e w'' ⟨rfl, hb⟩
          exact ⟨_, rfl, rfl, trivial, hb⟩
        obtain rfl : v = _ := hv
        simp only [Act.put, List.setIfInBounds_toArray, List.set_cons_succ, List.set_cons_zero]; (try simp only [List.cons_append]); (try simp only [List.nil_append])
        apply hK
        clear hK K
        repeat (first | (refine phi_skipK rfl (fun K hK => ?_); simp only [Act.put, List.setIfInBounds_toArray, List.set_cons_succ, List.set_cons_zero]; (try simp only [List.cons_append]); (try simp only [List.nil_append]); apply hK; clear hK K) | (refine phi_pureK rfl rfl (fun K hK => ?_); apply Exists.intro; constructor; (focus (rintro w' ⟨h0, hM, hA, hC⟩; (clear h0 hM hA hC); first | (go_simp; done) | (go_simp; (try go_bits); (try go_simp); rfl) | go_simp)); simp only [Act.put, List.setIfInBounds_toArray, List.set_cons_succ, List.set_cons_zero]; (try simp only [List.cons_append]); (try simp only [List.nil_append]); apply hK; clear hK K))
        refine phi_partK (PVal (fctV f)) rfl rfl ⟨_, rfl⟩ ?_ (fun K hK v hv => ?_)
        · rintro wq ⟨h0, hM, hA, hC⟩ _
          have m0 := (hC 0 (by omega)).trans (show (fctA f)[0]? = some (.int .i64 f.k) from rfl)
          have m1 := (hC 1 (by omega)).trans (show (fctA f)[1]? = some (.int .i64 f.n) from rfl)
          have m2 := (hC 2 (by omega)).trans (show (fctA f)[2]? = some (.int .i64 f.s) from rfl)
          have m3 := (hC 3 (by omega)).trans (show (fctA f)[3]? = some (.int .i64 f.r) from rfl)
          have m4 := (hC 4 (by omega)).trans (show (fctA f)[4]? = some (.int .i64 f.nd) from rfl)
          have m5 := (hC 5 (by omega)).trans (show (fctA f)[5]? = some (.int .i64 f.p) from rfl)
          have m6 := (hC 6 (by omega)).trans (show (fctA f)[6]? = some (.int .i64 f.q) from rfl)
          have m7 := (hC 7 (by omega)).trans (show (fctA f)[7]? = some (.int .i64 f.o) from rfl)
          have m8 := (hC 8 (by omega)).trans (show (fctA f)[8]? = some (.int .i64 f.d) from rfl)
          have m9 := (hC 9 (by omega)).trans (show (fctA f)[9]? = some (.int .i64 f.pa) from rfl)
          have m10 := (hC 10 (by omega)).trans (show (fctA f)[10]? = some (.int .i64 f.st) from rfl)
          have m11 := (hC 11 (by omega)).trans (show (fctA f)[11]? = some (.int .i64 f.hw) from rfl)
          have m12 := (hC 12 (by omega)).trans (show (fctA f)[12]? = some (.int .i64 f.dc) from rfl)
          have m13 := (hC 13 (by omega)).trans (show (fctA f)[13]? = some (.float .f64 f.x) from rfl)
          rw [Nat.add_zero] at m0
          clear h0 hM hA hC
          unfold gives
          go_simp
          exact ⟨rfl, trivial, Below.refl _ _⟩
        obtain rfl : v = _ := hv
        simp only [Act.put, List.setIfInBounds_toArray, List.set_cons_succ, List.set_cons_zero]; (try simp only [List.cons_append]); (try simp only [List.nil_append])
        apply hK
        clear hK K
        repeat (first | (refine phi_skipK rfl (fun K hK => ?_); simp only [Act.put, List.setIfInBounds_toArray, List.set_cons_succ, List.set_cons_zero]; (try simp only [List.cons_append]); (try simp only [List.nil_append]); apply hK; clear hK K) | (refine phi_pureK rfl rfl (fun K hK => ?_); apply Exists.intro; constructor; (focus (rintro w' ⟨h0, hM, hA, hC⟩; (clear h0 hM hA hC); first | (go_simp; done) | (go_simp; (try go_bits); (try go_simp); rfl) | go_simp)); simp only [Act.put, List.setIfInBounds_toArray, List.set_cons_succ, List.set_cons_zero]; (try simp only [List.cons_append]); (try simp only [List.nil_append]); apply hK; clear hK K))
        refine phi_partK (PVal (fctV f)) rfl rfl ⟨_, rfl⟩ ?_ (fun K hK v hv => ?_)
        · rintro wq ⟨h0, hM, hA, hC⟩ _
          have m0 := (hM.cell 0).trans (show (fctA f)[0]? = some (.int .i64 f.k) from rfl)
          have m1 := (hM.cell 1).trans (show (fctA f)[1]? = some (.int .i64 f.n) from rfl)
          have m2 := (hM.cell 2).trans (show (fctA f)[2]? = some (.int .i64 f.s) from rfl)
          have m3 := (hM.cell 3).trans (show (fctA f)[3]? = some (.int .i64 f.r) from rfl)
          have m4 := (hM.cell 4).trans (show (fctA f)[4]? = some (.int .i64 f.nd) from rfl)
          have m5 := (hM.cell 5).trans (show (fctA f)[5]? = some (.int .i64 f.p) from rfl)
          have m6 := (hM.cell 6).trans (show (fctA f)[6]? = some (.int .i64 f.q) from rfl)
          have m7 := (hM.cell 7).trans (show (fctA f)[7]? = some (.int .i64 f.o) from rfl)
          have m8 := (hM.cell 8).trans (show (fctA f)[8]? = some (.int .i64 f.d) from rfl)
          have m9 := (hM.cell 9).trans (show (fctA f)[9]? = some (.int .i64 f.pa) from rfl)
          have m10 := (hM.cell 10).trans (show (fctA f)[10]? = some (.int .i64 f.st) from rfl)
          have m11 := (hM.cell 11).trans (show (fctA f)[11]? = some (.int .i64 f.hw) from rfl)
          have m12 := (hM.cell 12).trans (show (fctA f)[12]? = some (.int .i64 f.dc) from rfl)
          have m13 := (hM.cell 13).trans (show (fctA f)[13]? = some (.float .f64 f.x) from rfl)
          clear h0 hM hA hC
          unfold gives
          go_simp
          exact ⟨rfl, trivial, Below.refl _ _⟩
        obtain rfl : v = _ := hv
        simp only [Act.put, List.setIfInBounds_toArray, List.set_cons_succ, List.set_cons_zero]; (try simp only [List.cons_append]); (try simp only [List.nil_append])
        apply hK
        clear hK K
        repeat (first | (refine phi_skipK rfl (fun K hK => ?_); simp only [Act.put, List.setIfInBounds_toArray, List.set_cons_succ, List.set_cons_zero]; (try simp only [List.cons_append]); (try simp only [List.nil_append]); apply hK; clear hK K) | (refine phi_pureK rfl rfl (fun K hK => ?_); apply Exists.intro; constructor; (focus (rintro w' ⟨h0, hM, hA, hC⟩; (clear h0 hM hA hC); first | (go_simp; done) | (go_simp; (try go_bits); (try go_simp); rfl) | go_simp)); simp only [Act.put, List.setIfInBounds_toArray, List.set_cons_succ, List.set_cons_zero]; (try simp only [List.cons_append]); (try simp only [List.nil_append]); apply hK; clear hK K))
        refine phi_partK (PVal (.bool true)) rfl rfl ⟨_, rfl⟩ ?_ (fun K hK v hv => ?_)
        · rintro wq ⟨h0, hM, hA, hC⟩ _
          clear hM hA hC
          unfold gives
          go_simp
          refine (HSS.out _).mono ?_
          rintro e w'' ⟨rfl, hb⟩
          exact ⟨_, rfl, rfl, trivial, hb⟩
        obtain rfl : v = _ := hv
        simp only [Act.put, List.setIfInBounds_toArray, List.set_cons_succ, List.set_cons_zero]; (try simp only [List.cons_append]); (try simp only [List.nil_append])
        apply hK
        clear hK K
        repeat (first | (refine phi_skipK rfl (fun K hK => ?_); simp only [Act.put, List.setIfInBounds_toArray, List.set_cons_succ, List.set_cons_zero]; (try simp only [List.cons_append]); (try simp only [List.nil_append]); apply hK; clear hK K) | (refine phi_pureK rfl rfl (fun K hK => ?_); apply Exists.intro; constructor; (focus (rintro w' ⟨h0, hM, hA, hC⟩; (clear h0 hM hA hC); first | (go_simp; done) | (go_simp; (try go_bits); (try go_simp); rfl) | go_simp)); simp only [Act.put, List.setIfInBounds_toArray, List.set_cons_succ, List.set_cons_zero]; (try simp only [List.cons_append]); (try simp only [List.nil_append]); apply hK; clear hK K))
        refine phi_done ?_
        rintro w9 ⟨hX, _, _, _⟩ _
        have X9 := Lib.hid hX
        clear hX
        refine wpList_nil ?_
        go_wp2_with fail
        go_roundw
        case rel => exact ⟨k + 1, by omega, by go_num, by rw [HT.out], X9.out⟩
        case measure => simp [intOf]; omega
      · rw [hra, Bool.true_and] at HT
        clear hra
        have m0 := (M7.out.cell 0).trans (show (fctA f)[0]? = some (.int .i64 f.k) from rfl)
        have m1 := (M7.out.cell 1).trans (show (fctA f)[1]? = some (.int .i64 f.n) from rfl)
        have m2 := (M7.out.cell 2).trans (show (fctA f)[2]? = some (.int .i64 f.s) from rfl)
        have m3 := (M7.out.cell 3).trans (show (fctA f)[3]? = some (.int .i64 f.r) from rfl)
        have m4 := (M7.out.cell 4).trans (show (fctA f)[4]? = some (.int .i64 f.nd) from rfl)
        have m5 := (M7.out.cell 5).trans (show (fctA f)[5]? = some (.int .i64 f.p) from rfl)
        have m6 := (M7.out.cell 6).trans (show (fctA f)[6]? = some (.int .i64 f.q) from rfl)
        have m7 := (M7.out.cell 7).trans (show (fctA f)[7]? = some (.int .i64 f.o) from rfl)
        have m8 := (M7.out.cell 8).trans (show (fctA f)[8]? = some (.int .i64 f.d) from rfl)
        have m9 := (M7.out.cell 9).trans (show (fctA f)[9]? = some (.int .i64 f.pa) from rfl)
        have m10 := (M7.out.cell 10).trans (show (fctA f)[10]? = some (.int .i64 f.st) from rfl)
        have m11 := (M7.out.cell 11).trans (show (fctA f)[11]? = some (.int .i64 f.hw) from rfl)
        have m12 := (M7.out.cell 12).trans (show (fctA f)[12]? = some (.int .i64 f.dc) from rfl)
        have m13 := (M7.out.cell 13).trans (show (fctA f)[13]? = some (.float .f64 f.x) from rfl)
        go_wp2_with fail
        refine (HRR.out _).mono ?_
        rintro e w8 ⟨rfl, hb⟩
        have X8 := Lib.hid (X7.out.trans (hb.mono X7.out.size))
        have M8 := Lib.hid (M7.out.below hb M7.out.lt)
        have CK8 := Lib.hid (CK7.out.keep (Below.keeps hb))
        have C08 := Lib.hid (C07.out.keep (Below.keeps hb))
        clear hb X7 M7 CK7 C07 B7 m0 m1 m2 m3 m4 m5 m6 m7 m8 m9 m10 m11 m12 m13
        go_wp2_with fail
        refine wp_phi (fun wq => Below w2.heap.size w2 wq ∧ Blk wq gf 33 (fctA f) ∧ FctAt wq b' off' f0 ∧ FctAt wq b' (off' + k * 14) f) [(0, PVal (fctV f)), (3, PVal (fctV f0)), (4, PVal (.bool s)), (5, PVal (fctV f)), (8, PVal (fctV f0)), (9, PVal (.bool s)), (15, PVal (fctV f)), (16, PVal (fctV f)), (17, PVal (.bool true))] [] (by kernel_rfl) (by kernel_rfl) ?_ ?_ ⟨X8.out.drew, M8.out, C08.out.keep (fun _ _ h => h), CK8.out.keep (fun _ _ h => h)⟩ ?_
        · rintro w1' w2' ⟨a1, a2, a3, a4⟩ hb
          exact ⟨a1.trans (hb.mono a1.size), a2.below hb a2.lt, a3.keep (Below.keeps hb), a4.keep (Below.keeps hb)⟩
        · simp only [List.mem_cons, List.not_mem_nil, or_false, forall_eq_or_imp, forall_eq]
          exact ⟨fun _ _ _ _ _ h => h, fun _ _ _ _ _ h => h, fun _ _ _ _ _ h => h, fun _ _ _ _ _ h => h, fun _ _ _ _ _ h => h, fun _ _ _ _ _ h => h, fun _ _ _ _ _ h => h, fun _ _ _ _ _ h => h, fun _ _ _ _ _ h => h⟩
        repeat (first | (refine phi_skipK rfl (fun K hK => ?_); simp only [Act.put, List.setIfInBounds_toArray, List.set_cons_succ, List.set_cons_zero]; (try simp only [List.cons_append]); (try simp only [List.nil_append]); apply hK; clear hK K) | (refine phi_pureK rfl rfl (fun K hK => ?_); apply Exists.intro; constructor; (focus (rintro w' ⟨h0, hM, hA, hC⟩; (clear h0 hM hA hC); first | (go_simp; done) | (go_simp; (try go_bits); (try go_simp); rfl) | go_simp)); simp only [Act.put, List.setIfInBounds_toArray, List.set_cons_succ, List.set_cons_zero]; (try simp only [List.cons_append]); (try simp only [List.nil_append]); apply hK; clear hK K))
        refine phi_partK (PVal (fctV f)) rfl rfl ⟨_, rfl⟩ ?_ (fun K hK v hv => ?_)
        · rintro wq ⟨h0, hM, hA, hC⟩ _
          have m0 := (hM.cell 0).trans (show (fctA f)[0]? = some (.int .i64 f.k) from rfl)
          have m1 := (hM.cell 1).trans (show (fctA f)[1]? = some (.int .i64 f.n) from rfl)
          have m2 := (hM.cell 2).trans (show (fctA f)[2]? = some (.int .i64 f.s) from rfl)
          have m3 := (hM.cell 3).trans (show (fctA f)[3]? = some (.int .i64 f.r) from rfl)
          have m4 := (hM.cell 4).trans (show (fctA f)[4]? = some (.int .i64 f.nd) from rfl)
          have m5 := (hM.cell 5).trans (show (fctA f)[5]? = some (.int .i64 f.p) from rfl)
          have m6 := (hM.cell 6).trans (show (fctA f)[6]? = some (.int .i64 f.q) from rfl)
          have m7 := (hM.cell 7).trans (show (fctA f)[7]? = some (.int .i64 f.o) from rfl)
          have m8 := (hM.cell 8).trans (show (fctA f)[8]? = some (.int .i64 f.d) from rfl)
          have m9 := (hM.cell 9).trans (show (fctA f)[9]? = some (.int .i64 f.pa) from rfl)
          have m10 := (hM.cell 10).trans (show (fctA f)[10]? = some (.int .i64 f.st) from rfl)
          have m11 := (hM.cell 11).trans (show (fctA f)[11]? = some (.int .i64 f.hw) from rfl)
          have m12 := (hM.cell 12).trans (show (fctA f)[12]? = some (.int .i64 f.dc) from rfl)
          have m13 := (hM.cell 13).trans (show (fctA f)[13]? = some (.float .f64 f.x) from rfl)
          clear h0 hM hA hC
          unfold gives
          go_simp
          exact ⟨rfl, trivial, Below.refl _ _⟩
        obtain rfl : v = _ := hv
        simp only [Act.put, List.setIfInBounds_toArray, List.set_cons_succ, List.set_cons_zero]; (try simp only [List.cons_append]); (try simp only [List.nil_append])
        apply hK
        clear hK K
        repeat (first | (refine phi_skipK rfl (fun K hK => ?_); simp only [Act.put, List.setIfInBounds_toArray, List.set_cons_succ, List.set_cons_zero]; (try simp only [List.cons_append]); (try simp only [List.nil_append]); apply hK; clear hK K) | (refine phi_pureK rfl rfl (fun K hK => ?_); apply Exists.intro; constructor; (focus (rintro w' ⟨h0, hM, hA, hC⟩; (clear h0 hM hA hC); first | (go_simp; done) | (go_simp; (try go_bits); (try go_simp); rfl) | go_simp)); simp only [Act.put, List.setIfInBounds_toArray, List.set_cons_succ, List.set_cons_zero]; (try simp only [List.cons_append]); (try simp only [List.nil_append]); apply hK; clear hK K))
        refine phi_partK (PVal (fctV f0)) rfl rfl ⟨_, rfl⟩ ?_ (fun K hK v hv => ?_)
        · rintro wq ⟨h0, hM, hA, hC⟩ _
          have m0 := (hA 0 (by omega)).trans (show (fctA f0)[0]? = some (.int .i64 f0.k) from rfl)
          have m1 := (hA 1 (by omega)).trans (show (fctA f0)[1]? = some (.int .i64 f0.n) from rfl)
          have m2 := (hA 2 (by omega)).trans (show (fctA f0)[2]? = some (.int .i64 f0.s) from rfl)
          have m3 := (hA 3 (by omega)).trans (show (fctA f0)[3]? = some (.int .i64 f0.r) from rfl)
          have m4 := (hA 4 (by omega)).trans (show (fctA f0)[4]? = some (.int .i64 f0.nd) from rfl)
          have m5 := (hA 5 (by omega)).trans (show (fctA f0)[5]? = some (.int .i64 f0.p) from rfl)
          have m6 := (hA 6 (by omega)).trans (show (fctA f0)[6]? = some (.int .i64 f0.q) from rfl)
          have m7 := (hA 7 (by omega)).trans (show (fctA f0)[7]? = some (.int .i64 f0.o) from rfl)
          have m8 := (hA 8 (by omega)).trans (show (fctA f0)[8]? = some (.int .i64 f0.d) from rfl)
          have m9 := (hA 9 (by omega)).trans (show (fctA f0)[9]? = some (.int .i64 f0.pa) from rfl)
          have m10 := (hA 10 (by omega)).trans (show (fctA f0)[10]? = some (.int .i64 f0.st) from rfl)
          have m11 := (hA 11 (by omega)).trans (show (fctA f0)[11]? = some (.int .i64 f0.hw) from rfl)
          have m12 := (hA 12 (by omega)).trans (show (fctA f0)[12]? = some (.int .i64 f0.dc) from rfl)
          have m13 := (hA 13 (by omega)).trans (show (fctA f0)[13]? = some (.float .f64 f0.x) from rfl)
          rw [Nat.add_zero] at m0
          clear h0 hM hA hC
          unfold gives
          go_simp
          exact ⟨rfl, trivial, Below.refl _ _⟩
        obtain rfl : v = _ := hv
        simp only [Act.put, List.setIfInBounds_toArray, List.set_cons_succ, List.set_cons_zero]; (try simp only [List.cons_append]); (try simp only [List.nil_append])
        apply hK
        clear hK K
        repeat (first | (refine phi_skipK rfl (fun K hK => ?_); simp only [Act.put, List.setIfInBounds_toArray, List.set_cons_succ, List.set_cons_zero]; (try simp only [List.cons_append]); (try simp only [List.nil_append]); apply hK; clear hK K) | (refine phi_pureK rfl rfl (fun K hK => ?_); apply Exists.intro; constructor; (focus (rintro w' ⟨h0, hM, hA, hC⟩; (clear h0 hM hA hC); first | (go_simp; done) | (go_simp; (try go_bits); (try go_simp); rfl) | go_simp)); simp only [Act.put, List.setIfInBounds_toArray, List.set_cons_succ, List.set_cons_zero]; (try simp only [List.cons_append]); (try simp only [List.nil_append]); apply hK; clear hK K))
        refine phi_partK (PVal (.bool s)) rfl rfl ⟨_, rfl⟩ ?_ (fun K hK v hv => ?_)
        · rintro wq ⟨h0, hM, hA, hC⟩ _
          clear hM hA hC
          unfold gives
          go_simp
          refine (HS0.out _).mono ?_
          rintro e w'' ⟨rfl, hb⟩
          exact ⟨_, rfl, rfl, trivial, hb⟩
        obtain rfl : v = _ := hv
        simp only [Act.put, List.setIfInBounds_toArray, List.set_cons_succ, List.set_cons_zero]; (try simp only [List.cons_append]); (try simp only [List.nil_append])
        apply hK
        clear hK K
        repeat (first | (refine phi_skipK rfl (fun K hK => ?_); simp only [Act.put, List.setIfInBounds_toArray, List.set_cons_succ, List.set_cons_zero]; (try simp only [List.cons_append]); (try simp only [List.nil_append]); apply hK; clear hK K) | (refine phi_pureK rfl rfl (fun K hK => ?_); apply Exists.intro; constructor; (focus (rintro w' ⟨h0, hM, hA, hC⟩; (clear h0 hM hA hC); first | (go_simp; done) | (go_simp; (try go_bits); (try go_simp); rfl) | go_simp)); simp only [Act.put, List.setIfInBounds_toArray, List.set_cons_succ, List.set_cons_zero]; (try simp only [List.cons_append]); (try simp only [List.nil_append]); apply hK; clear hK K))
        refine phi_partK (PVal (fctV f)) rfl rfl ⟨_, rfl⟩ ?_ (fun K hK v hv => ?_)
        · rintro wq ⟨h0, hM, hA, hC⟩ _
          have m0 := (hM.cell 0).trans (show (fctA f)[0]? = some (.int .i64 f.k) from rfl)
          have m1 := (hM.cell 1).trans (show (fctA f)[1]? = some (.int .i64 f.n) from rfl)
          have m2 := (hM.cell 2).trans (show (fctA f)[2]? = some (.int .i64 f.s) from rfl)
          have m3 := (hM.cell 3).trans (show (fctA f)[3]? = some (.int .i64 f.r) from rfl)
          have m4 := (hM.cell 4).trans (show (fctA f)[4]? = some (.int .i64 f.nd) from rfl)
          have m5 := (hM.cell 5).trans (show (fctA f)[5]? = some (.int .i64 f.p) from rfl)
          have m6 := (hM.cell 6).trans (show (fctA f)[6]? = some (.int .i64 f.q) from rfl)
          have m7 := (hM.cell 7).trans (show (fctA f)[7]? = some (.int .i64 f.o) from rfl)
          have m8 := (hM.cell 8).trans (show (fctA f)[8]? = some (.int .i64 f.d) from rfl)
          have m9 := (hM.cell 9).trans (show (fctA f)[9]? = some (.int .i64 f.pa) from rfl)
          have m10 := (hM.cell 10).trans (show (fctA f)[10]? = some (.int .i64 f.st) from rfl)
          have m11 := (hM.cell 11).trans (show (fctA f)[11]? = some (.int .i64 f.hw) from rfl)
          have m12 := (hM.cell 12).trans (show (fctA f)[12]? = some (.int .i64 f.dc) from rfl)
          have m13 := (hM.cell 13).trans (show (fctA f)[13]? = some (.float .f64 f.x) from rfl)
          clear h0 hM hA hC
          unfold gives
          go_simp
          exact ⟨rfl, trivial, Below.refl _ _⟩
        obtain rfl : v = _ := hv
        simp only [Act.put, List.setIfInBounds_toArray, List.set_cons_succ, List.set_cons_zero]; (try simp only [List.cons_append]); (try simp only [List.nil_append])
        apply hK
        clear hK K
        repeat (first | (refine phi_skipK rfl (fun K hK => ?_); simp only [Act.put, List.setIfInBounds_toArray, List.set_cons_succ, List.set_cons_zero]; (try simp only [List.cons_append]); (try simp only [List.nil_append]); apply hK; clear hK K) | (refine phi_pureK rfl rfl (fun K hK => ?_); apply Exists.intro; constructor; (focus (rintro w' ⟨h0, hM, hA, hC⟩; (clear h0 hM hA hC); first | (go_simp; done) | (go_simp; (try go_bits); (try go_simp); rfl) | go_simp)); simp only [Act.put, List.setIfInBounds_toArray, List.set_cons_succ, List.set_cons_zero]; (try simp only [List.cons_append]); (try simp only [List.nil_append]); apply hK; clear hK K))
        refine phi_partK (PVal (fctV f0)) rfl rfl ⟨_, rfl⟩ ?_ (fun K hK v hv => ?_)
        · rintro wq ⟨h0, hM, hA, hC⟩ _
          have m0 := (hA 0 (by omega)).trans (show (fctA f0)[0]? = some (.int .i64 f0.k) from rfl)
          have m1 := (hA 1 (by omega)).trans (show (fctA f0)[1]? = some (.int .i64 f0.n) from rfl)
          have m2 := (hA 2 (by omega)).trans (show (fctA f0)[2]? = some (.int .i64 f0.s) from rfl)
          have m3 := (hA 3 (by omega)).trans (show (fctA f0)[3]? = some (.int .i64 f0.r) from rfl)
          have m4 := (hA 4 (by omega)).trans (show (fctA f0)[4]? = some (.int .i64 f0.nd) from rfl)
          have m5 := (hA 5 (by omega)).trans (show (fctA f0)[5]? = some (.int .i64 f0.p) from rfl)
          have m6 := (hA 6 (by omega)).trans (show (fctA f0)[6]? = some (.int .i64 f0.q) from rfl)
          have m7 := (hA 7 (by omega)).trans (show (fctA f0)[7]? = some (.int .i64 f0.o) from rfl)
          have m8 := (hA 8 (by omega)).trans (show (fctA f0)[8]? = some (.int .i64 f0.d) from rfl)
          have m9 := (hA 9 (by omega)).trans (show (fctA f0)[9]? = some (.int .i64 f0.pa) from rfl)
          have m10 := (hA 10 (by omega)).trans (show (fctA f0)[10]? = some (.int .i64 f0.st) from rfl)
          have m11 := (hA 11 (by omega)).trans (show (fctA f0)[11]? = some (.int .i64 f0.hw) from rfl)
          have m12 := (hA 12 (by omega)).trans (show (fctA f0)[12]? = some (.int .i64 f0.dc) from rfl)
          have m13 := (hA 13 (by omega)).trans (show (fctA f0)[13]? = some (.float .f64 f0.x) from rfl)
          rw [Nat.add_zero] at m0
          clear h0 hM hA hC
          unfold gives
          go_simp
          exact ⟨rfl, trivial, Below.refl _ _⟩
        obtain rfl : v = _ := hv
        simp only [Act.put, List.setIfInBounds_toArray, List.set_cons_succ, List.set_cons_zero]; (try simp only [List.cons_append]); (try simp only [List.nil_append])
        apply hK
        clear hK K
        repeat (first | (refine phi_skipK rfl (fun K hK => ?_); simp only [Act.put, List.setIfInBounds_toArray, List.set_cons_succ, List.set_cons_zero]; (try simp only [List.cons_append]); (try simp only [List.nil_append]); apply hK; clear hK K) | (refine phi_pureK rfl rfl (fun K hK => ?_); apply Exists.intro; constructor; (focus (rintro w' ⟨h0, hM, hA, hC⟩; (clear h0 hM hA hC); first | (go_simp; done) | (go_simp; (try go_bits); (try go_simp); rfl) | go_simp)); simp only [Act.put, List.setIfInBounds_toArray, List.set_cons_succ, List.set_cons_zero]; (try simp only [List.cons_append]); (try simp only [List.nil_append]); apply hK; clear hK K))
        refine phi_partK (PVal (.bool s)) rfl rfl ⟨_, rfl⟩ ?_ (fun K hK v hv => ?_)
        · rintro wq ⟨h0, hM, hA, hC⟩ _
          clear hM hA hC
          unfold gives
          go_simp
          refine (HR0.out _).mono ?_
          rintro e w'' ⟨rfl, hb⟩
          exact ⟨_, rfl, rfl, trivial, hb⟩
        obtain rfl : v = _ := hv
        simp only [Act.put, List.setIfInBounds_toArray, List.set_cons_succ, List.set_cons_zero]; (try simp only [List.cons_append]); (try simp only [List.nil_append])
        apply hK
        clear hK K
        repeat (first | (refine phi_skipK rfl (fun K hK => ?_); simp only [Act.put, List.setIfInBounds_toArray, List.set_cons_succ, List.set_cons_zero]; (try simp only [List.cons_append]); (try simp only [List.nil_append]); apply hK; clear hK K) | (refine phi_pureK rfl rfl (fun K hK => ?_); apply Exists.intro; constructor; (focus (rintro w' ⟨h0, hM, hA, hC⟩; (clear h0 hM hA hC); first | (go_simp; done) | (go_simp; (try go_bits); (try go_simp); rfl) | go_simp)); simp only [Act.put, List.setIfInBounds_toArray, List.set_cons_succ, List.set_cons_zero]; (try simp only [List.cons_append]); (try simp only [List.nil_append]); apply hK; clear hK K))
        refine phi_partK (PVal (fctV f)) rfl rfl ⟨_, rfl⟩ ?_ (fun K hK v hv => ?_)
        · rintro wq ⟨h0, hM, hA, hC⟩ _
          have m0 := (hC 0 (by omega)).trans (show (fctA f)[0]? = some (.int .i64 f.k) from rfl)
          have m1 := (hC 1 (by omega)).trans (show (fctA f)[1]? = some (.int .i64 f.n) from rfl)
          have m2 := (hC 2 (by omega)).trans (show (fctA f)[2]? = some (.int .i64 f.s) from rfl)
          have m3 := (hC 3 (by omega)).trans (show (fctA f)[3]? = some (.int .i64 f.r) from rfl)
          have m4 := (hC 4 (by omega)).trans (show (fctA f)[4]? = some (.int .i64 f.nd) from rfl)
          have m5 := (hC 5 (by omega)).trans (show (fctA f)[5]? = some (.int .i64 f.p) from rfl)
          have m6 := (hC 6 (by omega)).trans (show (fctA f)[6]? = some (.int .i64 f.q) from rfl)
          have m7 := (hC 7 (by omega)).trans (show (fctA f)[7]? = some (.int .i64 f.o) from rfl)
          have m8 := (hC 8 (by omega)).trans (show (fctA f)[8]? = some (.int .i64 f.d) from rfl)
          have m9 := (hC 9 (by omega)).trans (show (fctA f)[9]? = some (.int .i64 f.pa) from rfl)
          have m10 := (hC 10 (by omega)).trans (show (fctA f)[10]? = some (.int .i64 f.st) from rfl)
          have m11 := (hC 11 (by omega)).trans (show (fctA f)[11]? = some (.int .i64 f.hw) from rfl)
          have m12 := (hC 12 (by omega)).trans (show (fctA f)[12]? = some (.int .i64 f.dc) from rfl)
          have m13 := (hC 13 (by omega)).trans (show (fctA f)[13]? = some (.float .f64 f.x) from rfl)
          rw [Nat.add_zero] at m0
          clear h0 hM hA hC
          unfold gives
          go_simp
          exact ⟨rfl, trivial, Below.refl _ _⟩
        obtain rfl : v = _ := hv
        simp only [Act.put, List.setIfInBounds_toArray, List.set_cons_succ, List.set_cons_zero]; (try simp only [List.cons_append]); (try simp only [List.nil_append])
        apply hK
        clear hK K
        repeat (first | (refine phi_skipK rfl (fun K hK => ?_); simp only [Act.put, List.setIfInBounds_toArray, List.set_cons_succ, List.set_cons_zero]; (try simp only [List.cons_append]); (try simp only [List.nil_append]); apply hK; clear hK K) | (refine phi_pureK rfl rfl (fun K hK => ?_); apply Exists.intro; constructor; (focus (rintro w' ⟨h0, hM, hA, hC⟩; (clear h0 hM hA hC); first | (go_simp; done) | (go_simp; (try go_bits); (try go_simp); rfl) | go_simp)); simp only [Act.put, List.setIfInBounds_toArray, List.set_cons_succ, List.set_cons_zero]; (try simp only [List.cons_append]); (try simp only [List.nil_append]); apply hK; clear hK K))
        refine phi_partK (PVal (fctV f)) rfl rfl ⟨_, rfl⟩ ?_ (fun K hK v hv => ?_)
        · rintro wq ⟨h0, hM, hA, hC⟩ _
          have m0 := (hM.cell 0).trans (show (fctA f)[0]? = some (.int .i64 f.k) from rfl)
          have m1 := (hM.cell 1).trans (show (fctA f)[1]? = some (.int .i64 f.n) from rfl)
          have m2 := (hM.cell 2).trans (show (fctA f)[2]? = some (.int .i64 f.s) from rfl)
          have m3 := (hM.cell 3).trans (show (fctA f)[3]? = some (.int .i64 f.r) from rfl)
          have m4 := (hM.cell 4).trans (show (fctA f)[4]? = some (.int .i64 f.nd) from rfl)
          have m5 := (hM.cell 5).trans (show (fctA f)[5]? = some (.int .i64 f.p) from rfl)
          have m6 := (hM.cell 6).trans (show (fctA f)[6]? = some (.int .i64 f.q) from rfl)
          have m7 := (hM.cell 7).trans (show (fctA f)[7]? = some (.int .i64 f.o) from rfl)
          have m8 := (hM.cell 8).trans (show (fctA f)[8]? = some (.int .i64 f.d) from rfl)
          have m9 := (hM.cell 9).trans (show (fctA f)[9]? = some (.int .i64 f.pa) from rfl)
          have m10 := (hM.cell 10).trans (show (fctA f)[10]? = some (.int .i64 f.st) from rfl)
          have m11 := (hM.cell 11).trans (show (fctA f)[11]? = some (.int .i64 f.hw) from rfl)
          have m12 := (hM.cell 12).trans (show (fctA f)[12]? = some (.int .i64 f.dc) from rfl)
          have m13 := (hM.cell 13).trans (show (fctA f)[13]? = some (.float .f64 f.x) from rfl)
          clear h0 hM hA hC
          unfold gives
          go_simp
          exact ⟨rfl, trivial, Below.refl _ _⟩
        obtain rfl : v = _ := hv
        simp only [Act.put, List.setIfInBounds_toArray, List.set_cons_succ, List.set_cons_zero]; (try simp only [List.cons_append]); (try simp only [List.nil_append])
        apply hK
        clear hK K
        repeat (first | (refine phi_skipK rfl (fun K hK => ?_); simp only [Act.put, List.setIfInBounds_toArray, List.set_cons_succ, List.set_cons_zero]; (try simp only [List.cons_append]); (try simp only [List.nil_append]); apply hK; clear hK K) | (refine phi_pureK rfl rfl (fun K hK => ?_); apply Exists.intro; constructor; (focus (rintro w' ⟨h0, hM, hA, hC⟩; (clear h0 hM hA hC); first | (go_simp; done) | (go_simp; (try go_bits); (try go_simp); rfl) | go_simp)); simp only [Act.put, List.setIfInBounds_toArray, List.set_cons_succ, List.set_cons_zero]; (try simp only [List.cons_append]); (try simp only [List.nil_append]); apply hK; clear hK K))
        refine phi_partK (PVal (.bool true)) rfl rfl ⟨_, rfl⟩ ?_ (fun K hK v hv => ?_)
        · rintro wq ⟨h0, hM, hA, hC⟩ _
          clear hM hA hC
          unfold gives
          go_simp
          refine (HSS.out _).mono ?_
          rintro e w'' ⟨rfl, hb⟩
          exact ⟨_, rfl, rfl, trivial, hb⟩
        obtain rfl : v = _ := hv
        simp only [Act.put, List.setIfInBounds_toArray, List.set_cons_succ, List.set_cons_zero]; (try simp only [List.cons_append]); (try simp only [List.nil_append])
        apply hK
        clear hK K
        repeat (first | (refine phi_skipK rfl (fun K hK => ?_); simp only [Act.put, List.setIfInBounds_toArray, List.set_cons_succ, List.set_cons_zero]; (try simp only [List.cons_append]); (try simp only [List.nil_append]); apply hK; clear hK K) | (refine phi_pureK rfl rfl (fun K hK => ?_); apply Exists.intro; constructor; (focus (rintro w' ⟨h0, hM, hA, hC⟩; (clear h0 hM hA hC); first | (go_simp; done) | (go_simp; (try go_bits); (try go_simp); rfl) | go_simp)); simp only [Act.put, List.setIfInBounds_toArray, List.set_cons_succ, List.set_cons_zero]; (try simp only [List.cons_append]); (try simp only [List.nil_append]); apply hK; clear hK K))
        refine phi_done ?_
        rintro w9 ⟨hX, _, _, _⟩ _
        have X9 := Lib.hid hX
        clear hX
        refine wpList_nil ?_
        go_wp2_with fail
        go_roundw
        case rel => exact ⟨k + 1, by omega, by go_num, by rw [HT.out], X9.out⟩
        case measure => simp [intOf]; omega
    · obtain rfl : k = fs.length := by omega
      have hl9 : fs.take fs.length = fs := List.take_of_length_le (Nat.le_refl _)
      rw [hl9]
      clear hl9
      rcases HOR2.out with ⟨hall, rfl, hby⟩ | ⟨hall, rfl, rfl⟩
      · have HALL := Lib.hid hall
        rw [hall]
        have HBY := Lib.hid (hby.keep (Below.keeps hbw))
        have hby' := hby
        obtain ⟨p9, c9, vs, rfl, k1, k2, k3, k4, k5⟩ := HBY.out
        rw [List.length_map] at k1
        have hml : (fs.map encL).length = fs.length := List.length_map _
        have HML := Lib.hid hml
        rw [hml] at hby' ⊢
        have K3 := Lib.hid k3
        have K5 := Lib.hid k5
        unfold maxLen at k2
        have d3 : ((fs.length : Int) == (fs.length : Int)) = true := by simp
        have d3' : ((fs.length : Int) != (fs.length : Int)) = false := by simp
        clear HOR2 hall hby hby' HBY k3 k5 hml k4
        go_wp2_with fail
        have X0 := Lib.hid hbw
        have B0 := Lib.hid B.out
        clear hbw B B2 hlt
        obtain ⟨wo, rfl⟩ : ∃ wo, wo = wr := ⟨_, rfl⟩
        go_loopw [74] (fun i wz => ∃ k : Nat, k ≤ fs.length ∧ i = .int .i64 k ∧ Below wo.heap.size wo wz) (fun i _ => fs.length - (intOf i).toNat)
        case atStart => exact ⟨0, by omega, rfl, Below.refl _ _⟩
        case round =>
          obtain ⟨k, hk, rfl, hbz⟩ := hrel
          have B := Lib.hid (B0.out.trans (hbz.mono B0.out.size))
          by_cases hlt : k < fs.length
          · obtain ⟨b, off, rfl, hcs⟩ := H3.out k fs[k] (by simp [hlt])
            obtain ⟨b2, off2, q2, c2, rfl, hc9, hq1, hq2, hq3⟩ := bytL_cell K3.out K5.out (k := k) (by rw [HML.out]; exact hlt)
            have hel : (fs.map encL)[k]'(by rw [HML.out]; exact hlt) = encL fs[k] := List.getElem_map _
            have HRF := Lib.hid (show rightF fs[k] = true from (List.all_eq_true.1 HALL.out) _ (List.getElem_mem hlt))
            rw [hel] at hc9 hq1 hq3
            have hyt : Byt wo (.slice q2 (encL fs[k]).length c2) (encL fs[k]) := ⟨q2, c2, rfl, hq1, hq2, hq3⟩
            have CK := Lib.hid (FctAt.keep (show FctAt w b (off + k * 14) fs[k] from hcs) (Below.keeps B.out))
            have g9 := Below.keeps hbz _ _ hc9
            have Y := Lib.hid (hyt.keep (Below.keeps hbz))
            clear hcs hc9 hq1 hq2 hq3 hyt hel
            generalize fs[k] = f at *
            have HRB := Lib.hid (fun w' => refbytes14_any f HRF.out w')
            generalize encL f = l at *
            have hkk : (k : Int) < (fs.length : Int) := by omega
            go_wp2_with fail
            refine wp_phi (fun wq => Below wo.heap.size wo wq ∧ Byt wq (.slice q2 l.length c2) l ∧ FctAt wq b (off + k * 14) f) [(1, PVal (.string (bs l))), (5, PVal (fctV f)), (6, PByt l), (7, PVal (.string (bs l)))] [(7, [6])] (by kernel_rfl) (by kernel_rfl) ?_ ?_ ⟨hbz.drew, Y.out.keep (fun _ _ h => h), CK.out.keep (fun _ _ h => h)⟩ ?_
            · rintro w1' w2' ⟨a1, a2, a3⟩ hb
              exact ⟨a1.trans (hb.mono a1.size), a2.keep (Below.keeps hb), a3.keep (Below.keeps hb)⟩
            · simp only [List.mem_cons, List.not_mem_nil, or_false, forall_eq_or_imp, forall_eq]
              exact ⟨fun _ _ _ _ _ h => h, fun _ _ _ _ _ h => h, fun w w' v _ hb h => PByt_stays _ w w' v hb h, fun _ _ _ _ _ h => h⟩
            repeat (first | (refine phi_skipK rfl (fun K hK => ?_); simp only [Act.put, List.setIfInBounds_toArray, List.set_cons_succ, List.set_cons_zero]; (try simp only [List.cons_append]); (try simp only [List.nil_append]); apply hK; clear hK K) | (refine phi_pureK rfl rfl (fun K hK => ?_); apply Exists.intro; constructor; (focus (rintro w' ⟨h0, hM, hA⟩; (clear h0 hM hA); first | (go_simp; done) | (go_simp; (try go_bits); (try go_simp); rfl) | go_simp)); simp only [Act.put, List.setIfInBounds_toArray, List.set_cons_succ, List.set_cons_zero]; (try simp only [List.cons_append]); (try simp only [List.nil_append]); apply hK; clear hK K))
            refine phi_partK (PVal (.string (bs l))) rfl rfl ⟨_, rfl⟩ ?_ (fun K hK v hv => ?_)
            · rintro wq ⟨h0, hM, hA⟩ _
              have s1 := str_of hM
              clear h0 hM hA
              unfold gives
              go_simp
              exact ⟨rfl, trivial, Below.refl _ _⟩
            obtain rfl : v = _ := hv
            simp only [Act.put, List.setIfInBounds_toArray, List.set_cons_succ, List.set_cons_zero]; (try simp only [List.cons_append]); (try simp only [List.nil_append])
            apply hK
            clear hK K
            repeat (first | (refine phi_skipK rfl (fun K hK => ?_); simp only [Act.put, List.setIfInBounds_toArray, List.set_cons_succ, List.set_cons_zero]; (try simp only [List.cons_append]); (try simp only [List.nil_append]); apply hK; clear hK K) | (refine phi_pureK rfl rfl (fun K hK => ?_); apply Exists.intro; constructor; (focus (rintro w' ⟨h0, hM, hA⟩; (clear h0 hM hA); first | (go_simp; done) | (go_simp; (try go_bits); (try go_simp); rfl) | go_simp)); simp only [Act.put, List.setIfInBounds_toArray, List.set_cons_succ, List.set_cons_zero]; (try simp only [List.cons_append]); (try simp only [List.nil_append]); apply hK; clear hK K))
            refine phi_partK (PVal (fctV f)) rfl rfl ⟨_, rfl⟩ ?_ (fun K hK v hv => ?_)
            · rintro wq ⟨h0, hM, hA⟩ _
              have m0 := (hA 0 (by omega)).trans (show (fctA f)[0]? = some (.int .i64 f.k) from rfl)
              have m1 := (hA 1 (by omega)).trans (show (fctA f)[1]? = some (.int .i64 f.n) from rfl)
              have m2 := (hA 2 (by omega)).trans (show (fctA f)[2]? = some (.int .i64 f.s) from rfl)
              have m3 := (hA 3 (by omega)).trans (show (fctA f)[3]? = some (.int .i64 f.r) from rfl)
              have m4 := (hA 4 (by omega)).trans (show (fctA f)[4]? = some (.int .i64 f.nd) from rfl)
              have m5 := (hA 5 (by omega)).trans (show (fctA f)[5]? = some (.int .i64 f.p) from rfl)
              have m6 := (hA 6 (by omega)).trans (show (fctA f)[6]? = some (.int .i64 f.q) from rfl)
              have m7 := (hA 7 (by omega)).trans (show (fctA f)[7]? = some (.int .i64 f.o) from rfl)
              have m8 := (hA 8 (by omega)).trans (show (fctA f)[8]? = some (.int .i64 f.d) from rfl)
              have m9 := (hA 9 (by omega)).trans (show (fctA f)[9]? = some (.int .i64 f.pa) from rfl)
              have m10 := (hA 10 (by omega)).trans (show (fctA f)[10]? = some (.int .i64 f.st) from rfl)
              have m11 := (hA 11 (by omega)).trans (show (fctA f)[11]? = some (.int .i64 f.hw) from rfl)
              have m12 := (hA 12 (by omega)).trans (show (fctA f)[12]? = some (.int .i64 f.dc) from rfl)
              have m13 := (hA 13 (by omega)).trans (show (fctA f)[13]? = some (.float .f64 f.x) from rfl)
              rw [Nat.add_zero] at m0
              clear h0 hM hA
              unfold gives
              go_simp
              exact ⟨rfl, trivial, Below.refl _ _⟩
            obtain rfl : v = _ := hv
            simp only [Act.put, List.setIfInBounds_toArray, List.set_cons_succ, List.set_cons_zero]; (try simp only [List.cons_append]); (try simp only [List.nil_append])
            apply hK
            clear hK K
            repeat (first | (refine phi_skipK rfl (fun K hK => ?_); simp only [Act.put, List.setIfInBounds_toArray, List.set_cons_succ, List.set_cons_zero]; (try simp only [List.cons_append]); (try simp only [List.nil_append]); apply hK; clear hK K) | (refine phi_pureK rfl rfl (fun K hK => ?_); apply Exists.intro; constructor; (focus (rintro w' ⟨h0, hM, hA⟩; (clear h0 hM hA); first | (go_simp; done) | (go_simp; (try go_bits); (try go_simp); rfl) | go_simp)); simp only [Act.put, List.setIfInBounds_toArray, List.set_cons_succ, List.set_cons_zero]; (try simp only [List.cons_append]); (try simp only [List.nil_append]); apply hK; clear hK K))
            refine phi_partK (PByt l) rfl rfl ⟨_, none, 0, rfl⟩ ?_ (fun K hK v hv => ?_)
            · rintro wq ⟨h0, hM, hA⟩ _
              unfold gives
              go_simp
              refine (HRB.out _).mono ?_
              rintro e w'' ⟨p', c', rfl, hy, hb⟩
              exact ⟨_, rfl, ⟨_, _, rfl⟩, hy, hb⟩
            obtain ⟨p', c', rfl⟩ := hv
            simp only [Act.put, List.setIfInBounds_toArray, List.set_cons_succ, List.set_cons_zero]; (try simp only [List.cons_append]); (try simp only [List.nil_append])
            apply hK
            clear hK K
            refine phi_partK (PVal (.string (bs l))) rfl rfl ⟨_, rfl⟩ ?_ (fun K hK v hv => ?_)
            · rintro wq ⟨h0, hM, hA⟩ hf
              have hby : Byt wq _ l := hf (6, fun w => (PByt l).fact w (.slice p' l.length c')) (by simp) (List.contains_iff_mem.1 rfl)
              have hs := str_of hby
              clear hf hby h0 hM hA
              unfold gives
              go_simp
              exact ⟨rfl, trivial, Below.refl _ _⟩
            obtain rfl : v = _ := hv
            simp only [Act.put, List.setIfInBounds_toArray, List.set_cons_succ, List.set_cons_zero]; (try simp only [List.cons_append]); (try simp only [List.nil_append])
            apply hK
            clear hK K
            repeat (first | (refine phi_skipK rfl (fun K hK => ?_); simp only [Act.put, List.setIfInBounds_toArray, List.set_cons_succ, List.set_cons_zero]; (try simp only [List.cons_append]); (try simp only [List.nil_append]); apply hK; clear hK K) | (refine phi_pureK rfl rfl (fun K hK => ?_); apply Exists.intro; constructor; (focus (rintro w' ⟨h0, hM, hA⟩; (clear h0 hM hA); first | (go_simp; done) | (go_simp; (try go_bits); (try go_simp); rfl) | go_simp)); simp only [Act.put, List.setIfInBounds_toArray, List.set_cons_succ, List.set_cons_zero]; (try simp only [List.cons_append]); (try simp only [List.nil_append]); apply hK; clear hK K))
            refine phi_done ?_
            rintro w9 ⟨hX, _, _⟩ _
            have X9 := Lib.hid hX
            clear hX
            refine wpList_nil ?_
            go_wp2_with fail
            go_roundw
            case rel => exact ⟨k + 1, by omega, by go_num, X9.out⟩
            case measure => simp [intOf]; omega
          · obtain rfl : k = fs.length := by omega
            go_wp2_with fail
            go_ret
            exact ⟨rfl, B.out⟩
      · rw [hall]
        have HNU := Lib.hid (num_any wr E 4 (by omega) (HG.out _ B.out).errs)
        rw [show errV E 4 = errAt (E 3) from rfl] at HNU
        unfold errAt at *
        clear HOR2 hall
        go_wp2_with fail
        refine HNU.out.mono ?_
        rintro e w9 ⟨rfl, hb9⟩
        have B9 := Lib.hid (B.out.trans (hb9.mono B.out.size))
        clear hb9
        go_wp2_with fail
        go_ret
        exact ⟨rfl, B9.out⟩
end Go.Proofs.YtjklcbdlfmmllaaDoor
