/-
  BctxI: package binding: Context, whole.
-/
import Derived.Test.YtgmiockaecklaaaGreatDoorBctxH
import Derived.Test.YtgmiockaecklaaaGreatDoorRetErrB
namespace Go.Proofs.YtgmiockaecklaaaGreatDoor
open Go.RowKit Go.Extern.Stop Go.Stop Go.Extern Ieee
attribute [local go_sem] bs_toList bs_size
attribute [local irreducible] wpPhi wpPhiU

def ctxT (c : Ctx) : Tr := ctxTr (txt1 c) (txt2 c) (txt3 c) (txt4 c)
def eZ : Value := .agg #[.string ⟨#[]⟩, .string ⟨#[]⟩, .slice none 0 0, .slice none 0 0, .string ⟨#[]⟩]
/-- what Context gives -/
def CtxR (E : Nat → Addr) (c : Ctx) (w : World) (e : Ending) (w' : World) : Prop :=
  Below w.heap.size w w' ∧ ((rightC c = true ∧ ∃ g, e = .returned (.tuple #[.agg (ctxE g), .nilIface]) ∧ w.heap.size ≤ g ∧ Blk w' g 54 (atC (txt1 c) (txt2 c) (txt3 c) (txt4 c))) ∨ (rightC c = false ∧ e = .returned (.tuple #[eZ, errAt (E 3)])))
/-- Try over an element that is made -/
theorem try_elem (w : World) (E : Nat → Addr) (f : FuncId) (caps : Array Value) (a o d x : List UInt8) (he : Errs w E) (hcf : ∀ w, (callFunc f caps).run Tryz.prog w = .ok (.enter f caps) w)
    (hdo : ∀ w1, Below w.heap.size w w1 → Calls Tryz.prog f caps w1 (CtxO a o d x w1)) :
    Calls Tryz.prog 17 #[.func (.func f) #[] caps] w fun e w' => Below w.heap.size w w' ∧ ∃ g, e = .returned (.tuple #[.agg (ctxE g), .nilIface]) ∧ w.heap.size ≤ g ∧ Blk w' g 54 (atC a o d x) := by
  refine (tryElem_any w E f caps [] (fun _ v w' => ∃ g, v = .agg (ctxE g) ∧ w.heap.size + 3 ≤ g ∧ Blk w' g 54 (atC a o d x)) (fun _ _ _ => False) (by simp) (fun w' h => he.below h.nil_below) ?_ hcf ?_).mono ?_
  · rintro w1 v w2 ⟨g, rfl, h, _⟩
    exact ⟨_, _, _, _, _, rfl, rfl, rfl, rfl, rfl, rfl⟩
  · intro w1 hb hs
    refine (hdo w1 hb).mono ?_
    rintro e w2 ⟨g, rfl, h, hk, hb2⟩
    exact ⟨.inl ⟨_, rfl, g, rfl, by rw [← hs]; exact h, hk⟩, But.of_below hb2⟩
  · intro e w' h
    have hst : ∀ (v : Value) (p q : World), But [w.heap.size, w.heap.size + 1, w.heap.size + 2] p q → (∃ g, v = .agg (ctxE g) ∧ w.heap.size + 3 ≤ g ∧ Blk p g 54 (atC a o d x)) → ∃ g, v = .agg (ctxE g) ∧ w.heap.size + 3 ≤ g ∧ Blk q g 54 (atC a o d x) := by
      rintro v p q hab ⟨g, rfl, h, hk⟩
      exact ⟨g, rfl, h, (hab.block _ hk.lt (by
        simp only [List.contains_cons, List.contains_nil, Bool.or_false, Bool.or_eq_false_iff, beq_eq_false_iff_ne]
        omega)).trans hk⟩
    obtain ⟨h1, h2⟩ := TryG.v (R := fun v w' => ∃ g, v = .agg (ctxE g) ∧ w.heap.size + 3 ≤ g ∧ Blk w' g 54 (atC a o d x)) (Q := fun _ => False) hst h
    refine ⟨h1, ?_⟩
    rcases h2 with ⟨v, rfl, g, rfl, h, hk⟩ | ⟨n, _, h, _⟩
    · exact ⟨g, rfl, by omega, hk⟩
    · exact h.elim
set_option maxRecDepth 20000 in
set_option maxHeartbeats 4000000 in
theorem ctx_any (n s o d : Int) (x : Nat) (hn : -9223372036854775808 ≤ n) (hs : -9223372036854775808 ≤ s) (hx : x < 18446744073709551616) (w : World) (E : Nat → Addr) (hg : IdsG w E) (ht : Tab w 1 outsL) :
    Calls Tryz.prog 5 #[.agg #[.int .i64 n, .int .i64 s, .int .i64 o, .int .i64 d, .float .f64 x]] w (CtxR E ⟨n, s, o, d, x⟩ w) := by
  have hmf := @run_makeFunc Tryz.prog
  have hb1 := below_alloc (below_alloc1 w (.cells #[.int .i64 n, .int .i64 s, .int .i64 o, .int .i64 d, .float .f64 x] 26)) (.cells #[.string ⟨#[]⟩, .string ⟨#[]⟩, .slice none 0 0, .slice none 0 0, .string ⟨#[]⟩] 34)
  have B1 := Lib.hid hb1
  have HER := Lib.hid hg.errs
  have N1 := (Blk.new w 26 #[.int .i64 n, .int .i64 s, .int .i64 o, .int .i64 d, .float .f64 x]).alloc (.cells #[.string ⟨#[]⟩, .string ⟨#[]⟩, .slice none 0 0, .slice none 0 0, .string ⟨#[]⟩] 34)
  have M1 : Blk ((w.alloc (.cells #[.int .i64 n, .int .i64 s, .int .i64 o, .int .i64 d, .float .f64 x] 26)).alloc (.cells #[.string ⟨#[]⟩, .string ⟨#[]⟩, .slice none 0 0, .slice none 0 0, .string ⟨#[]⟩] 34)) (w.heap.size + 1) 34 #[.string ⟨#[]⟩, .string ⟨#[]⟩, .slice none 0 0, .slice none 0 0, .string ⟨#[]⟩] := by
    have := Blk.new (w.alloc (.cells #[.int .i64 n, .int .i64 s, .int .i64 o, .int .i64 d, .float .f64 x] 26)) 34 #[.string ⟨#[]⟩, .string ⟨#[]⟩, .slice none 0 0, .slice none 0 0, .string ⟨#[]⟩]
    rwa [World.size_alloc] at this
  have HN1 := Lib.hid N1; have HM1 := Lib.hid M1
  have c0 := (N1.cell 0).trans rfl; have c1 := (N1.cell 1).trans rfl; have c2 := (N1.cell 2).trans rfl; have c3 := (N1.cell 3).trans rfl; have c4 := (N1.cell 4).trans rfl
  have HS := Lib.hid (sright_any n s o d x hn hs hx _ E (hg.below hb1))
  have HG := Lib.hid hg; have HT := Lib.hid ht
  clear hb1 hg ht N1 M1 hn hs hx
  cases hr : rightC ⟨n, s, o, d, x⟩
  · rw [hr] at HS
    have HR := Lib.hid hr
    clear hr
    go_enter Tryz.func5, Tryz.ntmps5
    go_wp2_with fail
    refine HS.out.mono ?_
    rintro e w1 ⟨rfl, hb2⟩
    have HBB := Lib.hid (B1.out.trans (hb2.mono B1.out.size))
    have HBK := Lib.hid (HM1.out.below hb2 HM1.out.lt)
    clear c0 c1 c2 c3 c4 hb2
    go_wp2_with fail
    refine wp_phiU (fun _ wa wb => Only (w.heap.size + 1) wa wb) (fun wq => Only (w.heap.size + 1) w1 wq) [(2, PSto fun wq => Blk wq (w.heap.size + 1) 34 #[.string ⟨#[]⟩, .string ⟨#[]⟩, .slice none 0 0, .slice none 0 0, .string ⟨#[]⟩])] [] [(2, fun wq => Blk wq (w.heap.size + 1) 34 #[.string ⟨#[]⟩, .string ⟨#[]⟩, .slice none 0 0, .slice none 0 0, .string ⟨#[]⟩])] [] (by kernel_rfl) (by kernel_rfl) ?_ ?_ ?_ ?_ (Only.refl _ _).drew ?_
    · intro p hp w1 w2 h1 h2
      exact h1.trans h2
    · simp only [List.mem_cons, List.not_mem_nil, or_false, forall_eq]
      intro h
      exact absurd rfl h
    · simp only [List.mem_cons, List.not_mem_nil, or_false, forall_eq]
      intro h
      exact absurd rfl h
    · simp only [List.mem_cons, List.not_mem_nil, or_false, forall_eq]
      exact HBK.out
    repeat (first | (refine phiU_skipK rfl (fun K hK => ?_); simp only [Act.put, List.setIfInBounds_toArray, List.set_cons_succ, List.set_cons_zero]; (try simp only [List.cons_append]); (try simp only [List.nil_append]); apply hK; clear hK K) | (refine phiU_pureK rfl rfl (fun K hK => ?_); apply Exists.intro; constructor; (focus (rintro w' hI; (have hbI := hI.below (B := w.heap.size) (by omega); have s1 := (HER.out.below (HBB.out.trans hbI)).cell 3 (by omega); simp only [errVar, errAt, List.getD_cons_zero, List.getD_cons_succ] at s1; clear hI hbI); first | (go_simp; done) | (go_simp; (try go_bits); (try go_simp); rfl) | go_simp)); simp only [Act.put, List.setIfInBounds_toArray, List.set_cons_succ, List.set_cons_zero]; (try simp only [List.cons_append]); (try simp only [List.nil_append]); apply hK; clear hK K))
    refine phiU_partK (PSto fun wq => Blk wq (w.heap.size + 1) 34 #[.string ⟨#[]⟩, .string ⟨#[]⟩, .slice none 0 0, .slice none 0 0, .string ⟨#[]⟩]) rfl rfl ⟨_, rfl⟩ ?_ (fun K hK v hv => ?_)
    · intro wq hI hf hu
      have hm : Blk wq (w.heap.size + 1) 34 #[.string ⟨#[]⟩, .string ⟨#[]⟩, .slice none 0 0, .slice none 0 0, .string ⟨#[]⟩] := hu (2, fun wq => Blk wq (w.heap.size + 1) 34 #[.string ⟨#[]⟩, .string ⟨#[]⟩, .slice none 0 0, .slice none 0 0, .string ⟨#[]⟩]) (by simp) rfl
      exact gives_store (.tmp 2) (.tmp 7) 34 rfl (w.heap.size + 1) 0 _ _ #[.string ⟨#[]⟩, .string ⟨#[]⟩, .slice none 0 0, .slice none 0 0, .string ⟨#[]⟩] rfl rfl hm (by kernel_rfl) (by simp [Value.oneCell']) (by simp) (fun w2 h2 h3 => ⟨rfl, h2, h3⟩)
    obtain rfl : v = _ := hv
    simp only [Act.put, List.setIfInBounds_toArray, List.set_cons_succ, List.set_cons_zero]; (try simp only [List.cons_append]); (try simp only [List.nil_append])
    apply hK
    clear hK K
    repeat (first | (refine phiU_skipK rfl (fun K hK => ?_); simp only [Act.put, List.setIfInBounds_toArray, List.set_cons_succ, List.set_cons_zero]; (try simp only [List.cons_append]); (try simp only [List.nil_append]); apply hK; clear hK K) | (refine phiU_pureK rfl rfl (fun K hK => ?_); apply Exists.intro; constructor; (focus (rintro w' hI; (clear hI); first | (go_simp; done) | (go_simp; (try go_bits); (try go_simp); rfl) | go_simp)); simp only [Act.put, List.setIfInBounds_toArray, List.set_cons_succ, List.set_cons_zero]; (try simp only [List.cons_append]); (try simp only [List.nil_append]); apply hK; clear hK K))
    refine phiU_done ?_
    intro w7 hI hf
    have h7 : Blk w7 (w.heap.size + 1) 34 #[.string ⟨#[]⟩, .string ⟨#[]⟩, .slice none 0 0, .slice none 0 0, .string ⟨#[]⟩] := hf (2, fun wq => (PSto fun wq => Blk wq (w.heap.size + 1) 34 #[.string ⟨#[]⟩, .string ⟨#[]⟩, .slice none 0 0, .slice none 0 0, .string ⟨#[]⟩]).fact wq undef) (by simp) rfl
    have B7 := Lib.hid (HBB.out.trans (hI.below (by omega)))
    clear hf hI
    refine wpList_nil ?_
    have q0 := (h7.cell 0).trans rfl; have q1 := (h7.cell 1).trans rfl; have q2 := (h7.cell 2).trans rfl; have q3 := (h7.cell 3).trans rfl; have q4 := (h7.cell 4).trans rfl
    go_wp2_with fail
    refine bodyPost_ret (v := .tuple #[eZ, errAt (E 3)]) (by simp [results, Tryz.results5, go_sem, errAt, eZ, q0, q1, q2, q3, q4]) rfl ?_
    exact ⟨B7.out, .inr ⟨HR.out, rfl⟩⟩
  · rw [hr] at HS
    have HR := Lib.hid hr
    clear hr
    go_enter Tryz.func5, Tryz.ntmps5
    go_wp2_with fail
    refine HS.out.mono ?_
    rintro e w1 ⟨rfl, hb2⟩
    have HBB := Lib.hid (B1.out.trans (hb2.mono B1.out.size))
    have HBK := Lib.hid (HM1.out.below hb2 HM1.out.lt)
    have HCK := Lib.hid (HN1.out.below hb2 HN1.out.lt)
    clear c0 c1 c2 c3 c4 hb2
    go_wp2_with fail
    refine (try_elem w1 E _ _ (actS n.toNat s.toNat) (nameF outsL o) (dec d.toNat) (expT x) (HER.out.below HBB.out) (fun w => by simp [go_sem]) (fun w2 hb => ctx1_any n s o d x HR.out w.heap.size w2 E ((HG.out.below HBB.out).below hb) ((HT.out.below HBB.out).below hb) (HCK.out.below hb HCK.out.lt))).mono ?_
    rintro e w2 ⟨hb3, g9, rfl, hg9, hk9⟩
    have hm := HBK.out.below hb3 HBK.out.lt
    have hbw := HBB.out.trans (hb3.mono HBB.out.size)
    have HM := Lib.hid hm; have HW := Lib.hid hbw; have HC := Lib.hid hk9; have HG9 := Lib.hid hg9
    clear hm hbw hk9 hb3 hg9
    unfold ctxE
    go_wp2_with (refine wpList_store (.tmp 2) (.tmp 11) 34 rfl rfl (w.heap.size + 1) 0 _ _ #[.string (bs wscoorL), .string (bs ccL), .slice (some ⟨g9, 0, none⟩) 4 4, .slice none 0 0, .string (bs [])] rfl rfl HM.out ?s0 ?s1 ?s2 ?_)
    case s0 => kernel_rfl
    case s1 => simp [Value.oneCell']
    case s2 => simp
    intro w8 hb8 ho8
    rw [putCells_all #[.string ⟨#[]⟩, .string ⟨#[]⟩, .slice none 0 0, .slice none 0 0, .string ⟨#[]⟩] #[.string (bs wscoorL), .string (bs ccL), .slice (some ⟨g9, 0, none⟩) 4 4, .slice none 0 0, .string (bs [])] rfl] at hb8
    have z0 := (hb8.cell 0).trans rfl; have z1 := (hb8.cell 1).trans rfl; have z2 := (hb8.cell 2).trans rfl; have z3 := (hb8.cell 3).trans rfl; have z4 := (hb8.cell 4).trans rfl
    have HO8 := Lib.hid ho8
    clear hb8 ho8
    go_wp2_with fail
    refine bodyPost_ret (v := .tuple #[.agg #[.string (bs wscoorL), .string (bs ccL), .slice (some ⟨g9, 0, none⟩) 4 4, .slice none 0 0, .string (bs [])], .nilIface]) (by simp [results, Tryz.results5, go_sem, z0, z1, z2, z3, z4]) rfl ?_
    have hlt := HBB.out.size
    have hg := HG9.out
    have hlt2 := HBK.out.lt
    exact ⟨HW.out.trans (Only.below HO8.out (by omega)), .inl ⟨HR.out, g9, rfl, by omega, HO8.out.blk HC.out (by omega)⟩⟩
end Go.Proofs.YtgmiockaecklaaaGreatDoor
