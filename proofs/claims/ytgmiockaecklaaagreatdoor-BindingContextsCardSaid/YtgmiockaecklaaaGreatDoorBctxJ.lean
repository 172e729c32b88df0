/-
  BctxJ: package binding: ToContext.
-/
import Derived.Test.YtgmiockaecklaaaGreatDoorBctxI
import Derived.Test.YtgmiockaecklaaaGreatDoorTryCtxB
namespace Go.Proofs.YtgmiockaecklaaaGreatDoor
open Go.RowKit Go.Extern.Stop Go.Stop Go.Extern Ieee
attribute [local go_sem] bs_toList bs_size
attribute [local irreducible] wpPhi wpPhiU PX.wpPhi

def namesL : List (List UInt8) := [actL, outcomeL, depthL, expiresL]
/-- the context of an element -/
def toCtxE (x : Tr) : Option Ctx :=
  if x.nm = [wscoorL, ccL] ∧ x.t = [] then (valsT x.ats x.ks namesL).bind fun vs => toCtx (vs.getD 0 []) (vs.getD 1 []) (vs.getD 2 []) (vs.getD 3 []) else none
theorem valsT_len {ats : List (List (List UInt8))} {ks : List Tr} {ns vs : List (List UInt8)} (h : valsT ats ks ns = some vs) : vs.length = ns.length := by
  unfold valsT at h
  split at h
  · rename_i hc
    cases h
    rw [List.length_map]
    exact hc.2.1
  · cases h
theorem four_of {α : Type} {l : List α} (h : l.length = 4) : ∃ a b c d, l = [a, b, c, d] := by
  match l, h with
  | [a, b, c, d], _ => exact ⟨a, b, c, d, rfl⟩
/-- a number that a call gives, or it panics -/
def PNum (o : Option Int) : Part := ⟨fun v => v = .int .i64 (o.getD 0), fun _ _ => o ≠ none⟩
def digI (x : Option Nat) : Option Int := x.map fun n => (n : Int)
def PNewC (B : Nat) : Part := ⟨fun v => ∃ g, v = .pointer (some ⟨g, 0, none⟩), fun w v => ∀ g, v = .pointer (some ⟨g, 0, none⟩) → B < g ∧ Blk w g 26 #[.int .i64 0, .int .i64 0, .int .i64 0, .int .i64 0, .float .f64 0]⟩
theorem plain_lt9 {x : Nat} (hx : x < 18446744073709551616) : plainN x < 18446744073709551616 := by
  unfold plainN nanC; repeat' split
  all_goals omega
theorem run_store_flt {P : Program} {w : World} {a : Addr} (k : FloatKind) (x : Nat) (m : Mode) : (store a (.float k x) m).run P w = stored P w a (.float k x) m := run_store P w a _ m rfl
attribute [local go_sem] run_store_flt
theorem infR_lt : infR < 18446744073709551616 := by decide
theorem plain_idem (x : Nat) : plainN (plainN x) = plainN x := by
  unfold plainN
  by_cases h : isNan x = true
  · rw [if_pos h, if_pos (show isNan nanC = true by decide)]
  · rw [if_neg h]
    by_cases h2 : x = 9223372036854775808
    · rw [if_pos h2]
      decide
    · rw [if_neg h2, if_neg h, if_neg h2]
set_option maxRecDepth 20000 in
set_option maxHeartbeats 8000000 in
theorem toctx1_any (x : Tr) (cx : List Value) (P : Nat → Prop) (c0 : Nat) (w : World) (E : Nat → Addr) (hg : IdsG w E) (ht : Tab w 1 outsL) (hx : x.ok 2) (hcx : TrC w P x cx) (hlen : ∀ a ∈ x.ats, ∀ s ∈ a, s.length ≤ 1000) (hc : Blk w c0 34 cx.toArray) :
    Calls Tryz.prog 39 #[.pointer (some ⟨c0, 0, none⟩)] w (OptV E (toCtxE x) ctxV w) := by
  obtain ⟨nx, ax, kx, tx⟩ := x
  have hcx0 := hcx
  have hx0 := hx
  unfold TrC at hcx
  unfold Tr.ok at hx
  obtain ⟨n0, n1, rfl⟩ := two_of hx.1
  obtain ⟨pa, ca, pk, ck, css, rfl, -⟩ := hcx
  have hc : Blk w c0 34 #[.string (bs n0), .string (bs n1), .slice pa ax.length ca, .slice pk kx.length ck, .string (bs tx)] := hc
  have HG := Lib.hid hg; have HT := Lib.hid ht; have HC := Lib.hid hc; have HCX := Lib.hid hcx0; have HX0 := Lib.hid hx0; have HLEN := Lib.hid hlen
  have B1 := Lib.hid (below_alloc1 w (.cells #[.int .i64 0, .int .i64 0, .int .i64 0, .int .i64 0, .float .f64 0] 26))
  have N1 := Lib.hid (Blk.new w 26 #[.int .i64 0, .int .i64 0, .int .i64 0, .int .i64 0, .float .f64 0])
  have C1 := Lib.hid (hc.alloc (.cells #[.int .i64 0, .int .i64 0, .int .i64 0, .int .i64 0, .float .f64 0] 26))
  have c0' := (C1.out.cell 0).trans rfl; have c1' := (C1.out.cell 1).trans rfl; have c2' := (C1.out.cell 2).trans rfl; have c3' := (C1.out.cell 3).trans rfl; have c4' := (C1.out.cell 4).trans rfl
  have HCE := Lib.hid (show toCtxE (.node [n0, n1] ax kx tx) = if [n0, n1] = [wscoorL, ccL] ∧ tx = [] then (valsT ax kx namesL).bind fun vs => toCtx (vs.getD 0 []) (vs.getD 1 []) (vs.getD 2 []) (vs.getD 3 []) else none from rfl)
  have en := fun w => (show (binOp .eql 30 (.agg #[.string (bs n0), .string (bs n1)]) (.agg #[.string ⟨#[104, 116, 116, 112, 58, 47, 47, 100, 111, 99, 115, 46, 111, 97, 115, 105, 115, 45, 111, 112, 101, 110, 46, 111, 114, 103, 47, 119, 115, 45, 116, 120, 47, 119, 115, 99, 111, 111, 114, 47, 50, 48, 48, 54, 47, 48, 54]⟩, .string ⟨#[67, 111, 111, 114, 100, 105, 110, 97, 116, 105, 111, 110, 67, 111, 110, 116, 101, 120, 116]⟩])).run Tryz.prog w = .ok (.bool (n0 == wscoorL && n1 == ccL)) w from peqName n0 n1 wscoorL ccL w)
  have hf0 := fail_n (w.alloc (.cells #[.int .i64 0, .int .i64 0, .int .i64 0, .int .i64 0, .float .f64 0] 26)) E (hg.below B1.out).errs
  clear hg ht hx hcx0 hx0 hc hlen
  generalize toCtxE (.node [n0, n1] ax kx tx) = R at *
  cases hN : (n0 == wscoorL && n1 == ccL)
  · have HX := Lib.hid (show R = none by
      rw [HCE.out, if_neg]
      rintro ⟨h, _⟩
      simp only [List.cons.injEq, and_true] at h
      rw [h.1, h.2] at hN
      simp at hN)
    simp only [hN] at en
    have hf := Lib.hid hf0
    clear hN hf0
    go_enter Tryz.func39, Tryz.ntmps39
    go_wp2_with fail
    refine hf.out.mono ?_
    rintro e w9 ⟨rfl, rfl⟩
    unfold panE errAt
    go_wp2_with fail
    exact ⟨rfl, B1.out, .inr ⟨HX.out, rfl⟩⟩
  simp only [hN] at en
  have HNM := Lib.hid (show [n0, n1] = [wscoorL, ccL] by
    simp only [Bool.and_eq_true, beq_iff_eq] at hN
    rw [hN.1, hN.2])
  clear hN
  by_cases htx : tx = []
  rotate_left 1
  · have HX := Lib.hid (show R = none by rw [HCE.out, if_neg (fun h => htx h.2)])
    have hem : tx.isEmpty = false := by
      cases tx with
      | nil => exact absurd rfl htx
      | cons x xs => rfl
    have hf := Lib.hid hf0
    clear hf0
    go_enter Tryz.func39, Tryz.ntmps39
    go_wp2_with fail
    refine hf.out.mono ?_
    rintro e w9 ⟨rfl, rfl⟩
    unfold panE errAt
    go_wp2_with fail
    exact ⟨rfl, B1.out, .inr ⟨HX.out, rfl⟩⟩
  subst htx
  rw [if_pos ⟨HNM.out, rfl⟩] at HCE
  have hf := Lib.hid (fail_y (w.alloc (.cells #[.int .i64 0, .int .i64 0, .int .i64 0, .int .i64 0, .float .f64 0] 26)))
  clear hf0
  go_enter Tryz.func39, Tryz.ntmps39
  go_wp2_with fail
  refine hf.out.mono ?_
  rintro e w1 ⟨rfl, rfl⟩
  clear en hf
  go_wp2_with fail
  have hb2 := below_alloc B1.out (.cells #[.string ⟨#[97, 99, 116]⟩, .string ⟨#[111, 117, 116, 99, 111, 109, 101]⟩, .string ⟨#[100, 101, 112, 116, 104]⟩, .string ⟨#[101, 120, 112, 105, 114, 101, 115]⟩] 9)
  have HV := Lib.hid (show Calls Tryz.prog 41 #[.agg #[.string (bs n0), .string (bs n1), .slice pa ax.length ca, .slice pk kx.length ck, .string (bs [])], .slice (some ⟨w.heap.size + 1, 0, none⟩) 4 4] ((w.alloc (.cells #[.int .i64 0, .int .i64 0, .int .i64 0, .int .i64 0, .float .f64 0] 26)).alloc (.cells #[.string ⟨#[97, 99, 116]⟩, .string ⟨#[111, 117, 116, 99, 111, 109, 101]⟩, .string ⟨#[100, 101, 112, 116, 104]⟩, .string ⟨#[101, 120, 112, 105, 114, 101, 115]⟩] 9)) (ValsR E (valsT ax kx namesL) ((w.alloc (.cells #[.int .i64 0, .int .i64 0, .int .i64 0, .int .i64 0, .float .f64 0] 26)).alloc (.cells #[.string ⟨#[97, 99, 116]⟩, .string ⟨#[111, 117, 116, 99, 111, 109, 101]⟩, .string ⟨#[100, 101, 112, 116, 104]⟩, .string ⟨#[101, 120, 112, 105, 114, 101, 115]⟩] 9))) from
    values_any (.node [n0, n1] ax kx []) _ P (some ⟨w.heap.size + 1, 0, none⟩) 4 namesL _ E ((HG.out.below hb2).errs) HX0.out (HCX.out.below hb2) (Nat.le_refl _) (by omega) (rd_at _ #[_, _, _, _] _ _ _ (by simp)))
  refine HV.out.mono ?_
  rintro e w2 ⟨hbv, hor⟩
  have B2 := Lib.hid (hb2.trans (hbv.mono hb2.size))
  have N2 := Lib.hid ((N1.out.alloc (.cells #[.string ⟨#[97, 99, 116]⟩, .string ⟨#[111, 117, 116, 99, 111, 109, 101]⟩, .string ⟨#[100, 101, 112, 116, 104]⟩, .string ⟨#[101, 120, 112, 105, 114, 101, 115]⟩] 9)).below hbv (N1.out.alloc _).lt)
  have G2 := Lib.hid (HG.out.below B2.out)
  have T2 := Lib.hid (HT.out.below B2.out)
  clear HV hb2 hbv c0' c1' c2' c3' c4'
  rcases hor with ⟨vs, v, hvs, rfl, hown⟩ | ⟨hno, rfl⟩
  rotate_left 1
  · have HX := Lib.hid (show R = none by rw [HCE.out, hno]; rfl)
    unfold panE errAt
    go_wp2_with fail
    exact ⟨rfl, B2.out, .inr ⟨HX.out, rfl⟩⟩
  obtain ⟨s0, s1, s2, s3, rfl⟩ := four_of (show vs.length = 4 from valsT_len hvs)
  rw [hvs, Option.bind_some] at HCE
  have hsl : s0.length ≤ 1000 ∧ s1.length ≤ 1000 ∧ s2.length ≤ 1000 ∧ s3.length ≤ 1000 := by
    have h : ∀ s ∈ [s0, s1, s2, s3], s.length ≤ 1000 := by
      intro s hs
      unfold valsT at hvs
      split at hvs
      · injection hvs with hvs
        rw [← hvs] at hs
        obtain ⟨a, ha, rfl⟩ := List.mem_map.1 hs
        rw [List.getD_eq_getElem?_getD]
        cases h3 : a[2]? with
        | none => simp
        | some t => exact HLEN.out a ha t (List.mem_of_getElem? h3)
      · cases hvs
    exact ⟨h _ (by simp), h _ (by simp), h _ (by simp), h _ (by simp)⟩
  have HCE2 := Lib.hid (show R = toCtx s0 s1 s2 s3 from HCE.out)
  obtain ⟨pv, cv, rfl, hv1, hv2, hrd⟩ := owns_rd hown
  obtain ⟨vb, vo, rfl, hv⟩ := hrd.has (by simp [strs])
  have k0 : w2.cell? ⟨vb, vo, none⟩ = some (.string (bs s0)) := hv 0 _ rfl
  have k1 : w2.cell? ⟨vb, vo + 1, none⟩ = some (.string (bs s1)) := hv 1 _ rfl
  have k2 : w2.cell? ⟨vb, vo + 2, none⟩ = some (.string (bs s2)) := hv 2 _ rfl
  have k3 : w2.cell? ⟨vb, vo + 3, none⟩ = some (.string (bs s3)) := hv 3 _ rfl
  clear hown hrd hv hvs HCE HLEN hv1 hv2
  obtain ⟨l0, l1, l2, l3⟩ := hsl
  have hta := toAct_any s0 (by omega) w2 E G2.out.errs
  cases ha : toActT s0 with
  | error m =>
    have HX := Lib.hid (show R = none by rw [HCE2.out]; unfold toCtx; rw [ha])
    rw [ha] at hta
    have HTA := Lib.hid (show Calls Tryz.prog 42 #[.string (bs s0)] w2 fun e w' => Below w2.heap.size w2 w' ∧ e = .returned (.tuple #[.agg #[.int .i64 0, .int .i64 0], .iface 160 (.pointer (some (E m)))]) from hta.mono fun _ _ h => ⟨h.1, h.2.1.trans rfl⟩)
    clear hta ha
    go_wp2_with fail
    refine HTA.out.mono ?_
    rintro e w3 ⟨hb3, rfl⟩
    have B4 := Lib.hid (below_alloc (B2.out.trans (hb3.mono B2.out.size)) (.cells #[.int .i64 0, .int .i64 0] 23))
    have hf := Lib.hid (fail_n _ E (HG.out.below B4.out).errs)
    clear hb3 HTA k0 k1 k2 k3
    go_wp2_with fail
    refine hf.out.mono ?_
    rintro e w9 ⟨rfl, rfl⟩
    unfold panE errAt
    go_wp2_with fail
    exact ⟨rfl, B4.out, .inr ⟨HX.out, rfl⟩⟩
  | ok p =>
    obtain ⟨pa1, pa2⟩ := p
    rw [ha] at hta
    have HTA := Lib.hid (show Calls Tryz.prog 42 #[.string (bs s0)] w2 fun e w' => Below w2.heap.size w2 w' ∧ e = .returned (.tuple #[.agg #[.int .i64 (pa1 : Int), .int .i64 (pa2 : Int)], .nilIface]) from hta.mono fun _ _ h => ⟨h.1, h.2.1.trans rfl⟩)
    have HCE3 := Lib.hid (show R = (numF outsL s1).bind fun o => (dig9 s2).bind fun d => (toExp s3).bind fun x => if rightC ⟨pa1, pa2, o, d, x⟩ then some ⟨pa1, pa2, o, d, x⟩ else none by rw [HCE2.out]; unfold toCtx; rw [ha])
    clear hta ha
    go_wp2_with fail
    refine HTA.out.mono ?_
    rintro e w3 ⟨hb3, rfl⟩
    have B4 := Lib.hid (below_alloc (B2.out.trans (hb3.mono B2.out.size)) (.cells #[.int .i64 (pa1 : Int), .int .i64 (pa2 : Int)] 23))
    have N4 := Lib.hid ((N2.out.below hb3 N2.out.lt).alloc (.cells #[.int .i64 (pa1 : Int), .int .i64 (pa2 : Int)] 23))
    have A4 := Lib.hid (Blk.new w3 23 #[.int .i64 (pa1 : Int), .int .i64 (pa2 : Int)])
    have k1 := keep_alloc w3 (.cells #[.int .i64 (pa1 : Int), .int .i64 (pa2 : Int)] 23) _ _ (Below.keeps hb3 _ _ k1)
    have k2 := keep_alloc w3 (.cells #[.int .i64 (pa1 : Int), .int .i64 (pa2 : Int)] 23) _ _ (Below.keeps hb3 _ _ k2)
    have k3 := keep_alloc w3 (.cells #[.int .i64 (pa1 : Int), .int .i64 (pa2 : Int)] 23) _ _ (Below.keeps hb3 _ _ k3)
    have hf := Lib.hid (fail_y (w3.alloc (.cells #[.int .i64 (pa1 : Int), .int .i64 (pa2 : Int)] 23)))
    clear hb3 HTA k0
    go_wp2_with fail
    generalize hg3 : w3.heap.size = g3 at *
    generalize w3.alloc (.cells #[.int .i64 (pa1 : Int), .int .i64 (pa2 : Int)] 23) = w4 at *
    clear hg3
    refine hf.out.mono ?_
    rintro e w9 ⟨rfl, rfl⟩
    go_wp2_with fail
    clear hf
    refine PX.wp_phi_tail (List.take 13 _) (List.drop 13 _) (List.take_append_drop 13 _).symm (fun ch w' => ch = panE E 3 ∧ Below w.heap.size w w' ∧ R = none) ?_ (fun w' => Below w.heap.size w w' ∧ Blk w' g3 23 #[.int .i64 (pa1 : Int), .int .i64 (pa2 : Int)] ∧ Blk w' w.heap.size 26 #[.int .i64 0, .int .i64 0, .int .i64 0, .int .i64 0, .float .f64 0] ∧ w'.cell? ⟨vb, vo + 1, none⟩ = some (.string (bs s1)) ∧ w'.cell? ⟨vb, vo + 2, none⟩ = some (.string (bs s2)) ∧ w'.cell? ⟨vb, vo + 3, none⟩ = some (.string (bs s3)))
      [(5, PNum (numF outsL s1)), (9, PNum (digI (dig9 s2))), (10, PVal (.float .f64 infR)), (12, PNewC w.heap.size)] [] (by kernel_rfl) (by kernel_rfl) ?_ ?_ ⟨B4.out.drew, A4.out, N4.out, k1, k2, k3⟩ ?_
    · rintro ch a w' hd ⟨rfl, hb, ho⟩
      simp only [Exit.then, bodyPost]
      exact ⟨hd, hb, .inr ⟨ho, rfl⟩⟩
    · rintro w1' w2' ⟨h1, h2, h3, h4, h5, h6⟩ hb
      exact ⟨h1.trans (hb.mono h1.size), h2.below hb h2.lt, h3.below hb h3.lt, Below.keeps hb _ _ h4, Below.keeps hb _ _ h5, Below.keeps hb _ _ h6⟩
    · simp only [List.mem_cons, List.not_mem_nil, or_false, forall_eq_or_imp, forall_eq]
      exact ⟨fun _ _ _ _ _ h => h, fun _ _ _ _ _ h => h, fun _ _ _ _ _ h => h, fun _ _ _ _ hb h g hg => ⟨(h g hg).1, (h g hg).2.below hb (h g hg).2.lt⟩⟩
    simp only [List.take_succ_cons, List.take_zero, List.drop_succ_cons, List.drop_zero]
    repeat (first | (refine PX.phi_skipK rfl (fun K hK => ?_); simp only [Act.put, List.setIfInBounds_toArray, List.set_cons_succ, List.set_cons_zero]; (try simp only [List.cons_append]); (try simp only [List.nil_append]); apply hK; clear hK K) | (refine PX.phi_pureK rfl rfl (fun K hK => ?_); apply Exists.intro; constructor; (focus (rintro w' ⟨h1, h2, h3, h4, h5, h6⟩; (have c0 := (h2.cell 0).trans rfl; have c1 := (h2.cell 1).trans rfl; clear h1 h2 h3); first | (go_simp; done) | (go_simp; (try go_bits); (try go_simp); rfl) | go_simp)); simp only [Act.put, List.setIfInBounds_toArray, List.set_cons_succ, List.set_cons_zero]; (try simp only [List.cons_append]); (try simp only [List.nil_append]); apply hK; clear hK K))
    refine PX.phi_partK (PNum (numF outsL s1)) rfl rfl ⟨_, rfl⟩ ?_ (fun K hK v hv => ?_)
    · rintro w' ⟨h1, h2, h3, h4, h5, h6⟩ _
      have HNU := Lib.hid (number_any s1 w' E (HG.out.below h1).errs (HT.out.below h1))
      have HH := Lib.hid h1
      clear h1 h2 h3 h4 h5 h6
      unfold PX.gives
      go_simp
      refine HNU.out.mono ?_
      rintro e w'' ⟨rfl, ⟨n, hn, rfl⟩ | ⟨hn, rfl⟩⟩
      · exact .inl ⟨_, rfl, by show _ = _; rw [hn]; rfl, by show _ ≠ _; rw [hn]; simp, Below.refl _ _⟩
      · exact .inr ⟨_, rfl, rfl, HH.out, by rw [HCE3.out, hn]; rfl⟩
    obtain rfl : v = _ := hv
    simp only [Act.put, List.setIfInBounds_toArray, List.set_cons_succ, List.set_cons_zero]; (try simp only [List.cons_append]); (try simp only [List.nil_append])
    apply hK
    clear hK K
    repeat (first | (refine PX.phi_skipK rfl (fun K hK => ?_); simp only [Act.put, List.setIfInBounds_toArray, List.set_cons_succ, List.set_cons_zero]; (try simp only [List.cons_append]); (try simp only [List.nil_append]); apply hK; clear hK K) | (refine PX.phi_pureK rfl rfl (fun K hK => ?_); apply Exists.intro; constructor; (focus (rintro w' ⟨h1, h2, h3, h4, h5, h6⟩; (have c0 := (h2.cell 0).trans rfl; have c1 := (h2.cell 1).trans rfl; clear h1 h2 h3); first | (go_simp; done) | (go_simp; (try go_bits); (try go_simp); rfl) | go_simp)); simp only [Act.put, List.setIfInBounds_toArray, List.set_cons_succ, List.set_cons_zero]; (try simp only [List.cons_append]); (try simp only [List.nil_append]); apply hK; clear hK K))
    refine PX.phi_partK (PNum (digI (dig9 s2))) rfl rfl ⟨_, rfl⟩ ?_ (fun K hK v hv => ?_)
    · rintro w' ⟨h1, h2, h3, h4, h5, h6⟩ _
      have HNU := Lib.hid (bdigits_any s2 (by omega) w' E (HG.out.below h1).errs)
      have HH := Lib.hid h1
      clear h1 h2 h3 h4 h5 h6
      unfold PX.gives
      go_simp
      refine HNU.out.mono ?_
      rintro e w'' ⟨hb, ⟨n, hn, rfl⟩ | ⟨hn, rfl⟩⟩
      · exact .inl ⟨_, rfl, by show _ = _; rw [hn]; rfl, by show _ ≠ _; rw [hn]; simp [digI], hb⟩
      · exact .inr ⟨_, rfl, rfl, HH.out.trans (hb.mono HH.out.size), by rw [HCE3.out, hn]; cases numF outsL s1 <;> rfl⟩
    obtain rfl : v = _ := hv
    simp only [Act.put, List.setIfInBounds_toArray, List.set_cons_succ, List.set_cons_zero]; (try simp only [List.cons_append]); (try simp only [List.nil_append])
    apply hK
    clear hK K
    refine PX.phi_partK (PVal (.float .f64 infR)) rfl rfl ⟨_, rfl⟩ ?_ (fun K hK v hv => ?_)
    · rintro w' _ _
      unfold PX.gives
      go_simp
      refine (inf_any w').mono ?_
      rintro e w'' ⟨rfl, hb⟩
      exact .inl ⟨_, rfl, rfl, trivial, hb⟩
    obtain rfl : v = _ := hv
    simp only [Act.put, List.setIfInBounds_toArray, List.set_cons_succ, List.set_cons_zero]; (try simp only [List.cons_append]); (try simp only [List.nil_append])
    apply hK
    clear hK K
    repeat (first | (refine PX.phi_skipK rfl (fun K hK => ?_); simp only [Act.put, List.setIfInBounds_toArray, List.set_cons_succ, List.set_cons_zero]; (try simp only [List.cons_append]); (try simp only [List.nil_append]); apply hK; clear hK K) | (refine PX.phi_pureK rfl rfl (fun K hK => ?_); apply Exists.intro; constructor; (focus (rintro w' ⟨h1, h2, h3, h4, h5, h6⟩; (clear h1 h2 h3); first | (go_simp; done) | (go_simp; (try go_bits); (try go_simp); rfl) | go_simp)); simp only [Act.put, List.setIfInBounds_toArray, List.set_cons_succ, List.set_cons_zero]; (try simp only [List.cons_append]); (try simp only [List.nil_append]); apply hK; clear hK K))
    refine PX.phi_partK (PNewC w.heap.size) rfl rfl ⟨_, 0, rfl⟩ ?_ (fun K hK v hv => ?_)
    · rintro w' ⟨h1, h2, h3, h4, h5, h6⟩ _
      have HH := Lib.hid h3
      clear h1 h2 h3 h4 h5 h6
      unfold PX.gives
      go_simp
      exact ⟨⟨_, rfl⟩, fun g hg => by
        obtain rfl : w'.heap.size = g := by simpa using hg
        exact ⟨HH.out.lt, Blk.new _ _ _⟩, below_alloc1 _ _⟩
    obtain ⟨gc, rfl⟩ := hv
    simp only [Act.put, List.setIfInBounds_toArray, List.set_cons_succ, List.set_cons_zero]; (try simp only [List.cons_append]); (try simp only [List.nil_append])
    apply hK
    clear hK K
    refine PX.phi_done ?_
    rintro w5 ⟨h1, h2, h3, h4, h5, h6⟩ hk
    have e1 : numF outsL s1 ≠ none := hk (5, fun w => (PNum (numF outsL s1)).fact w (.int .i64 ((numF outsL s1).getD 0))) (by simp)
    have e2 : (digI (dig9 s2)) ≠ none := hk (9, fun w => (PNum (digI (dig9 s2))).fact w (.int .i64 ((digI (dig9 s2)).getD 0))) (by simp)
    obtain ⟨hgc, hC5⟩ := hk (12, fun w1 => (PNewC w.heap.size).fact w1 (.pointer (some ⟨gc, 0, none⟩))) (by simp) gc rfl
    clear hk
    obtain ⟨o, ho⟩ := Option.ne_none_iff_exists'.1 e1
    obtain ⟨D, hD⟩ : ∃ D, dig9 s2 = some D := by
      cases h : dig9 s2 with
      | none => rw [h] at e2; exact absurd rfl e2
      | some D => exact ⟨D, rfl⟩
    have ho' : (numF outsL s1).getD 0 = o := by rw [ho]; rfl
    have hD' : (digI (dig9 s2)).getD 0 = (D : Int) := by rw [hD]; rfl
    rw [ho', hD']
    have HCE4 := Lib.hid (show R = (toExp s3).bind fun x => if rightC ⟨pa1, pa2, o, D, x⟩ then some ⟨pa1, pa2, o, D, x⟩ else none by rw [HCE3.out, ho, hD]; rfl)
    have hne : vb ≠ gc := by
      rintro rfl
      have := h6.symm.trans (hC5.cell (vo + 3))
      rcases vo with _ | _ | vo <;> simp at this
    clear e1 e2 ho hD ho' hD' h2 h4 h5 HCE3 HCE2
    refine wpList_store (.tmp 5) (.tmp 41) 26 rfl rfl gc 0 _ _ #[.int .i64 (pa1 : Int), .int .i64 (pa2 : Int), .int .i64 o, .int .i64 (D : Int), .float .f64 infR] rfl rfl hC5 (by kernel_rfl) (by simp [Value.oneCell']) (by simp) ?_
    intro w6 hn6 ko6
    have C6 : Blk w6 gc 26 #[.int .i64 (pa1 : Int), .int .i64 (pa2 : Int), .int .i64 o, .int .i64 (D : Int), .float .f64 infR] := hn6
    have k3 : w6.cell? ⟨vb, vo + 3, none⟩ = some (.string (bs s3)) := (World.cell?_of_block (ko6.block vb hne)).trans h6
    have N6 := ko6.blk h3 (by omega)
    have b6 := h1.trans (ko6.below (by omega))
    have hem : (bs s3).toList = s3 := bs_toList s3
    by_cases hnv : s3 = neverL
    · have HR4 := Lib.hid (show R = if rightC ⟨pa1, pa2, o, D, infR⟩ then some ⟨pa1, pa2, o, D, infR⟩ else none by
        rw [HCE4.out]
        unfold toExp
        rw [if_pos hnv]
        rfl)
      have hz : (s3 == [110, 101, 118, 101, 114]) = true := by rw [hnv]; rfl
      have CX := Lib.hid C6; have NX := Lib.hid N6; have BX := Lib.hid b6
      clear hn6 ko6 C6 N6 b6 hC5 h1 h3 h6 hnv hem
      have hs := Lib.hid (sright_any (pa1 : Int) (pa2 : Int) o (D : Int) (infR) (by omega) (by omega) (infR_lt) _ E (HG.out.below BX.out))
      have y0 := (CX.out.cell 0).trans rfl; have y1 := (CX.out.cell 1).trans rfl; have y2 := (CX.out.cell 2).trans rfl; have y3 := (CX.out.cell 3).trans rfl; have y4 := (CX.out.cell 4).trans rfl
      cases hr : rightC ⟨pa1, pa2, o, D, infR⟩
      · rw [hr] at hs
        have HX := Lib.hid (show R = none by rw [HR4.out, hr]; rfl)
        clear hr
        go_wp2_with fail
        refine hs.out.mono ?_
        rintro e w7 ⟨rfl, hb7⟩
        have B7 := Lib.hid (BX.out.trans (hb7.mono BX.out.size))
        have hf := Lib.hid (fail_n w7 E (HG.out.below B7.out).errs)
        clear hb7 y0 y1 y2 y3 y4
        go_wp2_with fail
        refine hf.out.mono ?_
        rintro e w9 ⟨rfl, rfl⟩
        unfold panE errAt
        go_wp2_with fail
        exact ⟨rfl, B7.out, .inr ⟨HX.out, rfl⟩⟩
      · rw [hr] at hs
        have HX := Lib.hid (show R = some ⟨pa1, pa2, o, D, infR⟩ by rw [HR4.out, hr]; rfl)
        clear hr
        go_wp2_with fail
        refine hs.out.mono ?_
        rintro e w7 ⟨rfl, hb7⟩
        have B7 := Lib.hid (BX.out.trans (hb7.mono BX.out.size))
        have N7 := Lib.hid (NX.out.below hb7 NX.out.lt)
        have C7 := CX.out.below hb7 CX.out.lt
        have hf := Lib.hid (fail_y w7)
        clear y0 y1 y2 y3 y4
        have y0 := (C7.cell 0).trans rfl; have y1 := (C7.cell 1).trans rfl; have y2 := (C7.cell 2).trans rfl; have y3 := (C7.cell 3).trans rfl; have y4 := (C7.cell 4).trans rfl
        clear hb7 C7
        go_wp2_with fail
        refine hf.out.mono ?_
        rintro e w9 ⟨rfl, rfl⟩
        clear hf
        go_wp2_with (refine wpList_store (.tmp 1) (.tmp 67) 26 rfl rfl w.heap.size 0 _ _ #[.int .i64 (pa1 : Int), .int .i64 (pa2 : Int), .int .i64 o, .int .i64 (D : Int), .float .f64 (infR)] rfl rfl N7.out ?s0 ?s1 ?s2 ?_)
        case s0 => kernel_rfl
        case s1 => simp [Value.oneCell']
        case s2 => simp
        intro w8 hb8 ho8
        rw [putCells_all #[.int .i64 0, .int .i64 0, .int .i64 0, .int .i64 0, .float .f64 0] #[.int .i64 (pa1 : Int), .int .i64 (pa2 : Int), .int .i64 o, .int .i64 (D : Int), .float .f64 (infR)] rfl] at hb8
        clear y0 y1 y2 y3 y4
        have z0 := (hb8.cell 0).trans rfl; have z1 := (hb8.cell 1).trans rfl; have z2 := (hb8.cell 2).trans rfl; have z3 := (hb8.cell 3).trans rfl; have z4 := (hb8.cell 4).trans rfl
        have HO8 := Lib.hid ho8
        clear hb8 ho8
        go_wp2_with fail
        refine bodyPost_ret (v := .agg #[.int .i64 (pa1 : Int), .int .i64 (pa2 : Int), .int .i64 o, .int .i64 (D : Int), .float .f64 (infR)]) (by simp [results, Tryz.results39, go_sem, z0, z1, z2, z3, z4]) rfl ?_
        exact ⟨B7.out.trans (Only.below HO8.out (Nat.le_refl _)), .inl ⟨_, HX.out, rfl⟩⟩
    · have hz : (s3 == [110, 101, 118, 101, 114]) = false := beq_eq_false_iff_ne.2 hnv
      have HNV := Lib.hid hnv
      have HU := Lib.hid (unhex_any s3 (by omega) w6 E (HG.out.below b6).errs)
      have C6' := Lib.hid C6; have N6' := Lib.hid N6; have B6 := Lib.hid b6
      clear hn6 ko6 C6 N6 b6 hC5 h1 h3 h6 hnv hem
      go_wp2_with fail
      refine HU.out.mono ?_
      rintro e w7 ⟨hb7, ⟨X, hX, rfl⟩ | ⟨hX, rfl⟩⟩
      rotate_left 1
      · have HX := Lib.hid (show R = none by
          rw [HCE4.out]
          unfold toExp
          rw [if_neg HNV.out, hX]
          rfl)
        have B7 := Lib.hid (B6.out.trans (hb7.mono B6.out.size))
        clear hb7 k3 hz HU
        unfold panE errAt
        go_wp2_with fail
        exact ⟨rfl, B7.out, .inr ⟨HX.out, rfl⟩⟩
      have hXlt := (unhT_some hX).2
      have HR5 := Lib.hid (show R = (if plainN X = X ∧ isFin X = true then some X else none).bind fun x => if rightC ⟨pa1, pa2, o, D, x⟩ then some ⟨pa1, pa2, o, D, x⟩ else none by
        rw [HCE4.out]
        unfold toExp
        rw [if_neg HNV.out, hX]
        rfl)
      have B7 := Lib.hid (B6.out.trans (hb7.mono B6.out.size))
      have C7 := Lib.hid (C6'.out.below hb7 C6'.out.lt)
      have N7 := Lib.hid (N6'.out.below hb7 N6'.out.lt)
      clear hb7 k3 hz HU hX
      go_wp2_with fail
      refine (from_any X hXlt w7).mono ?_
      rintro e w8 ⟨rfl, hb8⟩
      have B8 := B7.out.trans (hb8.mono B7.out.size)
      have C8 := C7.out.below hb8 C7.out.lt
      have N8 := N7.out.below hb8 N7.out.lt
      have c4 := (C8.cell 4).trans rfl
      have f4 := C8.frozen 4
      have CX := Lib.hid (show Blk (w8.setCell ⟨gc, 4, none⟩ (.float .f64 (plainN X))) gc 26 #[.int .i64 (pa1 : Int), .int .i64 (pa2 : Int), .int .i64 o, .int .i64 (D : Int), .float .f64 (plainN X)] from C8.set_ 4 _)
      have NX := Lib.hid (N8.far (show w.heap.size ≠ gc by omega) 4 (.float .f64 (plainN X)))
      have BX := Lib.hid (B8.setCell (p := ⟨gc, 4, none⟩) (show w.heap.size ≤ gc by omega) (.float .f64 (plainN X)))
      have x4 := (CX.out.cell 4).trans rfl
      have hpl := plain_lt9 hXlt
      clear hb8 B8 C8 N8
      go_wp2_with fail
      generalize hws : w8.setCell ⟨gc, 4, none⟩ (.float .f64 (plainN X)) = ws at *
      clear hws c4 f4
      refine (bits_any (plainN X) hpl ws).mono ?_
      rintro e w9 ⟨rfl, hb9⟩
      rw [plain_idem]
      have CX9 := CX.out.below hb9 CX.out.lt
      have NX9 := NX.out.below hb9 NX.out.lt
      have BX9 := BX.out.trans (hb9.mono BX.out.size)
      have C9 := Lib.hid CX9; have N9 := Lib.hid NX9; have B9 := Lib.hid BX9
      have z4 := (CX9.cell 4).trans rfl
      clear x4 CX NX BX hb9 CX9 NX9 BX9
      by_cases hpx : plainN X = X
      rotate_left 1
      · have hq : ((plainN X : Int) == (X : Int)) = false := by rw [beq_eq_false_iff_ne]; omega
        have HX := Lib.hid (show R = none by rw [HR5.out, if_neg (fun h => hpx h.1)]; rfl)
        have hf := Lib.hid (fail_n w9 E (HG.out.below B9.out).errs)
        clear hpx
        go_wp2_with fail
        refine hf.out.mono ?_
        rintro e w9 ⟨rfl, rfl⟩
        unfold panE errAt
        go_wp2_with fail
        exact ⟨rfl, B9.out, .inr ⟨HX.out, rfl⟩⟩
      rw [hpx] at C9 z4 ⊢
      have hq : ((X : Int) == (X : Int)) = true := by simp
      go_wp2_with fail
      refine (finite_any X w9).mono ?_
      rintro e w10 ⟨rfl, hb10⟩
      have C10 := Lib.hid (C9.out.below hb10 C9.out.lt)
      have N10 := Lib.hid (N9.out.below hb10 N9.out.lt)
      have B10 := Lib.hid (B9.out.trans (hb10.mono B9.out.size))
      clear z4 hb10 hq
      cases hfi : isFin X
      · have HX := Lib.hid (show R = none by rw [HR5.out, if_neg (fun h => by rw [hfi] at h; exact absurd h.2 (by decide))]; rfl)
        have hf := Lib.hid (fail_n w10 E (HG.out.below B10.out).errs)
        clear hfi
        go_wp2_with fail
        refine hf.out.mono ?_
        rintro e w9 ⟨rfl, rfl⟩
        unfold panE errAt
        go_wp2_with fail
        exact ⟨rfl, B10.out, .inr ⟨HX.out, rfl⟩⟩
      have HR4 := Lib.hid (show R = if rightC ⟨pa1, pa2, o, D, X⟩ then some ⟨pa1, pa2, o, D, X⟩ else none by rw [HR5.out, if_pos ⟨hpx, hfi⟩]; rfl)
      have hf := Lib.hid (fail_y w10)
      have CX := C10; have NX := N10; have BX := B10
      clear hfi hpx
      go_wp2_with fail
      refine hf.out.mono ?_
      rintro e w11 ⟨rfl, rfl⟩
      clear hf
      have hs := Lib.hid (sright_any (pa1 : Int) (pa2 : Int) o (D : Int) (X) (by omega) (by omega) (hXlt) _ E (HG.out.below BX.out))
      have y0 := (CX.out.cell 0).trans rfl; have y1 := (CX.out.cell 1).trans rfl; have y2 := (CX.out.cell 2).trans rfl; have y3 := (CX.out.cell 3).trans rfl; have y4 := (CX.out.cell 4).trans rfl
      cases hr : rightC ⟨pa1, pa2, o, D, X⟩
      · rw [hr] at hs
        have HX := Lib.hid (show R = none by rw [HR4.out, hr]; rfl)
        clear hr
        go_wp2_with fail
        refine hs.out.mono ?_
        rintro e w7 ⟨rfl, hb7⟩
        have B7 := Lib.hid (BX.out.trans (hb7.mono BX.out.size))
        have hf := Lib.hid (fail_n w7 E (HG.out.below B7.out).errs)
        clear hb7 y0 y1 y2 y3 y4
        go_wp2_with fail
        refine hf.out.mono ?_
        rintro e w9 ⟨rfl, rfl⟩
        unfold panE errAt
        go_wp2_with fail
        exact ⟨rfl, B7.out, .inr ⟨HX.out, rfl⟩⟩
      · rw [hr] at hs
        have HX := Lib.hid (show R = some ⟨pa1, pa2, o, D, X⟩ by rw [HR4.out, hr]; rfl)
        clear hr
        go_wp2_with fail
        refine hs.out.mono ?_
        rintro e w7 ⟨rfl, hb7⟩
        have B7 := Lib.hid (BX.out.trans (hb7.mono BX.out.size))
        have N7 := Lib.hid (NX.out.below hb7 NX.out.lt)
        have C7 := CX.out.below hb7 CX.out.lt
        have hf := Lib.hid (fail_y w7)
        clear y0 y1 y2 y3 y4
        have y0 := (C7.cell 0).trans rfl; have y1 := (C7.cell 1).trans rfl; have y2 := (C7.cell 2).trans rfl; have y3 := (C7.cell 3).trans rfl; have y4 := (C7.cell 4).trans rfl
        clear hb7 C7
        go_wp2_with fail
        refine hf.out.mono ?_
        rintro e w9 ⟨rfl, rfl⟩
        clear hf
        go_wp2_with (refine wpList_store (.tmp 1) (.tmp 67) 26 rfl rfl w.heap.size 0 _ _ #[.int .i64 (pa1 : Int), .int .i64 (pa2 : Int), .int .i64 o, .int .i64 (D : Int), .float .f64 (X)] rfl rfl N7.out ?s0 ?s1 ?s2 ?_)
        case s0 => kernel_rfl
        case s1 => simp [Value.oneCell']
        case s2 => simp
        intro w8 hb8 ho8
        rw [putCells_all #[.int .i64 0, .int .i64 0, .int .i64 0, .int .i64 0, .float .f64 0] #[.int .i64 (pa1 : Int), .int .i64 (pa2 : Int), .int .i64 o, .int .i64 (D : Int), .float .f64 (X)] rfl] at hb8
        clear y0 y1 y2 y3 y4
        have z0 := (hb8.cell 0).trans rfl; have z1 := (hb8.cell 1).trans rfl; have z2 := (hb8.cell 2).trans rfl; have z3 := (hb8.cell 3).trans rfl; have z4 := (hb8.cell 4).trans rfl
        have HO8 := Lib.hid ho8
        clear hb8 ho8
        go_wp2_with fail
        refine bodyPost_ret (v := .agg #[.int .i64 (pa1 : Int), .int .i64 (pa2 : Int), .int .i64 o, .int .i64 (D : Int), .float .f64 (X)]) (by simp [results, Tryz.results39, go_sem, z0, z1, z2, z3, z4]) rfl ?_
        exact ⟨B7.out.trans (Only.below HO8.out (Nat.le_refl _)), .inl ⟨_, HX.out, rfl⟩⟩
end Go.Proofs.YtgmiockaecklaaaGreatDoor
