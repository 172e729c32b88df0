/-
  BctxM: the document's ToContext.
-/
import Derived.Test.YtgmiockaecklaaaGreatDoorBctxL
import Derived.Test.YtgmiockaecklaaaGreatDoorRefSm2
import Derived.Test.YtgmiockaecklaaaGreatDoorBG
namespace Go.Proofs.YtgmiockaecklaaaGreatDoor
open Go.RowKit Go.Extern.Stop Go.Stop Go.Extern Ieee
attribute [local go_sem] bs_toList bs_size
attribute [local go_sem] run_store_flt
attribute [local irreducible] wpPhi

/-- as the document reads an element -/
def refToE (y : Tr) : Option Ctx :=
  if y.ats.length = 4 then
    match toActT ((y.ats.getD 0 []).getD 2 []) with
    | .error _ => none
    | .ok p => if rightC ⟨p.1, p.2, refO ((y.ats.getD 1 []).getD 2 []), refD ((y.ats.getD 2 []).getD 2 []), refX ((y.ats.getD 3 []).getD 2 [])⟩ && (ctxT ⟨p.1, p.2, refO ((y.ats.getD 1 []).getD 2 []), refD ((y.ats.getD 2 []).getD 2 []), refX ((y.ats.getD 3 []).getD 2 [])⟩).eqb y
      then some ⟨p.1, p.2, refO ((y.ats.getD 1 []).getD 2 []), refD ((y.ats.getD 2 []).getD 2 []), refX ((y.ats.getD 3 []).getD 2 [])⟩ else none
  else none
theorem refdigitsG (l : List UInt8) (hl : l.length ≤ 1000) (w : World) : Calls Tryz.prog 49 #[.string (bs l)] w (Gives w (.int .i64 (refD l))) := by
  refine (refdigits_any l (by omega) w).mono ?_
  rintro e w' ⟨rfl, rfl⟩
  exact ⟨rfl, Below.refl _ _⟩
theorem refS_lt (l : List UInt8) : ∀ n, n < 18446744073709551616 → l.foldl refS n < 18446744073709551616 := by
  induction l with
  | nil => intro n h; exact h
  | cons x xs ih =>
    intro n h
    rw [List.foldl_cons]
    refine ih _ ?_
    unfold refS
    split
    · exact Nat.mod_lt _ (by omega)
    · exact h
theorem fold_step {l : List UInt8} {k : Nat} (h : k < l.length) : (l.take (k + 1)).foldl refS 0 = refS ((l.take k).foldl refS 0) l[k] := by
  rw [List.take_succ_eq_append_getElem h, List.foldl_append]
  rfl
theorem refS_dig {n : Nat} {c : UInt8} (h1 : 48 ≤ c.toNat) (h2 : c.toNat ≤ 57) : refS n c = (16 * n + (c.toNat - 48)) % 18446744073709551616 := by
  unfold refS hexB digitB hexV
  rw [if_pos (by simp [h1, h2]), if_pos h2]
theorem refS_let {n : Nat} {c : UInt8} (h1 : 97 ≤ c.toNat) (h2 : c.toNat ≤ 102) : refS n c = (16 * n + (c.toNat - 87)) % 18446744073709551616 := by
  unfold refS hexB digitB hexV
  rw [if_pos (by simp [h1, h2]), if_neg (by omega)]
theorem refS_no {n : Nat} {c : UInt8} (h : c.toNat < 48 ∨ (57 < c.toNat ∧ c.toNat < 97) ∨ 102 < c.toNat) : refS n c = n := by
  unfold refS hexB digitB
  rw [if_neg]
  simp
  omega
def RefR (o : Option Ctx) (w : World) (e : Ending) (w' : World) : Prop :=
  Below w.heap.size w w' ∧ e = .returned (.tuple #[ctxV (o.getD ctx0), .bool o.isSome])
set_option maxRecDepth 20000 in
set_option maxHeartbeats 16000000 in
theorem reftoctx_any (y : Tr) (cy : List Value) (P : Nat → Prop) (w : World) (hy : y.ok 2) (hcy : TrC w P y cy) (hlen : ∀ a ∈ y.ats, ∀ s ∈ a, s.length ≤ 1000) :
    Calls Tryz.prog 14 #[.agg cy.toArray] w (RefR (refToE y) w) := by
  obtain ⟨nx, ax, kx, tx⟩ := y
  have hcy0 := hcy
  have hy0 := hy
  unfold TrC at hcy
  unfold Tr.ok at hy
  obtain ⟨n0, n1, rfl⟩ := two_of hy.1
  obtain ⟨pa, ca, pk, ck, css, rfl, ⟨A1, A2, A3, -⟩, -⟩ := hcy
  show Calls Tryz.prog 14 #[.agg #[.string (bs n0), .string (bs n1), .slice pa ax.length ca, .slice pk kx.length ck, .string (bs tx)]] w _
  have HCY := Lib.hid hcy0; have HY0 := Lib.hid hy0; have HA := Lib.hid A3; have HX2 := Lib.hid hy.2.1
  unfold maxLen at A2
  have B1 := Lib.hid (below_alloc (below_alloc1 w (.cells #[.string (bs n0), .string (bs n1), .slice pa ax.length ca, .slice pk kx.length ck, .string (bs tx)] 47)) (.cells #[.int .i64 0, .int .i64 0, .int .i64 0, .int .i64 0, .float .f64 0] 26))
  have N1 := Lib.hid ((Blk.new w 47 #[.string (bs n0), .string (bs n1), .slice pa ax.length ca, .slice pk kx.length ck, .string (bs tx)]).alloc (.cells #[.int .i64 0, .int .i64 0, .int .i64 0, .int .i64 0, .float .f64 0] 26))
  have M1 := Lib.hid (show Blk ((w.alloc (.cells #[.string (bs n0), .string (bs n1), .slice pa ax.length ca, .slice pk kx.length ck, .string (bs tx)] 47)).alloc (.cells #[.int .i64 0, .int .i64 0, .int .i64 0, .int .i64 0, .float .f64 0] 26)) (w.heap.size + 1) 26 #[.int .i64 0, .int .i64 0, .int .i64 0, .int .i64 0, .float .f64 0] from by
    have := Blk.new (w.alloc (.cells #[.string (bs n0), .string (bs n1), .slice pa ax.length ca, .slice pk kx.length ck, .string (bs tx)] 47)) 26 #[.int .i64 0, .int .i64 0, .int .i64 0, .int .i64 0, .float .f64 0]
    rwa [World.size_alloc] at this)
  have c2 := (N1.out.cell 2).trans rfl
  clear hcy0 hy0 A3 hy
  by_cases h4 : ax.length = 4
  rotate_left 1
  · have hne : ((ax.length : Int) != 4) = true := by rw [bne_iff_ne]; omega
    have HX := Lib.hid (show refToE (.node [n0, n1] ax kx tx) = none by unfold refToE; rw [if_neg (show ¬ (Tr.node [n0, n1] ax kx tx).ats.length = 4 from h4)])
    clear h4
    go_enter Tryz.func14, Tryz.ntmps14
    go_wp2_with (refine wpList_store (.tmp 2) (.tmp 14) 26 rfl rfl (w.heap.size + 1) 0 _ _ #[.int .i64 0, .int .i64 0, .int .i64 0, .int .i64 0, .float .f64 0] rfl rfl (M1.out) ?sa1 ?sb1 ?sc1 ?_)
    case sa1 => kernel_rfl
    case sb1 => simp [Value.oneCell']
    case sc1 => simp
    intro w8 hb8 ho8
    rw [putCells_all #[.int .i64 0, .int .i64 0, .int .i64 0, .int .i64 0, .float .f64 0] #[.int .i64 0, .int .i64 0, .int .i64 0, .int .i64 0, .float .f64 0] rfl] at hb8
    have z0 := (hb8.cell 0).trans rfl; have z1 := (hb8.cell 1).trans rfl; have z2 := (hb8.cell 2).trans rfl; have z3 := (hb8.cell 3).trans rfl; have z4 := (hb8.cell 4).trans rfl
    have HO8 := Lib.hid ho8
    clear hb8 ho8
    go_wp2_with fail
    refine bodyPost_ret (v := .tuple #[.agg #[.int .i64 0, .int .i64 0, .int .i64 0, .int .i64 0, .float .f64 0], .bool false]) (by simp [results, Tryz.results14, go_sem, z0, z1, z2, z3, z4]) rfl ?_
    exact ⟨(B1.out).trans (Only.below HO8.out (by omega)), by rw [HX.out]; rfl⟩
  obtain ⟨b0, b1, b2, b3, rfl⟩ := four_of h4
  obtain ⟨p0, q0, v0, rfl⟩ := three_of (HX2.out b0 (by simp))
  obtain ⟨p1, q1, v1, rfl⟩ := three_of (HX2.out b1 (by simp))
  obtain ⟨p2, q2, v2, rfl⟩ := three_of (HX2.out b2 (by simp))
  obtain ⟨p3, q3, v3, rfl⟩ := three_of (HX2.out b3 (by simp))
  have hl : v0.length ≤ 1000 ∧ v1.length ≤ 1000 ∧ v2.length ≤ 1000 ∧ v3.length ≤ 1000 := ⟨hlen [p0, q0, v0] (by simp [Tr.ats]) v0 (by simp), hlen [p1, q1, v1] (by simp [Tr.ats]) v1 (by simp), hlen [p2, q2, v2] (by simp [Tr.ats]) v2 (by simp), hlen [p3, q3, v3] (by simp [Tr.ats]) v3 (by simp)⟩
  obtain ⟨l0, l1, l2, l3⟩ := hl
  obtain ⟨e1, o1, rfl, hcc⟩ := HA.out.has (by simp [acells, strs])
  have k0 : w.cell? ⟨e1, o1 + 2, none⟩ = some (.string (bs v0)) := hcc 2 _ rfl
  have k1 : w.cell? ⟨e1, o1 + 3 + 2, none⟩ = some (.string (bs v1)) := hcc 5 _ rfl
  have k2 : w.cell? ⟨e1, o1 + 6 + 2, none⟩ = some (.string (bs v2)) := hcc 8 _ rfl
  have k3 : w.cell? ⟨e1, o1 + 9 + 2, none⟩ = some (.string (bs v3)) := hcc 11 _ rfl
  clear hlen h4 hcc HA HX2 A1
  generalize hYY : Tr.node [n0, n1] [[p0, q0, v0], [p1, q1, v1], [p2, q2, v2], [p3, q3, v3]] kx tx = Y at *
  have HRE := Lib.hid (show refToE Y = match toActT v0 with
    | .error _ => none
    | .ok p => if rightC ⟨p.1, p.2, refO v1, refD v2, refX v3⟩ && (ctxT ⟨p.1, p.2, refO v1, refD v2, refX v3⟩).eqb Y then some ⟨p.1, p.2, refO v1, refD v2, refX v3⟩ else none by rw [← hYY]; rfl)
  generalize refToE Y = R at *
  clear hYY
  simp only [List.length_cons, List.length_nil, Nat.zero_add, Nat.reduceAdd] at B1 N1 M1 c2 ⊢
  cases ha : toActT v0 with
  | error m =>
    have HX := Lib.hid (show R = none by rw [HRE.out, ha])
    have HNU := Lib.hid (show Calls Tryz.prog 48 #[.string (bs v0), .string ⟨#[97, 35, 46, 35]⟩, .slice (some ⟨w.heap.size + 1 + 1, 0, none⟩) 2 2] (((w.alloc (.cells #[.string (bs n0), .string (bs n1), .slice (some ⟨e1, o1, none⟩) 4 ca, .slice pk kx.length ck, .string (bs tx)] 47)).alloc (.cells #[.int .i64 0, .int .i64 0, .int .i64 0, .int .i64 0, .float .f64 0] 26)).alloc (.cells #[.int .i64 4, .int .i64 1000000] 3)) fun e w' => Below (w.heap.size + 1 + 1) ((w.alloc (.cells #[.string (bs n0), .string (bs n1), .slice (some ⟨e1, o1, none⟩) 4 ca, .slice pk kx.length ck, .string (bs tx)] 47)).alloc (.cells #[.int .i64 0, .int .i64 0, .int .i64 0, .int .i64 0, .float .f64 0] 26)) w' ∧ e = .returned (.tuple #[.slice none 0 0, .int .i64 ((m + 1 : Nat) : Int)]) from by
      have := n_act_bad ha (by omega) ((w.alloc (.cells #[.string (bs n0), .string (bs n1), .slice (some ⟨e1, o1, none⟩) 4 ca, .slice pk kx.length ck, .string (bs tx)] 47)).alloc (.cells #[.int .i64 0, .int .i64 0, .int .i64 0, .int .i64 0, .float .f64 0] 26))
      rwa [show ((w.alloc (.cells #[.string (bs n0), .string (bs n1), .slice (some ⟨e1, o1, none⟩) 4 ca, .slice pk kx.length ck, .string (bs tx)] 47)).alloc (.cells #[.int .i64 0, .int .i64 0, .int .i64 0, .int .i64 0, .float .f64 0] 26)).heap.size = w.heap.size + 1 + 1 by simp] at this)
    have j0 := Below.keeps B1.out _ _ k0
    clear ha
    go_enter Tryz.func14, Tryz.ntmps14
    go_wp2_with fail
    refine HNU.out.mono ?_
    rintro e w3 ⟨hb3, rfl⟩
    have B3 := Lib.hid (B1.out.trans (hb3.mono (by omega)))
    have M3 := Lib.hid (M1.out.below hb3 (by omega))
    have hz : (((m + 1 : Nat) : Int) != 0) = true := by rw [bne_iff_ne]; omega
    clear hb3 HNU j0 k0 c2
    generalize ((m + 1 : Nat) : Int) = mm at *
    go_wp2_with (refine wpList_store (.tmp 2) (.tmp 27) 26 rfl rfl (w.heap.size + 1) 0 _ _ #[.int .i64 0, .int .i64 0, .int .i64 0, .int .i64 0, .float .f64 0] rfl rfl (M3.out) ?sa2 ?sb2 ?sc2 ?_)
    case sa2 => kernel_rfl
    case sb2 => simp [Value.oneCell']
    case sc2 => simp
    intro w8 hb8 ho8
    rw [putCells_all #[.int .i64 0, .int .i64 0, .int .i64 0, .int .i64 0, .float .f64 0] #[.int .i64 0, .int .i64 0, .int .i64 0, .int .i64 0, .float .f64 0] rfl] at hb8
    have z0 := (hb8.cell 0).trans rfl; have z1 := (hb8.cell 1).trans rfl; have z2 := (hb8.cell 2).trans rfl; have z3 := (hb8.cell 3).trans rfl; have z4 := (hb8.cell 4).trans rfl
    have HO8 := Lib.hid ho8
    clear hb8 ho8
    go_wp2_with fail
    refine bodyPost_ret (v := .tuple #[.agg #[.int .i64 0, .int .i64 0, .int .i64 0, .int .i64 0, .float .f64 0], .bool false]) (by simp [results, Tryz.results14, go_sem, z0, z1, z2, z3, z4]) rfl ?_
    exact ⟨(B3.out).trans (Only.below HO8.out (by omega)), by rw [HX.out]; rfl⟩
  | ok p =>
    obtain ⟨pa1, pa2⟩ := p
    have HR2 := Lib.hid (show R = if rightC ⟨pa1, pa2, refO v1, refD v2, refX v3⟩ && (ctxT ⟨pa1, pa2, refO v1, refD v2, refX v3⟩).eqb Y then some ⟨pa1, pa2, refO v1, refD v2, refX v3⟩ else none by rw [HRE.out, ha])
    have HNU := Lib.hid (show Calls Tryz.prog 48 #[.string (bs v0), .string ⟨#[97, 35, 46, 35]⟩, .slice (some ⟨w.heap.size + 1 + 1, 0, none⟩) 2 2] (((w.alloc (.cells #[.string (bs n0), .string (bs n1), .slice (some ⟨e1, o1, none⟩) 4 ca, .slice pk kx.length ck, .string (bs tx)] 47)).alloc (.cells #[.int .i64 0, .int .i64 0, .int .i64 0, .int .i64 0, .float .f64 0] 26)).alloc (.cells #[.int .i64 4, .int .i64 1000000] 3)) fun e w' => Below (w.heap.size + 1 + 1) ((w.alloc (.cells #[.string (bs n0), .string (bs n1), .slice (some ⟨e1, o1, none⟩) 4 ca, .slice pk kx.length ck, .string (bs tx)] 47)).alloc (.cells #[.int .i64 0, .int .i64 0, .int .i64 0, .int .i64 0, .float .f64 0] 26)) w' ∧ ∃ u, e = .returned (.tuple #[u, .int .i64 0]) ∧ Iv w' u [(pa1 : Int), (pa2 : Int)] from by
      have := n_act_ok ha (by omega) ((w.alloc (.cells #[.string (bs n0), .string (bs n1), .slice (some ⟨e1, o1, none⟩) 4 ca, .slice pk kx.length ck, .string (bs tx)] 47)).alloc (.cells #[.int .i64 0, .int .i64 0, .int .i64 0, .int .i64 0, .float .f64 0] 26))
      rwa [show ((w.alloc (.cells #[.string (bs n0), .string (bs n1), .slice (some ⟨e1, o1, none⟩) 4 ca, .slice pk kx.length ck, .string (bs tx)] 47)).alloc (.cells #[.int .i64 0, .int .i64 0, .int .i64 0, .int .i64 0, .float .f64 0] 26)).heap.size = w.heap.size + 1 + 1 by simp] at this)
    have j0 := Below.keeps B1.out _ _ k0
    have hab := (toActT_some ha)
    have ha1 := hab.1
    have ha2 := hab.2.1
    clear ha hab HRE
    go_enter Tryz.func14, Tryz.ntmps14
    go_wp2_with fail
    refine HNU.out.mono ?_
    rintro e w3 ⟨hb3, u, rfl, hiv⟩
    obtain ⟨pu, cu, rfl, hu1, hu2, hrd⟩ := hiv
    obtain ⟨ub, uo, rfl, huc⟩ := hrd.has (by simp [ivs])
    have u0 : w3.cell? ⟨ub, uo, none⟩ = some (.int .i64 (pa1 : Int)) := huc 0 _ rfl
    have u1 : w3.cell? ⟨ub, uo + 1, none⟩ = some (.int .i64 (pa2 : Int)) := huc 1 _ rfl
    have B3 := Lib.hid (B1.out.trans (hb3.mono (by omega)))
    have M3 := Lib.hid (M1.out.below hb3 (by omega))
    have N3 := Lib.hid (N1.out.below hb3 (by omega))
    have k1 := Below.keeps B3.out _ _ k1
    have k2 := Below.keeps B3.out _ _ k2
    have k3 := Below.keeps B3.out _ _ k3
    clear hb3 HNU j0 k0 c2 huc hrd hu1 hu2
    go_wp2_with fail
    refine wp_phi_tail (List.take 16 _) (List.drop 16 _) (List.take_append_drop 16 _).symm (fun w' => (Blk w' w.heap.size 47 #[.string (bs n0), .string (bs n1), .slice (some ⟨e1, o1, none⟩) 4 ca, .slice pk kx.length ck, .string (bs tx)]) ∧ (Blk w' (w.heap.size + 1) 26 #[.int .i64 0, .int .i64 0, .int .i64 0, .int .i64 0, .float .f64 0]) ∧ (w'.cell? ⟨ub, uo, none⟩ = some (.int .i64 (pa1 : Int))) ∧ (w'.cell? ⟨ub, uo + 1, none⟩ = some (.int .i64 (pa2 : Int))) ∧ (w'.cell? ⟨e1, o1 + 3 + 2, none⟩ = some (.string (bs v1))) ∧ (w'.cell? ⟨e1, o1 + 6 + 2, none⟩ = some (.string (bs v2))) ∧ (w'.cell? ⟨e1, o1 + 9 + 2, none⟩ = some (.string (bs v3))) ∧ Below w.heap.size w w') [(12, PVal (.int .i64 (refD v2))), (15, PNew (w.heap.size + 2) 26 #[.int .i64 0, .int .i64 0, .int .i64 0, .int .i64 0, .float .f64 0])] [] (by kernel_rfl) (by kernel_rfl) ?_ ?_ ⟨N3.out, M3.out, u0, u1, k1, k2, k3, (B3.out).drew⟩ ?_
    · rintro w1' w2' ⟨f1, f2, f3, f4, f5, f6, f7, hIB⟩ hb
      exact ⟨(by first | exact f1.below hb | exact f1.keep (Below.keeps hb) | exact Below.keeps hb _ _ f1 | exact Blk.below f1 hb (Blk.lt f1)), (by first | exact f2.below hb | exact f2.keep (Below.keeps hb) | exact Below.keeps hb _ _ f2 | exact Blk.below f2 hb (Blk.lt f2)), (by first | exact f3.below hb | exact f3.keep (Below.keeps hb) | exact Below.keeps hb _ _ f3 | exact Blk.below f3 hb (Blk.lt f3)), (by first | exact f4.below hb | exact f4.keep (Below.keeps hb) | exact Below.keeps hb _ _ f4 | exact Blk.below f4 hb (Blk.lt f4)), (by first | exact f5.below hb | exact f5.keep (Below.keeps hb) | exact Below.keeps hb _ _ f5 | exact Blk.below f5 hb (Blk.lt f5)), (by first | exact f6.below hb | exact f6.keep (Below.keeps hb) | exact Below.keeps hb _ _ f6 | exact Blk.below f6 hb (Blk.lt f6)), (by first | exact f7.below hb | exact f7.keep (Below.keeps hb) | exact Below.keeps hb _ _ f7 | exact Blk.below f7 hb (Blk.lt f7)), hIB.trans (hb.mono hIB.size)⟩
    · simp only [List.mem_cons, List.not_mem_nil, or_false, forall_eq_or_imp, forall_eq]
      exact ⟨fun _ _ _ _ h' h => PVal_stays _ _ _ _ h' h, fun _ _ _ _ h' h => PNew_stays h' h⟩
    simp only [List.take_succ_cons, List.take_zero, List.drop_succ_cons, List.drop_zero]
    repeat (first | (refine phi_skipK rfl (fun K hK => ?_); simp only [Act.put, List.setIfInBounds_toArray, List.set_cons_succ, List.set_cons_zero]; (try simp only [List.cons_append]); (try simp only [List.nil_append]); apply hK; clear hK K) | (refine phi_pureK rfl rfl (fun K hK => ?_); apply Exists.intro; constructor; (focus (rintro w' ⟨f1, f2, f3, f4, f5, f6, f7, hIB⟩; have g2 := (f1.cell 2).trans rfl; have hfb := run_frombits 9218868437227405312 w'; clear f1 f2 hIB; first | (go_simp; done) | (go_simp; (try go_bits); (try go_simp); rfl) | go_simp)); simp only [Act.put, List.setIfInBounds_toArray, List.set_cons_succ, List.set_cons_zero]; (try simp only [List.cons_append]); (try simp only [List.nil_append]); apply hK; clear hK K))
    refine phi_partK (PVal (.int .i64 (refD v2))) rfl rfl ⟨_, rfl⟩ ?_ (fun K hK v hv => ?_)
    · rintro w' ⟨f1, f2, f3, f4, f5, f6, f7, hIB⟩ hf
      unfold gives
      clear hf
      go_simp
      refine (refdigitsG v2 (by omega) _).mono ?_
      rintro e w'' ⟨rfl, hb⟩
      exact ⟨_, rfl, rfl, trivial, hb⟩
    obtain rfl : v = _ := hv
    simp only [Act.put, List.setIfInBounds_toArray, List.set_cons_succ, List.set_cons_zero]; (try simp only [List.cons_append]); (try simp only [List.nil_append])
    apply hK
    clear hK K
    repeat (first | (refine phi_skipK rfl (fun K hK => ?_); simp only [Act.put, List.setIfInBounds_toArray, List.set_cons_succ, List.set_cons_zero]; (try simp only [List.cons_append]); (try simp only [List.nil_append]); apply hK; clear hK K) | (refine phi_pureK rfl rfl (fun K hK => ?_); apply Exists.intro; constructor; (focus (rintro w' ⟨f1, f2, f3, f4, f5, f6, f7, hIB⟩; have g2 := (f1.cell 2).trans rfl; have hfb := run_frombits 9218868437227405312 w'; clear f1 f2 hIB; first | (go_simp; done) | (go_simp; (try go_bits); (try go_simp); rfl) | go_simp)); simp only [Act.put, List.setIfInBounds_toArray, List.set_cons_succ, List.set_cons_zero]; (try simp only [List.cons_append]); (try simp only [List.nil_append]); apply hK; clear hK K))
    refine phi_partK (PNew (w.heap.size + 2) 26 #[.int .i64 0, .int .i64 0, .int .i64 0, .int .i64 0, .float .f64 0]) rfl rfl ⟨_, 0, rfl⟩ ?_ (fun K hK v hv => ?_)
    · rintro w' ⟨f1, f2, f3, f4, f5, f6, f7, hIB⟩ hf
      have HGS := Lib.hid (show w.heap.size + 2 ≤ w'.heap.size from f2.lt)
      clear hf f1 f2 f3 f4 f5 f6 f7 hIB
      unfold gives
      go_simp
      refine ⟨⟨_, rfl⟩, fun g hg => ?_, below_alloc1 _ _⟩
      obtain rfl : w'.heap.size = g := by simpa using hg
      exact ⟨HGS.out, Blk.new _ _ _⟩
    obtain ⟨g_15, rfl⟩ := hv
    simp only [Act.put, List.setIfInBounds_toArray, List.set_cons_succ, List.set_cons_zero]; (try simp only [List.cons_append]); (try simp only [List.nil_append])
    apply hK
    clear hK K
    repeat (first | (refine phi_skipK rfl (fun K hK => ?_); simp only [Act.put, List.setIfInBounds_toArray, List.set_cons_succ, List.set_cons_zero]; (try simp only [List.cons_append]); (try simp only [List.nil_append]); apply hK; clear hK K) | (refine phi_pureK rfl rfl (fun K hK => ?_); apply Exists.intro; constructor; (focus (rintro w' ⟨f1, f2, f3, f4, f5, f6, f7, hIB⟩; have g2 := (f1.cell 2).trans rfl; have hfb := run_frombits 9218868437227405312 w'; clear f1 f2 hIB; first | (go_simp; done) | (go_simp; (try go_bits); (try go_simp); rfl) | go_simp)); simp only [Act.put, List.setIfInBounds_toArray, List.set_cons_succ, List.set_cons_zero]; (try simp only [List.cons_append]); (try simp only [List.nil_append]); apply hK; clear hK K))
    refine phi_done ?_
    rintro w5 ⟨f1, f2, f3, f4, f5, f6, f7, hb5⟩ hk9
    have hb_15 := hk9 (15, fun w1 => (PNew (w.heap.size + 2) 26 #[.int .i64 0, .int .i64 0, .int .i64 0, .int .i64 0, .float .f64 0]).fact w1 (.pointer (some ⟨g_15, 0, none⟩))) (by simp) g_15 rfl
    clear hk9
    obtain ⟨hgb, hgk⟩ := hb_15
    have hne : e1 ≠ g_15 := by
      rintro rfl
      have := f7.symm.trans (hgk.cell (o1 + 9 + 2))
      simp at this
    generalize g_15 = gc at *
    refine wpList_store (.tmp 6) (.tmp 42) 26 rfl rfl gc 0 _ _ #[.int .i64 (pa1 : Int), .int .i64 (pa2 : Int), .int .i64 1, .int .i64 (refD v2), .float .f64 infR] rfl rfl hgk (by kernel_rfl) (by simp [Value.oneCell']) (by simp) ?_
    intro w6 hn6 ko6
    have C6 := Lib.hid (show Blk w6 gc 26 #[.int .i64 (pa1 : Int), .int .i64 (pa2 : Int), .int .i64 1, .int .i64 (refD v2), .float .f64 infR] from hn6)
    have N6 := Lib.hid (ko6.blk f1 (by omega))
    have M6 := Lib.hid (ko6.blk f2 (by omega))
    have k1 : w6.cell? ⟨e1, o1 + 3 + 2, none⟩ = some (.string (bs v1)) := (World.cell?_of_block (ko6.block e1 hne)).trans f5
    have k3 : w6.cell? ⟨e1, o1 + 9 + 2, none⟩ = some (.string (bs v3)) := (World.cell?_of_block (ko6.block e1 hne)).trans f7
    have B6 := Lib.hid (hb5.trans (ko6.below (by omega)))
    have y2 := (N6.out.cell 2).trans rfl
    clear hn6 ko6 f1 f2 f3 f4 f5 f6 f7 hb5 hgk k2 u0 u1
    -- the outcome
    have HO1 : ∃ w7, (w7 = if v1 = [109, 105, 120, 101, 100] then w6.setCell ⟨gc, 2, none⟩ (.int .i64 2) else w6) ∧ Blk w7 gc 26 #[.int .i64 (pa1 : Int), .int .i64 (pa2 : Int), .int .i64 (refO v1), .int .i64 (refD v2), .float .f64 infR] ∧ Blk w7 w.heap.size 47 #[.string (bs n0), .string (bs n1), .slice (some ⟨e1, o1, none⟩) 4 ca, .slice pk kx.length ck, .string (bs tx)] ∧ Blk w7 (w.heap.size + 1) 26 #[.int .i64 0, .int .i64 0, .int .i64 0, .int .i64 0, .float .f64 0] ∧ w7.cell? ⟨e1, o1 + 9 + 2, none⟩ = some (.string (bs v3)) ∧ Below w.heap.size w w7 := by
      refine ⟨_, rfl, ?_⟩
      by_cases hm : v1 = [109, 105, 120, 101, 100]
      · rw [if_pos hm]
        have hr : refO v1 = 2 := by unfold refO; rw [if_pos hm]
        rw [hr]
        have O := (Only.refl gc w6).set_ 2 (.int .i64 2)
        exact ⟨C6.out.set_ 2 _, O.blk N6.out (by omega), O.blk M6.out (by omega), (World.cell?_of_block (O.block e1 hne)).trans k3, B6.out.trans (O.below (by omega))⟩
      · rw [if_neg hm]
        have hr : refO v1 = 1 := by unfold refO; rw [if_neg hm]
        rw [hr]
        exact ⟨C6.out, N6.out, M6.out, k3, B6.out⟩
    obtain ⟨w7, hw7, C7, N7, M7, k7, B7⟩ := HO1
    have HC7 := Lib.hid C7; have HN7 := Lib.hid N7; have HM7 := Lib.hid M7; have HB7 := Lib.hid B7; have HK7 := Lib.hid k7
    have r2 := (N7.cell 2).trans rfl
    have d1 := (C6.out.cell 1).trans rfl; have d2 := (C6.out.cell 2).trans rfl; have fd := C6.out.frozen 2
    have HW7 := Lib.hid hw7
    clear C7 N7 M7 B7 hw7
    have hgc : w.heap.size + 2 ≤ gc := hgb
    by_cases hnv : v3 = neverL
    · have hy : (v3 == [110, 101, 118, 101, 114]) = true := by rw [hnv]; rfl
      have HXV := Lib.hid (show infR = refX v3 by unfold refX; rw [if_pos hnv])
      have CX := HC7; have NX := HN7; have MX := HM7; have BX := HB7
      clear hnv
      by_cases hm : v1 = [109, 105, 120, 101, 100]
      · have hz : (v1 == [109, 105, 120, 101, 100]) = true := by rw [hm]; rfl
        rw [if_pos hm] at HW7
        have hk := k7
        have hr2 := r2
        rw [HW7.out] at hk hr2
        clear hm
        go_wp2_with fail
        rw [← HW7.out]
        clear k1 k3 k7 hk r2 hr2 d1 d2 fd hz hy y2
        have HRX := Lib.hid (show R = if rightC ⟨(pa1 : Int), (pa2 : Int), refO v1, refD v2, infR⟩ && (ctxT ⟨(pa1 : Int), (pa2 : Int), refO v1, refD v2, infR⟩).eqb Y then some ⟨(pa1 : Int), (pa2 : Int), refO v1, refD v2, infR⟩ else none by rw [HR2.out, ← HXV.out])
        cases hr : rightC ⟨(pa1 : Int), (pa2 : Int), refO v1, refD v2, infR⟩
        · have HX := Lib.hid (show R = none by rw [HRX.out, hr]; rfl)
          have hs := Lib.hid (fun w' => (hr ▸ rright_any (pa1 : Int) (pa2 : Int) (refO v1) (refD v2) (infR) (infR_lt) w' : Calls Tryz.prog 6 #[.agg #[.int .i64 (pa1 : Int), .int .i64 (pa2 : Int), .int .i64 (refO v1), .int .i64 (refD v2), .float .f64 (infR)]] w' fun e w'' => e = .returned (.bool false) ∧ Below w'.heap.size w' w''))
          clear hr
          refine wp_phi (fun w' => (Blk w' gc 26 #[.int .i64 (pa1 : Int), .int .i64 (pa2 : Int), .int .i64 (refO v1), .int .i64 (refD v2), .float .f64 (infR)]) ∧ (Blk w' w.heap.size 47 #[.string (bs n0), .string (bs n1), .slice (some ⟨e1, o1, none⟩) 4 ca, .slice pk kx.length ck, .string (bs tx)]) ∧ (Blk w' (w.heap.size + 1) 26 #[.int .i64 0, .int .i64 0, .int .i64 0, .int .i64 0, .float .f64 0]) ∧ Below w.heap.size w w') [(1, PVal (.bool false))] [] (by kernel_rfl) (by kernel_rfl) ?_ ?_ ⟨CX.out, NX.out, MX.out, (BX.out).drew⟩ ?_
          · rintro w1' w2' ⟨f1, f2, f3, hIB⟩ hb
            exact ⟨(by first | exact f1.below hb | exact f1.keep (Below.keeps hb) | exact Below.keeps hb _ _ f1 | exact Blk.below f1 hb (Blk.lt f1)), (by first | exact f2.below hb | exact f2.keep (Below.keeps hb) | exact Below.keeps hb _ _ f2 | exact Blk.below f2 hb (Blk.lt f2)), (by first | exact f3.below hb | exact f3.keep (Below.keeps hb) | exact Below.keeps hb _ _ f3 | exact Blk.below f3 hb (Blk.lt f3)), hIB.trans (hb.mono hIB.size)⟩
          · simp only [List.mem_cons, List.not_mem_nil, or_false, forall_eq_or_imp, forall_eq]
            exact fun _ _ _ _ h' h => PVal_stays _ _ _ _ h' h
          repeat (first | (refine phi_skipK rfl (fun K hK => ?_); simp only [Act.put, List.setIfInBounds_toArray, List.set_cons_succ, List.set_cons_zero]; (try simp only [List.cons_append]); (try simp only [List.nil_append]); apply hK; clear hK K) | (refine phi_pureK rfl rfl (fun K hK => ?_); apply Exists.intro; constructor; (focus (rintro w' ⟨f1, f2, f3, hIB⟩; have q0 := (f1.cell 0).trans rfl; have q1 := (f1.cell 1).trans rfl; have q2 := (f1.cell 2).trans rfl; have q3 := (f1.cell 3).trans rfl; have q4 := (f1.cell 4).trans rfl; have p0 := (f2.cell 0).trans rfl; have p1 := (f2.cell 1).trans rfl; have p2 := (f2.cell 2).trans rfl; have p3 := (f2.cell 3).trans rfl; have p4 := (f2.cell 4).trans rfl; clear f1 f2 f3 hIB; first | (go_simp; done) | (go_simp; (try go_bits); (try go_simp); rfl) | go_simp)); simp only [Act.put, List.setIfInBounds_toArray, List.set_cons_succ, List.set_cons_zero]; (try simp only [List.cons_append]); (try simp only [List.nil_append]); apply hK; clear hK K))
          refine phi_partK (PVal (.bool false)) rfl rfl ⟨_, rfl⟩ ?_ (fun K hK v hv => ?_)
          · rintro w' ⟨f1, f2, f3, hIB⟩ hf
            unfold gives
            clear hf
            go_simp
            refine (hs.out _).mono ?_
            rintro e w'' ⟨rfl, hb⟩
            exact ⟨_, rfl, rfl, trivial, hb⟩
          obtain rfl : v = _ := hv
          simp only [Act.put, List.setIfInBounds_toArray, List.set_cons_succ, List.set_cons_zero]; (try simp only [List.cons_append]); (try simp only [List.nil_append])
          apply hK
          clear hK K
          repeat (first | (refine phi_skipK rfl (fun K hK => ?_); simp only [Act.put, List.setIfInBounds_toArray, List.set_cons_succ, List.set_cons_zero]; (try simp only [List.cons_append]); (try simp only [List.nil_append]); apply hK; clear hK K) | (refine phi_pureK rfl rfl (fun K hK => ?_); apply Exists.intro; constructor; (focus (rintro w' ⟨f1, f2, f3, hIB⟩; have q0 := (f1.cell 0).trans rfl; have q1 := (f1.cell 1).trans rfl; have q2 := (f1.cell 2).trans rfl; have q3 := (f1.cell 3).trans rfl; have q4 := (f1.cell 4).trans rfl; have p0 := (f2.cell 0).trans rfl; have p1 := (f2.cell 1).trans rfl; have p2 := (f2.cell 2).trans rfl; have p3 := (f2.cell 3).trans rfl; have p4 := (f2.cell 4).trans rfl; clear f1 f2 f3 hIB; first | (go_simp; done) | (go_simp; (try go_bits); (try go_simp); rfl) | go_simp)); simp only [Act.put, List.setIfInBounds_toArray, List.set_cons_succ, List.set_cons_zero]; (try simp only [List.cons_append]); (try simp only [List.nil_append]); apply hK; clear hK K))
          refine phi_done ?_
          rintro w9 ⟨f1, f2, f3, hb9⟩ _
          refine wpList_nil ?_
          have M9 := Lib.hid f3
          have HB9 := Lib.hid hb9
          clear f1 f2 f3 hb9
          go_wp2_with (refine wpList_store (.tmp 2) (.tmp 118) 26 rfl rfl (w.heap.size + 1) 0 _ _ #[.int .i64 0, .int .i64 0, .int .i64 0, .int .i64 0, .float .f64 0] rfl rfl (M9.out) ?sa1 ?sb1 ?sc1 ?_)
          case sa1 => kernel_rfl
          case sb1 => simp [Value.oneCell']
          case sc1 => simp
          intro w8 hb8 ho8
          rw [putCells_all #[.int .i64 0, .int .i64 0, .int .i64 0, .int .i64 0, .float .f64 0] #[.int .i64 0, .int .i64 0, .int .i64 0, .int .i64 0, .float .f64 0] rfl] at hb8
          have z0 := (hb8.cell 0).trans rfl; have z1 := (hb8.cell 1).trans rfl; have z2 := (hb8.cell 2).trans rfl; have z3 := (hb8.cell 3).trans rfl; have z4 := (hb8.cell 4).trans rfl
          have HO8 := Lib.hid ho8
          clear hb8 ho8
          go_wp2_with fail
          refine bodyPost_ret (v := .tuple #[.agg #[.int .i64 0, .int .i64 0, .int .i64 0, .int .i64 0, .float .f64 0], .bool false]) (by simp [results, Tryz.results14, go_sem, z0, z1, z2, z3, z4]) rfl ?_
          exact ⟨(HB9.out).trans (Only.below HO8.out (by omega)), by rw [HX.out]; rfl⟩
        · have HRR := Lib.hid hr
          have hs := Lib.hid (fun w' => (hr ▸ rright_any (pa1 : Int) (pa2 : Int) (refO v1) (refD v2) (infR) (infR_lt) w' : Calls Tryz.prog 6 #[.agg #[.int .i64 (pa1 : Int), .int .i64 (pa2 : Int), .int .i64 (refO v1), .int .i64 (refD v2), .float .f64 (infR)]] w' fun e w'' => e = .returned (.bool true) ∧ Below w'.heap.size w' w''))
          have hcx := Lib.hid (fun w' => refctx_any (pa1 : Int) (pa2 : Int) (refO v1) (refD v2) (infR) hr w')
          clear hr
          refine wp_phi (fun w' => Blk w' gc 26 #[.int .i64 (pa1 : Int), .int .i64 (pa2 : Int), .int .i64 (refO v1), .int .i64 (refD v2), .float .f64 (infR)] ∧ Blk w' w.heap.size 47 #[.string (bs n0), .string (bs n1), .slice (some ⟨e1, o1, none⟩) 4 ca, .slice pk kx.length ck, .string (bs tx)] ∧ Blk w' (w.heap.size + 1) 26 #[.int .i64 0, .int .i64 0, .int .i64 0, .int .i64 0, .float .f64 0] ∧ Below w.heap.size w w') [(1, PVal (.bool true)), (5, PTr2 (ctxT ⟨(pa1 : Int), (pa2 : Int), refO v1, refD v2, infR⟩) w.heap.size), (7, PVal (.bool ((ctxT ⟨(pa1 : Int), (pa2 : Int), refO v1, refD v2, infR⟩).eqb Y)))] [(7, [5])] (by kernel_rfl) (by kernel_rfl) ?_ ?_ ⟨CX.out, NX.out, MX.out, BX.out.drew⟩ ?_
          · rintro w1' w2' ⟨g1, g2, g3, g4⟩ hb
            exact ⟨g1.below hb g1.lt, g2.below hb g2.lt, g3.below hb g3.lt, g4.trans (hb.mono g4.size)⟩
          · simp only [List.mem_cons, List.not_mem_nil, or_false, forall_eq_or_imp, forall_eq]
            exact ⟨fun _ _ _ _ _ h => h, fun _ _ _ _ hb h => PTr2_stays hb h, fun _ _ _ _ _ h => h⟩
          repeat (first | (refine phi_skipK rfl (fun K hK => ?_); simp only [Act.put, List.setIfInBounds_toArray, List.set_cons_succ, List.set_cons_zero]; (try simp only [List.cons_append]); (try simp only [List.nil_append]); apply hK; clear hK K) | (refine phi_pureK rfl rfl (fun K hK => ?_); apply Exists.intro; constructor; (focus (rintro w' ⟨f1, f2, f3, hIB⟩; (have q0 := (f1.cell 0).trans rfl; have q1 := (f1.cell 1).trans rfl; have q2 := (f1.cell 2).trans rfl; have q3 := (f1.cell 3).trans rfl; have q4 := (f1.cell 4).trans rfl; have p0 := (f2.cell 0).trans rfl; have p1 := (f2.cell 1).trans rfl; have p2 := (f2.cell 2).trans rfl; have p3 := (f2.cell 3).trans rfl; have p4 := (f2.cell 4).trans rfl; clear f1 f2 f3 hIB); first | (go_simp; done) | (go_simp; (try go_bits); (try go_simp); rfl) | go_simp)); simp only [Act.put, List.setIfInBounds_toArray, List.set_cons_succ, List.set_cons_zero]; (try simp only [List.cons_append]); (try simp only [List.nil_append]); apply hK; clear hK K))
          refine phi_partK (PVal (.bool true)) rfl rfl ⟨_, rfl⟩ ?_ (fun K hK v hv => ?_)
          · rintro w' _ _
            unfold gives
            go_simp
            refine (hs.out w').mono ?_
            rintro e w'' ⟨rfl, hb⟩
            exact ⟨_, rfl, rfl, trivial, hb⟩
          obtain rfl : v = _ := hv
          simp only [Act.put, List.setIfInBounds_toArray, List.set_cons_succ, List.set_cons_zero]; (try simp only [List.cons_append]); (try simp only [List.nil_append])
          apply hK
          clear hK K
          repeat (first | (refine phi_skipK rfl (fun K hK => ?_); simp only [Act.put, List.setIfInBounds_toArray, List.set_cons_succ, List.set_cons_zero]; (try simp only [List.cons_append]); (try simp only [List.nil_append]); apply hK; clear hK K) | (refine phi_pureK rfl rfl (fun K hK => ?_); apply Exists.intro; constructor; (focus (rintro w' ⟨f1, f2, f3, hIB⟩; (have q0 := (f1.cell 0).trans rfl; have q1 := (f1.cell 1).trans rfl; have q2 := (f1.cell 2).trans rfl; have q3 := (f1.cell 3).trans rfl; have q4 := (f1.cell 4).trans rfl; have p0 := (f2.cell 0).trans rfl; have p1 := (f2.cell 1).trans rfl; have p2 := (f2.cell 2).trans rfl; have p3 := (f2.cell 3).trans rfl; have p4 := (f2.cell 4).trans rfl; clear f1 f2 f3 hIB); first | (go_simp; done) | (go_simp; (try go_bits); (try go_simp); rfl) | go_simp)); simp only [Act.put, List.setIfInBounds_toArray, List.set_cons_succ, List.set_cons_zero]; (try simp only [List.cons_append]); (try simp only [List.nil_append]); apply hK; clear hK K))
          refine phi_partK (PTr2 (ctxT ⟨(pa1 : Int), (pa2 : Int), refO v1, refD v2, infR⟩) w.heap.size) rfl rfl ⟨_, .nilIface, .nilIface, .nilIface, .nilIface, .nilIface, rfl⟩ ?_ (fun K hK v hv => ?_)
          · rintro w' ⟨_, _, _, hIB⟩ _
            have HS := Lib.hid hIB.size
            clear hIB
            unfold gives
            go_simp
            refine (hcx.out w').mono ?_
            rintro e w'' ⟨cs, rfl, hcs, hb⟩
            obtain ⟨d0, d1, d2, d3, d4, rfl⟩ := cells5 hcs ⟨rfl, by simp [ctxT], trivial⟩
            exact ⟨_, rfl, ⟨d0, d1, d2, d3, d4, rfl⟩, ⟨_, w''.heap.size, rfl, hcs.imp (fun b hb => ⟨Nat.le_trans HS.out hb.1, hb.2⟩), Nat.le_refl _⟩, hb⟩
          obtain ⟨d0, d1, d2, d3, d4, rfl⟩ := hv
          simp only [Act.put, List.setIfInBounds_toArray, List.set_cons_succ, List.set_cons_zero]; (try simp only [List.cons_append]); (try simp only [List.nil_append])
          apply hK
          clear hK K
          repeat (first | (refine phi_skipK rfl (fun K hK => ?_); simp only [Act.put, List.setIfInBounds_toArray, List.set_cons_succ, List.set_cons_zero]; (try simp only [List.cons_append]); (try simp only [List.nil_append]); apply hK; clear hK K) | (refine phi_pureK rfl rfl (fun K hK => ?_); apply Exists.intro; constructor; (focus (rintro w' ⟨f1, f2, f3, hIB⟩; (have q0 := (f1.cell 0).trans rfl; have q1 := (f1.cell 1).trans rfl; have q2 := (f1.cell 2).trans rfl; have q3 := (f1.cell 3).trans rfl; have q4 := (f1.cell 4).trans rfl; have p0 := (f2.cell 0).trans rfl; have p1 := (f2.cell 1).trans rfl; have p2 := (f2.cell 2).trans rfl; have p3 := (f2.cell 3).trans rfl; have p4 := (f2.cell 4).trans rfl; clear f1 f2 f3 hIB); first | (go_simp; done) | (go_simp; (try go_bits); (try go_simp); rfl) | go_simp)); simp only [Act.put, List.setIfInBounds_toArray, List.set_cons_succ, List.set_cons_zero]; (try simp only [List.cons_append]); (try simp only [List.nil_append]); apply hK; clear hK K))
          refine phi_partK (PVal (.bool ((ctxT ⟨(pa1 : Int), (pa2 : Int), refO v1, refD v2, infR⟩).eqb Y))) rfl rfl ⟨_, rfl⟩ ?_ (fun K hK v hv => ?_)
          · rintro w' ⟨_, _, _, hIB⟩ hf
            obtain ⟨cs, B, ecs, hcs, _⟩ := hf (5, fun w1 => (PTr2 (ctxT ⟨(pa1 : Int), (pa2 : Int), refO v1, refD v2, infR⟩) w.heap.size).fact w1 (.agg #[d0, d1, d2, d3, d4])) (by simp) (List.contains_iff_mem.1 rfl)
            injection ecs with ecs
            have ecs2 : cs = [d0, d1, d2, d3, d4] := by
              have := congrArg Array.toList ecs
              simpa using this.symm
            subst ecs2
            have HSA := Lib.hid (refsame_any _ (ctxT ⟨(pa1 : Int), (pa2 : Int), refO v1, refD v2, infR⟩) Y _ P _ _ w' (Nat.le_refl _) ⟨rfl, by simp [ctxT], trivial⟩ HY0.out hcs (HCY.out.below hIB))
            clear hIB hf hcs ecs
            unfold gives
            go_simp
            refine HSA.out.mono ?_
            rintro e w'' ⟨rfl, hb⟩
            exact ⟨_, rfl, rfl, trivial, hb⟩
          obtain rfl : v = _ := hv
          simp only [Act.put, List.setIfInBounds_toArray, List.set_cons_succ, List.set_cons_zero]; (try simp only [List.cons_append]); (try simp only [List.nil_append])
          apply hK
          clear hK K
          repeat (first | (refine phi_skipK rfl (fun K hK => ?_); simp only [Act.put, List.setIfInBounds_toArray, List.set_cons_succ, List.set_cons_zero]; (try simp only [List.cons_append]); (try simp only [List.nil_append]); apply hK; clear hK K) | (refine phi_pureK rfl rfl (fun K hK => ?_); apply Exists.intro; constructor; (focus (rintro w' ⟨f1, f2, f3, hIB⟩; (clear f1 f2 f3 hIB); first | (go_simp; done) | (go_simp; (try go_bits); (try go_simp); rfl) | go_simp)); simp only [Act.put, List.setIfInBounds_toArray, List.set_cons_succ, List.set_cons_zero]; (try simp only [List.cons_append]); (try simp only [List.nil_append]); apply hK; clear hK K))
          refine phi_done ?_
          rintro w9 ⟨f1, f2, f3, hb9⟩ _
          refine wpList_nil ?_
          have M9 := Lib.hid f3
          have C9 := Lib.hid f1
          have HB9 := Lib.hid hb9
          have q0 := (f1.cell 0).trans rfl; have q1 := (f1.cell 1).trans rfl; have q2 := (f1.cell 2).trans rfl; have q3 := (f1.cell 3).trans rfl; have q4 := (f1.cell 4).trans rfl
          clear f1 f2 f3 hb9 hs hcx
          cases hq : (ctxT ⟨(pa1 : Int), (pa2 : Int), refO v1, refD v2, infR⟩).eqb Y
          · have HX := Lib.hid (show R = none by rw [HRX.out, hq, Bool.and_false]; rfl)
            clear hq q0 q1 q2 q3 q4
            go_wp2_with (refine wpList_store (.tmp 2) (.tmp 118) 26 rfl rfl (w.heap.size + 1) 0 _ _ #[.int .i64 0, .int .i64 0, .int .i64 0, .int .i64 0, .float .f64 0] rfl rfl (M9.out) ?saa1 ?sba1 ?sca1 ?_)
            case saa1 => kernel_rfl
            case sba1 => simp [Value.oneCell']
            case sca1 => simp
            intro w8 hb8 ho8
            rw [putCells_all #[.int .i64 0, .int .i64 0, .int .i64 0, .int .i64 0, .float .f64 0] #[.int .i64 0, .int .i64 0, .int .i64 0, .int .i64 0, .float .f64 0] rfl] at hb8
            have z0 := (hb8.cell 0).trans rfl; have z1 := (hb8.cell 1).trans rfl; have z2 := (hb8.cell 2).trans rfl; have z3 := (hb8.cell 3).trans rfl; have z4 := (hb8.cell 4).trans rfl
            have HO8 := Lib.hid ho8
            clear hb8 ho8
            go_wp2_with fail
            refine bodyPost_ret (v := .tuple #[.agg #[.int .i64 0, .int .i64 0, .int .i64 0, .int .i64 0, .float .f64 0], .bool false]) (by simp [results, Tryz.results14, go_sem, z0, z1, z2, z3, z4]) rfl ?_
            exact ⟨(HB9.out).trans (Only.below HO8.out (by omega)), by rw [HX.out]; rfl⟩
          · have HX := Lib.hid (show R = some ⟨(pa1 : Int), (pa2 : Int), refO v1, refD v2, infR⟩ by rw [HRX.out, hq, HRR.out]; rfl)
            clear hq
            go_wp2_with (refine wpList_store (.tmp 2) (.tmp 119) 26 rfl rfl (w.heap.size + 1) 0 _ _ #[.int .i64 (pa1 : Int), .int .i64 (pa2 : Int), .int .i64 (refO v1), .int .i64 (refD v2), .float .f64 (infR)] rfl rfl M9.out ?sd1 ?se1 ?sf1 ?_)
            case sd1 => kernel_rfl
            case se1 => simp [Value.oneCell']
            case sf1 => simp
            intro w8 hb8 ho8
            rw [putCells_all #[.int .i64 0, .int .i64 0, .int .i64 0, .int .i64 0, .float .f64 0] #[.int .i64 (pa1 : Int), .int .i64 (pa2 : Int), .int .i64 (refO v1), .int .i64 (refD v2), .float .f64 (infR)] rfl] at hb8
            have z0 := (hb8.cell 0).trans rfl; have z1 := (hb8.cell 1).trans rfl; have z2 := (hb8.cell 2).trans rfl; have z3 := (hb8.cell 3).trans rfl; have z4 := (hb8.cell 4).trans rfl
            have HO8 := Lib.hid ho8
            clear hb8 ho8 q0 q1 q2 q3 q4
            go_wp2_with fail
            refine bodyPost_ret (v := .tuple #[.agg #[.int .i64 (pa1 : Int), .int .i64 (pa2 : Int), .int .i64 (refO v1), .int .i64 (refD v2), .float .f64 (infR)], .bool true]) (by simp [results, Tryz.results14, go_sem, z0, z1, z2, z3, z4]) rfl ?_
            exact ⟨HB9.out.trans (Only.below HO8.out (by omega)), by rw [HX.out]; rfl⟩
      · have hz : (v1 == [109, 105, 120, 101, 100]) = false := beq_eq_false_iff_ne.2 hm
        rw [if_neg hm] at HW7
        have hk := k7
        have hr2 := r2
        rw [HW7.out] at hk hr2
        clear hm
        go_wp2_with fail
        rw [← HW7.out]
        clear k1 k3 k7 hk r2 hr2 d1 d2 fd hz hy y2
        have HRX := Lib.hid (show R = if rightC ⟨(pa1 : Int), (pa2 : Int), refO v1, refD v2, infR⟩ && (ctxT ⟨(pa1 : Int), (pa2 : Int), refO v1, refD v2, infR⟩).eqb Y then some ⟨(pa1 : Int), (pa2 : Int), refO v1, refD v2, infR⟩ else none by rw [HR2.out, ← HXV.out])
        cases hr : rightC ⟨(pa1 : Int), (pa2 : Int), refO v1, refD v2, infR⟩
        · have HX := Lib.hid (show R = none by rw [HRX.out, hr]; rfl)
          have hs := Lib.hid (fun w' => (hr ▸ rright_any (pa1 : Int) (pa2 : Int) (refO v1) (refD v2) (infR) (infR_lt) w' : Calls Tryz.prog 6 #[.agg #[.int .i64 (pa1 : Int), .int .i64 (pa2 : Int), .int .i64 (refO v1), .int .i64 (refD v2), .float .f64 (infR)]] w' fun e w'' => e = .returned (.bool false) ∧ Below w'.heap.size w' w''))
          clear hr
          refine wp_phi (fun w' => (Blk w' gc 26 #[.int .i64 (pa1 : Int), .int .i64 (pa2 : Int), .int .i64 (refO v1), .int .i64 (refD v2), .float .f64 (infR)]) ∧ (Blk w' w.heap.size 47 #[.string (bs n0), .string (bs n1), .slice (some ⟨e1, o1, none⟩) 4 ca, .slice pk kx.length ck, .string (bs tx)]) ∧ (Blk w' (w.heap.size + 1) 26 #[.int .i64 0, .int .i64 0, .int .i64 0, .int .i64 0, .float .f64 0]) ∧ Below w.heap.size w w') [(1, PVal (.bool false))] [] (by kernel_rfl) (by kernel_rfl) ?_ ?_ ⟨CX.out, NX.out, MX.out, (BX.out).drew⟩ ?_
          · rintro w1' w2' ⟨f1, f2, f3, hIB⟩ hb
            exact ⟨(by first | exact f1.below hb | exact f1.keep (Below.keeps hb) | exact Below.keeps hb _ _ f1 | exact Blk.below f1 hb (Blk.lt f1)), (by first | exact f2.below hb | exact f2.keep (Below.keeps hb) | exact Below.keeps hb _ _ f2 | exact Blk.below f2 hb (Blk.lt f2)), (by first | exact f3.below hb | exact f3.keep (Below.keeps hb) | exact Below.keeps hb _ _ f3 | exact Blk.below f3 hb (Blk.lt f3)), hIB.trans (hb.mono hIB.size)⟩
          · simp only [List.mem_cons, List.not_mem_nil, or_false, forall_eq_or_imp, forall_eq]
            exact fun _ _ _ _ h' h => PVal_stays _ _ _ _ h' h
          repeat (first | (refine phi_skipK rfl (fun K hK => ?_); simp only [Act.put, List.setIfInBounds_toArray, List.set_cons_succ, List.set_cons_zero]; (try simp only [List.cons_append]); (try simp only [List.nil_append]); apply hK; clear hK K) | (refine phi_pureK rfl rfl (fun K hK => ?_); apply Exists.intro; constructor; (focus (rintro w' ⟨f1, f2, f3, hIB⟩; have q0 := (f1.cell 0).trans rfl; have q1 := (f1.cell 1).trans rfl; have q2 := (f1.cell 2).trans rfl; have q3 := (f1.cell 3).trans rfl; have q4 := (f1.cell 4).trans rfl; have p0 := (f2.cell 0).trans rfl; have p1 := (f2.cell 1).trans rfl; have p2 := (f2.cell 2).trans rfl; have p3 := (f2.cell 3).trans rfl; have p4 := (f2.cell 4).trans rfl; clear f1 f2 f3 hIB; first | (go_simp; done) | (go_simp; (try go_bits); (try go_simp); rfl) | go_simp)); simp only [Act.put, List.setIfInBounds_toArray, List.set_cons_succ, List.set_cons_zero]; (try simp only [List.cons_append]); (try simp only [List.nil_append]); apply hK; clear hK K))
          refine phi_partK (PVal (.bool false)) rfl rfl ⟨_, rfl⟩ ?_ (fun K hK v hv => ?_)
          · rintro w' ⟨f1, f2, f3, hIB⟩ hf
            unfold gives
            clear hf
            go_simp
            refine (hs.out _).mono ?_
            rintro e w'' ⟨rfl, hb⟩
            exact ⟨_, rfl, rfl, trivial, hb⟩
          obtain rfl : v = _ := hv
          simp only [Act.put, List.setIfInBounds_toArray, List.set_cons_succ, List.set_cons_zero]; (try simp only [List.cons_append]); (try simp only [List.nil_append])
          apply hK
          clear hK K
          repeat (first | (refine phi_skipK rfl (fun K hK => ?_); simp only [Act.put, List.setIfInBounds_toArray, List.set_cons_succ, List.set_cons_zero]; (try simp only [List.cons_append]); (try simp only [List.nil_append]); apply hK; clear hK K) | (refine phi_pureK rfl rfl (fun K hK => ?_); apply Exists.intro; constructor; (focus (rintro w' ⟨f1, f2, f3, hIB⟩; have q0 := (f1.cell 0).trans rfl; have q1 := (f1.cell 1).trans rfl; have q2 := (f1.cell 2).trans rfl; have q3 := (f1.cell 3).trans rfl; have q4 := (f1.cell 4).trans rfl; have p0 := (f2.cell 0).trans rfl; have p1 := (f2.cell 1).trans rfl; have p2 := (f2.cell 2).trans rfl; have p3 := (f2.cell 3).trans rfl; have p4 := (f2.cell 4).trans rfl; clear f1 f2 f3 hIB; first | (go_simp; done) | (go_simp; (try go_bits); (try go_simp); rfl) | go_simp)); simp only [Act.put, List.setIfInBounds_toArray, List.set_cons_succ, List.set_cons_zero]; (try simp only [List.cons_append]); (try simp only [List.nil_append]); apply hK; clear hK K))
          refine phi_done ?_
          rintro w9 ⟨f1, f2, f3, hb9⟩ _
          refine wpList_nil ?_
          have M9 := Lib.hid f3
          have HB9 := Lib.hid hb9
          clear f1 f2 f3 hb9
          go_wp2_with (refine wpList_store (.tmp 2) (.tmp 118) 26 rfl rfl (w.heap.size + 1) 0 _ _ #[.int .i64 0, .int .i64 0, .int .i64 0, .int .i64 0, .float .f64 0] rfl rfl (M9.out) ?sa2 ?sb2 ?sc2 ?_)
          case sa2 => kernel_rfl
          case sb2 => simp [Value.oneCell']
          case sc2 => simp
          intro w8 hb8 ho8
          rw [putCells_all #[.int .i64 0, .int .i64 0, .int .i64 0, .int .i64 0, .float .f64 0] #[.int .i64 0, .int .i64 0, .int .i64 0, .int .i64 0, .float .f64 0] rfl] at hb8
          have z0 := (hb8.cell 0).trans rfl; have z1 := (hb8.cell 1).trans rfl; have z2 := (hb8.cell 2).trans rfl; have z3 := (hb8.cell 3).trans rfl; have z4 := (hb8.cell 4).trans rfl
          have HO8 := Lib.hid ho8
          clear hb8 ho8
          go_wp2_with fail
          refine bodyPost_ret (v := .tuple #[.agg #[.int .i64 0, .int .i64 0, .int .i64 0, .int .i64 0, .float .f64 0], .bool false]) (by simp [results, Tryz.results14, go_sem, z0, z1, z2, z3, z4]) rfl ?_
          exact ⟨(HB9.out).trans (Only.below HO8.out (by omega)), by rw [HX.out]; rfl⟩
        · have HRR := Lib.hid hr
          have hs := Lib.hid (fun w' => (hr ▸ rright_any (pa1 : Int) (pa2 : Int) (refO v1) (refD v2) (infR) (infR_lt) w' : Calls Tryz.prog 6 #[.agg #[.int .i64 (pa1 : Int), .int .i64 (pa2 : Int), .int .i64 (refO v1), .int .i64 (refD v2), .float .f64 (infR)]] w' fun e w'' => e = .returned (.bool true) ∧ Below w'.heap.size w' w''))
          have hcx := Lib.hid (fun w' => refctx_any (pa1 : Int) (pa2 : Int) (refO v1) (refD v2) (infR) hr w')
          clear hr
          refine wp_phi (fun w' => Blk w' gc 26 #[.int .i64 (pa1 : Int), .int .i64 (pa2 : Int), .int .i64 (refO v1), .int .i64 (refD v2), .float .f64 (infR)] ∧ Blk w' w.heap.size 47 #[.string (bs n0), .string (bs n1), .slice (some ⟨e1, o1, none⟩) 4 ca, .slice pk kx.length ck, .string (bs tx)] ∧ Blk w' (w.heap.size + 1) 26 #[.int .i64 0, .int .i64 0, .int .i64 0, .int .i64 0, .float .f64 0] ∧ Below w.heap.size w w') [(1, PVal (.bool true)), (5, PTr2 (ctxT ⟨(pa1 : Int), (pa2 : Int), refO v1, refD v2, infR⟩) w.heap.size), (7, PVal (.bool ((ctxT ⟨(pa1 : Int), (pa2 : Int), refO v1, refD v2, infR⟩).eqb Y)))] [(7, [5])] (by kernel_rfl) (by kernel_rfl) ?_ ?_ ⟨CX.out, NX.out, MX.out, BX.out.drew⟩ ?_
          · rintro w1' w2' ⟨g1, g2, g3, g4⟩ hb
            exact ⟨g1.below hb g1.lt, g2.below hb g2.lt, g3.below hb g3.lt, g4.trans (hb.mono g4.size)⟩
          · simp only [List.mem_cons, List.not_mem_nil, or_false, forall_eq_or_imp, forall_eq]
            exact ⟨fun _ _ _ _ _ h => h, fun _ _ _ _ hb h => PTr2_stays hb h, fun _ _ _ _ _ h => h⟩
          repeat (first | (refine phi_skipK rfl (fun K hK => ?_); simp only [Act.put, List.setIfInBounds_toArray, List.set_cons_succ, List.set_cons_zero]; (try simp only [List.cons_append]); (try simp only [List.nil_append]); apply hK; clear hK K) | (refine phi_pureK rfl rfl (fun K hK => ?_); apply Exists.intro; constructor; (focus (rintro w' ⟨f1, f2, f3, hIB⟩; (have q0 := (f1.cell 0).trans rfl; have q1 := (f1.cell 1).trans rfl; have q2 := (f1.cell 2).trans rfl; have q3 := (f1.cell 3).trans rfl; have q4 := (f1.cell 4).trans rfl; have p0 := (f2.cell 0).trans rfl; have p1 := (f2.cell 1).trans rfl; have p2 := (f2.cell 2).trans rfl; have p3 := (f2.cell 3).trans rfl; have p4 := (f2.cell 4).trans rfl; clear f1 f2 f3 hIB); first | (go_simp; done) | (go_simp; (try go_bits); (try go_simp); rfl) | go_simp)); simp only [Act.put, List.setIfInBounds_toArray, List.set_cons_succ, List.set_cons_zero]; (try simp only [List.cons_append]); (try simp only [List.nil_append]); apply hK; clear hK K))
          refine phi_partK (PVal (.bool true)) rfl rfl ⟨_, rfl⟩ ?_ (fun K hK v hv => ?_)
          · rintro w' _ _
            unfold gives
            go_simp
            refine (hs.out w').mono ?_
            rintro e w'' ⟨rfl, hb⟩
            exact ⟨_, rfl, rfl, trivial, hb⟩
          obtain rfl : v = _ := hv
          simp only [Act.put, List.setIfInBounds_toArray, List.set_cons_succ, List.set_cons_zero]; (try simp only [List.cons_append]); (try simp only [List.nil_append])
          apply hK
          clear hK K
          repeat (first | (refine phi_skipK rfl (fun K hK => ?_); simp only [Act.put, List.setIfInBounds_toArray, List.set_cons_succ, List.set_cons_zero]; (try simp only [List.cons_append]); (try simp only [List.nil_append]); apply hK; clear hK K) | (refine phi_pureK rfl rfl (fun K hK => ?_); apply Exists.intro; constructor; (focus (rintro w' ⟨f1, f2, f3, hIB⟩; (have q0 := (f1.cell 0).trans rfl; have q1 := (f1.cell 1).trans rfl; have q2 := (f1.cell 2).trans rfl; have q3 := (f1.cell 3).trans rfl; have q4 := (f1.cell 4).trans rfl; have p0 := (f2.cell 0).trans rfl; have p1 := (f2.cell 1).trans rfl; have p2 := (f2.cell 2).trans rfl; have p3 := (f2.cell 3).trans rfl; have p4 := (f2.cell 4).trans rfl; clear f1 f2 f3 hIB); first | (go_simp; done) | (go_simp; (try go_bits); (try go_simp); rfl) | go_simp)); simp only [Act.put, List.setIfInBounds_toArray, List.set_cons_succ, List.set_cons_zero]; (try simp only [List.cons_append]); (try simp only [List.nil_append]); apply hK; clear hK K))
          refine phi_partK (PTr2 (ctxT ⟨(pa1 : Int), (pa2 : Int), refO v1, refD v2, infR⟩) w.heap.size) rfl rfl ⟨_, .nilIface, .nilIface, .nilIface, .nilIface, .nilIface, rfl⟩ ?_ (fun K hK v hv => ?_)
          · rintro w' ⟨_, _, _, hIB⟩ _
            have HS := Lib.hid hIB.size
            clear hIB
            unfold gives
            go_simp
            refine (hcx.out w').mono ?_
            rintro e w'' ⟨cs, rfl, hcs, hb⟩
            obtain ⟨d0, d1, d2, d3, d4, rfl⟩ := cells5 hcs ⟨rfl, by simp [ctxT], trivial⟩
            exact ⟨_, rfl, ⟨d0, d1, d2, d3, d4, rfl⟩, ⟨_, w''.heap.size, rfl, hcs.imp (fun b hb => ⟨Nat.le_trans HS.out hb.1, hb.2⟩), Nat.le_refl _⟩, hb⟩
          obtain ⟨d0, d1, d2, d3, d4, rfl⟩ := hv
          simp only [Act.put, List.setIfInBounds_toArray, List.set_cons_succ, List.set_cons_zero]; (try simp only [List.cons_append]); (try simp only [List.nil_append])
          apply hK
          clear hK K
          repeat (first | (refine phi_skipK rfl (fun K hK => ?_); simp only [Act.put, List.setIfInBounds_toArray, List.set_cons_succ, List.set_cons_zero]; (try simp only [List.cons_append]); (try simp only [List.nil_append]); apply hK; clear hK K) | (refine phi_pureK rfl rfl (fun K hK => ?_); apply Exists.intro; constructor; (focus (rintro w' ⟨f1, f2, f3, hIB⟩; (have q0 := (f1.cell 0).trans rfl; have q1 := (f1.cell 1).trans rfl; have q2 := (f1.cell 2).trans rfl; have q3 := (f1.cell 3).trans rfl; have q4 := (f1.cell 4).trans rfl; have p0 := (f2.cell 0).trans rfl; have p1 := (f2.cell 1).trans rfl; have p2 := (f2.cell 2).trans rfl; have p3 := (f2.cell 3).trans rfl; have p4 := (f2.cell 4).trans rfl; clear f1 f2 f3 hIB); first | (go_simp; done) | (go_simp; (try go_bits); (try go_simp); rfl) | go_simp)); simp only [Act.put, List.setIfInBounds_toArray, List.set_cons_succ, List.set_cons_zero]; (try simp only [List.cons_append]); (try simp only [List.nil_append]); apply hK; clear hK K))
          refine phi_partK (PVal (.bool ((ctxT ⟨(pa1 : Int), (pa2 : Int), refO v1, refD v2, infR⟩).eqb Y))) rfl rfl ⟨_, rfl⟩ ?_ (fun K hK v hv => ?_)
          · rintro w' ⟨_, _, _, hIB⟩ hf
            obtain ⟨cs, B, ecs, hcs, _⟩ := hf (5, fun w1 => (PTr2 (ctxT ⟨(pa1 : Int), (pa2 : Int), refO v1, refD v2, infR⟩) w.heap.size).fact w1 (.agg #[d0, d1, d2, d3, d4])) (by simp) (List.contains_iff_mem.1 rfl)
            injection ecs with ecs
            have ecs2 : cs = [d0, d1, d2, d3, d4] := by
              have := congrArg Array.toList ecs
              simpa using this.symm
            subst ecs2
            have HSA := Lib.hid (refsame_any _ (ctxT ⟨(pa1 : Int), (pa2 : Int), refO v1, refD v2, infR⟩) Y _ P _ _ w' (Nat.le_refl _) ⟨rfl, by simp [ctxT], trivial⟩ HY0.out hcs (HCY.out.below hIB))
            clear hIB hf hcs ecs
            unfold gives
            go_simp
            refine HSA.out.mono ?_
            rintro e w'' ⟨rfl, hb⟩
            exact ⟨_, rfl, rfl, trivial, hb⟩
          obtain rfl : v = _ := hv
          simp only [Act.put, List.setIfInBounds_toArray, List.set_cons_succ, List.set_cons_zero]; (try simp only [List.cons_append]); (try simp only [List.nil_append])
          apply hK
          clear hK K
          repeat (first | (refine phi_skipK rfl (fun K hK => ?_); simp only [Act.put, List.setIfInBounds_toArray, List.set_cons_succ, List.set_cons_zero]; (try simp only [List.cons_append]); (try simp only [List.nil_append]); apply hK; clear hK K) | (refine phi_pureK rfl rfl (fun K hK => ?_); apply Exists.intro; constructor; (focus (rintro w' ⟨f1, f2, f3, hIB⟩; (clear f1 f2 f3 hIB); first | (go_simp; done) | (go_simp; (try go_bits); (try go_simp); rfl) | go_simp)); simp only [Act.put, List.setIfInBounds_toArray, List.set_cons_succ, List.set_cons_zero]; (try simp only [List.cons_append]); (try simp only [List.nil_append]); apply hK; clear hK K))
          refine phi_done ?_
          rintro w9 ⟨f1, f2, f3, hb9⟩ _
          refine wpList_nil ?_
          have M9 := Lib.hid f3
          have C9 := Lib.hid f1
          have HB9 := Lib.hid hb9
          have q0 := (f1.cell 0).trans rfl; have q1 := (f1.cell 1).trans rfl; have q2 := (f1.cell 2).trans rfl; have q3 := (f1.cell 3).trans rfl; have q4 := (f1.cell 4).trans rfl
          clear f1 f2 f3 hb9 hs hcx
          cases hq : (ctxT ⟨(pa1 : Int), (pa2 : Int), refO v1, refD v2, infR⟩).eqb Y
          · have HX := Lib.hid (show R = none by rw [HRX.out, hq, Bool.and_false]; rfl)
            clear hq q0 q1 q2 q3 q4
            go_wp2_with (refine wpList_store (.tmp 2) (.tmp 118) 26 rfl rfl (w.heap.size + 1) 0 _ _ #[.int .i64 0, .int .i64 0, .int .i64 0, .int .i64 0, .float .f64 0] rfl rfl (M9.out) ?saa2 ?sba2 ?sca2 ?_)
            case saa2 => kernel_rfl
            case sba2 => simp [Value.oneCell']
            case sca2 => simp
            intro w8 hb8 ho8
            rw [putCells_all #[.int .i64 0, .int .i64 0, .int .i64 0, .int .i64 0, .float .f64 0] #[.int .i64 0, .int .i64 0, .int .i64 0, .int .i64 0, .float .f64 0] rfl] at hb8
            have z0 := (hb8.cell 0).trans rfl; have z1 := (hb8.cell 1).trans rfl; have z2 := (hb8.cell 2).trans rfl; have z3 := (hb8.cell 3).trans rfl; have z4 := (hb8.cell 4).trans rfl
            have HO8 := Lib.hid ho8
            clear hb8 ho8
            go_wp2_with fail
            refine bodyPost_ret (v := .tuple #[.agg #[.int .i64 0, .int .i64 0, .int .i64 0, .int .i64 0, .float .f64 0], .bool false]) (by simp [results, Tryz.results14, go_sem, z0, z1, z2, z3, z4]) rfl ?_
            exact ⟨(HB9.out).trans (Only.below HO8.out (by omega)), by rw [HX.out]; rfl⟩
          · have HX := Lib.hid (show R = some ⟨(pa1 : Int), (pa2 : Int), refO v1, refD v2, infR⟩ by rw [HRX.out, hq, HRR.out]; rfl)
            clear hq
            go_wp2_with (refine wpList_store (.tmp 2) (.tmp 119) 26 rfl rfl (w.heap.size + 1) 0 _ _ #[.int .i64 (pa1 : Int), .int .i64 (pa2 : Int), .int .i64 (refO v1), .int .i64 (refD v2), .float .f64 (infR)] rfl rfl M9.out ?sd2 ?se2 ?sf2 ?_)
            case sd2 => kernel_rfl
            case se2 => simp [Value.oneCell']
            case sf2 => simp
            intro w8 hb8 ho8
            rw [putCells_all #[.int .i64 0, .int .i64 0, .int .i64 0, .int .i64 0, .float .f64 0] #[.int .i64 (pa1 : Int), .int .i64 (pa2 : Int), .int .i64 (refO v1), .int .i64 (refD v2), .float .f64 (infR)] rfl] at hb8
            have z0 := (hb8.cell 0).trans rfl; have z1 := (hb8.cell 1).trans rfl; have z2 := (hb8.cell 2).trans rfl; have z3 := (hb8.cell 3).trans rfl; have z4 := (hb8.cell 4).trans rfl
            have HO8 := Lib.hid ho8
            clear hb8 ho8 q0 q1 q2 q3 q4
            go_wp2_with fail
            refine bodyPost_ret (v := .tuple #[.agg #[.int .i64 (pa1 : Int), .int .i64 (pa2 : Int), .int .i64 (refO v1), .int .i64 (refD v2), .float .f64 (infR)], .bool true]) (by simp [results, Tryz.results14, go_sem, z0, z1, z2, z3, z4]) rfl ?_
            exact ⟨HB9.out.trans (Only.below HO8.out (by omega)), by rw [HX.out]; rfl⟩
    · have hy : (v3 == [110, 101, 118, 101, 114]) = false := beq_eq_false_iff_ne.2 hnv
      have HNV := Lib.hid hnv
      clear hnv
      by_cases hm : v1 = [109, 105, 120, 101, 100]
      · have hz : (v1 == [109, 105, 120, 101, 100]) = true := by rw [hm]; rfl
        rw [if_pos hm] at HW7
        have hk := k7
        have hr2 := r2
        rw [HW7.out] at hk hr2
        clear hm
        go_wp2_with fail
        rw [← HW7.out]
        clear k1 k3 k7 hk r2 hr2 d1 d2 fd hz hy y2
        go_loopw [8, 9] (fun n i wr => ∃ k : Nat, k ≤ v3.length ∧ k ≤ 17 ∧ i = .int .i64 k ∧ n = .int .u64 (((v3.take k).foldl refS 0 : Nat) : Int) ∧ w7 = wr) (fun _ i _ => 17 - (intOf i).toNat)
        case atStart => exact ⟨0, by omega, by omega, rfl, rfl, rfl⟩
        case round =>
          obtain ⟨k, hk, hk17, rfl, rfl, rfl⟩ := hrel
          have hNb : (v3.take k).foldl refS 0 < 18446744073709551616 := refS_lt _ 0 (by omega)
          by_cases hlt : k < v3.length ∧ k < 17
          · obtain ⟨hl1, hl2⟩ := hlt
            have hbk := bs_get v3 k hl1
            have hki : (k : Int) < (v3.length : Int) := by omega
            have hki2 : (k : Int) < 17 := by omega
            have HL := Lib.hid (fold_step hl1)
            generalize (v3.take k).foldl refS 0 = N at *
            by_cases g1 : 48 ≤ v3[k].toNat ∧ v3[k].toNat ≤ 57
            · have t1 : decide (48 ≤ (v3[k].toNat : Int)) = true := decide_eq_true (by omega)
              have t2 : decide ((v3[k].toNat : Int) ≤ 57) = true := decide_eq_true (by omega)
              have t3 : decide (48 ≤ v3[k].toNat) = true := decide_eq_true (by omega)
              have t4 : decide (v3[k].toNat ≤ 57) = true := decide_eq_true (by omega)
              have HL2 := Lib.hid (HL.out.trans (refS_dig g1.1 g1.2))
              obtain ⟨y, hy⟩ : ∃ y : Nat, v3[k].toNat = 48 + y := ⟨v3[k].toNat - 48, by omega⟩
              have hy9 : y ≤ 9 := by omega
              clear HL g1
              go_wp2_with fail
              go_roundw
              case rel => exact ⟨k + 1, by omega, by omega, by go_num, by rw [HL2.out]; congr 1; (try simp only [IntKind.wrap_u64]); omega, by trivial⟩
              all_goals (simp [intOf]; try omega)
            · by_cases g2 : 97 ≤ v3[k].toNat ∧ v3[k].toNat ≤ 102
              · have t1 : decide (48 ≤ (v3[k].toNat : Int)) = true := decide_eq_true (by omega)
                have t2 : decide ((v3[k].toNat : Int) ≤ 57) = false := decide_eq_false (by omega)
                have t3 : decide (48 ≤ v3[k].toNat) = true := decide_eq_true (by omega)
                have t4 : decide (v3[k].toNat ≤ 57) = false := decide_eq_false (by omega)
                have t5 : decide (97 ≤ (v3[k].toNat : Int)) = true := decide_eq_true (by omega)
                have t6 : decide ((v3[k].toNat : Int) ≤ 102) = true := decide_eq_true (by omega)
                have t7 : decide (97 ≤ v3[k].toNat) = true := decide_eq_true (by omega)
                have t8 : decide (v3[k].toNat ≤ 102) = true := decide_eq_true (by omega)
                have HL2 := Lib.hid (HL.out.trans (refS_let g2.1 g2.2))
                obtain ⟨y, hy⟩ : ∃ y : Nat, v3[k].toNat = 97 + y := ⟨v3[k].toNat - 97, by omega⟩
                have hy9 : y ≤ 5 := by omega
                clear HL g1 g2
                go_wp2_with fail
                go_roundw
                case rel => exact ⟨k + 1, by omega, by omega, by go_num, by rw [HL2.out]; congr 1; (try simp only [IntKind.wrap_u64]); omega, by trivial⟩
                all_goals (simp [intOf]; try omega)
              · have HL2 := Lib.hid (HL.out.trans (refS_no (by omega)))
                clear HL
                have hor : v3[k].toNat < 48 ∨ (57 < v3[k].toNat ∧ v3[k].toNat < 97) ∨ 102 < v3[k].toNat := by omega
                clear g1 g2
                rcases hor with g | ⟨g, g'⟩ | g
                · have t1 : decide (48 ≤ (v3[k].toNat : Int)) = false := decide_eq_false (by omega)
                  have t3 : decide (48 ≤ v3[k].toNat) = false := decide_eq_false (by omega)
                  have t5 : decide (97 ≤ (v3[k].toNat : Int)) = false := decide_eq_false (by omega)
                  have t7 : decide (97 ≤ v3[k].toNat) = false := decide_eq_false (by omega)
                  go_wp2_with fail
                  go_roundw
                  case rel => exact ⟨k + 1, by omega, by omega, by go_num, by rw [HL2.out], by trivial⟩
                  all_goals (simp [intOf]; try omega)
                · have t1 : decide (48 ≤ (v3[k].toNat : Int)) = true := decide_eq_true (by omega)
                  have t2 : decide ((v3[k].toNat : Int) ≤ 57) = false := decide_eq_false (by omega)
                  have t3 : decide (48 ≤ v3[k].toNat) = true := decide_eq_true (by omega)
                  have t4 : decide (v3[k].toNat ≤ 57) = false := decide_eq_false (by omega)
                  have t5 : decide (97 ≤ (v3[k].toNat : Int)) = false := decide_eq_false (by omega)
                  have t7 : decide (97 ≤ v3[k].toNat) = false := decide_eq_false (by omega)
                  go_wp2_with fail
                  go_roundw
                  case rel => exact ⟨k + 1, by omega, by omega, by go_num, by rw [HL2.out], by trivial⟩
                  all_goals (simp [intOf]; try omega)
                · have t1 : decide (48 ≤ (v3[k].toNat : Int)) = true := decide_eq_true (by omega)
                  have t2 : decide ((v3[k].toNat : Int) ≤ 57) = false := decide_eq_false (by omega)
                  have t3 : decide (48 ≤ v3[k].toNat) = true := decide_eq_true (by omega)
                  have t4 : decide (v3[k].toNat ≤ 57) = false := decide_eq_false (by omega)
                  have t5 : decide (97 ≤ (v3[k].toNat : Int)) = true := decide_eq_true (by omega)
                  have t6 : decide ((v3[k].toNat : Int) ≤ 102) = false := decide_eq_false (by omega)
                  have t7 : decide (97 ≤ v3[k].toNat) = true := decide_eq_true (by omega)
                  have t8 : decide (v3[k].toNat ≤ 102) = false := decide_eq_false (by omega)
                  go_wp2_with fail
                  go_roundw
                  case rel => exact ⟨k + 1, by omega, by omega, by go_num, by rw [HL2.out], by trivial⟩
                  all_goals (simp [intOf]; try omega)
          · have HXV := Lib.hid (show (v3.take k).foldl refS 0 = refX v3 by
              unfold refX refH
              rw [if_neg HNV.out]
              congr 1
              by_cases h : k < v3.length
              · rw [show k = 17 by omega]
              · rw [List.take_of_length_le (by omega), List.take_of_length_le (by omega)])
            generalize (v3.take k).foldl refS 0 = XX at *
            have hfb := run_frombits XX
            have c4 := (HC7.out.cell 4).trans rfl
            have f4 := HC7.out.frozen 4
            have O9 := (Only.refl gc w7).set_ 4 (.float .f64 XX)
            have CX := Lib.hid (show Blk (w7.setCell ⟨gc, 4, none⟩ (.float .f64 XX)) gc 26 #[.int .i64 (pa1 : Int), .int .i64 (pa2 : Int), .int .i64 (refO v1), .int .i64 (refD v2), .float .f64 (XX)] from HC7.out.set_ 4 _)
            have NX := Lib.hid (O9.blk HN7.out (by omega)); have MX := Lib.hid (O9.blk HM7.out (by omega)); have BX := Lib.hid (HB7.out.trans (O9.below (by omega)))
            clear O9
            by_cases hkl : k < v3.length
            · have hki : (k : Int) < (v3.length : Int) := by omega
              have hki2 : ¬ (k : Int) < 17 := by omega
              have hki3 : decide ((k : Int) < 17) = false := decide_eq_false hki2
              clear hlt hkl
              go_wp2_with fail
              clear c4 f4 hfb
              have HRX := Lib.hid (show R = if rightC ⟨(pa1 : Int), (pa2 : Int), refO v1, refD v2, XX⟩ && (ctxT ⟨(pa1 : Int), (pa2 : Int), refO v1, refD v2, XX⟩).eqb Y then some ⟨(pa1 : Int), (pa2 : Int), refO v1, refD v2, XX⟩ else none by rw [HR2.out, ← HXV.out])
              cases hr : rightC ⟨(pa1 : Int), (pa2 : Int), refO v1, refD v2, XX⟩
              · have HX := Lib.hid (show R = none by rw [HRX.out, hr]; rfl)
                have hs := Lib.hid (fun w' => (hr ▸ rright_any (pa1 : Int) (pa2 : Int) (refO v1) (refD v2) (XX) (hNb) w' : Calls Tryz.prog 6 #[.agg #[.int .i64 (pa1 : Int), .int .i64 (pa2 : Int), .int .i64 (refO v1), .int .i64 (refD v2), .float .f64 (XX)]] w' fun e w'' => e = .returned (.bool false) ∧ Below w'.heap.size w' w''))
                clear hr
                refine wp_phi (fun w' => (Blk w' gc 26 #[.int .i64 (pa1 : Int), .int .i64 (pa2 : Int), .int .i64 (refO v1), .int .i64 (refD v2), .float .f64 (XX)]) ∧ (Blk w' w.heap.size 47 #[.string (bs n0), .string (bs n1), .slice (some ⟨e1, o1, none⟩) 4 ca, .slice pk kx.length ck, .string (bs tx)]) ∧ (Blk w' (w.heap.size + 1) 26 #[.int .i64 0, .int .i64 0, .int .i64 0, .int .i64 0, .float .f64 0]) ∧ Below w.heap.size w w') [(1, PVal (.bool false))] [] (by kernel_rfl) (by kernel_rfl) ?_ ?_ ⟨CX.out, NX.out, MX.out, (BX.out).drew⟩ ?_
                · rintro w1' w2' ⟨f1, f2, f3, hIB⟩ hb
                  exact ⟨(by first | exact f1.below hb | exact f1.keep (Below.keeps hb) | exact Below.keeps hb _ _ f1 | exact Blk.below f1 hb (Blk.lt f1)), (by first | exact f2.below hb | exact f2.keep (Below.keeps hb) | exact Below.keeps hb _ _ f2 | exact Blk.below f2 hb (Blk.lt f2)), (by first | exact f3.below hb | exact f3.keep (Below.keeps hb) | exact Below.keeps hb _ _ f3 | exact Blk.below f3 hb (Blk.lt f3)), hIB.trans (hb.mono hIB.size)⟩
                · simp only [List.mem_cons, List.not_mem_nil, or_false, forall_eq_or_imp, forall_eq]
                  exact fun _ _ _ _ h' h => PVal_stays _ _ _ _ h' h
                repeat (first | (refine phi_skipK rfl (fun K hK => ?_); simp only [Act.put, List.setIfInBounds_toArray, List.set_cons_succ, List.set_cons_zero]; (try simp only [List.cons_append]); (try simp only [List.nil_append]); apply hK; clear hK K) | (refine phi_pureK rfl rfl (fun K hK => ?_); apply Exists.intro; constructor; (focus (rintro w' ⟨f1, f2, f3, hIB⟩; have q0 := (f1.cell 0).trans rfl; have q1 := (f1.cell 1).trans rfl; have q2 := (f1.cell 2).trans rfl; have q3 := (f1.cell 3).trans rfl; have q4 := (f1.cell 4).trans rfl; have p0 := (f2.cell 0).trans rfl; have p1 := (f2.cell 1).trans rfl; have p2 := (f2.cell 2).trans rfl; have p3 := (f2.cell 3).trans rfl; have p4 := (f2.cell 4).trans rfl; clear f1 f2 f3 hIB; first | (go_simp; done) | (go_simp; (try go_bits); (try go_simp); rfl) | go_simp)); simp only [Act.put, List.setIfInBounds_toArray, List.set_cons_succ, List.set_cons_zero]; (try simp only [List.cons_append]); (try simp only [List.nil_append]); apply hK; clear hK K))
                refine phi_partK (PVal (.bool false)) rfl rfl ⟨_, rfl⟩ ?_ (fun K hK v hv => ?_)
                · rintro w' ⟨f1, f2, f3, hIB⟩ hf
                  unfold gives
                  clear hf
                  go_simp
                  refine (hs.out _).mono ?_
                  rintro e w'' ⟨rfl, hb⟩
                  exact ⟨_, rfl, rfl, trivial, hb⟩
                obtain rfl : v = _ := hv
                simp only [Act.put, List.setIfInBounds_toArray, List.set_cons_succ, List.set_cons_zero]; (try simp only [List.cons_append]); (try simp only [List.nil_append])
                apply hK
                clear hK K
                repeat (first | (refine phi_skipK rfl (fun K hK => ?_); simp only [Act.put, List.setIfInBounds_toArray, List.set_cons_succ, List.set_cons_zero]; (try simp only [List.cons_append]); (try simp only [List.nil_append]); apply hK; clear hK K) | (refine phi_pureK rfl rfl (fun K hK => ?_); apply Exists.intro; constructor; (focus (rintro w' ⟨f1, f2, f3, hIB⟩; have q0 := (f1.cell 0).trans rfl; have q1 := (f1.cell 1).trans rfl; have q2 := (f1.cell 2).trans rfl; have q3 := (f1.cell 3).trans rfl; have q4 := (f1.cell 4).trans rfl; have p0 := (f2.cell 0).trans rfl; have p1 := (f2.cell 1).trans rfl; have p2 := (f2.cell 2).trans rfl; have p3 := (f2.cell 3).trans rfl; have p4 := (f2.cell 4).trans rfl; clear f1 f2 f3 hIB; first | (go_simp; done) | (go_simp; (try go_bits); (try go_simp); rfl) | go_simp)); simp only [Act.put, List.setIfInBounds_toArray, List.set_cons_succ, List.set_cons_zero]; (try simp only [List.cons_append]); (try simp only [List.nil_append]); apply hK; clear hK K))
                refine phi_done ?_
                rintro w9 ⟨f1, f2, f3, hb9⟩ _
                refine wpList_nil ?_
                have M9 := Lib.hid f3
                have HB9 := Lib.hid hb9
                clear f1 f2 f3 hb9
                go_wp2_with (refine wpList_store (.tmp 2) (.tmp 118) 26 rfl rfl (w.heap.size + 1) 0 _ _ #[.int .i64 0, .int .i64 0, .int .i64 0, .int .i64 0, .float .f64 0] rfl rfl (M9.out) ?sa3 ?sb3 ?sc3 ?_)
                case sa3 => kernel_rfl
                case sb3 => simp [Value.oneCell']
                case sc3 => simp
                intro w8 hb8 ho8
                rw [putCells_all #[.int .i64 0, .int .i64 0, .int .i64 0, .int .i64 0, .float .f64 0] #[.int .i64 0, .int .i64 0, .int .i64 0, .int .i64 0, .float .f64 0] rfl] at hb8
                have z0 := (hb8.cell 0).trans rfl; have z1 := (hb8.cell 1).trans rfl; have z2 := (hb8.cell 2).trans rfl; have z3 := (hb8.cell 3).trans rfl; have z4 := (hb8.cell 4).trans rfl
                have HO8 := Lib.hid ho8
                clear hb8 ho8
                go_wp2_with fail
                refine bodyPost_ret (v := .tuple #[.agg #[.int .i64 0, .int .i64 0, .int .i64 0, .int .i64 0, .float .f64 0], .bool false]) (by simp [results, Tryz.results14, go_sem, z0, z1, z2, z3, z4]) rfl ?_
                exact ⟨(HB9.out).trans (Only.below HO8.out (by omega)), by rw [HX.out]; rfl⟩
              · have HRR := Lib.hid hr
                have hs := Lib.hid (fun w' => (hr ▸ rright_any (pa1 : Int) (pa2 : Int) (refO v1) (refD v2) (XX) (hNb) w' : Calls Tryz.prog 6 #[.agg #[.int .i64 (pa1 : Int), .int .i64 (pa2 : Int), .int .i64 (refO v1), .int .i64 (refD v2), .float .f64 (XX)]] w' fun e w'' => e = .returned (.bool true) ∧ Below w'.heap.size w' w''))
                have hcx := Lib.hid (fun w' => refctx_any (pa1 : Int) (pa2 : Int) (refO v1) (refD v2) (XX) hr w')
                clear hr
                refine wp_phi (fun w' => Blk w' gc 26 #[.int .i64 (pa1 : Int), .int .i64 (pa2 : Int), .int .i64 (refO v1), .int .i64 (refD v2), .float .f64 (XX)] ∧ Blk w' w.heap.size 47 #[.string (bs n0), .string (bs n1), .slice (some ⟨e1, o1, none⟩) 4 ca, .slice pk kx.length ck, .string (bs tx)] ∧ Blk w' (w.heap.size + 1) 26 #[.int .i64 0, .int .i64 0, .int .i64 0, .int .i64 0, .float .f64 0] ∧ Below w.heap.size w w') [(1, PVal (.bool true)), (5, PTr2 (ctxT ⟨(pa1 : Int), (pa2 : Int), refO v1, refD v2, XX⟩) w.heap.size), (7, PVal (.bool ((ctxT ⟨(pa1 : Int), (pa2 : Int), refO v1, refD v2, XX⟩).eqb Y)))] [(7, [5])] (by kernel_rfl) (by kernel_rfl) ?_ ?_ ⟨CX.out, NX.out, MX.out, BX.out.drew⟩ ?_
                · rintro w1' w2' ⟨g1, g2, g3, g4⟩ hb
                  exact ⟨g1.below hb g1.lt, g2.below hb g2.lt, g3.below hb g3.lt, g4.trans (hb.mono g4.size)⟩
                · simp only [List.mem_cons, List.not_mem_nil, or_false, forall_eq_or_imp, forall_eq]
                  exact ⟨fun _ _ _ _ _ h => h, fun _ _ _ _ hb h => PTr2_stays hb h, fun _ _ _ _ _ h => h⟩
                repeat (first | (refine phi_skipK rfl (fun K hK => ?_); simp only [Act.put, List.setIfInBounds_toArray, List.set_cons_succ, List.set_cons_zero]; (try simp only [List.cons_append]); (try simp only [List.nil_append]); apply hK; clear hK K) | (refine phi_pureK rfl rfl (fun K hK => ?_); apply Exists.intro; constructor; (focus (rintro w' ⟨f1, f2, f3, hIB⟩; (have q0 := (f1.cell 0).trans rfl; have q1 := (f1.cell 1).trans rfl; have q2 := (f1.cell 2).trans rfl; have q3 := (f1.cell 3).trans rfl; have q4 := (f1.cell 4).trans rfl; have p0 := (f2.cell 0).trans rfl; have p1 := (f2.cell 1).trans rfl; have p2 := (f2.cell 2).trans rfl; have p3 := (f2.cell 3).trans rfl; have p4 := (f2.cell 4).trans rfl; clear f1 f2 f3 hIB); first | (go_simp; done) | (go_simp; (try go_bits); (try go_simp); rfl) | go_simp)); simp only [Act.put, List.setIfInBounds_toArray, List.set_cons_succ, List.set_cons_zero]; (try simp only [List.cons_append]); (try simp only [List.nil_append]); apply hK; clear hK K))
                refine phi_partK (PVal (.bool true)) rfl rfl ⟨_, rfl⟩ ?_ (fun K hK v hv => ?_)
                · rintro w' _ _
                  unfold gives
                  go_simp
                  refine (hs.out w').mono ?_
                  rintro e w'' ⟨rfl, hb⟩
                  exact ⟨_, rfl, rfl, trivial, hb⟩
                obtain rfl : v = _ := hv
                simp only [Act.put, List.setIfInBounds_toArray, List.set_cons_succ, List.set_cons_zero]; (try simp only [List.cons_append]); (try simp only [List.nil_append])
                apply hK
                clear hK K
                repeat (first | (refine phi_skipK rfl (fun K hK => ?_); simp only [Act.put, List.setIfInBounds_toArray, List.set_cons_succ, List.set_cons_zero]; (try simp only [List.cons_append]); (try simp only [List.nil_append]); apply hK; clear hK K) | (refine phi_pureK rfl rfl (fun K hK => ?_); apply Exists.intro; constructor; (focus (rintro w' ⟨f1, f2, f3, hIB⟩; (have q0 := (f1.cell 0).trans rfl; have q1 := (f1.cell 1).trans rfl; have q2 := (f1.cell 2).trans rfl; have q3 := (f1.cell 3).trans rfl; have q4 := (f1.cell 4).trans rfl; have p0 := (f2.cell 0).trans rfl; have p1 := (f2.cell 1).trans rfl; have p2 := (f2.cell 2).trans rfl; have p3 := (f2.cell 3).trans rfl; have p4 := (f2.cell 4).trans rfl; clear f1 f2 f3 hIB); first | (go_simp; done) | (go_simp; (try go_bits); (try go_simp); rfl) | go_simp)); simp only [Act.put, List.setIfInBounds_toArray, List.set_cons_succ, List.set_cons_zero]; (try simp only [List.cons_append]); (try simp only [List.nil_append]); apply hK; clear hK K))
                refine phi_partK (PTr2 (ctxT ⟨(pa1 : Int), (pa2 : Int), refO v1, refD v2, XX⟩) w.heap.size) rfl rfl ⟨_, .nilIface, .nilIface, .nilIface, .nilIface, .nilIface, rfl⟩ ?_ (fun K hK v hv => ?_)
                · rintro w' ⟨_, _, _, hIB⟩ _
                  have HS := Lib.hid hIB.size
                  clear hIB
                  unfold gives
                  go_simp
                  refine (hcx.out w').mono ?_
                  rintro e w'' ⟨cs, rfl, hcs, hb⟩
                  obtain ⟨d0, d1, d2, d3, d4, rfl⟩ := cells5 hcs ⟨rfl, by simp [ctxT], trivial⟩
                  exact ⟨_, rfl, ⟨d0, d1, d2, d3, d4, rfl⟩, ⟨_, w''.heap.size, rfl, hcs.imp (fun b hb => ⟨Nat.le_trans HS.out hb.1, hb.2⟩), Nat.le_refl _⟩, hb⟩
                obtain ⟨d0, d1, d2, d3, d4, rfl⟩ := hv
                simp only [Act.put, List.setIfInBounds_toArray, List.set_cons_succ, List.set_cons_zero]; (try simp only [List.cons_append]); (try simp only [List.nil_append])
                apply hK
                clear hK K
                repeat (first | (refine phi_skipK rfl (fun K hK => ?_); simp only [Act.put, List.setIfInBounds_toArray, List.set_cons_succ, List.set_cons_zero]; (try simp only [List.cons_append]); (try simp only [List.nil_append]); apply hK; clear hK K) | (refine phi_pureK rfl rfl (fun K hK => ?_); apply Exists.intro; constructor; (focus (rintro w' ⟨f1, f2, f3, hIB⟩; (have q0 := (f1.cell 0).trans rfl; have q1 := (f1.cell 1).trans rfl; have q2 := (f1.cell 2).trans rfl; have q3 := (f1.cell 3).trans rfl; have q4 := (f1.cell 4).trans rfl; have p0 := (f2.cell 0).trans rfl; have p1 := (f2.cell 1).trans rfl; have p2 := (f2.cell 2).trans rfl; have p3 := (f2.cell 3).trans rfl; have p4 := (f2.cell 4).trans rfl; clear f1 f2 f3 hIB); first | (go_simp; done) | (go_simp; (try go_bits); (try go_simp); rfl) | go_simp)); simp only [Act.put, List.setIfInBounds_toArray, List.set_cons_succ, List.set_cons_zero]; (try simp only [List.cons_append]); (try simp only [List.nil_append]); apply hK; clear hK K))
                refine phi_partK (PVal (.bool ((ctxT ⟨(pa1 : Int), (pa2 : Int), refO v1, refD v2, XX⟩).eqb Y))) rfl rfl ⟨_, rfl⟩ ?_ (fun K hK v hv => ?_)
                · rintro w' ⟨_, _, _, hIB⟩ hf
                  obtain ⟨cs, B, ecs, hcs, _⟩ := hf (5, fun w1 => (PTr2 (ctxT ⟨(pa1 : Int), (pa2 : Int), refO v1, refD v2, XX⟩) w.heap.size).fact w1 (.agg #[d0, d1, d2, d3, d4])) (by simp) (List.contains_iff_mem.1 rfl)
                  injection ecs with ecs
                  have ecs2 : cs = [d0, d1, d2, d3, d4] := by
                    have := congrArg Array.toList ecs
                    simpa using this.symm
                  subst ecs2
                  have HSA := Lib.hid (refsame_any _ (ctxT ⟨(pa1 : Int), (pa2 : Int), refO v1, refD v2, XX⟩) Y _ P _ _ w' (Nat.le_refl _) ⟨rfl, by simp [ctxT], trivial⟩ HY0.out hcs (HCY.out.below hIB))
                  clear hIB hf hcs ecs
                  unfold gives
                  go_simp
                  refine HSA.out.mono ?_
                  rintro e w'' ⟨rfl, hb⟩
                  exact ⟨_, rfl, rfl, trivial, hb⟩
                obtain rfl : v = _ := hv
                simp only [Act.put, List.setIfInBounds_toArray, List.set_cons_succ, List.set_cons_zero]; (try simp only [List.cons_append]); (try simp only [List.nil_append])
                apply hK
                clear hK K
                repeat (first | (refine phi_skipK rfl (fun K hK => ?_); simp only [Act.put, List.setIfInBounds_toArray, List.set_cons_succ, List.set_cons_zero]; (try simp only [List.cons_append]); (try simp only [List.nil_append]); apply hK; clear hK K) | (refine phi_pureK rfl rfl (fun K hK => ?_); apply Exists.intro; constructor; (focus (rintro w' ⟨f1, f2, f3, hIB⟩; (clear f1 f2 f3 hIB); first | (go_simp; done) | (go_simp; (try go_bits); (try go_simp); rfl) | go_simp)); simp only [Act.put, List.setIfInBounds_toArray, List.set_cons_succ, List.set_cons_zero]; (try simp only [List.cons_append]); (try simp only [List.nil_append]); apply hK; clear hK K))
                refine phi_done ?_
                rintro w9 ⟨f1, f2, f3, hb9⟩ _
                refine wpList_nil ?_
                have M9 := Lib.hid f3
                have C9 := Lib.hid f1
                have HB9 := Lib.hid hb9
                have q0 := (f1.cell 0).trans rfl; have q1 := (f1.cell 1).trans rfl; have q2 := (f1.cell 2).trans rfl; have q3 := (f1.cell 3).trans rfl; have q4 := (f1.cell 4).trans rfl
                clear f1 f2 f3 hb9 hs hcx
                cases hq : (ctxT ⟨(pa1 : Int), (pa2 : Int), refO v1, refD v2, XX⟩).eqb Y
                · have HX := Lib.hid (show R = none by rw [HRX.out, hq, Bool.and_false]; rfl)
                  clear hq q0 q1 q2 q3 q4
                  go_wp2_with (refine wpList_store (.tmp 2) (.tmp 118) 26 rfl rfl (w.heap.size + 1) 0 _ _ #[.int .i64 0, .int .i64 0, .int .i64 0, .int .i64 0, .float .f64 0] rfl rfl (M9.out) ?saa3 ?sba3 ?sca3 ?_)
                  case saa3 => kernel_rfl
                  case sba3 => simp [Value.oneCell']
                  case sca3 => simp
                  intro w8 hb8 ho8
                  rw [putCells_all #[.int .i64 0, .int .i64 0, .int .i64 0, .int .i64 0, .float .f64 0] #[.int .i64 0, .int .i64 0, .int .i64 0, .int .i64 0, .float .f64 0] rfl] at hb8
                  have z0 := (hb8.cell 0).trans rfl; have z1 := (hb8.cell 1).trans rfl; have z2 := (hb8.cell 2).trans rfl; have z3 := (hb8.cell 3).trans rfl; have z4 := (hb8.cell 4).trans rfl
                  have HO8 := Lib.hid ho8
                  clear hb8 ho8
                  go_wp2_with fail
                  refine bodyPost_ret (v := .tuple #[.agg #[.int .i64 0, .int .i64 0, .int .i64 0, .int .i64 0, .float .f64 0], .bool false]) (by simp [results, Tryz.results14, go_sem, z0, z1, z2, z3, z4]) rfl ?_
                  exact ⟨(HB9.out).trans (Only.below HO8.out (by omega)), by rw [HX.out]; rfl⟩
                · have HX := Lib.hid (show R = some ⟨(pa1 : Int), (pa2 : Int), refO v1, refD v2, XX⟩ by rw [HRX.out, hq, HRR.out]; rfl)
                  clear hq
                  go_wp2_with (refine wpList_store (.tmp 2) (.tmp 119) 26 rfl rfl (w.heap.size + 1) 0 _ _ #[.int .i64 (pa1 : Int), .int .i64 (pa2 : Int), .int .i64 (refO v1), .int .i64 (refD v2), .float .f64 (XX)] rfl rfl M9.out ?sd3 ?se3 ?sf3 ?_)
                  case sd3 => kernel_rfl
                  case se3 => simp [Value.oneCell']
                  case sf3 => simp
                  intro w8 hb8 ho8
                  rw [putCells_all #[.int .i64 0, .int .i64 0, .int .i64 0, .int .i64 0, .float .f64 0] #[.int .i64 (pa1 : Int), .int .i64 (pa2 : Int), .int .i64 (refO v1), .int .i64 (refD v2), .float .f64 (XX)] rfl] at hb8
                  have z0 := (hb8.cell 0).trans rfl; have z1 := (hb8.cell 1).trans rfl; have z2 := (hb8.cell 2).trans rfl; have z3 := (hb8.cell 3).trans rfl; have z4 := (hb8.cell 4).trans rfl
                  have HO8 := Lib.hid ho8
                  clear hb8 ho8 q0 q1 q2 q3 q4
                  go_wp2_with fail
                  refine bodyPost_ret (v := .tuple #[.agg #[.int .i64 (pa1 : Int), .int .i64 (pa2 : Int), .int .i64 (refO v1), .int .i64 (refD v2), .float .f64 (XX)], .bool true]) (by simp [results, Tryz.results14, go_sem, z0, z1, z2, z3, z4]) rfl ?_
                  exact ⟨HB9.out.trans (Only.below HO8.out (by omega)), by rw [HX.out]; rfl⟩
            · have hki : ¬ (k : Int) < (v3.length : Int) := by omega
              have hki3 : decide ((k : Int) < (v3.length : Int)) = false := decide_eq_false hki
              clear hlt hkl
              go_wp2_with fail
              clear c4 f4 hfb
              have HRX := Lib.hid (show R = if rightC ⟨(pa1 : Int), (pa2 : Int), refO v1, refD v2, XX⟩ && (ctxT ⟨(pa1 : Int), (pa2 : Int), refO v1, refD v2, XX⟩).eqb Y then some ⟨(pa1 : Int), (pa2 : Int), refO v1, refD v2, XX⟩ else none by rw [HR2.out, ← HXV.out])
              cases hr : rightC ⟨(pa1 : Int), (pa2 : Int), refO v1, refD v2, XX⟩
              · have HX := Lib.hid (show R = none by rw [HRX.out, hr]; rfl)
                have hs := Lib.hid (fun w' => (hr ▸ rright_any (pa1 : Int) (pa2 : Int) (refO v1) (refD v2) (XX) (hNb) w' : Calls Tryz.prog 6 #[.agg #[.int .i64 (pa1 : Int), .int .i64 (pa2 : Int), .int .i64 (refO v1), .int .i64 (refD v2), .float .f64 (XX)]] w' fun e w'' => e = .returned (.bool false) ∧ Below w'.heap.size w' w''))
                clear hr
                refine wp_phi (fun w' => (Blk w' gc 26 #[.int .i64 (pa1 : Int), .int .i64 (pa2 : Int), .int .i64 (refO v1), .int .i64 (refD v2), .float .f64 (XX)]) ∧ (Blk w' w.heap.size 47 #[.string (bs n0), .string (bs n1), .slice (some ⟨e1, o1, none⟩) 4 ca, .slice pk kx.length ck, .string (bs tx)]) ∧ (Blk w' (w.heap.size + 1) 26 #[.int .i64 0, .int .i64 0, .int .i64 0, .int .i64 0, .float .f64 0]) ∧ Below w.heap.size w w') [(1, PVal (.bool false))] [] (by kernel_rfl) (by kernel_rfl) ?_ ?_ ⟨CX.out, NX.out, MX.out, (BX.out).drew⟩ ?_
                · rintro w1' w2' ⟨f1, f2, f3, hIB⟩ hb
                  exact ⟨(by first | exact f1.below hb | exact f1.keep (Below.keeps hb) | exact Below.keeps hb _ _ f1 | exact Blk.below f1 hb (Blk.lt f1)), (by first | exact f2.below hb | exact f2.keep (Below.keeps hb) | exact Below.keeps hb _ _ f2 | exact Blk.below f2 hb (Blk.lt f2)), (by first | exact f3.below hb | exact f3.keep (Below.keeps hb) | exact Below.keeps hb _ _ f3 | exact Blk.below f3 hb (Blk.lt f3)), hIB.trans (hb.mono hIB.size)⟩
                · simp only [List.mem_cons, List.not_mem_nil, or_false, forall_eq_or_imp, forall_eq]
                  exact fun _ _ _ _ h' h => PVal_stays _ _ _ _ h' h
                repeat (first | (refine phi_skipK rfl (fun K hK => ?_); simp only [Act.put, List.setIfInBounds_toArray, List.set_cons_succ, List.set_cons_zero]; (try simp only [List.cons_append]); (try simp only [List.nil_append]); apply hK; clear hK K) | (refine phi_pureK rfl rfl (fun K hK => ?_); apply Exists.intro; constructor; (focus (rintro w' ⟨f1, f2, f3, hIB⟩; have q0 := (f1.cell 0).trans rfl; have q1 := (f1.cell 1).trans rfl; have q2 := (f1.cell 2).trans rfl; have q3 := (f1.cell 3).trans rfl; have q4 := (f1.cell 4).trans rfl; have p0 := (f2.cell 0).trans rfl; have p1 := (f2.cell 1).trans rfl; have p2 := (f2.cell 2).trans rfl; have p3 := (f2.cell 3).trans rfl; have p4 := (f2.cell 4).trans rfl; clear f1 f2 f3 hIB; first | (go_simp; done) | (go_simp; (try go_bits); (try go_simp); rfl) | go_simp)); simp only [Act.put, List.setIfInBounds_toArray, List.set_cons_succ, List.set_cons_zero]; (try simp only [List.cons_append]); (try simp only [List.nil_append]); apply hK; clear hK K))
                refine phi_partK (PVal (.bool false)) rfl rfl ⟨_, rfl⟩ ?_ (fun K hK v hv => ?_)
                · rintro w' ⟨f1, f2, f3, hIB⟩ hf
                  unfold gives
                  clear hf
                  go_simp
                  refine (hs.out _).mono ?_
                  rintro e w'' ⟨rfl, hb⟩
                  exact ⟨_, rfl, rfl, trivial, hb⟩
                obtain rfl : v = _ := hv
                simp only [Act.put, List.setIfInBounds_toArray, List.set_cons_succ, List.set_cons_zero]; (try simp only [List.cons_append]); (try simp only [List.nil_append])
                apply hK
                clear hK K
                repeat (first | (refine phi_skipK rfl (fun K hK => ?_); simp only [Act.put, List.setIfInBounds_toArray, List.set_cons_succ, List.set_cons_zero]; (try simp only [List.cons_append]); (try simp only [List.nil_append]); apply hK; clear hK K) | (refine phi_pureK rfl rfl (fun K hK => ?_); apply Exists.intro; constructor; (focus (rintro w' ⟨f1, f2, f3, hIB⟩; have q0 := (f1.cell 0).trans rfl; have q1 := (f1.cell 1).trans rfl; have q2 := (f1.cell 2).trans rfl; have q3 := (f1.cell 3).trans rfl; have q4 := (f1.cell 4).trans rfl; have p0 := (f2.cell 0).trans rfl; have p1 := (f2.cell 1).trans rfl; have p2 := (f2.cell 2).trans rfl; have p3 := (f2.cell 3).trans rfl; have p4 := (f2.cell 4).trans rfl; clear f1 f2 f3 hIB; first | (go_simp; done) | (go_simp; (try go_bits); (try go_simp); rfl) | go_simp)); simp only [Act.put, List.setIfInBounds_toArray, List.set_cons_succ, List.set_cons_zero]; (try simp only [List.cons_append]); (try simp only [List.nil_append]); apply hK; clear hK K))
                refine phi_done ?_
                rintro w9 ⟨f1, f2, f3, hb9⟩ _
                refine wpList_nil ?_
                have M9 := Lib.hid f3
                have HB9 := Lib.hid hb9
                clear f1 f2 f3 hb9
                go_wp2_with (refine wpList_store (.tmp 2) (.tmp 118) 26 rfl rfl (w.heap.size + 1) 0 _ _ #[.int .i64 0, .int .i64 0, .int .i64 0, .int .i64 0, .float .f64 0] rfl rfl (M9.out) ?sab3 ?sbb3 ?scb3 ?_)
                case sab3 => kernel_rfl
                case sbb3 => simp [Value.oneCell']
                case scb3 => simp
                intro w8 hb8 ho8
                rw [putCells_all #[.int .i64 0, .int .i64 0, .int .i64 0, .int .i64 0, .float .f64 0] #[.int .i64 0, .int .i64 0, .int .i64 0, .int .i64 0, .float .f64 0] rfl] at hb8
                have z0 := (hb8.cell 0).trans rfl; have z1 := (hb8.cell 1).trans rfl; have z2 := (hb8.cell 2).trans rfl; have z3 := (hb8.cell 3).trans rfl; have z4 := (hb8.cell 4).trans rfl
                have HO8 := Lib.hid ho8
                clear hb8 ho8
                go_wp2_with fail
                refine bodyPost_ret (v := .tuple #[.agg #[.int .i64 0, .int .i64 0, .int .i64 0, .int .i64 0, .float .f64 0], .bool false]) (by simp [results, Tryz.results14, go_sem, z0, z1, z2, z3, z4]) rfl ?_
                exact ⟨(HB9.out).trans (Only.below HO8.out (by omega)), by rw [HX.out]; rfl⟩
              · have HRR := Lib.hid hr
                have hs := Lib.hid (fun w' => (hr ▸ rright_any (pa1 : Int) (pa2 : Int) (refO v1) (refD v2) (XX) (hNb) w' : Calls Tryz.prog 6 #[.agg #[.int .i64 (pa1 : Int), .int .i64 (pa2 : Int), .int .i64 (refO v1), .int .i64 (refD v2), .float .f64 (XX)]] w' fun e w'' => e = .returned (.bool true) ∧ Below w'.heap.size w' w''))
                have hcx := Lib.hid (fun w' => refctx_any (pa1 : Int) (pa2 : Int) (refO v1) (refD v2) (XX) hr w')
                clear hr
                refine wp_phi (fun w' => Blk w' gc 26 #[.int .i64 (pa1 : Int), .int .i64 (pa2 : Int), .int .i64 (refO v1), .int .i64 (refD v2), .float .f64 (XX)] ∧ Blk w' w.heap.size 47 #[.string (bs n0), .string (bs n1), .slice (some ⟨e1, o1, none⟩) 4 ca, .slice pk kx.length ck, .string (bs tx)] ∧ Blk w' (w.heap.size + 1) 26 #[.int .i64 0, .int .i64 0, .int .i64 0, .int .i64 0, .float .f64 0] ∧ Below w.heap.size w w') [(1, PVal (.bool true)), (5, PTr2 (ctxT ⟨(pa1 : Int), (pa2 : Int), refO v1, refD v2, XX⟩) w.heap.size), (7, PVal (.bool ((ctxT ⟨(pa1 : Int), (pa2 : Int), refO v1, refD v2, XX⟩).eqb Y)))] [(7, [5])] (by kernel_rfl) (by kernel_rfl) ?_ ?_ ⟨CX.out, NX.out, MX.out, BX.out.drew⟩ ?_
                · rintro w1' w2' ⟨g1, g2, g3, g4⟩ hb
                  exact ⟨g1.below hb g1.lt, g2.below hb g2.lt, g3.below hb g3.lt, g4.trans (hb.mono g4.size)⟩
                · simp only [List.mem_cons, List.not_mem_nil, or_false, forall_eq_or_imp, forall_eq]
                  exact ⟨fun _ _ _ _ _ h => h, fun _ _ _ _ hb h => PTr2_stays hb h, fun _ _ _ _ _ h => h⟩
                repeat (first | (refine phi_skipK rfl (fun K hK => ?_); simp only [Act.put, List.setIfInBounds_toArray, List.set_cons_succ, List.set_cons_zero]; (try simp only [List.cons_append]); (try simp only [List.nil_append]); apply hK; clear hK K) | (refine phi_pureK rfl rfl (fun K hK => ?_); apply Exists.intro; constructor; (focus (rintro w' ⟨f1, f2, f3, hIB⟩; (have q0 := (f1.cell 0).trans rfl; have q1 := (f1.cell 1).trans rfl; have q2 := (f1.cell 2).trans rfl; have q3 := (f1.cell 3).trans rfl; have q4 := (f1.cell 4).trans rfl; have p0 := (f2.cell 0).trans rfl; have p1 := (f2.cell 1).trans rfl; have p2 := (f2.cell 2).trans rfl; have p3 := (f2.cell 3).trans rfl; have p4 := (f2.cell 4).trans rfl; clear f1 f2 f3 hIB); first | (go_simp; done) | (go_simp; (try go_bits); (try go_simp); rfl) | go_simp)); simp only [Act.put, List.setIfInBounds_toArray, List.set_cons_succ, List.set_cons_zero]; (try simp only [List.cons_append]); (try simp only [List.nil_append]); apply hK; clear hK K))
                refine phi_partK (PVal (.bool true)) rfl rfl ⟨_, rfl⟩ ?_ (fun K hK v hv => ?_)
                · rintro w' _ _
                  unfold gives
                  go_simp
                  refine (hs.out w').mono ?_
                  rintro e w'' ⟨rfl, hb⟩
                  exact ⟨_, rfl, rfl, trivial, hb⟩
                obtain rfl : v = _ := hv
                simp only [Act.put, List.setIfInBounds_toArray, List.set_cons_succ, List.set_cons_zero]; (try simp only [List.cons_append]); (try simp only [List.nil_append])
                apply hK
                clear hK K
                repeat (first | (refine phi_skipK rfl (fun K hK => ?_); simp only [Act.put, List.setIfInBounds_toArray, List.set_cons_succ, List.set_cons_zero]; (try simp only [List.cons_append]); (try simp only [List.nil_append]); apply hK; clear hK K) | (refine phi_pureK rfl rfl (fun K hK => ?_); apply Exists.intro; constructor; (focus (rintro w' ⟨f1, f2, f3, hIB⟩; (have q0 := (f1.cell 0).trans rfl; have q1 := (f1.cell 1).trans rfl; have q2 := (f1.cell 2).trans rfl; have q3 := (f1.cell 3).trans rfl; have q4 := (f1.cell 4).trans rfl; have p0 := (f2.cell 0).trans rfl; have p1 := (f2.cell 1).trans rfl; have p2 := (f2.cell 2).trans rfl; have p3 := (f2.cell 3).trans rfl; have p4 := (f2.cell 4).trans rfl; clear f1 f2 f3 hIB); first | (go_simp; done) | (go_simp; (try go_bits); (try go_simp); rfl) | go_simp)); simp only [Act.put, List.setIfInBounds_toArray, List.set_cons_succ, List.set_cons_zero]; (try simp only [List.cons_append]); (try simp only [List.nil_append]); apply hK; clear hK K))
                refine phi_partK (PTr2 (ctxT ⟨(pa1 : Int), (pa2 : Int), refO v1, refD v2, XX⟩) w.heap.size) rfl rfl ⟨_, .nilIface, .nilIface, .nilIface, .nilIface, .nilIface, rfl⟩ ?_ (fun K hK v hv => ?_)
                · rintro w' ⟨_, _, _, hIB⟩ _
                  have HS := Lib.hid hIB.size
                  clear hIB
                  unfold gives
                  go_simp
                  refine (hcx.out w').mono ?_
                  rintro e w'' ⟨cs, rfl, hcs, hb⟩
                  obtain ⟨d0, d1, d2, d3, d4, rfl⟩ := cells5 hcs ⟨rfl, by simp [ctxT], trivial⟩
                  exact ⟨_, rfl, ⟨d0, d1, d2, d3, d4, rfl⟩, ⟨_, w''.heap.size, rfl, hcs.imp (fun b hb => ⟨Nat.le_trans HS.out hb.1, hb.2⟩), Nat.le_refl _⟩, hb⟩
                obtain ⟨d0, d1, d2, d3, d4, rfl⟩ := hv
                simp only [Act.put, List.setIfInBounds_toArray, List.set_cons_succ, List.set_cons_zero]; (try simp only [List.cons_append]); (try simp only [List.nil_append])
                apply hK
                clear hK K
                repeat (first | (refine phi_skipK rfl (fun K hK => ?_); simp only [Act.put, List.setIfInBounds_toArray, List.set_cons_succ, List.set_cons_zero]; (try simp only [List.cons_append]); (try simp only [List.nil_append]); apply hK; clear hK K) | (refine phi_pureK rfl rfl (fun K hK => ?_); apply Exists.intro; constructor; (focus (rintro w' ⟨f1, f2, f3, hIB⟩; (have q0 := (f1.cell 0).trans rfl; have q1 := (f1.cell 1).trans rfl; have q2 := (f1.cell 2).trans rfl; have q3 := (f1.cell 3).trans rfl; have q4 := (f1.cell 4).trans rfl; have p0 := (f2.cell 0).trans rfl; have p1 := (f2.cell 1).trans rfl; have p2 := (f2.cell 2).trans rfl; have p3 := (f2.cell 3).trans rfl; have p4 := (f2.cell 4).trans rfl; clear f1 f2 f3 hIB); first | (go_simp; done) | (go_simp; (try go_bits); (try go_simp); rfl) | go_simp)); simp only [Act.put, List.setIfInBounds_toArray, List.set_cons_succ, List.set_cons_zero]; (try simp only [List.cons_append]); (try simp only [List.nil_append]); apply hK; clear hK K))
                refine phi_partK (PVal (.bool ((ctxT ⟨(pa1 : Int), (pa2 : Int), refO v1, refD v2, XX⟩).eqb Y))) rfl rfl ⟨_, rfl⟩ ?_ (fun K hK v hv => ?_)
                · rintro w' ⟨_, _, _, hIB⟩ hf
                  obtain ⟨cs, B, ecs, hcs, _⟩ := hf (5, fun w1 => (PTr2 (ctxT ⟨(pa1 : Int), (pa2 : Int), refO v1, refD v2, XX⟩) w.heap.size).fact w1 (.agg #[d0, d1, d2, d3, d4])) (by simp) (List.contains_iff_mem.1 rfl)
                  injection ecs with ecs
                  have ecs2 : cs = [d0, d1, d2, d3, d4] := by
                    have := congrArg Array.toList ecs
                    simpa using this.symm
                  subst ecs2
                  have HSA := Lib.hid (refsame_any _ (ctxT ⟨(pa1 : Int), (pa2 : Int), refO v1, refD v2, XX⟩) Y _ P _ _ w' (Nat.le_refl _) ⟨rfl, by simp [ctxT], trivial⟩ HY0.out hcs (HCY.out.below hIB))
                  clear hIB hf hcs ecs
                  unfold gives
                  go_simp
                  refine HSA.out.mono ?_
                  rintro e w'' ⟨rfl, hb⟩
                  exact ⟨_, rfl, rfl, trivial, hb⟩
                obtain rfl : v = _ := hv
                simp only [Act.put, List.setIfInBounds_toArray, List.set_cons_succ, List.set_cons_zero]; (try simp only [List.cons_append]); (try simp only [List.nil_append])
                apply hK
                clear hK K
                repeat (first | (refine phi_skipK rfl (fun K hK => ?_); simp only [Act.put, List.setIfInBounds_toArray, List.set_cons_succ, List.set_cons_zero]; (try simp only [List.cons_append]); (try simp only [List.nil_append]); apply hK; clear hK K) | (refine phi_pureK rfl rfl (fun K hK => ?_); apply Exists.intro; constructor; (focus (rintro w' ⟨f1, f2, f3, hIB⟩; (clear f1 f2 f3 hIB); first | (go_simp; done) | (go_simp; (try go_bits); (try go_simp); rfl) | go_simp)); simp only [Act.put, List.setIfInBounds_toArray, List.set_cons_succ, List.set_cons_zero]; (try simp only [List.cons_append]); (try simp only [List.nil_append]); apply hK; clear hK K))
                refine phi_done ?_
                rintro w9 ⟨f1, f2, f3, hb9⟩ _
                refine wpList_nil ?_
                have M9 := Lib.hid f3
                have C9 := Lib.hid f1
                have HB9 := Lib.hid hb9
                have q0 := (f1.cell 0).trans rfl; have q1 := (f1.cell 1).trans rfl; have q2 := (f1.cell 2).trans rfl; have q3 := (f1.cell 3).trans rfl; have q4 := (f1.cell 4).trans rfl
                clear f1 f2 f3 hb9 hs hcx
                cases hq : (ctxT ⟨(pa1 : Int), (pa2 : Int), refO v1, refD v2, XX⟩).eqb Y
                · have HX := Lib.hid (show R = none by rw [HRX.out, hq, Bool.and_false]; rfl)
                  clear hq q0 q1 q2 q3 q4
                  go_wp2_with (refine wpList_store (.tmp 2) (.tmp 118) 26 rfl rfl (w.heap.size + 1) 0 _ _ #[.int .i64 0, .int .i64 0, .int .i64 0, .int .i64 0, .float .f64 0] rfl rfl (M9.out) ?saab3 ?sbab3 ?scab3 ?_)
                  case saab3 => kernel_rfl
                  case sbab3 => simp [Value.oneCell']
                  case scab3 => simp
                  intro w8 hb8 ho8
                  rw [putCells_all #[.int .i64 0, .int .i64 0, .int .i64 0, .int .i64 0, .float .f64 0] #[.int .i64 0, .int .i64 0, .int .i64 0, .int .i64 0, .float .f64 0] rfl] at hb8
                  have z0 := (hb8.cell 0).trans rfl; have z1 := (hb8.cell 1).trans rfl; have z2 := (hb8.cell 2).trans rfl; have z3 := (hb8.cell 3).trans rfl; have z4 := (hb8.cell 4).trans rfl
                  have HO8 := Lib.hid ho8
                  clear hb8 ho8
                  go_wp2_with fail
                  refine bodyPost_ret (v := .tuple #[.agg #[.int .i64 0, .int .i64 0, .int .i64 0, .int .i64 0, .float .f64 0], .bool false]) (by simp [results, Tryz.results14, go_sem, z0, z1, z2, z3, z4]) rfl ?_
                  exact ⟨(HB9.out).trans (Only.below HO8.out (by omega)), by rw [HX.out]; rfl⟩
                · have HX := Lib.hid (show R = some ⟨(pa1 : Int), (pa2 : Int), refO v1, refD v2, XX⟩ by rw [HRX.out, hq, HRR.out]; rfl)
                  clear hq
                  go_wp2_with (refine wpList_store (.tmp 2) (.tmp 119) 26 rfl rfl (w.heap.size + 1) 0 _ _ #[.int .i64 (pa1 : Int), .int .i64 (pa2 : Int), .int .i64 (refO v1), .int .i64 (refD v2), .float .f64 (XX)] rfl rfl M9.out ?sdb3 ?seb3 ?sfb3 ?_)
                  case sdb3 => kernel_rfl
                  case seb3 => simp [Value.oneCell']
                  case sfb3 => simp
                  intro w8 hb8 ho8
                  rw [putCells_all #[.int .i64 0, .int .i64 0, .int .i64 0, .int .i64 0, .float .f64 0] #[.int .i64 (pa1 : Int), .int .i64 (pa2 : Int), .int .i64 (refO v1), .int .i64 (refD v2), .float .f64 (XX)] rfl] at hb8
                  have z0 := (hb8.cell 0).trans rfl; have z1 := (hb8.cell 1).trans rfl; have z2 := (hb8.cell 2).trans rfl; have z3 := (hb8.cell 3).trans rfl; have z4 := (hb8.cell 4).trans rfl
                  have HO8 := Lib.hid ho8
                  clear hb8 ho8 q0 q1 q2 q3 q4
                  go_wp2_with fail
                  refine bodyPost_ret (v := .tuple #[.agg #[.int .i64 (pa1 : Int), .int .i64 (pa2 : Int), .int .i64 (refO v1), .int .i64 (refD v2), .float .f64 (XX)], .bool true]) (by simp [results, Tryz.results14, go_sem, z0, z1, z2, z3, z4]) rfl ?_
                  exact ⟨HB9.out.trans (Only.below HO8.out (by omega)), by rw [HX.out]; rfl⟩
      · have hz : (v1 == [109, 105, 120, 101, 100]) = false := beq_eq_false_iff_ne.2 hm
        rw [if_neg hm] at HW7
        have hk := k7
        have hr2 := r2
        rw [HW7.out] at hk hr2
        clear hm
        go_wp2_with fail
        rw [← HW7.out]
        clear k1 k3 k7 hk r2 hr2 d1 d2 fd hz hy y2
        go_loopw [8, 9] (fun n i wr => ∃ k : Nat, k ≤ v3.length ∧ k ≤ 17 ∧ i = .int .i64 k ∧ n = .int .u64 (((v3.take k).foldl refS 0 : Nat) : Int) ∧ w7 = wr) (fun _ i _ => 17 - (intOf i).toNat)
        case atStart => exact ⟨0, by omega, by omega, rfl, rfl, rfl⟩
        case round =>
          obtain ⟨k, hk, hk17, rfl, rfl, rfl⟩ := hrel
          have hNb : (v3.take k).foldl refS 0 < 18446744073709551616 := refS_lt _ 0 (by omega)
          by_cases hlt : k < v3.length ∧ k < 17
          · obtain ⟨hl1, hl2⟩ := hlt
            have hbk := bs_get v3 k hl1
            have hki : (k : Int) < (v3.length : Int) := by omega
            have hki2 : (k : Int) < 17 := by omega
            have HL := Lib.hid (fold_step hl1)
            generalize (v3.take k).foldl refS 0 = N at *
            by_cases g1 : 48 ≤ v3[k].toNat ∧ v3[k].toNat ≤ 57
            · have t1 : decide (48 ≤ (v3[k].toNat : Int)) = true := decide_eq_true (by omega)
              have t2 : decide ((v3[k].toNat : Int) ≤ 57) = true := decide_eq_true (by omega)
              have t3 : decide (48 ≤ v3[k].toNat) = true := decide_eq_true (by omega)
              have t4 : decide (v3[k].toNat ≤ 57) = true := decide_eq_true (by omega)
              have HL2 := Lib.hid (HL.out.trans (refS_dig g1.1 g1.2))
              obtain ⟨y, hy⟩ : ∃ y : Nat, v3[k].toNat = 48 + y := ⟨v3[k].toNat - 48, by omega⟩
              have hy9 : y ≤ 9 := by omega
              clear HL g1
              go_wp2_with fail
              go_roundw
              case rel => exact ⟨k + 1, by omega, by omega, by go_num, by rw [HL2.out]; congr 1; (try simp only [IntKind.wrap_u64]); omega, by trivial⟩
              all_goals (simp [intOf]; try omega)
            · by_cases g2 : 97 ≤ v3[k].toNat ∧ v3[k].toNat ≤ 102
              · have t1 : decide (48 ≤ (v3[k].toNat : Int)) = true := decide_eq_true (by omega)
                have t2 : decide ((v3[k].toNat : Int) ≤ 57) = false := decide_eq_false (by omega)
                have t3 : decide (48 ≤ v3[k].toNat) = true := decide_eq_true (by omega)
                have t4 : decide (v3[k].toNat ≤ 57) = false := decide_eq_false (by omega)
                have t5 : decide (97 ≤ (v3[k].toNat : Int)) = true := decide_eq_true (by omega)
                have t6 : decide ((v3[k].toNat : Int) ≤ 102) = true := decide_eq_true (by omega)
                have t7 : decide (97 ≤ v3[k].toNat) = true := decide_eq_true (by omega)
                have t8 : decide (v3[k].toNat ≤ 102) = true := decide_eq_true (by omega)
                have HL2 := Lib.hid (HL.out.trans (refS_let g2.1 g2.2))
                obtain ⟨y, hy⟩ : ∃ y : Nat, v3[k].toNat = 97 + y := ⟨v3[k].toNat - 97, by omega⟩
                have hy9 : y ≤ 5 := by omega
                clear HL g1 g2
                go_wp2_with fail
                go_roundw
                case rel => exact ⟨k + 1, by omega, by omega, by go_num, by rw [HL2.out]; congr 1; (try simp only [IntKind.wrap_u64]); omega, by trivial⟩
                all_goals (simp [intOf]; try omega)
              · have HL2 := Lib.hid (HL.out.trans (refS_no (by omega)))
                clear HL
                have hor : v3[k].toNat < 48 ∨ (57 < v3[k].toNat ∧ v3[k].toNat < 97) ∨ 102 < v3[k].toNat := by omega
                clear g1 g2
                rcases hor with g | ⟨g, g'⟩ | g
                · have t1 : decide (48 ≤ (v3[k].toNat : Int)) = false := decide_eq_false (by omega)
                  have t3 : decide (48 ≤ v3[k].toNat) = false := decide_eq_false (by omega)
                  have t5 : decide (97 ≤ (v3[k].toNat : Int)) = false := decide_eq_false (by omega)
                  have t7 : decide (97 ≤ v3[k].toNat) = false := decide_eq_false (by omega)
                  go_wp2_with fail
                  go_roundw
                  case rel => exact ⟨k + 1, by omega, by omega, by go_num, by rw [HL2.out], by trivial⟩
                  all_goals (simp [intOf]; try omega)
                · have t1 : decide (48 ≤ (v3[k].toNat : Int)) = true := decide_eq_true (by omega)
                  have t2 : decide ((v3[k].toNat : Int) ≤ 57) = false := decide_eq_false (by omega)
                  have t3 : decide (48 ≤ v3[k].toNat) = true := decide_eq_true (by omega)
                  have t4 : decide (v3[k].toNat ≤ 57) = false := decide_eq_false (by omega)
                  have t5 : decide (97 ≤ (v3[k].toNat : Int)) = false := decide_eq_false (by omega)
                  have t7 : decide (97 ≤ v3[k].toNat) = false := decide_eq_false (by omega)
                  go_wp2_with fail
                  go_roundw
                  case rel => exact ⟨k + 1, by omega, by omega, by go_num, by rw [HL2.out], by trivial⟩
                  all_goals (simp [intOf]; try omega)
                · have t1 : decide (48 ≤ (v3[k].toNat : Int)) = true := decide_eq_true (by omega)
                  have t2 : decide ((v3[k].toNat : Int) ≤ 57) = false := decide_eq_false (by omega)
                  have t3 : decide (48 ≤ v3[k].toNat) = true := decide_eq_true (by omega)
                  have t4 : decide (v3[k].toNat ≤ 57) = false := decide_eq_false (by omega)
                  have t5 : decide (97 ≤ (v3[k].toNat : Int)) = true := decide_eq_true (by omega)
                  have t6 : decide ((v3[k].toNat : Int) ≤ 102) = false := decide_eq_false (by omega)
                  have t7 : decide (97 ≤ v3[k].toNat) = true := decide_eq_true (by omega)
                  have t8 : decide (v3[k].toNat ≤ 102) = false := decide_eq_false (by omega)
                  go_wp2_with fail
                  go_roundw
                  case rel => exact ⟨k + 1, by omega, by omega, by go_num, by rw [HL2.out], by trivial⟩
                  all_goals (simp [intOf]; try omega)
          · have HXV := Lib.hid (show (v3.take k).foldl refS 0 = refX v3 by
              unfold refX refH
              rw [if_neg HNV.out]
              congr 1
              by_cases h : k < v3.length
              · rw [show k = 17 by omega]
              · rw [List.take_of_length_le (by omega), List.take_of_length_le (by omega)])
            generalize (v3.take k).foldl refS 0 = XX at *
            have hfb := run_frombits XX
            have c4 := (HC7.out.cell 4).trans rfl
            have f4 := HC7.out.frozen 4
            have O9 := (Only.refl gc w7).set_ 4 (.float .f64 XX)
            have CX := Lib.hid (show Blk (w7.setCell ⟨gc, 4, none⟩ (.float .f64 XX)) gc 26 #[.int .i64 (pa1 : Int), .int .i64 (pa2 : Int), .int .i64 (refO v1), .int .i64 (refD v2), .float .f64 (XX)] from HC7.out.set_ 4 _)
            have NX := Lib.hid (O9.blk HN7.out (by omega)); have MX := Lib.hid (O9.blk HM7.out (by omega)); have BX := Lib.hid (HB7.out.trans (O9.below (by omega)))
            clear O9
            by_cases hkl : k < v3.length
            · have hki : (k : Int) < (v3.length : Int) := by omega
              have hki2 : ¬ (k : Int) < 17 := by omega
              have hki3 : decide ((k : Int) < 17) = false := decide_eq_false hki2
              clear hlt hkl
              go_wp2_with fail
              clear c4 f4 hfb
              have HRX := Lib.hid (show R = if rightC ⟨(pa1 : Int), (pa2 : Int), refO v1, refD v2, XX⟩ && (ctxT ⟨(pa1 : Int), (pa2 : Int), refO v1, refD v2, XX⟩).eqb Y then some ⟨(pa1 : Int), (pa2 : Int), refO v1, refD v2, XX⟩ else none by rw [HR2.out, ← HXV.out])
              cases hr : rightC ⟨(pa1 : Int), (pa2 : Int), refO v1, refD v2, XX⟩
              · have HX := Lib.hid (show R = none by rw [HRX.out, hr]; rfl)
                have hs := Lib.hid (fun w' => (hr ▸ rright_any (pa1 : Int) (pa2 : Int) (refO v1) (refD v2) (XX) (hNb) w' : Calls Tryz.prog 6 #[.agg #[.int .i64 (pa1 : Int), .int .i64 (pa2 : Int), .int .i64 (refO v1), .int .i64 (refD v2), .float .f64 (XX)]] w' fun e w'' => e = .returned (.bool false) ∧ Below w'.heap.size w' w''))
                clear hr
                refine wp_phi (fun w' => (Blk w' gc 26 #[.int .i64 (pa1 : Int), .int .i64 (pa2 : Int), .int .i64 (refO v1), .int .i64 (refD v2), .float .f64 (XX)]) ∧ (Blk w' w.heap.size 47 #[.string (bs n0), .string (bs n1), .slice (some ⟨e1, o1, none⟩) 4 ca, .slice pk kx.length ck, .string (bs tx)]) ∧ (Blk w' (w.heap.size + 1) 26 #[.int .i64 0, .int .i64 0, .int .i64 0, .int .i64 0, .float .f64 0]) ∧ Below w.heap.size w w') [(1, PVal (.bool false))] [] (by kernel_rfl) (by kernel_rfl) ?_ ?_ ⟨CX.out, NX.out, MX.out, (BX.out).drew⟩ ?_
                · rintro w1' w2' ⟨f1, f2, f3, hIB⟩ hb
                  exact ⟨(by first | exact f1.below hb | exact f1.keep (Below.keeps hb) | exact Below.keeps hb _ _ f1 | exact Blk.below f1 hb (Blk.lt f1)), (by first | exact f2.below hb | exact f2.keep (Below.keeps hb) | exact Below.keeps hb _ _ f2 | exact Blk.below f2 hb (Blk.lt f2)), (by first | exact f3.below hb | exact f3.keep (Below.keeps hb) | exact Below.keeps hb _ _ f3 | exact Blk.below f3 hb (Blk.lt f3)), hIB.trans (hb.mono hIB.size)⟩
                · simp only [List.mem_cons, List.not_mem_nil, or_false, forall_eq_or_imp, forall_eq]
                  exact fun _ _ _ _ h' h => PVal_stays _ _ _ _ h' h
                repeat (first | (refine phi_skipK rfl (fun K hK => ?_); simp only [Act.put, List.setIfInBounds_toArray, List.set_cons_succ, List.set_cons_zero]; (try simp only [List.cons_append]); (try simp only [List.nil_append]); apply hK; clear hK K) | (refine phi_pureK rfl rfl (fun K hK => ?_); apply Exists.intro; constructor; (focus (rintro w' ⟨f1, f2, f3, hIB⟩; have q0 := (f1.cell 0).trans rfl; have q1 := (f1.cell 1).trans rfl; have q2 := (f1.cell 2).trans rfl; have q3 := (f1.cell 3).trans rfl; have q4 := (f1.cell 4).trans rfl; have p0 := (f2.cell 0).trans rfl; have p1 := (f2.cell 1).trans rfl; have p2 := (f2.cell 2).trans rfl; have p3 := (f2.cell 3).trans rfl; have p4 := (f2.cell 4).trans rfl; clear f1 f2 f3 hIB; first | (go_simp; done) | (go_simp; (try go_bits); (try go_simp); rfl) | go_simp)); simp only [Act.put, List.setIfInBounds_toArray, List.set_cons_succ, List.set_cons_zero]; (try simp only [List.cons_append]); (try simp only [List.nil_append]); apply hK; clear hK K))
                refine phi_partK (PVal (.bool false)) rfl rfl ⟨_, rfl⟩ ?_ (fun K hK v hv => ?_)
                · rintro w' ⟨f1, f2, f3, hIB⟩ hf
                  unfold gives
                  clear hf
                  go_simp
                  refine (hs.out _).mono ?_
                  rintro e w'' ⟨rfl, hb⟩
                  exact ⟨_, rfl, rfl, trivial, hb⟩
                obtain rfl : v = _ := hv
                simp only [Act.put, List.setIfInBounds_toArray, List.set_cons_succ, List.set_cons_zero]; (try simp only [List.cons_append]); (try simp only [List.nil_append])
                apply hK
                clear hK K
                repeat (first | (refine phi_skipK rfl (fun K hK => ?_); simp only [Act.put, List.setIfInBounds_toArray, List.set_cons_succ, List.set_cons_zero]; (try simp only [List.cons_append]); (try simp only [List.nil_append]); apply hK; clear hK K) | (refine phi_pureK rfl rfl (fun K hK => ?_); apply Exists.intro; constructor; (focus (rintro w' ⟨f1, f2, f3, hIB⟩; have q0 := (f1.cell 0).trans rfl; have q1 := (f1.cell 1).trans rfl; have q2 := (f1.cell 2).trans rfl; have q3 := (f1.cell 3).trans rfl; have q4 := (f1.cell 4).trans rfl; have p0 := (f2.cell 0).trans rfl; have p1 := (f2.cell 1).trans rfl; have p2 := (f2.cell 2).trans rfl; have p3 := (f2.cell 3).trans rfl; have p4 := (f2.cell 4).trans rfl; clear f1 f2 f3 hIB; first | (go_simp; done) | (go_simp; (try go_bits); (try go_simp); rfl) | go_simp)); simp only [Act.put, List.setIfInBounds_toArray, List.set_cons_succ, List.set_cons_zero]; (try simp only [List.cons_append]); (try simp only [List.nil_append]); apply hK; clear hK K))
                refine phi_done ?_
                rintro w9 ⟨f1, f2, f3, hb9⟩ _
                refine wpList_nil ?_
                have M9 := Lib.hid f3
                have HB9 := Lib.hid hb9
                clear f1 f2 f3 hb9
                go_wp2_with (refine wpList_store (.tmp 2) (.tmp 118) 26 rfl rfl (w.heap.size + 1) 0 _ _ #[.int .i64 0, .int .i64 0, .int .i64 0, .int .i64 0, .float .f64 0] rfl rfl (M9.out) ?sa4 ?sb4 ?sc4 ?_)
                case sa4 => kernel_rfl
                case sb4 => simp [Value.oneCell']
                case sc4 => simp
                intro w8 hb8 ho8
                rw [putCells_all #[.int .i64 0, .int .i64 0, .int .i64 0, .int .i64 0, .float .f64 0] #[.int .i64 0, .int .i64 0, .int .i64 0, .int .i64 0, .float .f64 0] rfl] at hb8
                have z0 := (hb8.cell 0).trans rfl; have z1 := (hb8.cell 1).trans rfl; have z2 := (hb8.cell 2).trans rfl; have z3 := (hb8.cell 3).trans rfl; have z4 := (hb8.cell 4).trans rfl
                have HO8 := Lib.hid ho8
                clear hb8 ho8
                go_wp2_with fail
                refine bodyPost_ret (v := .tuple #[.agg #[.int .i64 0, .int .i64 0, .int .i64 0, .int .i64 0, .float .f64 0], .bool false]) (by simp [results, Tryz.results14, go_sem, z0, z1, z2, z3, z4]) rfl ?_
                exact ⟨(HB9.out).trans (Only.below HO8.out (by omega)), by rw [HX.out]; rfl⟩
              · have HRR := Lib.hid hr
                have hs := Lib.hid (fun w' => (hr ▸ rright_any (pa1 : Int) (pa2 : Int) (refO v1) (refD v2) (XX) (hNb) w' : Calls Tryz.prog 6 #[.agg #[.int .i64 (pa1 : Int), .int .i64 (pa2 : Int), .int .i64 (refO v1), .int .i64 (refD v2), .float .f64 (XX)]] w' fun e w'' => e = .returned (.bool true) ∧ Below w'.heap.size w' w''))
                have hcx := Lib.hid (fun w' => refctx_any (pa1 : Int) (pa2 : Int) (refO v1) (refD v2) (XX) hr w')
                clear hr
                refine wp_phi (fun w' => Blk w' gc 26 #[.int .i64 (pa1 : Int), .int .i64 (pa2 : Int), .int .i64 (refO v1), .int .i64 (refD v2), .float .f64 (XX)] ∧ Blk w' w.heap.size 47 #[.string (bs n0), .string (bs n1), .slice (some ⟨e1, o1, none⟩) 4 ca, .slice pk kx.length ck, .string (bs tx)] ∧ Blk w' (w.heap.size + 1) 26 #[.int .i64 0, .int .i64 0, .int .i64 0, .int .i64 0, .float .f64 0] ∧ Below w.heap.size w w') [(1, PVal (.bool true)), (5, PTr2 (ctxT ⟨(pa1 : Int), (pa2 : Int), refO v1, refD v2, XX⟩) w.heap.size), (7, PVal (.bool ((ctxT ⟨(pa1 : Int), (pa2 : Int), refO v1, refD v2, XX⟩).eqb Y)))] [(7, [5])] (by kernel_rfl) (by kernel_rfl) ?_ ?_ ⟨CX.out, NX.out, MX.out, BX.out.drew⟩ ?_
                · rintro w1' w2' ⟨g1, g2, g3, g4⟩ hb
                  exact ⟨g1.below hb g1.lt, g2.below hb g2.lt, g3.below hb g3.lt, g4.trans (hb.mono g4.size)⟩
                · simp only [List.mem_cons, List.not_mem_nil, or_false, forall_eq_or_imp, forall_eq]
                  exact ⟨fun _ _ _ _ _ h => h, fun _ _ _ _ hb h => PTr2_stays hb h, fun _ _ _ _ _ h => h⟩
                repeat (first | (refine phi_skipK rfl (fun K hK => ?_); simp only [Act.put, List.setIfInBounds_toArray, List.set_cons_succ, List.set_cons_zero]; (try simp only [List.cons_append]); (try simp only [List.nil_append]); apply hK; clear hK K) | (refine phi_pureK rfl rfl (fun K hK => ?_); apply Exists.intro; constructor; (focus (rintro w' ⟨f1, f2, f3, hIB⟩; (have q0 := (f1.cell 0).trans rfl; have q1 := (f1.cell 1).trans rfl; have q2 := (f1.cell 2).trans rfl; have q3 := (f1.cell 3).trans rfl; have q4 := (f1.cell 4).trans rfl; have p0 := (f2.cell 0).trans rfl; have p1 := (f2.cell 1).trans rfl; have p2 := (f2.cell 2).trans rfl; have p3 := (f2.cell 3).trans rfl; have p4 := (f2.cell 4).trans rfl; clear f1 f2 f3 hIB); first | (go_simp; done) | (go_simp; (try go_bits); (try go_simp); rfl) | go_simp)); simp only [Act.put, List.setIfInBounds_toArray, List.set_cons_succ, List.set_cons_zero]; (try simp only [List.cons_append]); (try simp only [List.nil_append]); apply hK; clear hK K))
                refine phi_partK (PVal (.bool true)) rfl rfl ⟨_, rfl⟩ ?_ (fun K hK v hv => ?_)
                · rintro w' _ _
                  unfold gives
                  go_simp
                  refine (hs.out w').mono ?_
                  rintro e w'' ⟨rfl, hb⟩
                  exact ⟨_, rfl, rfl, trivial, hb⟩
                obtain rfl : v = _ := hv
                simp only [Act.put, List.setIfInBounds_toArray, List.set_cons_succ, List.set_cons_zero]; (try simp only [List.cons_append]); (try simp only [List.nil_append])
                apply hK
                clear hK K
                repeat (first | (refine phi_skipK rfl (fun K hK => ?_); simp only [Act.put, List.setIfInBounds_toArray, List.set_cons_succ, List.set_cons_zero]; (try simp only [List.cons_append]); (try simp only [List.nil_append]); apply hK; clear hK K) | (refine phi_pureK rfl rfl (fun K hK => ?_); apply Exists.intro; constructor; (focus (rintro w' ⟨f1, f2, f3, hIB⟩; (have q0 := (f1.cell 0).trans rfl; have q1 := (f1.cell 1).trans rfl; have q2 := (f1.cell 2).trans rfl; have q3 := (f1.cell 3).trans rfl; have q4 := (f1.cell 4).trans rfl; have p0 := (f2.cell 0).trans rfl; have p1 := (f2.cell 1).trans rfl; have p2 := (f2.cell 2).trans rfl; have p3 := (f2.cell 3).trans rfl; have p4 := (f2.cell 4).trans rfl; clear f1 f2 f3 hIB); first | (go_simp; done) | (go_simp; (try go_bits); (try go_simp); rfl) | go_simp)); simp only [Act.put, List.setIfInBounds_toArray, List.set_cons_succ, List.set_cons_zero]; (try simp only [List.cons_append]); (try simp only [List.nil_append]); apply hK; clear hK K))
                refine phi_partK (PTr2 (ctxT ⟨(pa1 : Int), (pa2 : Int), refO v1, refD v2, XX⟩) w.heap.size) rfl rfl ⟨_, .nilIface, .nilIface, .nilIface, .nilIface, .nilIface, rfl⟩ ?_ (fun K hK v hv => ?_)
                · rintro w' ⟨_, _, _, hIB⟩ _
                  have HS := Lib.hid hIB.size
                  clear hIB
                  unfold gives
                  go_simp
                  refine (hcx.out w').mono ?_
                  rintro e w'' ⟨cs, rfl, hcs, hb⟩
                  obtain ⟨d0, d1, d2, d3, d4, rfl⟩ := cells5 hcs ⟨rfl, by simp [ctxT], trivial⟩
                  exact ⟨_, rfl, ⟨d0, d1, d2, d3, d4, rfl⟩, ⟨_, w''.heap.size, rfl, hcs.imp (fun b hb => ⟨Nat.le_trans HS.out hb.1, hb.2⟩), Nat.le_refl _⟩, hb⟩
                obtain ⟨d0, d1, d2, d3, d4, rfl⟩ := hv
                simp only [Act.put, List.setIfInBounds_toArray, List.set_cons_succ, List.set_cons_zero]; (try simp only [List.cons_append]); (try simp only [List.nil_append])
                apply hK
                clear hK K
                repeat (first | (refine phi_skipK rfl (fun K hK => ?_); simp only [Act.put, List.setIfInBounds_toArray, List.set_cons_succ, List.set_cons_zero]; (try simp only [List.cons_append]); (try simp only [List.nil_append]); apply hK; clear hK K) | (refine phi_pureK rfl rfl (fun K hK => ?_); apply Exists.intro; constructor; (focus (rintro w' ⟨f1, f2, f3, hIB⟩; (have q0 := (f1.cell 0).trans rfl; have q1 := (f1.cell 1).trans rfl; have q2 := (f1.cell 2).trans rfl; have q3 := (f1.cell 3).trans rfl; have q4 := (f1.cell 4).trans rfl; have p0 := (f2.cell 0).trans rfl; have p1 := (f2.cell 1).trans rfl; have p2 := (f2.cell 2).trans rfl; have p3 := (f2.cell 3).trans rfl; have p4 := (f2.cell 4).trans rfl; clear f1 f2 f3 hIB); first | (go_simp; done) | (go_simp; (try go_bits); (try go_simp); rfl) | go_simp)); simp only [Act.put, List.setIfInBounds_toArray, List.set_cons_succ, List.set_cons_zero]; (try simp only [List.cons_append]); (try simp only [List.nil_append]); apply hK; clear hK K))
                refine phi_partK (PVal (.bool ((ctxT ⟨(pa1 : Int), (pa2 : Int), refO v1, refD v2, XX⟩).eqb Y))) rfl rfl ⟨_, rfl⟩ ?_ (fun K hK v hv => ?_)
                · rintro w' ⟨_, _, _, hIB⟩ hf
                  obtain ⟨cs, B, ecs, hcs, _⟩ := hf (5, fun w1 => (PTr2 (ctxT ⟨(pa1 : Int), (pa2 : Int), refO v1, refD v2, XX⟩) w.heap.size).fact w1 (.agg #[d0, d1, d2, d3, d4])) (by simp) (List.contains_iff_mem.1 rfl)
                  injection ecs with ecs
                  have ecs2 : cs = [d0, d1, d2, d3, d4] := by
                    have := congrArg Array.toList ecs
                    simpa using this.symm
                  subst ecs2
                  have HSA := Lib.hid (refsame_any _ (ctxT ⟨(pa1 : Int), (pa2 : Int), refO v1, refD v2, XX⟩) Y _ P _ _ w' (Nat.le_refl _) ⟨rfl, by simp [ctxT], trivial⟩ HY0.out hcs (HCY.out.below hIB))
                  clear hIB hf hcs ecs
                  unfold gives
                  go_simp
                  refine HSA.out.mono ?_
                  rintro e w'' ⟨rfl, hb⟩
                  exact ⟨_, rfl, rfl, trivial, hb⟩
                obtain rfl : v = _ := hv
                simp only [Act.put, List.setIfInBounds_toArray, List.set_cons_succ, List.set_cons_zero]; (try simp only [List.cons_append]); (try simp only [List.nil_append])
                apply hK
                clear hK K
                repeat (first | (refine phi_skipK rfl (fun K hK => ?_); simp only [Act.put, List.setIfInBounds_toArray, List.set_cons_succ, List.set_cons_zero]; (try simp only [List.cons_append]); (try simp only [List.nil_append]); apply hK; clear hK K) | (refine phi_pureK rfl rfl (fun K hK => ?_); apply Exists.intro; constructor; (focus (rintro w' ⟨f1, f2, f3, hIB⟩; (clear f1 f2 f3 hIB); first | (go_simp; done) | (go_simp; (try go_bits); (try go_simp); rfl) | go_simp)); simp only [Act.put, List.setIfInBounds_toArray, List.set_cons_succ, List.set_cons_zero]; (try simp only [List.cons_append]); (try simp only [List.nil_append]); apply hK; clear hK K))
                refine phi_done ?_
                rintro w9 ⟨f1, f2, f3, hb9⟩ _
                refine wpList_nil ?_
                have M9 := Lib.hid f3
                have C9 := Lib.hid f1
                have HB9 := Lib.hid hb9
                have q0 := (f1.cell 0).trans rfl; have q1 := (f1.cell 1).trans rfl; have q2 := (f1.cell 2).trans rfl; have q3 := (f1.cell 3).trans rfl; have q4 := (f1.cell 4).trans rfl
                clear f1 f2 f3 hb9 hs hcx
                cases hq : (ctxT ⟨(pa1 : Int), (pa2 : Int), refO v1, refD v2, XX⟩).eqb Y
                · have HX := Lib.hid (show R = none by rw [HRX.out, hq, Bool.and_false]; rfl)
                  clear hq q0 q1 q2 q3 q4
                  go_wp2_with (refine wpList_store (.tmp 2) (.tmp 118) 26 rfl rfl (w.heap.size + 1) 0 _ _ #[.int .i64 0, .int .i64 0, .int .i64 0, .int .i64 0, .float .f64 0] rfl rfl (M9.out) ?saa4 ?sba4 ?sca4 ?_)
                  case saa4 => kernel_rfl
                  case sba4 => simp [Value.oneCell']
                  case sca4 => simp
                  intro w8 hb8 ho8
                  rw [putCells_all #[.int .i64 0, .int .i64 0, .int .i64 0, .int .i64 0, .float .f64 0] #[.int .i64 0, .int .i64 0, .int .i64 0, .int .i64 0, .float .f64 0] rfl] at hb8
                  have z0 := (hb8.cell 0).trans rfl; have z1 := (hb8.cell 1).trans rfl; have z2 := (hb8.cell 2).trans rfl; have z3 := (hb8.cell 3).trans rfl; have z4 := (hb8.cell 4).trans rfl
                  have HO8 := Lib.hid ho8
                  clear hb8 ho8
                  go_wp2_with fail
                  refine bodyPost_ret (v := .tuple #[.agg #[.int .i64 0, .int .i64 0, .int .i64 0, .int .i64 0, .float .f64 0], .bool false]) (by simp [results, Tryz.results14, go_sem, z0, z1, z2, z3, z4]) rfl ?_
                  exact ⟨(HB9.out).trans (Only.below HO8.out (by omega)), by rw [HX.out]; rfl⟩
                · have HX := Lib.hid (show R = some ⟨(pa1 : Int), (pa2 : Int), refO v1, refD v2, XX⟩ by rw [HRX.out, hq, HRR.out]; rfl)
                  clear hq
                  go_wp2_with (refine wpList_store (.tmp 2) (.tmp 119) 26 rfl rfl (w.heap.size + 1) 0 _ _ #[.int .i64 (pa1 : Int), .int .i64 (pa2 : Int), .int .i64 (refO v1), .int .i64 (refD v2), .float .f64 (XX)] rfl rfl M9.out ?sd4 ?se4 ?sf4 ?_)
                  case sd4 => kernel_rfl
                  case se4 => simp [Value.oneCell']
                  case sf4 => simp
                  intro w8 hb8 ho8
                  rw [putCells_all #[.int .i64 0, .int .i64 0, .int .i64 0, .int .i64 0, .float .f64 0] #[.int .i64 (pa1 : Int), .int .i64 (pa2 : Int), .int .i64 (refO v1), .int .i64 (refD v2), .float .f64 (XX)] rfl] at hb8
                  have z0 := (hb8.cell 0).trans rfl; have z1 := (hb8.cell 1).trans rfl; have z2 := (hb8.cell 2).trans rfl; have z3 := (hb8.cell 3).trans rfl; have z4 := (hb8.cell 4).trans rfl
                  have HO8 := Lib.hid ho8
                  clear hb8 ho8 q0 q1 q2 q3 q4
                  go_wp2_with fail
                  refine bodyPost_ret (v := .tuple #[.agg #[.int .i64 (pa1 : Int), .int .i64 (pa2 : Int), .int .i64 (refO v1), .int .i64 (refD v2), .float .f64 (XX)], .bool true]) (by simp [results, Tryz.results14, go_sem, z0, z1, z2, z3, z4]) rfl ?_
                  exact ⟨HB9.out.trans (Only.below HO8.out (by omega)), by rw [HX.out]; rfl⟩
            · have hki : ¬ (k : Int) < (v3.length : Int) := by omega
              have hki3 : decide ((k : Int) < (v3.length : Int)) = false := decide_eq_false hki
              clear hlt hkl
              go_wp2_with fail
              clear c4 f4 hfb
              have HRX := Lib.hid (show R = if rightC ⟨(pa1 : Int), (pa2 : Int), refO v1, refD v2, XX⟩ && (ctxT ⟨(pa1 : Int), (pa2 : Int), refO v1, refD v2, XX⟩).eqb Y then some ⟨(pa1 : Int), (pa2 : Int), refO v1, refD v2, XX⟩ else none by rw [HR2.out, ← HXV.out])
              cases hr : rightC ⟨(pa1 : Int), (pa2 : Int), refO v1, refD v2, XX⟩
              · have HX := Lib.hid (show R = none by rw [HRX.out, hr]; rfl)
                have hs := Lib.hid (fun w' => (hr ▸ rright_any (pa1 : Int) (pa2 : Int) (refO v1) (refD v2) (XX) (hNb) w' : Calls Tryz.prog 6 #[.agg #[.int .i64 (pa1 : Int), .int .i64 (pa2 : Int), .int .i64 (refO v1), .int .i64 (refD v2), .float .f64 (XX)]] w' fun e w'' => e = .returned (.bool false) ∧ Below w'.heap.size w' w''))
                clear hr
                refine wp_phi (fun w' => (Blk w' gc 26 #[.int .i64 (pa1 : Int), .int .i64 (pa2 : Int), .int .i64 (refO v1), .int .i64 (refD v2), .float .f64 (XX)]) ∧ (Blk w' w.heap.size 47 #[.string (bs n0), .string (bs n1), .slice (some ⟨e1, o1, none⟩) 4 ca, .slice pk kx.length ck, .string (bs tx)]) ∧ (Blk w' (w.heap.size + 1) 26 #[.int .i64 0, .int .i64 0, .int .i64 0, .int .i64 0, .float .f64 0]) ∧ Below w.heap.size w w') [(1, PVal (.bool false))] [] (by kernel_rfl) (by kernel_rfl) ?_ ?_ ⟨CX.out, NX.out, MX.out, (BX.out).drew⟩ ?_
                · rintro w1' w2' ⟨f1, f2, f3, hIB⟩ hb
                  exact ⟨(by first | exact f1.below hb | exact f1.keep (Below.keeps hb) | exact Below.keeps hb _ _ f1 | exact Blk.below f1 hb (Blk.lt f1)), (by first | exact f2.below hb | exact f2.keep (Below.keeps hb) | exact Below.keeps hb _ _ f2 | exact Blk.below f2 hb (Blk.lt f2)), (by first | exact f3.below hb | exact f3.keep (Below.keeps hb) | exact Below.keeps hb _ _ f3 | exact Blk.below f3 hb (Blk.lt f3)), hIB.trans (hb.mono hIB.size)⟩
                · simp only [List.mem_cons, List.not_mem_nil, or_false, forall_eq_or_imp, forall_eq]
                  exact fun _ _ _ _ h' h => PVal_stays _ _ _ _ h' h
                repeat (first | (refine phi_skipK rfl (fun K hK => ?_); simp only [Act.put, List.setIfInBounds_toArray, List.set_cons_succ, List.set_cons_zero]; (try simp only [List.cons_append]); (try simp only [List.nil_append]); apply hK; clear hK K) | (refine phi_pureK rfl rfl (fun K hK => ?_); apply Exists.intro; constructor; (focus (rintro w' ⟨f1, f2, f3, hIB⟩; have q0 := (f1.cell 0).trans rfl; have q1 := (f1.cell 1).trans rfl; have q2 := (f1.cell 2).trans rfl; have q3 := (f1.cell 3).trans rfl; have q4 := (f1.cell 4).trans rfl; have p0 := (f2.cell 0).trans rfl; have p1 := (f2.cell 1).trans rfl; have p2 := (f2.cell 2).trans rfl; have p3 := (f2.cell 3).trans rfl; have p4 := (f2.cell 4).trans rfl; clear f1 f2 f3 hIB; first | (go_simp; done) | (go_simp; (try go_bits); (try go_simp); rfl) | go_simp)); simp only [Act.put, List.setIfInBounds_toArray, List.set_cons_succ, List.set_cons_zero]; (try simp only [List.cons_append]); (try simp only [List.nil_append]); apply hK; clear hK K))
                refine phi_partK (PVal (.bool false)) rfl rfl ⟨_, rfl⟩ ?_ (fun K hK v hv => ?_)
                · rintro w' ⟨f1, f2, f3, hIB⟩ hf
                  unfold gives
                  clear hf
                  go_simp
                  refine (hs.out _).mono ?_
                  rintro e w'' ⟨rfl, hb⟩
                  exact ⟨_, rfl, rfl, trivial, hb⟩
                obtain rfl : v = _ := hv
                simp only [Act.put, List.setIfInBounds_toArray, List.set_cons_succ, List.set_cons_zero]; (try simp only [List.cons_append]); (try simp only [List.nil_append])
                apply hK
                clear hK K
                repeat (first | (refine phi_skipK rfl (fun K hK => ?_); simp only [Act.put, List.setIfInBounds_toArray, List.set_cons_succ, List.set_cons_zero]; (try simp only [List.cons_append]); (try simp only [List.nil_append]); apply hK; clear hK K) | (refine phi_pureK rfl rfl (fun K hK => ?_); apply Exists.intro; constructor; (focus (rintro w' ⟨f1, f2, f3, hIB⟩; have q0 := (f1.cell 0).trans rfl; have q1 := (f1.cell 1).trans rfl; have q2 := (f1.cell 2).trans rfl; have q3 := (f1.cell 3).trans rfl; have q4 := (f1.cell 4).trans rfl; have p0 := (f2.cell 0).trans rfl; have p1 := (f2.cell 1).trans rfl; have p2 := (f2.cell 2).trans rfl; have p3 := (f2.cell 3).trans rfl; have p4 := (f2.cell 4).trans rfl; clear f1 f2 f3 hIB; first | (go_simp; done) | (go_simp; (try go_bits); (try go_simp); rfl) | go_simp)); simp only [Act.put, List.setIfInBounds_toArray, List.set_cons_succ, List.set_cons_zero]; (try simp only [List.cons_append]); (try simp only [List.nil_append]); apply hK; clear hK K))
                refine phi_done ?_
                rintro w9 ⟨f1, f2, f3, hb9⟩ _
                refine wpList_nil ?_
                have M9 := Lib.hid f3
                have HB9 := Lib.hid hb9
                clear f1 f2 f3 hb9
                go_wp2_with (refine wpList_store (.tmp 2) (.tmp 118) 26 rfl rfl (w.heap.size + 1) 0 _ _ #[.int .i64 0, .int .i64 0, .int .i64 0, .int .i64 0, .float .f64 0] rfl rfl (M9.out) ?sab4 ?sbb4 ?scb4 ?_)
                case sab4 => kernel_rfl
                case sbb4 => simp [Value.oneCell']
                case scb4 => simp
                intro w8 hb8 ho8
                rw [putCells_all #[.int .i64 0, .int .i64 0, .int .i64 0, .int .i64 0, .float .f64 0] #[.int .i64 0, .int .i64 0, .int .i64 0, .int .i64 0, .float .f64 0] rfl] at hb8
                have z0 := (hb8.cell 0).trans rfl; have z1 := (hb8.cell 1).trans rfl; have z2 := (hb8.cell 2).trans rfl; have z3 := (hb8.cell 3).trans rfl; have z4 := (hb8.cell 4).trans rfl
                have HO8 := Lib.hid ho8
                clear hb8 ho8
                go_wp2_with fail
                refine bodyPost_ret (v := .tuple #[.agg #[.int .i64 0, .int .i64 0, .int .i64 0, .int .i64 0, .float .f64 0], .bool false]) (by simp [results, Tryz.results14, go_sem, z0, z1, z2, z3, z4]) rfl ?_
                exact ⟨(HB9.out).trans (Only.below HO8.out (by omega)), by rw [HX.out]; rfl⟩
              · have HRR := Lib.hid hr
                have hs := Lib.hid (fun w' => (hr ▸ rright_any (pa1 : Int) (pa2 : Int) (refO v1) (refD v2) (XX) (hNb) w' : Calls Tryz.prog 6 #[.agg #[.int .i64 (pa1 : Int), .int .i64 (pa2 : Int), .int .i64 (refO v1), .int .i64 (refD v2), .float .f64 (XX)]] w' fun e w'' => e = .returned (.bool true) ∧ Below w'.heap.size w' w''))
                have hcx := Lib.hid (fun w' => refctx_any (pa1 : Int) (pa2 : Int) (refO v1) (refD v2) (XX) hr w')
                clear hr
                refine wp_phi (fun w' => Blk w' gc 26 #[.int .i64 (pa1 : Int), .int .i64 (pa2 : Int), .int .i64 (refO v1), .int .i64 (refD v2), .float .f64 (XX)] ∧ Blk w' w.heap.size 47 #[.string (bs n0), .string (bs n1), .slice (some ⟨e1, o1, none⟩) 4 ca, .slice pk kx.length ck, .string (bs tx)] ∧ Blk w' (w.heap.size + 1) 26 #[.int .i64 0, .int .i64 0, .int .i64 0, .int .i64 0, .float .f64 0] ∧ Below w.heap.size w w') [(1, PVal (.bool true)), (5, PTr2 (ctxT ⟨(pa1 : Int), (pa2 : Int), refO v1, refD v2, XX⟩) w.heap.size), (7, PVal (.bool ((ctxT ⟨(pa1 : Int), (pa2 : Int), refO v1, refD v2, XX⟩).eqb Y)))] [(7, [5])] (by kernel_rfl) (by kernel_rfl) ?_ ?_ ⟨CX.out, NX.out, MX.out, BX.out.drew⟩ ?_
                · rintro w1' w2' ⟨g1, g2, g3, g4⟩ hb
                  exact ⟨g1.below hb g1.lt, g2.below hb g2.lt, g3.below hb g3.lt, g4.trans (hb.mono g4.size)⟩
                · simp only [List.mem_cons, List.not_mem_nil, or_false, forall_eq_or_imp, forall_eq]
                  exact ⟨fun _ _ _ _ _ h => h, fun _ _ _ _ hb h => PTr2_stays hb h, fun _ _ _ _ _ h => h⟩
                repeat (first | (refine phi_skipK rfl (fun K hK => ?_); simp only [Act.put, List.setIfInBounds_toArray, List.set_cons_succ, List.set_cons_zero]; (try simp only [List.cons_append]); (try simp only [List.nil_append]); apply hK; clear hK K) | (refine phi_pureK rfl rfl (fun K hK => ?_); apply Exists.intro; constructor; (focus (rintro w' ⟨f1, f2, f3, hIB⟩; (have q0 := (f1.cell 0).trans rfl; have q1 := (f1.cell 1).trans rfl; have q2 := (f1.cell 2).trans rfl; have q3 := (f1.cell 3).trans rfl; have q4 := (f1.cell 4).trans rfl; have p0 := (f2.cell 0).trans rfl; have p1 := (f2.cell 1).trans rfl; have p2 := (f2.cell 2).trans rfl; have p3 := (f2.cell 3).trans rfl; have p4 := (f2.cell 4).trans rfl; clear f1 f2 f3 hIB); first | (go_simp; done) | (go_simp; (try go_bits); (try go_simp); rfl) | go_simp)); simp only [Act.put, List.setIfInBounds_toArray, List.set_cons_succ, List.set_cons_zero]; (try simp only [List.cons_append]); (try simp only [List.nil_append]); apply hK; clear hK K))
                refine phi_partK (PVal (.bool true)) rfl rfl ⟨_, rfl⟩ ?_ (fun K hK v hv => ?_)
                · rintro w' _ _
                  unfold gives
                  go_simp
                  refine (hs.out w').mono ?_
                  rintro e w'' ⟨rfl, hb⟩
                  exact ⟨_, rfl, rfl, trivial, hb⟩
                obtain rfl : v = _ := hv
                simp only [Act.put, List.setIfInBounds_toArray, List.set_cons_succ, List.set_cons_zero]; (try simp only [List.cons_append]); (try simp only [List.nil_append])
                apply hK
                clear hK K
                repeat (first | (refine phi_skipK rfl (fun K hK => ?_); simp only [Act.put, List.setIfInBounds_toArray, List.set_cons_succ, List.set_cons_zero]; (try simp only [List.cons_append]); (try simp only [List.nil_append]); apply hK; clear hK K) | (refine phi_pureK rfl rfl (fun K hK => ?_); apply Exists.intro; constructor; (focus (rintro w' ⟨f1, f2, f3, hIB⟩; (have q0 := (f1.cell 0).trans rfl; have q1 := (f1.cell 1).trans rfl; have q2 := (f1.cell 2).trans rfl; have q3 := (f1.cell 3).trans rfl; have q4 := (f1.cell 4).trans rfl; have p0 := (f2.cell 0).trans rfl; have p1 := (f2.cell 1).trans rfl; have p2 := (f2.cell 2).trans rfl; have p3 := (f2.cell 3).trans rfl; have p4 := (f2.cell 4).trans rfl; clear f1 f2 f3 hIB); first | (go_simp; done) | (go_simp; (try go_bits); (try go_simp); rfl) | go_simp)); simp only [Act.put, List.setIfInBounds_toArray, List.set_cons_succ, List.set_cons_zero]; (try simp only [List.cons_append]); (try simp only [List.nil_append]); apply hK; clear hK K))
                refine phi_partK (PTr2 (ctxT ⟨(pa1 : Int), (pa2 : Int), refO v1, refD v2, XX⟩) w.heap.size) rfl rfl ⟨_, .nilIface, .nilIface, .nilIface, .nilIface, .nilIface, rfl⟩ ?_ (fun K hK v hv => ?_)
                · rintro w' ⟨_, _, _, hIB⟩ _
                  have HS := Lib.hid hIB.size
                  clear hIB
                  unfold gives
                  go_simp
                  refine (hcx.out w').mono ?_
                  rintro e w'' ⟨cs, rfl, hcs, hb⟩
                  obtain ⟨d0, d1, d2, d3, d4, rfl⟩ := cells5 hcs ⟨rfl, by simp [ctxT], trivial⟩
                  exact ⟨_, rfl, ⟨d0, d1, d2, d3, d4, rfl⟩, ⟨_, w''.heap.size, rfl, hcs.imp (fun b hb => ⟨Nat.le_trans HS.out hb.1, hb.2⟩), Nat.le_refl _⟩, hb⟩
                obtain ⟨d0, d1, d2, d3, d4, rfl⟩ := hv
                simp only [Act.put, List.setIfInBounds_toArray, List.set_cons_succ, List.set_cons_zero]; (try simp only [List.cons_append]); (try simp only [List.nil_append])
                apply hK
                clear hK K
                repeat (first | (refine phi_skipK rfl (fun K hK => ?_); simp only [Act.put, List.setIfInBounds_toArray, List.set_cons_succ, List.set_cons_zero]; (try simp only [List.cons_append]); (try simp only [List.nil_append]); apply hK; clear hK K) | (refine phi_pureK rfl rfl (fun K hK => ?_); apply Exists.intro; constructor; (focus (rintro w' ⟨f1, f2, f3, hIB⟩; (have q0 := (f1.cell 0).trans rfl; have q1 := (f1.cell 1).trans rfl; have q2 := (f1.cell 2).trans rfl; have q3 := (f1.cell 3).trans rfl; have q4 := (f1.cell 4).trans rfl; have p0 := (f2.cell 0).trans rfl; have p1 := (f2.cell 1).trans rfl; have p2 := (f2.cell 2).trans rfl; have p3 := (f2.cell 3).trans rfl; have p4 := (f2.cell 4).trans rfl; clear f1 f2 f3 hIB); first | (go_simp; done) | (go_simp; (try go_bits); (try go_simp); rfl) | go_simp)); simp only [Act.put, List.setIfInBounds_toArray, List.set_cons_succ, List.set_cons_zero]; (try simp only [List.cons_append]); (try simp only [List.nil_append]); apply hK; clear hK K))
                refine phi_partK (PVal (.bool ((ctxT ⟨(pa1 : Int), (pa2 : Int), refO v1, refD v2, XX⟩).eqb Y))) rfl rfl ⟨_, rfl⟩ ?_ (fun K hK v hv => ?_)
                · rintro w' ⟨_, _, _, hIB⟩ hf
                  obtain ⟨cs, B, ecs, hcs, _⟩ := hf (5, fun w1 => (PTr2 (ctxT ⟨(pa1 : Int), (pa2 : Int), refO v1, refD v2, XX⟩) w.heap.size).fact w1 (.agg #[d0, d1, d2, d3, d4])) (by simp) (List.contains_iff_mem.1 rfl)
                  injection ecs with ecs
                  have ecs2 : cs = [d0, d1, d2, d3, d4] := by
                    have := congrArg Array.toList ecs
                    simpa using this.symm
                  subst ecs2
                  have HSA := Lib.hid (refsame_any _ (ctxT ⟨(pa1 : Int), (pa2 : Int), refO v1, refD v2, XX⟩) Y _ P _ _ w' (Nat.le_refl _) ⟨rfl, by simp [ctxT], trivial⟩ HY0.out hcs (HCY.out.below hIB))
                  clear hIB hf hcs ecs
                  unfold gives
                  go_simp
                  refine HSA.out.mono ?_
                  rintro e w'' ⟨rfl, hb⟩
                  exact ⟨_, rfl, rfl, trivial, hb⟩
                obtain rfl : v = _ := hv
                simp only [Act.put, List.setIfInBounds_toArray, List.set_cons_succ, List.set_cons_zero]; (try simp only [List.cons_append]); (try simp only [List.nil_append])
                apply hK
                clear hK K
                repeat (first | (refine phi_skipK rfl (fun K hK => ?_); simp only [Act.put, List.setIfInBounds_toArray, List.set_cons_succ, List.set_cons_zero]; (try simp only [List.cons_append]); (try simp only [List.nil_append]); apply hK; clear hK K) | (refine phi_pureK rfl rfl (fun K hK => ?_); apply Exists.intro; constructor; (focus (rintro w' ⟨f1, f2, f3, hIB⟩; (clear f1 f2 f3 hIB); first | (go_simp; done) | (go_simp; (try go_bits); (try go_simp); rfl) | go_simp)); simp only [Act.put, List.setIfInBounds_toArray, List.set_cons_succ, List.set_cons_zero]; (try simp only [List.cons_append]); (try simp only [List.nil_append]); apply hK; clear hK K))
                refine phi_done ?_
                rintro w9 ⟨f1, f2, f3, hb9⟩ _
                refine wpList_nil ?_
                have M9 := Lib.hid f3
                have C9 := Lib.hid f1
                have HB9 := Lib.hid hb9
                have q0 := (f1.cell 0).trans rfl; have q1 := (f1.cell 1).trans rfl; have q2 := (f1.cell 2).trans rfl; have q3 := (f1.cell 3).trans rfl; have q4 := (f1.cell 4).trans rfl
                clear f1 f2 f3 hb9 hs hcx
                cases hq : (ctxT ⟨(pa1 : Int), (pa2 : Int), refO v1, refD v2, XX⟩).eqb Y
                · have HX := Lib.hid (show R = none by rw [HRX.out, hq, Bool.and_false]; rfl)
                  clear hq q0 q1 q2 q3 q4
                  go_wp2_with (refine wpList_store (.tmp 2) (.tmp 118) 26 rfl rfl (w.heap.size + 1) 0 _ _ #[.int .i64 0, .int .i64 0, .int .i64 0, .int .i64 0, .float .f64 0] rfl rfl (M9.out) ?saab4 ?sbab4 ?scab4 ?_)
                  case saab4 => kernel_rfl
                  case sbab4 => simp [Value.oneCell']
                  case scab4 => simp
                  intro w8 hb8 ho8
                  rw [putCells_all #[.int .i64 0, .int .i64 0, .int .i64 0, .int .i64 0, .float .f64 0] #[.int .i64 0, .int .i64 0, .int .i64 0, .int .i64 0, .float .f64 0] rfl] at hb8
                  have z0 := (hb8.cell 0).trans rfl; have z1 := (hb8.cell 1).trans rfl; have z2 := (hb8.cell 2).trans rfl; have z3 := (hb8.cell 3).trans rfl; have z4 := (hb8.cell 4).trans rfl
                  have HO8 := Lib.hid ho8
                  clear hb8 ho8
                  go_wp2_with fail
                  refine bodyPost_ret (v := .tuple #[.agg #[.int .i64 0, .int .i64 0, .int .i64 0, .int .i64 0, .float .f64 0], .bool false]) (by simp [results, Tryz.results14, go_sem, z0, z1, z2, z3, z4]) rfl ?_
                  exact ⟨(HB9.out).trans (Only.below HO8.out (by omega)), by rw [HX.out]; rfl⟩
                · have HX := Lib.hid (show R = some ⟨(pa1 : Int), (pa2 : Int), refO v1, refD v2, XX⟩ by rw [HRX.out, hq, HRR.out]; rfl)
                  clear hq
                  go_wp2_with (refine wpList_store (.tmp 2) (.tmp 119) 26 rfl rfl (w.heap.size + 1) 0 _ _ #[.int .i64 (pa1 : Int), .int .i64 (pa2 : Int), .int .i64 (refO v1), .int .i64 (refD v2), .float .f64 (XX)] rfl rfl M9.out ?sdb4 ?seb4 ?sfb4 ?_)
                  case sdb4 => kernel_rfl
                  case seb4 => simp [Value.oneCell']
                  case sfb4 => simp
                  intro w8 hb8 ho8
                  rw [putCells_all #[.int .i64 0, .int .i64 0, .int .i64 0, .int .i64 0, .float .f64 0] #[.int .i64 (pa1 : Int), .int .i64 (pa2 : Int), .int .i64 (refO v1), .int .i64 (refD v2), .float .f64 (XX)] rfl] at hb8
                  have z0 := (hb8.cell 0).trans rfl; have z1 := (hb8.cell 1).trans rfl; have z2 := (hb8.cell 2).trans rfl; have z3 := (hb8.cell 3).trans rfl; have z4 := (hb8.cell 4).trans rfl
                  have HO8 := Lib.hid ho8
                  clear hb8 ho8 q0 q1 q2 q3 q4
                  go_wp2_with fail
                  refine bodyPost_ret (v := .tuple #[.agg #[.int .i64 (pa1 : Int), .int .i64 (pa2 : Int), .int .i64 (refO v1), .int .i64 (refD v2), .float .f64 (XX)], .bool true]) (by simp [results, Tryz.results14, go_sem, z0, z1, z2, z3, z4]) rfl ?_
                  exact ⟨HB9.out.trans (Only.below HO8.out (by omega)), by rw [HX.out]; rfl⟩
end Go.Proofs.YtgmiockaecklaaaGreatDoor
