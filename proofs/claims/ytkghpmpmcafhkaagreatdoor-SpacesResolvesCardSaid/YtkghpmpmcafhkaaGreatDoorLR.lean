/-
  LawSpR: SpacesResolves: the walk.
-/
import Derived.Test.YtkghpmpmcafhkaaGreatDoorPS
import Derived.Test.YtkghpmpmcafhkaaGreatDoorPU
import Derived.Test.YtkghpmpmcafhkaaGreatDoorRG
import Derived.Test.YtkghpmpmcafhkaaGreatDoorRH
import Derived.Test.YtkghpmpmcafhkaaGreatDoorPQ
import Derived.Test.YtkghpmpmcafhkaaGreatDoorPN
namespace Go.Proofs.YtkghpmpmcafhkaaGreatDoor
open Go.RowKit Go.Extern.Stop Go.Stop Go.Extern
attribute [local go_sem] bs_toList
attribute [local irreducible] wpPhi

theorem trc_four {w : World} {P : Nat → Prop} {x : Tr} {cs : List Value} (h : TrC w P x cs) (hn : x.ok 1) : ∃ s0 p1 n1 c1 p2 n2 c2 s3, cs = [.string s0, .slice p1 n1 c1, .slice p2 n2 c2, .string s3] := by
  obtain ⟨nm, ats, ks, t⟩ := x
  unfold Tr.ok at hn
  obtain ⟨a, rfl⟩ := one_of hn.1
  unfold TrC at h
  obtain ⟨pa, ca, pk, ck, css, rfl, _⟩ := h
  exact ⟨_, _, _, _, _, _, _, _, rfl⟩
theorem trc_five {w : World} {P : Nat → Prop} {x : Tr} {cs : List Value} (h : TrC w P x cs) (hn : x.ok 2) : ∃ s0 s1 p1 n1 c1 p2 n2 c2 s3, cs = [.string s0, .string s1, .slice p1 n1 c1, .slice p2 n2 c2, .string s3] := by
  obtain ⟨nm, ats, ks, t⟩ := x
  unfold Tr.ok at hn
  obtain ⟨a, b, rfl⟩ := two_of hn.1
  unfold TrC at h
  obtain ⟨pa, ca, pk, ck, css, rfl, _⟩ := h
  exact ⟨_, _, _, _, _, _, _, _, _, rfl⟩
theorem zeroE_of (w : World) : TrC w (fun _ => True) zeroE [.string ⟨#[]⟩, .string ⟨#[]⟩, .slice none 0 0, .slice none 0 0, .string ⟨#[]⟩] := by
  unfold zeroE TrC
  exact ⟨none, 0, none, 0, [], rfl, ⟨Nat.le_refl _, by unfold maxLen; omega, .inl rfl, fun _ _ => trivial⟩, ⟨Nat.le_refl _, by unfold maxLen; omega, .inl rfl, fun _ _ => trivial⟩, (by unfold TrL; rfl)⟩
/-- the number that Resolve, Write answer -/
def noN (o : Option Tr) : Nat := if o.isSome then 0 else 4
/-- the tree that is answered, or nothing, and the error's number -/
theorem res24x (E : Nat → Addr) (x : Tr) (P : Nat → Prop) (cx : List Value) (w : World) (hg : LibG w) (hE : Errs w E) (hok : x.ok 1) (hsh : x.shr) (hfw : x.few) (hk : ((resolveF x).getD zeroE).ok 2) (hT : TrC w P x cx) :
    Calls Tryz.prog 13 #[.agg cx.toArray] w fun e w' => ∃ s0 s1 p1 n1 c1 p2 n2 c2 s3, e = .returned (.tuple #[.agg #[.string s0, .string s1, .slice p1 n1 c1, .slice p2 n2 c2, .string s3], errV E (noN (resolveF x))]) ∧
      TrC w' (fun _ => True) ((resolveF x).getD zeroE) [.string s0, .string s1, .slice p1 n1 c1, .slice p2 n2 c2, .string s3] ∧ Below w.heap.size w w' := by
  refine (resolve_any E x P cx w hg hE hok hsh hfw hT).mono ?_
  rintro e w' ⟨hb, ⟨y, c0, c1, c2, c3, c4, h1, rfl, h3⟩ | ⟨h1, rfl⟩⟩
  · rw [h1] at hk ⊢
    obtain ⟨s0, s1, p1, n1, c1, p2, n2, c2, s3, e⟩ := trc_five h3 hk
    cases e
    exact ⟨s0, s1, p1, n1, c1, p2, n2, c2, s3, rfl, h3.imp fun _ _ => trivial, hb⟩
  · rw [h1]
    exact ⟨_, _, _, _, _, _, _, _, _, rfl, zeroE_of _, hb⟩
theorem rres24x (x : Tr) (P : Nat → Prop) (cx : List Value) (w : World) (hok : x.ok 1) (hsh : x.shr) (hfw : x.few) (hsz : x.sz ≤ 1000) (hbig : x.wrt.length ≤ 100000000) (hk : ((resolveF x).getD zeroE).ok 2) (hT : TrC w P x cx) :
    Calls Tryz.prog 14 #[.agg cx.toArray] w fun e w' => ∃ s0 s1 p1 n1 c1 p2 n2 c2 s3, e = .returned (.tuple #[.agg #[.string s0, .string s1, .slice p1 n1 c1, .slice p2 n2 c2, .string s3], .int .i64 (noN (resolveF x))]) ∧
      TrC w' (fun _ => True) ((resolveF x).getD zeroE) [.string s0, .string s1, .slice p1 n1 c1, .slice p2 n2 c2, .string s3] ∧ Below w.heap.size w w' := by
  refine (rResolve_any x P cx w hok hsh hfw hsz hbig hT).mono ?_
  rintro e w' ⟨hb, ⟨y, c0, c1, c2, c3, c4, h1, rfl, h3⟩ | ⟨h1, rfl⟩⟩
  · rw [h1] at hk ⊢
    obtain ⟨s0, s1, p1, n1, c1, p2, n2, c2, s3, e⟩ := trc_five h3 hk
    cases e
    exact ⟨s0, s1, p1, n1, c1, p2, n2, c2, s3, rfl, h3.imp fun _ _ => trivial, hb⟩
  · rw [h1]
    exact ⟨_, _, _, _, _, _, _, _, _, rfl, zeroE_of _, hb⟩
theorem res_in {x : Tr} (hf : x.few) : ((resolveF x).getD zeroE).ok 2 ∧ ((resolveF x).getD zeroE).sm := by
  cases h : resolveF x with
  | none => exact ⟨⟨rfl, by simp, trivial⟩, ⟨by simp, by simp, trivial⟩⟩
  | some y => exact ⟨(resolve_ok hf h).1, few_sm y (resolve_ok hf h).2⟩
theorem PcL.two {w : World} {v : Value} {ps : List Pc} (h : PcL w v ps) : ∀ o ∈ ps, ∀ a ∈ o.ats, a.length = 1 + 1 := by
  obtain ⟨p, cap, _, _, _, h4⟩ := h
  intro o ho
  obtain ⟨i, hi, rfl⟩ := List.getElem_of_mem ho
  obtain ⟨_, _, _, _, _, _, _, _, _, _, _, _, _, _, hk, _⟩ := h4 i _ (List.getElem?_eq_getElem hi)
  exact hk
set_option maxRecDepth 40000 in
set_option maxHeartbeats 8000000 in
theorem resolves_any (E : Nat → Addr) (rv : Value) (ps : List Pc) (w : World) (hg : LibG w) (hE : Errs w E) (h : PcL w rv ps) :
    Calls Tryz.prog 3 #[rv] w (fun e w' => e = .returned (.bool true) ∧ Below w.heap.size w w') := by
  have HG := Lib.hid hg
  have HE := Lib.hid hE
  have HAL := Lib.hid (alive24_any E w hg hE)
  have HPC := Lib.hid h
  have HBG := Lib.hid (fun w1 (hb : Below w.heap.size w w1) => big_any rv ps w1 (h.keep hb))
  cases hbig : bigF ps
  rotate_left 1
  · rw [hbig] at HBG
    clear hg hE h hbig
    go_enter Tryz.func3, Tryz.ntmps3
    go_wp2_with fail
    refine HAL.out.mono ?_
    rintro e w1 ⟨rfl, hb1⟩
    have HB1 := Lib.hid hb1
    clear hb1
    go_wp2_with fail
    refine (HBG.out w1 HB1.out).mono ?_
    rintro e w2 ⟨rfl, hb2⟩
    have HB2 := Lib.hid (HB1.out.trans (hb2.mono HB1.out.size))
    clear hb2
    go_wp2_with fail
    go_ret
    exact ⟨rfl, HB2.out⟩
  have HBN := Lib.hid (big_no hbig)
  have HTW := Lib.hid h.two
  have HCAP := Lib.hid (tree_cap hbig h.two ps.length 0)
  have HSZ := Lib.hid (tree_sz hbig)
  have HALL := Lib.hid (cap_all HCAP.out.1 HSZ.out (by omega) (by omega) (by omega) (by omega))
  have HTR := Lib.hid (fun w1 w2 (hb : Below w.heap.size w w1) (hb2 : Below w1.heap.size w1 w2) => tree24_any ps rv w1 (h.keep hb) (by have := HBN.out.2.1; omega) ps.length 0 w2 hb2 (by have := HBN.out.1; omega) (by omega))
  rw [hbig] at HBG
  generalize treeN ps ps.length 0 = X at *
  have HR := Lib.hid (res_in HALL.out.2.2.1)
  have HRES := Lib.hid (fun cx w1 (hb : Below w.heap.size w w1) (hT : TrC w1 (fun _ => True) X cx) => res24x E X _ cx w1 (hg.below hb) (hE.below hb) HCAP.out.2 HALL.out.2.1 HALL.out.2.2.1 HR.out.1 hT)
  have HRRES := Lib.hid (fun P cx w1 (hT : TrC w1 P X cx) => rres24x X P cx w1 HCAP.out.2 HALL.out.2.1 HALL.out.2.2.1 HALL.out.2.2.2.2.1 HALL.out.2.2.2.2.2.2 HR.out.1 hT)
  generalize (resolveF X).getD zeroE = Y at *
  have hnn : noN (resolveF X) ≤ 14 := by unfold noN; split <;> omega
  generalize noN (resolveF X) = nn at *
  have HNUM := Lib.hid (fun w1 (hb : Below w.heap.size w w1) => num_any w1 E nn hnn (hE.below hb))
  clear hg hE h hbig hnn
  go_enter Tryz.func3, Tryz.ntmps3
  go_wp2_with fail
  refine HAL.out.mono ?_
  rintro e w1 ⟨rfl, hb1⟩
  have HB1 := Lib.hid hb1
  clear hb1
  go_wp2_with fail
  refine (HBG.out w1 HB1.out).mono ?_
  rintro e w2 ⟨rfl, hb2⟩
  have HB12 := Lib.hid hb2
  have HB2 := Lib.hid (HB1.out.trans (hb2.mono HB1.out.size))
  clear hb2
  go_wp2_with fail
  refine (HTR.out w1 w2 HB1.out HB12.out).mono ?_
  rintro e w3 ⟨cs, rfl, hT3, hb3⟩
  have hT := TrX.plain _ _ hT3
  obtain ⟨s0, p1, n1, c1, p2, n2, c2, s3, rfl⟩ := trc_four hT HCAP.out.2
  have HBA := Lib.hid (below_alloc1 w3 (.cells #[.string s0, .slice p1 n1 c1, .slice p2 n2 c2, .string s3] 28))
  have HTX := Lib.hid (hT.below HBA.out)
  have HB3 := Lib.hid (HB2.out.trans ((hb3.trans (HBA.out.mono hb3.size)).mono HB2.out.size))
  have HN := Lib.hid (Blk.new w3 28 #[.string s0, .slice p1 n1 c1, .slice p2 n2 c2, .string s3])
  have x0 := (HN.out.cell 0).trans rfl
  have x1 := (HN.out.cell 1).trans rfl
  have x2 := (HN.out.cell 2).trans rfl
  have x3 := (HN.out.cell 3).trans rfl
  clear hT3 hT hb3
  go_wp2_with fail
  generalize w3.alloc (.cells #[.string s0, .slice p1 n1 c1, .slice p2 n2 c2, .string s3] 28) = w4 at *
  generalize w3.heap.size = gx at *
  refine (HRES.out _ w4 HB3.out HTX.out).mono ?_
  rintro e w5 ⟨t0, t1, q1, m1, d1, q2, m2, d2, t3, rfl, hT5, hb5⟩
  have HBA5 := Lib.hid (below_alloc1 w5 (.cells #[.string t0, .string t1, .slice q1 m1 d1, .slice q2 m2 d2, .string t3] 35))
  have HB45 := Lib.hid (hb5.trans (HBA5.out.mono hb5.size))
  have HB5 := Lib.hid (HB3.out.trans (HB45.out.mono HB3.out.size))
  have HTX5 := Lib.hid (HTX.out.below HB45.out)
  have HTY5 := Lib.hid (hT5.below HBA5.out)
  have HN5 := Lib.hid (HN.out.below HB45.out HN.out.lt)
  have HM5 := Lib.hid (Blk.new w5 35 #[.string t0, .string t1, .slice q1 m1 d1, .slice q2 m2 d2, .string t3])
  clear x0 x1 x2 x3 hT5 hb5
  have x0 := (HN5.out.cell 0).trans rfl
  have x1 := (HN5.out.cell 1).trans rfl
  have x2 := (HN5.out.cell 2).trans rfl
  have x3 := (HN5.out.cell 3).trans rfl
  go_wp2_with fail
  generalize w5.alloc (.cells #[.string t0, .string t1, .slice q1 m1 d1, .slice q2 m2 d2, .string t3] 35) = w6 at *
  generalize w5.heap.size = gy at *
  refine (plain24_any _ X _ _ w6 (Nat.le_refl _) HCAP.out.2 HALL.out.2.2.2.1 HTX5.out).mono ?_
  rintro e w7 ⟨cs, rfl, hT7, hb7⟩
  have HB7 := Lib.hid (HB5.out.trans (hb7.mono HB5.out.size))
  have HM7 := Lib.hid (HM5.out.below hb7 HM5.out.lt)
  have HTY7 := Lib.hid (HTY5.out.below hb7)
  have HT7 := Lib.hid hT7
  clear x0 x1 x2 x3 hT7 hb7
  go_wp2_with fail
  refine (HRRES.out _ _ w7 HT7.out).mono ?_
  rintro e w8 ⟨u0, u1, a1, b1, e1, a2, b2, e2, u3, rfl, hT8, hb8⟩
  have HBA8 := Lib.hid (below_alloc1 w8 (.cells #[.string u0, .string u1, .slice a1 b1 e1, .slice a2 b2 e2, .string u3] 44))
  have HB78 := Lib.hid (hb8.trans (HBA8.out.mono hb8.size))
  have HB8 := Lib.hid (HB7.out.trans (HB78.out.mono HB7.out.size))
  have HM8 := Lib.hid (HM7.out.below HB78.out HM7.out.lt)
  have HTY8 := Lib.hid (HTY7.out.below HB78.out)
  have HTZ8 := Lib.hid (hT8.below HBA8.out)
  have HZ8 := Lib.hid (Blk.new w8 44 #[.string u0, .string u1, .slice a1 b1 e1, .slice a2 b2 e2, .string u3])
  clear hT8 hb8
  go_wp2_with fail
  generalize w8.alloc (.cells #[.string u0, .string u1, .slice a1 b1 e1, .slice a2 b2 e2, .string u3] 44) = w9 at *
  generalize w8.heap.size = gz at *
  refine wp_phi (fun w' => Blk w' gy 35 #[.string t0, .string t1, .slice q1 m1 d1, .slice q2 m2 d2, .string t3] ∧ Blk w' gz 44 #[.string u0, .string u1, .slice a1 b1 e1, .slice a2 b2 e2, .string u3] ∧ Below w9.heap.size w9 w') [(1, PTr2 Y w.heap.size), (3, PVal (.bool true)), (6, PVal (.int .i64 nn))] [(3, [1])] (by kernel_rfl) (by kernel_rfl) ?_ ?_ ⟨HM8.out, HZ8.out, (Below.refl _ _).drew⟩ ?_
  · rintro w1' w2' ⟨g1, g2, g4⟩ hb
    exact ⟨g1.below hb g1.lt, g2.below hb g2.lt, g4.trans (hb.mono g4.size)⟩
  · simp only [List.mem_cons, List.not_mem_nil, or_false, forall_eq_or_imp, forall_eq]
    exact ⟨fun _ _ _ _ hb h => PTr2_stays hb h, fun _ _ _ _ _ h => h, fun _ _ _ _ _ h => h⟩
  repeat (first | (refine phi_skipK rfl (fun K hK => ?_); simp only [Act.put, List.setIfInBounds_toArray, List.set_cons_succ, List.set_cons_zero]; (try simp only [List.cons_append]); (try simp only [List.nil_append]); apply hK; clear hK K) | (refine phi_pureK rfl rfl (fun K hK => ?_); apply Exists.intro; constructor; (focus (rintro w' ⟨f1, f2, hIB⟩; (have q0 := (f1.cell 0).trans rfl; have q1 := (f1.cell 1).trans rfl; have q2 := (f1.cell 2).trans rfl; have q3 := (f1.cell 3).trans rfl; have q4 := (f1.cell 4).trans rfl; clear f1 f2 hIB); first | (go_simp; done) | (go_simp; (try go_bits); (try go_simp); rfl) | go_simp)); simp only [Act.put, List.setIfInBounds_toArray, List.set_cons_succ, List.set_cons_zero]; (try simp only [List.cons_append]); (try simp only [List.nil_append]); apply hK; clear hK K))
  refine phi_partK (PTr2 Y w.heap.size) rfl rfl ⟨_, .nilIface, .nilIface, .nilIface, .nilIface, .nilIface, rfl⟩ ?_ (fun K hK v hv => ?_)
  · rintro w' ⟨f1, f2, hIB⟩ _
    have HS := Lib.hid (Nat.le_trans HB8.out.size hIB.size)
    have HK := Lib.hid (told24_any _ Y _ _ w' (Nat.le_refl _) HR.out.1 HR.out.2 (HTY8.out.below hIB))
    clear f1 f2 hIB
    unfold gives
    go_simp
    refine HK.out.mono ?_
    rintro e w'' ⟨cs, rfl, hcs, hb⟩
    obtain ⟨d0, d1, d2, d3, d4, rfl⟩ := cells5 hcs HR.out.1
    exact ⟨_, rfl, ⟨d0, d1, d2, d3, d4, rfl⟩, ⟨_, w''.heap.size, rfl, hcs.imp (fun b hb => ⟨Nat.le_trans HS.out hb.1, hb.2⟩), Nat.le_refl _⟩, hb⟩
  obtain ⟨d0, d1, d2, d3, d4, rfl⟩ := hv
  simp only [Act.put, List.setIfInBounds_toArray, List.set_cons_succ, List.set_cons_zero]; (try simp only [List.cons_append]); (try simp only [List.nil_append])
  apply hK
  clear hK K
  repeat (first | (refine phi_skipK rfl (fun K hK => ?_); simp only [Act.put, List.setIfInBounds_toArray, List.set_cons_succ, List.set_cons_zero]; (try simp only [List.cons_append]); (try simp only [List.nil_append]); apply hK; clear hK K) | (refine phi_pureK rfl rfl (fun K hK => ?_); apply Exists.intro; constructor; (focus (rintro w' ⟨f1, f2, hIB⟩; (have q0 := (f2.cell 0).trans rfl; have q1 := (f2.cell 1).trans rfl; have q2 := (f2.cell 2).trans rfl; have q3 := (f2.cell 3).trans rfl; have q4 := (f2.cell 4).trans rfl; clear f1 f2 hIB); first | (go_simp; done) | (go_simp; (try go_bits); (try go_simp); rfl) | go_simp)); simp only [Act.put, List.setIfInBounds_toArray, List.set_cons_succ, List.set_cons_zero]; (try simp only [List.cons_append]); (try simp only [List.nil_append]); apply hK; clear hK K))
  refine phi_partK (PVal (.bool true)) rfl rfl ⟨_, rfl⟩ ?_ (fun K hK v hv => ?_)
  · rintro w' ⟨_, _, hIB⟩ hf
    obtain ⟨cs1, B1, ecs1, hcs1, _⟩ := hf (1, fun w1 => (PTr2 Y w.heap.size).fact w1 (.agg #[d0, d1, d2, d3, d4])) (by simp) (List.contains_iff_mem.1 rfl)
    injection ecs1 with ecs1
    have e1 : cs1 = [d0, d1, d2, d3, d4] := by
      have := congrArg Array.toList ecs1
      simpa using this.symm
    subst e1
    have HSA := Lib.hid (refsame2_any _ Y Y _ _ _ _ w' (Nat.le_refl _) HR.out.1 HR.out.1 hcs1 (HTZ8.out.below hIB))
    rw [Tr.eqb_refl] at HSA
    clear hIB hf hcs1 ecs1
    unfold gives
    go_simp
    refine HSA.out.mono ?_
    rintro e w'' ⟨rfl, hb⟩
    exact ⟨_, rfl, rfl, trivial, hb⟩
  obtain rfl : v = _ := hv
  simp only [Act.put, List.setIfInBounds_toArray, List.set_cons_succ, List.set_cons_zero]; (try simp only [List.cons_append]); (try simp only [List.nil_append])
  apply hK
  clear hK K
  repeat (first | (refine phi_skipK rfl (fun K hK => ?_); simp only [Act.put, List.setIfInBounds_toArray, List.set_cons_succ, List.set_cons_zero]; (try simp only [List.cons_append]); (try simp only [List.nil_append]); apply hK; clear hK K) | (refine phi_pureK rfl rfl (fun K hK => ?_); apply Exists.intro; constructor; (focus (rintro w' ⟨f1, f2, hIB⟩; (clear f1 f2 hIB); first | (go_simp; done) | (go_simp; (try go_bits); (try go_simp); rfl) | go_simp)); simp only [Act.put, List.setIfInBounds_toArray, List.set_cons_succ, List.set_cons_zero]; (try simp only [List.cons_append]); (try simp only [List.nil_append]); apply hK; clear hK K))
  refine phi_partK (PVal (.int .i64 nn)) rfl rfl ⟨_, rfl⟩ ?_ (fun K hK v hv => ?_)
  · rintro w' ⟨_, _, hIB⟩ hf
    have HK := Lib.hid (HNUM.out w' (HB8.out.trans (hIB.mono HB8.out.size)))
    clear hIB hf
    unfold gives
    go_simp
    refine HK.out.mono ?_
    rintro e w'' ⟨rfl, hb⟩
    exact ⟨_, rfl, rfl, trivial, hb⟩
  obtain rfl : v = _ := hv
  simp only [Act.put, List.setIfInBounds_toArray, List.set_cons_succ, List.set_cons_zero]; (try simp only [List.cons_append]); (try simp only [List.nil_append])
  apply hK
  clear hK K
  repeat (first | (refine phi_skipK rfl (fun K hK => ?_); simp only [Act.put, List.setIfInBounds_toArray, List.set_cons_succ, List.set_cons_zero]; (try simp only [List.cons_append]); (try simp only [List.nil_append]); apply hK; clear hK K) | (refine phi_pureK rfl rfl (fun K hK => ?_); apply Exists.intro; constructor; (focus (rintro w' ⟨f1, f2, hIB⟩; (clear f1 f2 hIB); first | (go_simp; done) | (go_simp; (try go_bits); (try go_simp); rfl) | go_simp)); simp only [Act.put, List.setIfInBounds_toArray, List.set_cons_succ, List.set_cons_zero]; (try simp only [List.cons_append]); (try simp only [List.nil_append]); apply hK; clear hK K))
  refine phi_done ?_
  rintro wz ⟨f1, f2, hbz⟩ _
  refine wpList_nil ?_
  have HBZ := Lib.hid (HB8.out.trans (hbz.mono HB8.out.size))
  clear f1 f2 hbz
  go_wp2_with fail
  go_ret
  exact ⟨rfl, HBZ.out⟩
end Go.Proofs.YtkghpmpmcafhkaaGreatDoor
