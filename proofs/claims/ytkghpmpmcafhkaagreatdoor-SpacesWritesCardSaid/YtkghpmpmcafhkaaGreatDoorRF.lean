/- RefYB -/
import Derived.Test.YtkghpmpmcafhkaaGreatDoorRE
namespace Go.Proofs.YtkghpmpmcafhkaaGreatDoor
set_option maxHeartbeats 8000000
set_option maxRecDepth 20000
open Go.RowKit
attribute [local go_sem] bs_toList
attribute [local irreducible] wpPhi wpPhiU PX.wpPhi
theorem declsF_step {ats : List (List (List UInt8))} {j : Nat} {ds : Decls} (h : j < ats.length) (hd : declsF ats = (declsF (ats.drop j)).map (ds ++ ·)) :
    declsF ats = (declF ats[j]).bind fun d => (declsF (ats.drop (j + 1))).map ((match d with | none => ds | some p => ds ++ [(p, ats[j].getD 1 [])]) ++ ·) := by
  rw [hd, List.drop_eq_getElem_cons h]
  conv => lhs; unfold declsF
  cases declF ats[j] with
  | none => rfl
  | some d =>
    cases d with
    | none => simp
    | some p => simp [Function.comp_def]
def RsR (o : Option Tr) (w : World) (e : Ending) (w' : World) : Prop :=
  Below w.heap.size w w' ∧ ((∃ y cs, o = some y ∧ e = .returned (.tuple #[.agg cs.toArray, .bool true]) ∧ TrC w' (Bt w.heap.size w'.heap.size none) y cs) ∨ (o = none ∧ ∃ f0 f1 f2 f3 f4, e = .returned (.tuple #[.agg #[f0, f1, f2, f3, f4], .bool false]) ∧ (f0.oneCell' = true ∧ f1.oneCell' = true ∧ f2.oneCell' = true ∧ f3.oneCell' = true ∧ f4.oneCell' = true)))
theorem dcells_one (ds : Decls) : ∀ u ∈ dcells ds, u.oneCell' = true := by
  intro u hu
  unfold dcells acells at hu
  obtain ⟨a, ha, hu⟩ := List.mem_flatMap.1 hu
  exact strs_one _ u hu
def POneD (e : TypeId) (cs : Array Value) : Part := ⟨fun v => ∃ g, v = .slice (some ⟨g, 0, none⟩) 1 1, fun w v => ∀ g, v = .slice (some ⟨g, 0, none⟩) 1 1 → Blk w g e cs⟩
theorem POneD_stays {e : TypeId} {cs : Array Value} {size B : Nat} {w w' : World} {v : Value} (h : Rz e size B w w') (hs : cs.size = size) (hf : (POneD e cs).fact w v) : (POneD e cs).fact w' v := fun g hg => h.2.2 g cs (hf g hg) (by omega)
theorem declTy : RowTy Tryz.prog 149 153 2 32 :=
  ⟨Tryz.underlying149, by
    obtain ⟨i, h1, h2, h3, h4⟩ := info_parts (show (Tryz.prog.info? 153).map (fun i => (i.zero, i.size, i.bytes)) = some (some (.agg #[.string ⟨#[]⟩, .string ⟨#[]⟩]), 2, 32) by kernel_rfl)
    exact ⟨i, _, h1, h2, h3, h4, rfl⟩, by omega⟩
theorem attr24_info : (Tryz.prog.info? 93).map (fun i => (i.zero, i.size, i.bytes)) = some (some (.agg #[.string ⟨#[]⟩, .string ⟨#[]⟩, .string ⟨#[]⟩]), 3, 48) := by kernel_rfl
theorem elem24_info : (Tryz.prog.info? 44).map (fun i => (i.zero, i.size, i.bytes)) = some (some (.agg #[.string ⟨#[]⟩, .string ⟨#[]⟩, .slice none 0 0, .slice none 0 0, .string ⟨#[]⟩]), 5, 96) := by kernel_rfl
theorem rresolve_any : ∀ (n : Nat) (x : Tr) (P : Nat → Prop) (cx : List Value) (ds : Decls) (pl : Option Addr) (cl : Nat) (w : World), x.sz ≤ n → x.ok 1 → x.shr → x.few → ds.length + 100000 * n ≤ 1000000000 → TrC w P x cx → Rd w pl (dcells ds) → (∀ a, pl = some a → a.block < w.heap.size) → ds.length ≤ cl → cl ≤ maxLen →
    Calls Tryz.prog 41 #[.agg cx.toArray, .slice pl ds.length cl] w (RsR (x.res ds) w) := by
  intro n
  induction n with
  | zero => intro x P cx ds pl cl w hs; have := x.sz_pos; omega
  | succ n ih =>
    intro x P cx ds pl cl w hs hx hsh hfw hdl hcx hrd hpl hdc hdm
    obtain ⟨nx, ax, kx, tx⟩ := x
    unfold TrC at hcx
    unfold Tr.ok at hx
    unfold Tr.shr at hsh
    unfold Tr.few at hfw
    obtain ⟨hx1, hx2, hx3⟩ := hx
    obtain ⟨hs1, hs2, hs3, hs4⟩ := hsh
    obtain ⟨hf1, hf2, hf3⟩ := hfw
    obtain ⟨a0, rfl⟩ := one_of hx1
    obtain ⟨pa, ca, pk, ck, css, rfl, ⟨A1, A2, A3, -⟩, ⟨K1, K2, K3, -⟩, hL⟩ := hcx
    show Calls Tryz.prog 41 #[.agg #[.string (bs a0), .slice pa ax.length ca, .slice pk kx.length ck, .string (bs tx)], .slice pl ds.length cl] w _
    obtain ⟨w2, hw2⟩ : ∃ w2, w2 = (w.alloc (.cells #[.string (bs a0), .slice pa ax.length ca, .slice pk kx.length ck, .string (bs tx)] 50)).alloc (.cells #[.string ⟨#[]⟩, .string ⟨#[]⟩, .slice none 0 0, .slice none 0 0, .string ⟨#[]⟩] 44) := ⟨_, rfl⟩
    have hB2 : Below w.heap.size w w2 := by rw [hw2]; exact below_alloc (below_alloc1 w _) _
    have hN1 : Blk w2 w.heap.size 50 #[.string (bs a0), .slice pa ax.length ca, .slice pk kx.length ck, .string (bs tx)] := by rw [hw2]; exact (Blk.new w _ _).alloc _
    have hN2 : Blk w2 (w.heap.size + 1) 44 #[.string ⟨#[]⟩, .string ⟨#[]⟩, .slice none 0 0, .slice none 0 0, .string ⟨#[]⟩] := by
      rw [hw2]
      have := Blk.new (w.alloc (.cells #[.string (bs a0), .slice pa ax.length ca, .slice pk kx.length ck, .string (bs tx)] 50)) 44 #[.string ⟨#[]⟩, .string ⟨#[]⟩, .slice none 0 0, .slice none 0 0, .string ⟨#[]⟩]
      rwa [World.size_alloc] at this
    have hS2 : w2.heap.size = w.heap.size + 1 + 1 := by rw [hw2, World.size_alloc, World.size_alloc]
    have HW2 := Lib.hid hw2
    have B2 := Lib.hid hB2
    have N1 := Lib.hid hN1
    have N2 := Lib.hid hN2
    have HS2W := Lib.hid hS2
    have c0 := (hN1.cell 0).trans rfl
    rw [hw2] at c0
    by_cases h0 : a0 = []
    · subst h0
      rw [res_tx]
      have c3 := (hN1.cell 3).trans rfl
      rw [hw2] at c3
      have c0' : ((w.alloc (.cells #[.string (bs []), .slice pa ax.length ca, .slice pk kx.length ck, .string (bs tx)] 50)).alloc (.cells #[.string ⟨#[]⟩, .string ⟨#[]⟩, .slice none 0 0, .slice none 0 0, .string ⟨#[]⟩] 44)).cell? ⟨w.heap.size, 0, none⟩ = some (.string ⟨#[]⟩) := c0
      clear hB2 hN1 hN2 hw2 c0 A3 K3 hL hrd ih hx2 hx3 hs1 hs2 hs4 hf3 hS2
      go_enter Tryz.func41, Tryz.ntmps41
      go_wp2_with (refine wpList_store (.tmp 4) (.tmp 31) 44 rfl rfl (w.heap.size + 1) 0 _ _ #[.string ⟨#[]⟩, .string ⟨#[]⟩, .slice none 0 0, .slice none 0 0, .string (bs tx)] rfl rfl (by rw [← HW2.out]; exact N2.out) (by kernel_rfl) (by simp [Value.oneCell']) (by simp) ?_)
      clear c0' c3
      rw [← HW2.out]
      intro w8 hb8 ho8
      rw [putCells_all #[.string ⟨#[]⟩, .string ⟨#[]⟩, .slice none 0 0, .slice none 0 0, .string ⟨#[]⟩] #[.string ⟨#[]⟩, .string ⟨#[]⟩, .slice none 0 0, .slice none 0 0, .string (bs tx)] rfl] at hb8
      have z0 := (hb8.cell 0).trans rfl
      have z1 := (hb8.cell 1).trans rfl
      have z2 := (hb8.cell 2).trans rfl
      have z3 := (hb8.cell 3).trans rfl
      have z4 := (hb8.cell 4).trans rfl
      have HBW := Lib.hid (B2.out.trans (ho8.below (by omega : w.heap.size ≤ w.heap.size + 1)))
      clear hb8 ho8
      go_wp2_with fail
      refine bodyPost_ret (v := .tuple #[.agg #[.string ⟨#[]⟩, .string ⟨#[]⟩, .slice none 0 0, .slice none 0 0, .string (bs tx)], .bool true]) (by simp [results, Tryz.results41, go_sem, z0, z1, z2, z3, z4]) rfl ?_
      refine ⟨HBW.out, .inl ⟨_, [.string ⟨#[]⟩, .string ⟨#[]⟩, .slice none 0 0, .slice none 0 0, .string (bs tx)], rfl, rfl, ?_⟩⟩
      unfold TrC
      exact ⟨none, 0, none, 0, [], rfl, ⟨Nat.le_refl _, by unfold maxLen; omega, .inl rfl, by simp⟩, ⟨Nat.le_refl _, by unfold maxLen; omega, .inl rfl, by simp⟩, by unfold TrL; rfl⟩
    rw [res_el h0]
    have hi0 : a0.isEmpty = false := by cases a0 with
      | nil => exact absurd rfl h0
      | cons c t => rfl
    have hi1 : (bs a0).toList.isEmpty = false := by rw [bs_toList]; exact hi0
    have HA := Lib.hid A3
    have HK := Lib.hid K3
    have HL := Lib.hid hL
    have HX2 := Lib.hid hx2
    have HX3 := Lib.hid hx3
    have HS2 := Lib.hid hs2
    have HS4 := Lib.hid hs4
    have HF3 := Lib.hid hf3
    have HIH := Lib.hid ih
    have HRD := Lib.hid hrd
    have HPL := Lib.hid hpl
    have has0 : shS a0 := hs1 a0 (by simp)
    have hks : ∀ i (hi : i < kx.length), kx[i].sz ≤ n := fun i hi => by
      have := Tr.sz_kid (.node [a0] ax kx tx) i hi
      have h2 : (Tr.node [a0] ax kx tx).ks[i] = kx[i] := rfl
      rw [h2] at this
      omega
    have HKS := Lib.hid hks
    obtain ⟨R, hR⟩ : ∃ R, ((declsF ax).bind fun d => (nameSp (ds ++ d) a0 false).bind fun n => (atsSp (ds ++ d) [] ax).bind fun bts => (Tr.resL (ds ++ d) kx).map fun k => Tr.node n bts k []) = R := ⟨_, rfl⟩
    rw [hR]
    have HR := Lib.hid hR
    have hca' := A2
    unfold maxLen at hca' K2 hdm
    -- the element that is made
    have hN3 := Blk.new w2 44 #[.string ⟨#[]⟩, .string ⟨#[]⟩, .slice none 0 0, .slice none 0 0, .string ⟨#[]⟩]
    have hB3 := below_alloc1 w2 (.cells #[.string ⟨#[]⟩, .string ⟨#[]⟩, .slice none 0 0, .slice none 0 0, .string ⟨#[]⟩] 44)
    rw [hS2] at hN3 hB3
    have N3 := Lib.hid hN3
    have N13 := Lib.hid (hN1.below (by rw [hS2]; exact hB3) hN1.lt)
    have N23 := Lib.hid (hN2.below (by rw [hS2]; exact hB3) hN2.lt)
    have B3 := Lib.hid (hB2.trans (hB3.mono (by omega)))
    have c1 := (N13.out.cell 1).trans rfl
    rw [hw2] at c1
    clear hB2 hN1 hN2 hw2 hN3 hB3 A3 K3 hL hrd hpl ih hx2 hx3 hs1 hs2 hs4 hf3 h0 hks hR hS2
    go_enter Tryz.func41, Tryz.ntmps41
    go_wp2_with fail
    rw [← HW2.out]
    clear c0 c1 hi0 hi1 HW2
    go_loopw [1, 36] (fun lv i wr => ∃ (j : Nat) (dj D : Decls) (pj : Option Addr) (cj : Nat), j ≤ ax.length ∧ i = .int .i64 j ∧ D = ds ++ dj ∧ lv = .slice pj D.length cj ∧ declsF ax = (declsF (ax.drop j)).map (dj ++ ·) ∧ dj.length ≤ j ∧ Rd wr pj (dcells D) ∧ (∀ a, pj = some a → a.block < wr.heap.size ∧ (a.block < w.heap.size ∨ w.heap.size + 3 ≤ a.block)) ∧ D.length ≤ cj ∧ cj ≤ maxLen ∧ Blk wr w.heap.size 50 #[.string (bs a0), .slice pa ax.length ca, .slice pk kx.length ck, .string (bs tx)] ∧ Blk wr (w.heap.size + 1) 44 #[.string ⟨#[]⟩, .string ⟨#[]⟩, .slice none 0 0, .slice none 0 0, .string ⟨#[]⟩] ∧ Blk wr (w.heap.size + 1 + 1) 44 #[.string ⟨#[]⟩, .string ⟨#[]⟩, .slice none 0 0, .slice none 0 0, .string ⟨#[]⟩] ∧ Below w.heap.size w wr) (fun _ i _ => ax.length - (intOf i).toNat)
    case atStart => exact ⟨0, [], ds, pl, cl, by omega, rfl, by simp, rfl, by simp, Nat.le_refl _, HRD.out.keep (Below.keeps B3.out), fun a ha => ⟨Nat.lt_of_lt_of_le (HPL.out a ha) B3.out.size, .inl (HPL.out a ha)⟩, by omega, by unfold maxLen; omega, N13.out, N23.out, N3.out, B3.out⟩
    case round =>
      obtain ⟨j, dj, D, pj, cj, hj, rfl, hD, rfl, hdj, hjl, hrj, hfar, hcj, hmj, hbx, hbr, hbo, hbw⟩ := hrel
      have HFAR := Lib.hid hfar
      clear hfar
      have HDD := Lib.hid hD
      clear hD
      by_cases hlt : j < ax.length
      · obtain ⟨e1, o1, x0, x1, rfl, hgx, hx0, hx1⟩ := at_1 HA.out HX2.out hlt
        have hx0 := Below.keeps hbw _ _ hx0
        have hx1 := Below.keeps hbw _ _ hx1
        have hlt' : (j : Int) < (ax.length : Int) := by omega
        have hst := declsF_step hlt hdj
        rw [hgx, declF_two] at hst
        have hx0s : shS x0 := HS2.out _ (List.getElem_mem hlt) x0 (by rw [hgx]; simp)
        have hbA := hbw.alloc hbw.size (.cells #[.string (bs x0), .string (bs x1)] 91)
        have hNA := Blk.new wr 91 #[.string (bs x0), .string (bs x1)]
        have HBX := Lib.hid (hbx.alloc (.cells #[.string (bs x0), .string (bs x1)] 91))
        have HBR := Lib.hid (hbr.alloc (.cells #[.string (bs x0), .string (bs x1)] 91))
        have HBO := Lib.hid (hbo.alloc (.cells #[.string (bs x0), .string (bs x1)] 91))
        have HRJ := Lib.hid (hrj.keep (Below.keeps (below_alloc1 wr (.cells #[.string (bs x0), .string (bs x1)] 91))))
        have HSP := Lib.hid (rsplit_any x0 (by have := hx0s; omega) (wr.alloc (.cells #[.string (bs x0), .string (bs x1)] 91)))
        have HST := Lib.hid hst
        have HNA := Lib.hid hNA
        have HBA := Lib.hid hbA
        have HCJ := Lib.hid (And.intro hcj hmj)
        have c0 := (HNA.out.cell 0).trans rfl
        have c1 := (HNA.out.cell 1).trans rfl
        clear hst hdj hgx hNA hbA hbx hbr hbo hbw hrj
        generalize (splitF x0).1 = p at *
        generalize (splitF x0).2 = q at *
        cases h1 : (x0 == [120, 109, 108, 110, 115]) <;> rw [h1] at HST
        rotate_left 1
        · have HST2 := Lib.hid (HST.out.trans (show _ = (declsF (ax.drop (j + 1))).map ((dj ++ [([], x1)]) ++ ·) from by rw [if_pos rfl]; rfl))
          clear HST
          go_wp2_with (go_at_call 82; refine HSP.out.mono ?_; clear HSP; rintro e w2 ⟨rfl, hb2⟩; have d0 := ((HNA.out.below hb2 HNA.out.lt).cell 0).trans rfl)
          have hna2 := HNA.out.below hb2 HNA.out.lt
          have HN2 := Lib.hid hna2
          have HRJ2 := Lib.hid (HRJ.out.keep (Below.keeps hb2))
          have HB2 := Lib.hid (HBA.out.trans (hb2.mono HBA.out.size))
          have HBX2 := Lib.hid (HBX.out.below hb2 HBX.out.lt)
          have HBR2 := Lib.hid (HBR.out.below hb2 HBR.out.lt)
          have HBO2 := Lib.hid (HBO.out.below hb2 HBO.out.lt)
          have hbnd : D.length + 1 ≤ 2000000000 := by rw [HDD.out, List.length_append]; omega
          have HBND := Lib.hid hbnd
          have hb9 := HB2.out.size
          clear hna2 hbnd hb2
          refine wp_phiU (fun k w1' w2' => if k = 0 ∨ k = 6 then Below w1'.heap.size w1' w2' else Rz 153 2 w2.heap.size w1' w2')
            (fun w' => Below w2.heap.size w2 w' ∧ w2.heap.size ≤ w'.heap.size)
            [(0, PZ 153 2 w2.heap.size 0 []), (2, PZ 153 2 w2.heap.size D.length (dcells D)), (6, POneD 153 #[.string ⟨#[]⟩, .string (bs x1)]), (7, PZ 153 2 w2.heap.size (D.length + 1) (dcells D ++ ([.string ⟨#[]⟩, .string (bs x1)] : List Value)))] [(2, [0]), (7, [0, 2, 6])] [] [(2, 7)] (by kernel_rfl) (by kernel_rfl) ?_ ?_ ?_ ?_ ⟨(Below.refl _ _).drew, Nat.le_refl _⟩ ?_
          · rintro p1 hp1 w1' w2' ⟨g1, g2⟩ hR
            have hR : Rz 153 2 w2.heap.size w1' w2' := by
              split at hR
              · exact Rz.of_below hR g2
              · exact hR
            exact ⟨g1.trans hR.1, Nat.le_trans g2 hR.2.1⟩
          · intro p1 hp p' hp' hne hks hns w1' w2' v hI hR hf
            have hRz : Rz 153 2 w2.heap.size w1' w2' := by
              split at hR
              · exact Rz.of_below hR hI.2
              · exact hR
            simp only [List.mem_cons, List.not_mem_nil, or_false] at hp hp'
            rcases hp with rfl | rfl | rfl | rfl
            · exact RowZ.rz hf hRz
            · rcases hp' with rfl | rfl | rfl | rfl
              · exact absurd (show 0 ∈ needs [(2, [0]), (7, [0, 2, 6])] 2 by decide) hns
              · exact absurd rfl hne
              · exact RowZ.below hf (by simpa using hR)
              · exact absurd rfl hks
            · exact POneD_stays hRz rfl hf
            · rcases hp' with rfl | rfl | rfl | rfl
              · exact absurd (show 0 ∈ needs [(2, [0]), (7, [0, 2, 6])] 7 by decide) hns
              · exact absurd (show 2 ∈ needs [(2, [0]), (7, [0, 2, 6])] 7 by decide) hns
              · exact absurd (show 6 ∈ needs [(2, [0]), (7, [0, 2, 6])] 7 by decide) hns
              · exact absurd rfl hne
          · intro p1 hp u hu
            cases hu
          · intro u hu
            cases hu
          repeat (first | (refine phiU_skipK rfl (fun K hK => ?_); simp only [Act.put, List.setIfInBounds_toArray, List.set_cons_succ, List.set_cons_zero, List.cons_append, List.nil_append]; apply hK; clear hK K) | (refine phiU_pureK rfl rfl (fun K hK => ?_); apply Exists.intro; constructor; (focus (rintro w' hI; have q1 := ((HN2.out.below hI.1 HN2.out.lt).cell 1).trans rfl; clear hI; first | (go_simp; done) | (go_simp; (try go_bits); (try go_simp); rfl) | go_simp)); simp only [Act.put, List.setIfInBounds_toArray, List.set_cons_succ, List.set_cons_zero, List.cons_append, List.nil_append]; apply hK; clear hK K))
          refine phiU_partK (PZ 153 2 w2.heap.size 0 []) rfl rfl ⟨_, 0, 0, rfl⟩ ?_ (fun K hK v hv => ?_)
          · rintro w' ⟨g1, g2⟩ hf hu
            unfold gives
            clear hf hu
            go_simp
            exact ⟨⟨_, _, rfl⟩, RowZ.new _ _ _ _ g2, below_alloc1 _ _⟩
          obtain ⟨ga, cga, rfl⟩ := hv
          simp only [Act.put, List.setIfInBounds_toArray, List.set_cons_succ, List.set_cons_zero, List.cons_append, List.nil_append]
          apply hK
          clear hK K
          repeat (first | (refine phiU_skipK rfl (fun K hK => ?_); simp only [Act.put, List.setIfInBounds_toArray, List.set_cons_succ, List.set_cons_zero, List.cons_append, List.nil_append]; apply hK; clear hK K) | (refine phiU_pureK rfl rfl (fun K hK => ?_); apply Exists.intro; constructor; (focus (rintro w' hI; have q1 := ((HN2.out.below hI.1 HN2.out.lt).cell 1).trans rfl; clear hI; first | (go_simp; done) | (go_simp; (try go_bits); (try go_simp); rfl) | go_simp)); simp only [Act.put, List.setIfInBounds_toArray, List.set_cons_succ, List.set_cons_zero, List.cons_append, List.nil_append]; apply hK; clear hK K))
          refine phiU_partK (PZ 153 2 w2.heap.size D.length (dcells D)) rfl rfl ⟨_, 0, 0, rfl⟩ ?_ (fun K hK v hv => ?_)
          · rintro w' ⟨g1, g2⟩ hf hu
            have hh0 : RowZ 153 2 w2.heap.size w' (.slice (some ⟨ga, 0, none⟩) 0 cga) 0 [] := hf (0, fun w1 => (PZ 153 2 w2.heap.size 0 []).fact w1 (.slice (some ⟨ga, 0, none⟩) 0 cga)) (by simp) (List.contains_iff_mem.1 rfl) rfl
            clear hf hu
            refine gives_appZ declTy (.tmp 50) (.tmp 51) rfl rfl hh0 pj D.length cj (dcells D) rfl (dcells_len _) (HRJ2.out.keep (Below.keeps g1)) (dcells_one _) (by have := HBND.out; unfold maxLen; omega) (by have := HBND.out; omega) g2 ?_
            intro v2 w3 hz2 hr2
            rw [Nat.zero_add, List.nil_append] at hz2
            exact ⟨hz2.val, hz2, by simpa using hr2⟩
          obtain ⟨gb, cgb, rfl⟩ := hv
          simp only [Act.put, List.setIfInBounds_toArray, List.set_cons_succ, List.set_cons_zero, List.cons_append, List.nil_append]
          apply hK
          clear hK K
          repeat (first | (refine phiU_skipK rfl (fun K hK => ?_); simp only [Act.put, List.setIfInBounds_toArray, List.set_cons_succ, List.set_cons_zero, List.cons_append, List.nil_append]; apply hK; clear hK K) | (refine phiU_pureK rfl rfl (fun K hK => ?_); apply Exists.intro; constructor; (focus (rintro w' hI; have q1 := ((HN2.out.below hI.1 HN2.out.lt).cell 1).trans rfl; clear hI; first | (go_simp; done) | (go_simp; (try go_bits); (try go_simp); rfl) | go_simp)); simp only [Act.put, List.setIfInBounds_toArray, List.set_cons_succ, List.set_cons_zero, List.cons_append, List.nil_append]; apply hK; clear hK K))
          refine phiU_partK (POneD 153 #[.string ⟨#[]⟩, .string (bs x1)]) rfl rfl ⟨_, 0, rfl⟩ ?_ (fun K hK v hv => ?_)
          · rintro w' ⟨g1, g2⟩ hf hu
            unfold gives
            clear hf hu
            go_simp
            refine ⟨⟨_, rfl⟩, fun g hg => ?_, by simpa using below_alloc1 _ _⟩
            obtain rfl : w'.heap.size = g := by simpa using hg
            exact Blk.new _ _ _
          obtain ⟨gc, rfl⟩ := hv
          simp only [Act.put, List.setIfInBounds_toArray, List.set_cons_succ, List.set_cons_zero, List.cons_append, List.nil_append]
          apply hK
          clear hK K
          repeat (first | (refine phiU_skipK rfl (fun K hK => ?_); simp only [Act.put, List.setIfInBounds_toArray, List.set_cons_succ, List.set_cons_zero, List.cons_append, List.nil_append]; apply hK; clear hK K) | (refine phiU_pureK rfl rfl (fun K hK => ?_); apply Exists.intro; constructor; (focus (rintro w' hI; have q1 := ((HN2.out.below hI.1 HN2.out.lt).cell 1).trans rfl; clear hI; first | (go_simp; done) | (go_simp; (try go_bits); (try go_simp); rfl) | go_simp)); simp only [Act.put, List.setIfInBounds_toArray, List.set_cons_succ, List.set_cons_zero, List.cons_append, List.nil_append]; apply hK; clear hK K))
          refine phiU_partK (PZ 153 2 w2.heap.size (D.length + 1) (dcells D ++ ([.string ⟨#[]⟩, .string (bs x1)] : List Value))) rfl rfl ⟨_, 0, 0, rfl⟩ ?_ (fun K hK v hv => ?_)
          · rintro w' ⟨g1, g2⟩ hf hu
            have hh0 : RowZ 153 2 w2.heap.size w' (.slice (some ⟨gb, 0, none⟩) D.length cgb) D.length (dcells D) := hf (2, fun w1 => (PZ 153 2 w2.heap.size D.length (dcells D)).fact w1 (.slice (some ⟨gb, 0, none⟩) D.length cgb)) (by simp) (List.contains_iff_mem.1 rfl) rfl
            have hh1 : Blk w' gc 153 #[.string ⟨#[]⟩, .string (bs x1)] := hf (6, fun w1 => (POneD 153 #[.string ⟨#[]⟩, .string (bs x1)]).fact w1 (.slice (some ⟨gc, 0, none⟩) 1 1)) (by simp) (List.contains_iff_mem.1 rfl) rfl gc rfl
            clear hf hu
            refine gives_appZ declTy (.tmp 52) (.tmp 56) rfl rfl hh0 (some ⟨gc, 0, none⟩) 1 1 [.string ⟨#[]⟩, .string (bs x1)] rfl rfl (.inr ⟨gc, 0, rfl, fun i u hiu => by rw [Nat.zero_add, hh1.cell]; simpa using hiu⟩) (by simp [Value.oneCell']) (by have := HBND.out; unfold maxLen; omega) (by have := HBND.out; omega) g2 ?_
            intro v2 w3 hz2 hr2
            exact ⟨hz2.val, hz2, by simpa using hr2⟩
          obtain ⟨gd, cgd, rfl⟩ := hv
          simp only [Act.put, List.setIfInBounds_toArray, List.set_cons_succ, List.set_cons_zero, List.cons_append, List.nil_append]
          apply hK
          clear hK K
          repeat (first | (refine phiU_skipK rfl (fun K hK => ?_); simp only [Act.put, List.setIfInBounds_toArray, List.set_cons_succ, List.set_cons_zero, List.cons_append, List.nil_append]; apply hK; clear hK K) | (refine phiU_pureK rfl rfl (fun K hK => ?_); apply Exists.intro; constructor; (focus (rintro w' hI; have q1 := ((HN2.out.below hI.1 HN2.out.lt).cell 1).trans rfl; clear hI; first | (go_simp; done) | (go_simp; (try go_bits); (try go_simp); rfl) | go_simp)); simp only [Act.put, List.setIfInBounds_toArray, List.set_cons_succ, List.set_cons_zero, List.cons_append, List.nil_append]; apply hK; clear hK K))
          refine phiU_done ?_
          rintro w9 ⟨g1, g2⟩ hf
          have h9 : RowZ 153 2 w2.heap.size w9 (.slice (some ⟨gd, 0, none⟩) (D.length + 1) cgd) (D.length + 1) (dcells D ++ ([.string ⟨#[]⟩, .string (bs x1)] : List Value)) := hf (7, fun w1 => (PZ 153 2 w2.heap.size (D.length + 1) (dcells D ++ ([.string ⟨#[]⟩, .string (bs x1)] : List Value))).fact w1 (.slice (some ⟨gd, 0, none⟩) (D.length + 1) cgd)) (by simp) rfl
          have H9 := Lib.hid (And.intro h9 g1)
          clear hf h9 g1 g2
          refine wpList_nil ?_
          go_wp2_with fail
          go_roundw
          case rel =>
            obtain ⟨gz, cz, hz, hzB, hzl, hzm, hzr⟩ := H9.out.1.rd
            cases hz
            have h9lt : gd < _ := (H9.out.1.own.lt gd rfl).2
            have h9a := HBO2.out.lt
            refine ⟨j + 1, dj ++ [([], x1)], D ++ [([], x1)], some ⟨gd, 0, none⟩, cgd, by omega, by go_num, by rw [HDD.out, List.append_assoc], by rw [List.length_append]; rfl, HST2.out, by simp; omega, ?_, fun a ha => by cases ha; exact ⟨h9lt, .inr (by show w.heap.size + 3 ≤ gd; omega)⟩, by rw [List.length_append]; exact hzl, hzm, HBX2.out.below H9.out.2 HBX2.out.lt, HBR2.out.below H9.out.2 HBR2.out.lt, HBO2.out.below H9.out.2 HBO2.out.lt, HB2.out.trans (H9.out.2.mono HB2.out.size)⟩
            rw [dcells_snoc]
            exact hzr
          case measure => simp [intOf]; omega
        have HST := Lib.hid (HST.out.trans (show _ = ((if (p == [120, 109, 108, 110, 115]) = true then (if (x1 == [] || q == [120, 109, 108] || q == [120, 109, 108, 110, 115]) = true then none else some (some q)) else some none).bind fun d => (declsF (ax.drop (j + 1))).map ((match d with | none => dj | some p => dj ++ [(p, x1)]) ++ ·)) from by rw [if_neg (by decide)]; rfl))
        cases h2 : (p == [120, 109, 108, 110, 115]) <;> rw [h2] at HST
        · have HST2 := Lib.hid (HST.out.trans (show _ = (declsF (ax.drop (j + 1))).map (dj ++ ·) from rfl))
          clear HST
          go_wp2_with (go_at_call 82; refine HSP.out.mono ?_; clear HSP; rintro e w2 ⟨rfl, hb2⟩; have d0 := ((HNA.out.below hb2 HNA.out.lt).cell 0).trans rfl; have d1 := ((HNA.out.below hb2 HNA.out.lt).cell 1).trans rfl)
          go_roundw
          case rel => exact ⟨j + 1, dj, D, pj, cj, by omega, by go_num, HDD.out, rfl, HST2.out, by omega, HRJ.out.keep (Below.keeps hb2), fun a ha => ⟨by have := (HFAR.out a ha).1; have := (HBA.out.trans (hb2.mono HBA.out.size)).size; have := hb2.size; simp at this; omega, (HFAR.out a ha).2⟩, HCJ.out.1, HCJ.out.2, HBX.out.below hb2 HBX.out.lt, HBR.out.below hb2 HBR.out.lt, HBO.out.below hb2 HBO.out.lt, HBA.out.trans (hb2.mono HBA.out.size)⟩
          case measure => simp [intOf]; omega
        have HST := Lib.hid (HST.out.trans (show _ = ((if (x1 == [] || q == [120, 109, 108] || q == [120, 109, 108, 110, 115]) = true then (none : Option (Option (List UInt8))) else some (some q)).bind fun d => (declsF (ax.drop (j + 1))).map ((match d with | none => dj | some p => dj ++ [(p, x1)]) ++ ·)) from by rw [if_pos rfl]))
        obtain ⟨xe, hxe⟩ : ∃ xe, (x1 == []) = xe := ⟨_, rfl⟩
        have hx10 : x1.isEmpty = xe := by rw [← hxe]; cases x1 <;> rfl
        have hx11 : (bs x1).toList.isEmpty = xe := by rw [← hxe]; exact isE_bs x1
        rw [hxe] at HST
        clear hxe
        have hno : ∀ b, (xe || q == [120, 109, 108] || q == [120, 109, 108, 110, 115]) = b → b = true → R = none := fun b hb1 hb2 => by
          rw [← HR.out, HST.out, hb1, hb2, if_pos rfl]
          rfl
        have HNO := Lib.hid hno
        clear hno
        cases xe
        rotate_left 1
        · have HR0 := Lib.hid (HNO.out true rfl rfl)
          clear HNO HST
          go_wp2_with (first | (go_at_call 82; refine HSP.out.mono ?_; clear HSP; rintro e w2 ⟨rfl, hb2⟩; have hna2 := HNA.out.below hb2 HNA.out.lt; have d0 := (hna2.cell 0).trans rfl; have d1 := (hna2.cell 1).trans rfl; have hbo2 := HBO.out.below hb2 HBO.out.lt; have r0 := (hbo2.cell 0).trans rfl; have r1 := (hbo2.cell 1).trans rfl; have r2 := (hbo2.cell 2).trans rfl; have r3 := (hbo2.cell 3).trans rfl; have r4 := (hbo2.cell 4).trans rfl; have HBR2 := Lib.hid (HBR.out.below hb2 HBR.out.lt); have HB2 := Lib.hid (HBA.out.trans (hb2.mono HBA.out.size)); clear hna2 hbo2) | (refine wpList_store (.tmp 4) (.tmp 72) 44 rfl rfl (w.heap.size + 1) 0 _ _ #[.string ⟨#[]⟩, .string ⟨#[]⟩, .slice none 0 0, .slice none 0 0, .string ⟨#[]⟩] rfl rfl HBR2.out (by kernel_rfl) (by simp [Value.oneCell']) (by simp) ?_))
          intro w8 hb8 ho8
          rw [putCells_all #[.string ⟨#[]⟩, .string ⟨#[]⟩, .slice none 0 0, .slice none 0 0, .string ⟨#[]⟩] #[.string ⟨#[]⟩, .string ⟨#[]⟩, .slice none 0 0, .slice none 0 0, .string ⟨#[]⟩] rfl] at hb8
          have z0 := (hb8.cell 0).trans rfl
          have z1 := (hb8.cell 1).trans rfl
          have z2 := (hb8.cell 2).trans rfl
          have z3 := (hb8.cell 3).trans rfl
          have z4 := (hb8.cell 4).trans rfl
          have HBW := Lib.hid (HB2.out.trans (ho8.below (by omega : w.heap.size ≤ w.heap.size + 1)))
          clear hb8 ho8
          go_wp2_with fail
          refine bodyPost_ret (v := .tuple #[.agg #[.string ⟨#[]⟩, .string ⟨#[]⟩, .slice none 0 0, .slice none 0 0, .string ⟨#[]⟩], .bool false]) (by simp [results, Tryz.results41, go_sem, z0, z1, z2, z3, z4]) rfl ?_
          exact ⟨HBW.out, .inr ⟨HR0.out, _, _, _, _, _, rfl, by simp [Value.oneCell']⟩⟩
        cases h3 : (q == [120, 109, 108]) <;> rw [h3] at HNO HST
        rotate_left 1
        · have HR0 := Lib.hid (HNO.out true rfl rfl)
          clear HNO HST
          go_wp2_with (first | (go_at_call 82; refine HSP.out.mono ?_; clear HSP; rintro e w2 ⟨rfl, hb2⟩; have hna2 := HNA.out.below hb2 HNA.out.lt; have d0 := (hna2.cell 0).trans rfl; have d1 := (hna2.cell 1).trans rfl; have hbo2 := HBO.out.below hb2 HBO.out.lt; have r0 := (hbo2.cell 0).trans rfl; have r1 := (hbo2.cell 1).trans rfl; have r2 := (hbo2.cell 2).trans rfl; have r3 := (hbo2.cell 3).trans rfl; have r4 := (hbo2.cell 4).trans rfl; have HBR2 := Lib.hid (HBR.out.below hb2 HBR.out.lt); have HB2 := Lib.hid (HBA.out.trans (hb2.mono HBA.out.size)); clear hna2 hbo2) | (refine wpList_store (.tmp 4) (.tmp 72) 44 rfl rfl (w.heap.size + 1) 0 _ _ #[.string ⟨#[]⟩, .string ⟨#[]⟩, .slice none 0 0, .slice none 0 0, .string ⟨#[]⟩] rfl rfl HBR2.out (by kernel_rfl) (by simp [Value.oneCell']) (by simp) ?_))
          intro w8 hb8 ho8
          rw [putCells_all #[.string ⟨#[]⟩, .string ⟨#[]⟩, .slice none 0 0, .slice none 0 0, .string ⟨#[]⟩] #[.string ⟨#[]⟩, .string ⟨#[]⟩, .slice none 0 0, .slice none 0 0, .string ⟨#[]⟩] rfl] at hb8
          have z0 := (hb8.cell 0).trans rfl
          have z1 := (hb8.cell 1).trans rfl
          have z2 := (hb8.cell 2).trans rfl
          have z3 := (hb8.cell 3).trans rfl
          have z4 := (hb8.cell 4).trans rfl
          have HBW := Lib.hid (HB2.out.trans (ho8.below (by omega : w.heap.size ≤ w.heap.size + 1)))
          clear hb8 ho8
          go_wp2_with fail
          refine bodyPost_ret (v := .tuple #[.agg #[.string ⟨#[]⟩, .string ⟨#[]⟩, .slice none 0 0, .slice none 0 0, .string ⟨#[]⟩], .bool false]) (by simp [results, Tryz.results41, go_sem, z0, z1, z2, z3, z4]) rfl ?_
          exact ⟨HBW.out, .inr ⟨HR0.out, _, _, _, _, _, rfl, by simp [Value.oneCell']⟩⟩
        cases h4 : (q == [120, 109, 108, 110, 115]) <;> rw [h4] at HNO HST
        rotate_left 1
        · have HR0 := Lib.hid (HNO.out true rfl rfl)
          clear HNO HST
          go_wp2_with (first | (go_at_call 82; refine HSP.out.mono ?_; clear HSP; rintro e w2 ⟨rfl, hb2⟩; have hna2 := HNA.out.below hb2 HNA.out.lt; have d0 := (hna2.cell 0).trans rfl; have d1 := (hna2.cell 1).trans rfl; have hbo2 := HBO.out.below hb2 HBO.out.lt; have r0 := (hbo2.cell 0).trans rfl; have r1 := (hbo2.cell 1).trans rfl; have r2 := (hbo2.cell 2).trans rfl; have r3 := (hbo2.cell 3).trans rfl; have r4 := (hbo2.cell 4).trans rfl; have HBR2 := Lib.hid (HBR.out.below hb2 HBR.out.lt); have HB2 := Lib.hid (HBA.out.trans (hb2.mono HBA.out.size)); clear hna2 hbo2) | (refine wpList_store (.tmp 4) (.tmp 72) 44 rfl rfl (w.heap.size + 1) 0 _ _ #[.string ⟨#[]⟩, .string ⟨#[]⟩, .slice none 0 0, .slice none 0 0, .string ⟨#[]⟩] rfl rfl HBR2.out (by kernel_rfl) (by simp [Value.oneCell']) (by simp) ?_))
          intro w8 hb8 ho8
          rw [putCells_all #[.string ⟨#[]⟩, .string ⟨#[]⟩, .slice none 0 0, .slice none 0 0, .string ⟨#[]⟩] #[.string ⟨#[]⟩, .string ⟨#[]⟩, .slice none 0 0, .slice none 0 0, .string ⟨#[]⟩] rfl] at hb8
          have z0 := (hb8.cell 0).trans rfl
          have z1 := (hb8.cell 1).trans rfl
          have z2 := (hb8.cell 2).trans rfl
          have z3 := (hb8.cell 3).trans rfl
          have z4 := (hb8.cell 4).trans rfl
          have HBW := Lib.hid (HB2.out.trans (ho8.below (by omega : w.heap.size ≤ w.heap.size + 1)))
          clear hb8 ho8
          go_wp2_with fail
          refine bodyPost_ret (v := .tuple #[.agg #[.string ⟨#[]⟩, .string ⟨#[]⟩, .slice none 0 0, .slice none 0 0, .string ⟨#[]⟩], .bool false]) (by simp [results, Tryz.results41, go_sem, z0, z1, z2, z3, z4]) rfl ?_
          exact ⟨HBW.out, .inr ⟨HR0.out, _, _, _, _, _, rfl, by simp [Value.oneCell']⟩⟩
        have HST2 := Lib.hid (HST.out.trans (show _ = (declsF (ax.drop (j + 1))).map ((dj ++ [(q, x1)]) ++ ·) from rfl))
        clear HST HNO
        go_wp2_with (go_at_call 82; refine HSP.out.mono ?_; clear HSP; rintro e w2 ⟨rfl, hb2⟩; have d0 := ((HNA.out.below hb2 HNA.out.lt).cell 0).trans rfl; have d1 := ((HNA.out.below hb2 HNA.out.lt).cell 1).trans rfl)
        have hna2 := HNA.out.below hb2 HNA.out.lt
        have HN2 := Lib.hid hna2
        have HRJ2 := Lib.hid (HRJ.out.keep (Below.keeps hb2))
        have HB2 := Lib.hid (HBA.out.trans (hb2.mono HBA.out.size))
        have HBX2 := Lib.hid (HBX.out.below hb2 HBX.out.lt)
        have HBR2 := Lib.hid (HBR.out.below hb2 HBR.out.lt)
        have HBO2 := Lib.hid (HBO.out.below hb2 HBO.out.lt)
        have hbnd : D.length + 1 ≤ 2000000000 := by rw [HDD.out, List.length_append]; omega
        have HBND := Lib.hid hbnd
        have hb9 := HB2.out.size
        clear hna2 hbnd hb2
        refine wp_phiU (fun k w1' w2' => if k = 0 ∨ k = 7 then Below w1'.heap.size w1' w2' else Rz 153 2 w2.heap.size w1' w2')
          (fun w' => Below w2.heap.size w2 w' ∧ w2.heap.size ≤ w'.heap.size)
          [(0, PZ 153 2 w2.heap.size 0 []), (2, PZ 153 2 w2.heap.size D.length (dcells D)), (7, POneD 153 #[.string (bs q), .string (bs x1)]), (8, PZ 153 2 w2.heap.size (D.length + 1) (dcells D ++ ([.string (bs q), .string (bs x1)] : List Value)))] [(2, [0]), (8, [0, 2, 7])] [] [(2, 8)] (by kernel_rfl) (by kernel_rfl) ?_ ?_ ?_ ?_ ⟨(Below.refl _ _).drew, Nat.le_refl _⟩ ?_
        · rintro p1 hp1 w1' w2' ⟨g1, g2⟩ hR
          have hR : Rz 153 2 w2.heap.size w1' w2' := by
            split at hR
            · exact Rz.of_below hR g2
            · exact hR
          exact ⟨g1.trans hR.1, Nat.le_trans g2 hR.2.1⟩
        · intro p1 hp p' hp' hne hks hns w1' w2' v hI hR hf
          have hRz : Rz 153 2 w2.heap.size w1' w2' := by
            split at hR
            · exact Rz.of_below hR hI.2
            · exact hR
          simp only [List.mem_cons, List.not_mem_nil, or_false] at hp hp'
          rcases hp with rfl | rfl | rfl | rfl
          · exact RowZ.rz hf hRz
          · rcases hp' with rfl | rfl | rfl | rfl
            · exact absurd (show 0 ∈ needs [(2, [0]), (8, [0, 2, 7])] 2 by decide) hns
            · exact absurd rfl hne
            · exact RowZ.below hf (by simpa using hR)
            · exact absurd rfl hks
          · exact POneD_stays hRz rfl hf
          · rcases hp' with rfl | rfl | rfl | rfl
            · exact absurd (show 0 ∈ needs [(2, [0]), (8, [0, 2, 7])] 8 by decide) hns
            · exact absurd (show 2 ∈ needs [(2, [0]), (8, [0, 2, 7])] 8 by decide) hns
            · exact absurd (show 7 ∈ needs [(2, [0]), (8, [0, 2, 7])] 8 by decide) hns
            · exact absurd rfl hne
        · intro p1 hp u hu
          cases hu
        · intro u hu
          cases hu
        repeat (first | (refine phiU_skipK rfl (fun K hK => ?_); simp only [Act.put, List.setIfInBounds_toArray, List.set_cons_succ, List.set_cons_zero, List.cons_append, List.nil_append]; apply hK; clear hK K) | (refine phiU_pureK rfl rfl (fun K hK => ?_); apply Exists.intro; constructor; (focus (rintro w' hI; have q1 := ((HN2.out.below hI.1 HN2.out.lt).cell 1).trans rfl; clear hI; first | (go_simp; done) | (go_simp; (try go_bits); (try go_simp); rfl) | go_simp)); simp only [Act.put, List.setIfInBounds_toArray, List.set_cons_succ, List.set_cons_zero, List.cons_append, List.nil_append]; apply hK; clear hK K))
        refine phiU_partK (PZ 153 2 w2.heap.size 0 []) rfl rfl ⟨_, 0, 0, rfl⟩ ?_ (fun K hK v hv => ?_)
        · rintro w' ⟨g1, g2⟩ hf hu
          unfold gives
          clear hf hu
          go_simp
          exact ⟨⟨_, _, rfl⟩, RowZ.new _ _ _ _ g2, below_alloc1 _ _⟩
        obtain ⟨ga, cga, rfl⟩ := hv
        simp only [Act.put, List.setIfInBounds_toArray, List.set_cons_succ, List.set_cons_zero, List.cons_append, List.nil_append]
        apply hK
        clear hK K
        repeat (first | (refine phiU_skipK rfl (fun K hK => ?_); simp only [Act.put, List.setIfInBounds_toArray, List.set_cons_succ, List.set_cons_zero, List.cons_append, List.nil_append]; apply hK; clear hK K) | (refine phiU_pureK rfl rfl (fun K hK => ?_); apply Exists.intro; constructor; (focus (rintro w' hI; have q1 := ((HN2.out.below hI.1 HN2.out.lt).cell 1).trans rfl; clear hI; first | (go_simp; done) | (go_simp; (try go_bits); (try go_simp); rfl) | go_simp)); simp only [Act.put, List.setIfInBounds_toArray, List.set_cons_succ, List.set_cons_zero, List.cons_append, List.nil_append]; apply hK; clear hK K))
        refine phiU_partK (PZ 153 2 w2.heap.size D.length (dcells D)) rfl rfl ⟨_, 0, 0, rfl⟩ ?_ (fun K hK v hv => ?_)
        · rintro w' ⟨g1, g2⟩ hf hu
          have hh0 : RowZ 153 2 w2.heap.size w' (.slice (some ⟨ga, 0, none⟩) 0 cga) 0 [] := hf (0, fun w1 => (PZ 153 2 w2.heap.size 0 []).fact w1 (.slice (some ⟨ga, 0, none⟩) 0 cga)) (by simp) (List.contains_iff_mem.1 rfl) rfl
          clear hf hu
          refine gives_appZ declTy (.tmp 73) (.tmp 74) rfl rfl hh0 pj D.length cj (dcells D) rfl (dcells_len _) (HRJ2.out.keep (Below.keeps g1)) (dcells_one _) (by have := HBND.out; unfold maxLen; omega) (by have := HBND.out; omega) g2 ?_
          intro v2 w3 hz2 hr2
          rw [Nat.zero_add, List.nil_append] at hz2
          exact ⟨hz2.val, hz2, by simpa using hr2⟩
        obtain ⟨gb, cgb, rfl⟩ := hv
        simp only [Act.put, List.setIfInBounds_toArray, List.set_cons_succ, List.set_cons_zero, List.cons_append, List.nil_append]
        apply hK
        clear hK K
        repeat (first | (refine phiU_skipK rfl (fun K hK => ?_); simp only [Act.put, List.setIfInBounds_toArray, List.set_cons_succ, List.set_cons_zero, List.cons_append, List.nil_append]; apply hK; clear hK K) | (refine phiU_pureK rfl rfl (fun K hK => ?_); apply Exists.intro; constructor; (focus (rintro w' hI; have q1 := ((HN2.out.below hI.1 HN2.out.lt).cell 1).trans rfl; clear hI; first | (go_simp; done) | (go_simp; (try go_bits); (try go_simp); rfl) | go_simp)); simp only [Act.put, List.setIfInBounds_toArray, List.set_cons_succ, List.set_cons_zero, List.cons_append, List.nil_append]; apply hK; clear hK K))
        refine phiU_partK (POneD 153 #[.string (bs q), .string (bs x1)]) rfl rfl ⟨_, 0, rfl⟩ ?_ (fun K hK v hv => ?_)
        · rintro w' ⟨g1, g2⟩ hf hu
          unfold gives
          clear hf hu
          go_simp
          refine ⟨⟨_, rfl⟩, fun g hg => ?_, by simpa using below_alloc1 _ _⟩
          obtain rfl : w'.heap.size = g := by simpa using hg
          exact Blk.new _ _ _
        obtain ⟨gc, rfl⟩ := hv
        simp only [Act.put, List.setIfInBounds_toArray, List.set_cons_succ, List.set_cons_zero, List.cons_append, List.nil_append]
        apply hK
        clear hK K
        repeat (first | (refine phiU_skipK rfl (fun K hK => ?_); simp only [Act.put, List.setIfInBounds_toArray, List.set_cons_succ, List.set_cons_zero, List.cons_append, List.nil_append]; apply hK; clear hK K) | (refine phiU_pureK rfl rfl (fun K hK => ?_); apply Exists.intro; constructor; (focus (rintro w' hI; have q1 := ((HN2.out.below hI.1 HN2.out.lt).cell 1).trans rfl; clear hI; first | (go_simp; done) | (go_simp; (try go_bits); (try go_simp); rfl) | go_simp)); simp only [Act.put, List.setIfInBounds_toArray, List.set_cons_succ, List.set_cons_zero, List.cons_append, List.nil_append]; apply hK; clear hK K))
        refine phiU_partK (PZ 153 2 w2.heap.size (D.length + 1) (dcells D ++ ([.string (bs q), .string (bs x1)] : List Value))) rfl rfl ⟨_, 0, 0, rfl⟩ ?_ (fun K hK v hv => ?_)
        · rintro w' ⟨g1, g2⟩ hf hu
          have hh0 : RowZ 153 2 w2.heap.size w' (.slice (some ⟨gb, 0, none⟩) D.length cgb) D.length (dcells D) := hf (2, fun w1 => (PZ 153 2 w2.heap.size D.length (dcells D)).fact w1 (.slice (some ⟨gb, 0, none⟩) D.length cgb)) (by simp) (List.contains_iff_mem.1 rfl) rfl
          have hh1 : Blk w' gc 153 #[.string (bs q), .string (bs x1)] := hf (7, fun w1 => (POneD 153 #[.string (bs q), .string (bs x1)]).fact w1 (.slice (some ⟨gc, 0, none⟩) 1 1)) (by simp) (List.contains_iff_mem.1 rfl) rfl gc rfl
          clear hf hu
          refine gives_appZ declTy (.tmp 75) (.tmp 80) rfl rfl hh0 (some ⟨gc, 0, none⟩) 1 1 [.string (bs q), .string (bs x1)] rfl rfl (.inr ⟨gc, 0, rfl, fun i u hiu => by rw [Nat.zero_add, hh1.cell]; simpa using hiu⟩) (by simp [Value.oneCell']) (by have := HBND.out; unfold maxLen; omega) (by have := HBND.out; omega) g2 ?_
          intro v2 w3 hz2 hr2
          exact ⟨hz2.val, hz2, by simpa using hr2⟩
        obtain ⟨gd, cgd, rfl⟩ := hv
        simp only [Act.put, List.setIfInBounds_toArray, List.set_cons_succ, List.set_cons_zero, List.cons_append, List.nil_append]
        apply hK
        clear hK K
        repeat (first | (refine phiU_skipK rfl (fun K hK => ?_); simp only [Act.put, List.setIfInBounds_toArray, List.set_cons_succ, List.set_cons_zero, List.cons_append, List.nil_append]; apply hK; clear hK K) | (refine phiU_pureK rfl rfl (fun K hK => ?_); apply Exists.intro; constructor; (focus (rintro w' hI; have q1 := ((HN2.out.below hI.1 HN2.out.lt).cell 1).trans rfl; clear hI; first | (go_simp; done) | (go_simp; (try go_bits); (try go_simp); rfl) | go_simp)); simp only [Act.put, List.setIfInBounds_toArray, List.set_cons_succ, List.set_cons_zero, List.cons_append, List.nil_append]; apply hK; clear hK K))
        refine phiU_done ?_
        rintro w9 ⟨g1, g2⟩ hf
        have h9 : RowZ 153 2 w2.heap.size w9 (.slice (some ⟨gd, 0, none⟩) (D.length + 1) cgd) (D.length + 1) (dcells D ++ ([.string (bs q), .string (bs x1)] : List Value)) := hf (8, fun w1 => (PZ 153 2 w2.heap.size (D.length + 1) (dcells D ++ ([.string (bs q), .string (bs x1)] : List Value))).fact w1 (.slice (some ⟨gd, 0, none⟩) (D.length + 1) cgd)) (by simp) rfl
        have H9 := Lib.hid (And.intro h9 g1)
        clear hf h9 g1 g2
        refine wpList_nil ?_
        go_wp2_with fail
        go_roundw
        case rel =>
          obtain ⟨gz, cz, hz, hzB, hzl, hzm, hzr⟩ := H9.out.1.rd
          cases hz
          have h9lt : gd < _ := (H9.out.1.own.lt gd rfl).2
          have h9a := HBO2.out.lt
          refine ⟨j + 1, dj ++ [(q, x1)], D ++ [(q, x1)], some ⟨gd, 0, none⟩, cgd, by omega, by go_num, by rw [HDD.out, List.append_assoc], by rw [List.length_append]; rfl, HST2.out, by simp; omega, ?_, fun a ha => by cases ha; exact ⟨h9lt, .inr (by show w.heap.size + 3 ≤ gd; omega)⟩, by rw [List.length_append]; exact hzl, hzm, HBX2.out.below H9.out.2 HBX2.out.lt, HBR2.out.below H9.out.2 HBR2.out.lt, HBO2.out.below H9.out.2 HBO2.out.lt, HB2.out.trans (H9.out.2.mono HB2.out.size)⟩
          rw [dcells_snoc]
          exact hzr
        case measure => simp [intOf]; omega
      · skip
        obtain rfl : j = ax.length := by omega
        rw [List.drop_of_length_le (Nat.le_refl _)] at hdj
        have hdj : declsF ax = some dj := by rw [hdj]; simp [declsF]
        have HALL := Lib.hid (declsF_all hdj)
        have HR2 : RowKit.Hid (((nameSp D a0 false).bind fun n => (atsSp D [] ax).bind fun bts => (Tr.resL D kx).map fun k => Tr.node n bts k []) = R) := Lib.hid (by rw [← HR.out, hdj, HDD.out]; rfl)
        have HDL : RowKit.Hid (D.length ≤ ds.length + ax.length) := Lib.hid (by rw [HDD.out, List.length_append]; omega)
        have HNM := Lib.hid (rname24_any D a0 pj cj wr (by have := has0; omega) hrj hcj hmj)
        have HRJ := Lib.hid hrj
        have HCJ := Lib.hid (And.intro hcj hmj)
        have HBX := Lib.hid hbx
        have HBR := Lib.hid hbr
        have HBO := Lib.hid hbo
        have HBW := Lib.hid hbw
        have k0 := (hbx.cell 0).trans rfl
        obtain ⟨⟨v1, v2, ok⟩, hV⟩ : ∃ V, nameD D a0 = V := ⟨_, rfl⟩
        have hns := nameD_sp D a0
        rw [hV] at hns HNM
        rw [hns] at HR2
        clear hns hV hdj hrj hbx hbr hbo hbw hcj hmj hjl HR HDD HRD
        cases ok
        · have HR0 : RowKit.Hid (R = none) := Lib.hid HR2.out.symm
          clear HR2
          go_wp2_with (first | (go_at_call 83; refine HNM.out.mono ?_; clear HNM; rintro e w3 ⟨rfl, hb3⟩; have hb3' := hb3.trans ((below_alloc1 w3 (.cells #[.string (bs v1), .string (bs v2)] 40)).mono hb3.size); have hnn := Blk.new w3 40 #[.string (bs v1), .string (bs v2)]; have n0 := (hnn.cell 0).trans rfl; have n1 := (hnn.cell 1).trans rfl; have hbo3 := HBO.out.below hb3' HBO.out.lt; have r0 := (hbo3.cell 0).trans rfl; have r1 := (hbo3.cell 1).trans rfl; have r2 := (hbo3.cell 2).trans rfl; have r3 := (hbo3.cell 3).trans rfl; have r4 := (hbo3.cell 4).trans rfl; have HBR3 := Lib.hid (HBR.out.below hb3' HBR.out.lt); have HB3 := Lib.hid (HBW.out.trans (hb3'.mono HBW.out.size)); have HBO3 := Lib.hid hbo3; have HX3 := Lib.hid hb3'; clear hnn hbo3 hb3 hb3') | (refine wpList_store (.tmp 4) (.tmp 92) 44 rfl rfl (w.heap.size + 1) 0 _ _ #[.string ⟨#[]⟩, .string ⟨#[]⟩, .slice none 0 0, .slice none 0 0, .string ⟨#[]⟩] rfl rfl HBR3.out (by kernel_rfl) (by simp [Value.oneCell']) (by simp) ?_))
          intro w8 hb8 ho8
          rw [putCells_all #[.string ⟨#[]⟩, .string ⟨#[]⟩, .slice none 0 0, .slice none 0 0, .string ⟨#[]⟩] #[.string ⟨#[]⟩, .string ⟨#[]⟩, .slice none 0 0, .slice none 0 0, .string ⟨#[]⟩] rfl] at hb8
          have z0 := (hb8.cell 0).trans rfl
          have z1 := (hb8.cell 1).trans rfl
          have z2 := (hb8.cell 2).trans rfl
          have z3 := (hb8.cell 3).trans rfl
          have z4 := (hb8.cell 4).trans rfl
          have HBW := Lib.hid (HB3.out.trans (ho8.below (by omega : w.heap.size ≤ w.heap.size + 1)))
          clear hb8 ho8
          go_wp2_with fail
          refine bodyPost_ret (v := .tuple #[.agg #[.string ⟨#[]⟩, .string ⟨#[]⟩, .slice none 0 0, .slice none 0 0, .string ⟨#[]⟩], .bool false]) (by simp [results, Tryz.results41, go_sem, z0, z1, z2, z3, z4]) rfl ?_
          exact ⟨HBW.out, .inr ⟨HR0.out, _, _, _, _, _, rfl, by simp [Value.oneCell']⟩⟩
        have HR3 : RowKit.Hid (((atsSp D [] ax).bind fun bts => (Tr.resL D kx).map fun k => Tr.node [v1, v2] bts k []) = R) := Lib.hid HR2.out
        clear HR2
        go_wp2_with (first | (go_at_call 83; refine HNM.out.mono ?_; clear HNM; rintro e w3 ⟨rfl, hb3⟩; have hb3' := hb3.trans ((below_alloc1 w3 (.cells #[.string (bs v1), .string (bs v2)] 40)).mono hb3.size); have hnn := Blk.new w3 40 #[.string (bs v1), .string (bs v2)]; have n0 := (hnn.cell 0).trans rfl; have n1 := (hnn.cell 1).trans rfl; have hbo3 := HBO.out.below hb3' HBO.out.lt; have r0 := (hbo3.cell 0).trans rfl; have r1 := (hbo3.cell 1).trans rfl; have r2 := (hbo3.cell 2).trans rfl; have r3 := (hbo3.cell 3).trans rfl; have r4 := (hbo3.cell 4).trans rfl; have HBR3 := Lib.hid (HBR.out.below hb3' HBR.out.lt); have HB3 := Lib.hid (HBW.out.trans (hb3'.mono HBW.out.size)); have HBO3 := Lib.hid hbo3; have HX3 := Lib.hid hb3'; clear hnn hbo3 hb3 hb3') | (refine wpList_store (.tmp 94) (.tmp 93) 40 rfl rfl (w.heap.size + 1 + 1) 0 _ _ #[.string (bs v1), .string (bs v2)] rfl rfl HBO3.out (by kernel_rfl) (by simp [Value.oneCell']) (by simp) ?_))
        intro w4 hb4 ho4
        have hb4 : Blk w4 (w.heap.size + 1 + 1) 44 #[.string (bs v1), .string (bs v2), .slice none 0 0, .slice none 0 0, .string ⟨#[]⟩] := hb4
        have hs3 := HB3.out.size
        have hW4 : Below w.heap.size w w4 := HB3.out.trans (ho4.below (by omega))
        have HBX4 := Lib.hid (ho4.blk (HBX.out.below HX3.out HBX.out.lt) (by omega))
        have HBR4 := Lib.hid (ho4.blk HBR3.out (by omega))
        have HBO4 := Lib.hid hb4
        have HW4 := Lib.hid hW4
        have h6lt := hb4.lt
        have e1' := (HBX4.out.cell 1).trans rfl
        have hrj4 : Rd w4 pj (dcells D) := ((HRJ.out.keep (Below.keeps HX3.out)).keepP (P := fun b => b ≠ (w.heap.size + 1 + 1)) (fun a ha => by have := (HFAR.out a ha).2; omega) fun a u hp hc => (World.cell?_of_block (ho4.block a.block hp)).trans hc)
        have HRJ4 := Lib.hid hrj4
        have HPJ : RowKit.Hid (∀ x, pj = some x → x.block < w4.heap.size ∧ x.block ≠ (w.heap.size + 1 + 1)) := Lib.hid fun x hx => ⟨by have := (HFAR.out x hx).1; have := HX3.out.size; have := ho4.size; omega, by have := (HFAR.out x hx).2; omega⟩
        clear r0 r1 r2 r3 r4 n0 n1 k0 hb4 ho4 hW4 hrj4 HBX HBR HBO HBW HBO3 HBR3 HX3 HB3 hs3
        go_wp2_with fail
        go_loopw [98] (fun i wr => ∃ (j : Nat) (out : List (List (List UInt8))) (po : Option Addr) (co : Nat), j ≤ ax.length ∧ i = .int .i64 j ∧ atsSp D out (ax.drop j) = atsSp D [] ax ∧ (∀ a ∈ out, a.length = 2 + 1) ∧ out.length ≤ j ∧ wr.ownsRow w4.heap.size 93 3 (.slice po out.length co) out.length (acells out) ∧ Blk wr (w.heap.size + 1 + 1) 44 #[.string (bs v1), .string (bs v2), .slice po out.length co, .slice none 0 0, .string ⟨#[]⟩] ∧ Kx (w.heap.size + 1 + 1) w4 wr) (fun i _ => ax.length - (intOf i).toNat)
        case atStart => exact ⟨0, [], none, 0, by omega, rfl, rfl, by simp, Nat.le_refl _, World.ownsRow_nil _ _ _ _, HBO4.out, Kx.refl _ _⟩
        case round =>
          obtain ⟨j, out, po, co, hj, rfl, hat, hol, hoj, hown, hbo, hkx⟩ := hrel
          by_cases hlt : j < ax.length
          · obtain ⟨e1, o1, x0, x1, rfl, hgx, hx0, hx1⟩ := at_1 HA.out HX2.out hlt
            have hbw := hkx.under HW4.out (by omega) (by omega)
            have hx0 := Below.keeps hbw _ _ hx0
            have hx1 := Below.keeps hbw _ _ hx1
            have hlt' : (j : Int) < (ax.length : Int) := by omega
            have hx0s : shS x0 := HS2.out _ (List.getElem_mem hlt) x0 (by rw [hgx]; simp)
            have hx1s : shS x1 := HS2.out _ (List.getElem_mem hlt) x1 (by rw [hgx]; simp)
            have hdne : declF [x0, x1] ≠ none := by rw [← hgx]; exact HALL.out _ (List.getElem_mem hlt)
            have HPASS := Lib.hid (fun hc => (ats_pass (D := D) (out := out) hlt hgx hdne hc).symm.trans hat)
            have HBARE := Lib.hid (fun h1 h2 hp => (ats_bare (D := D) hlt hgx h1 h2 hol hp).symm.trans hat)
            have HPRE := Lib.hid (fun h1 h2 hp => (ats_pre (D := D) hlt hgx h1 h2 hol hp).symm.trans hat)
            have HSP := Lib.hid (rsplit_any x0 (by have := hx0s; omega) (wr.alloc (.cells #[.string (bs x0), .string (bs x1)] 91)))
            have HNX := Lib.hid (Blk.new wr 91 #[.string (bs x0), .string (bs x1)])
            have HKA := Lib.hid (hkx.belowK (below_alloc1 wr (.cells #[.string (bs x0), .string (bs x1)] 91)))
            have HBOA := Lib.hid (hbo.alloc (.cells #[.string (bs x0), .string (bs x1)] 91))
            have HOWA := Lib.hid (owns_below hown (below_alloc1 wr (.cells #[.string (bs x0), .string (bs x1)] 91)))
            have HOL := Lib.hid hol
            have HND := Lib.hid (fun w' (hk : Kx (w.heap.size + 1 + 1) w4 w') => rname24_any D x0 pj cj w' (by have := hx0s; omega) (hk.rdK HRJ4.out HPJ.out) HCJ.out.1 HCJ.out.2)
            have c0 := (HNX.out.cell 0).trans rfl
            have hk4 := hkx.size
            clear hat hol hgx hdne hkx hbo hown hbw e1'
            generalize (splitF x0).1 = p at *
            generalize (splitF x0).2 = q at *
            cases h1 : (x0 == [120, 109, 108, 110, 115]) <;> rw [h1] at HPASS HBARE HPRE
            rotate_left 1
            · have HAT := Lib.hid (HPASS.out (.inl rfl))
              clear HPASS HBARE HPRE
              go_wp2_with (go_at_call 82; refine HSP.out.mono ?_; clear HSP; rintro e w5 ⟨rfl, hb5⟩; have hnx := HNX.out.below hb5 HNX.out.lt; have d0 := (hnx.cell 0).trans rfl; have d1 := (hnx.cell 1).trans rfl; have HNX5 := Lib.hid hnx; have HKA5 := Lib.hid (HKA.out.belowK hb5); have HBA5 := Lib.hid (HBOA.out.below hb5 HBOA.out.lt); have HOW5 := Lib.hid (owns_below HOWA.out hb5); clear hnx hb5)
              go_roundw
              case rel => exact ⟨j + 1, out, po, co, by omega, by go_num, HAT.out, HOL.out, by omega, HOW5.out, HBA5.out, HKA5.out⟩
              case measure => simp [intOf]; omega
            cases h2 : (p == [120, 109, 108, 110, 115]) <;> rw [h2] at HPASS HBARE HPRE
            rotate_left 1
            · have HAT := Lib.hid (HPASS.out (.inr rfl))
              clear HPASS HBARE HPRE
              go_wp2_with (go_at_call 82; refine HSP.out.mono ?_; clear HSP; rintro e w5 ⟨rfl, hb5⟩; have hnx := HNX.out.below hb5 HNX.out.lt; have d0 := (hnx.cell 0).trans rfl; have d1 := (hnx.cell 1).trans rfl; have HNX5 := Lib.hid hnx; have HKA5 := Lib.hid (HKA.out.belowK hb5); have HBA5 := Lib.hid (HBOA.out.below hb5 HBOA.out.lt); have HOW5 := Lib.hid (owns_below HOWA.out hb5); clear hnx hb5)
              go_roundw
              case rel => exact ⟨j + 1, out, po, co, by omega, by go_num, HAT.out, HOL.out, by omega, HOW5.out, HBA5.out, HKA5.out⟩
              case measure => simp [intOf]; omega
            clear HPASS
            obtain ⟨pe, hpe⟩ : ∃ pe, (p == []) = pe := ⟨_, rfl⟩
            have hp0 : p.isEmpty = pe := by rw [← hpe]; cases p <;> rfl
            have hp1 : (bs p).toList.isEmpty = pe := by rw [← hpe]; exact isE_bs p
            rw [hpe] at HBARE HPRE
            clear hpe
            cases pe
            · clear HBARE
              have HAT0 := Lib.hid (HPRE.out rfl rfl rfl)
              clear HPRE
              obtain ⟨⟨u1, u2, ok⟩, hV⟩ : ∃ V, nameD D x0 = V := ⟨_, rfl⟩
              rw [hV] at HND HAT0
              dsimp only at HAT0
              clear hV
              have hqn : ∀ b, (!ok || q == [120, 109, 108, 110, 115]) = b → b = true → R = none := fun b hb1 hb2 => by
                have h := HAT0.out
                rw [hb1, hb2, if_pos rfl] at h
                rw [← HR3.out, ← h]
                rfl
              have HQN := Lib.hid hqn
              clear hqn
              cases ok
              · have HR0 : RowKit.Hid (R = none) := Lib.hid (HQN.out true rfl rfl)
                clear HQN HAT0
                go_wp2_with (first | (go_at_call 82; refine HSP.out.mono ?_; clear HSP; rintro e w5 ⟨rfl, hb5⟩; have hnx := HNX.out.below hb5 HNX.out.lt; have d0 := (hnx.cell 0).trans rfl; have d1 := (hnx.cell 1).trans rfl; have HNX5 := Lib.hid hnx; have HKA5 := Lib.hid (HKA.out.belowK hb5); have HBA5 := Lib.hid (HBOA.out.below hb5 HBOA.out.lt); have HOW5 := Lib.hid (owns_below HOWA.out hb5); clear hnx hb5; have HX5 := Lib.hid (Blk.new w5 93 #[.string ⟨#[]⟩, .string (bs q), .string (bs x1)]); have HB5X := Lib.hid (below_alloc1 w5 (.cells #[.string ⟨#[]⟩, .string (bs q), .string (bs x1)] 93)); have HK5 := Lib.hid (HKA5.out.belowK HB5X.out); have d0 := ((HNX5.out.below HB5X.out HNX5.out.lt).cell 0).trans rfl) | (go_at_call 83; refine (HND.out _ HK5.out).mono ?_; clear HND; rintro e w6 ⟨rfl, hb6⟩; have hb6' := hb6.trans ((below_alloc1 w6 (.cells #[.string (bs u1), .string (bs u2)] 40)).mono hb6.size); have hnn := Blk.new w6 40 #[.string (bs u1), .string (bs u2)]; have n0 := (hnn.cell 0).trans rfl; have n1 := (hnn.cell 1).trans rfl; have HX6 := Lib.hid (HX5.out.below hb6' HX5.out.lt); have HK6 := Lib.hid (HK5.out.belowK hb6'); have HO6 := Lib.hid ((HBA5.out.alloc (.cells #[.string ⟨#[]⟩, .string (bs q), .string (bs x1)] 93)).below hb6' (HBA5.out.alloc (.cells #[.string ⟨#[]⟩, .string (bs q), .string (bs x1)] 93)).lt); have HW6 := Lib.hid (owns_below (owns_below HOW5.out HB5X.out) hb6'); have r0 := (HO6.out.cell 0).trans rfl; have r1 := (HO6.out.cell 1).trans rfl; have r2 := (HO6.out.cell 2).trans rfl; have r3 := (HO6.out.cell 3).trans rfl; have r4 := (HO6.out.cell 4).trans rfl; have HBR6 := Lib.hid (HK6.out.blkK HBR4.out (by omega)); have HB6 := Lib.hid (HK6.out.under HW4.out (by omega) (by omega)); clear hnn hb6 hb6') | (refine wpList_store (.tmp 4) (.tmp 135) 44 rfl rfl (w.heap.size + 1) 0 _ _ #[.string (bs v1), .string (bs v2), .slice po out.length co, .slice none 0 0, .string ⟨#[]⟩] rfl rfl HBR6.out (by kernel_rfl) (by simp [Value.oneCell']) (by simp) ?_))
                intro w8 hb8 ho8
                rw [putCells_all #[.string ⟨#[]⟩, .string ⟨#[]⟩, .slice none 0 0, .slice none 0 0, .string ⟨#[]⟩] #[.string (bs v1), .string (bs v2), .slice po out.length co, .slice none 0 0, .string ⟨#[]⟩] rfl] at hb8
                have z0 := (hb8.cell 0).trans rfl
                have z1 := (hb8.cell 1).trans rfl
                have z2 := (hb8.cell 2).trans rfl
                have z3 := (hb8.cell 3).trans rfl
                have z4 := (hb8.cell 4).trans rfl
                have HBW := Lib.hid (HB6.out.trans (ho8.below (by omega : w.heap.size ≤ w.heap.size + 1)))
                clear hb8 ho8
                go_wp2_with fail
                refine bodyPost_ret (v := .tuple #[.agg #[.string (bs v1), .string (bs v2), .slice po out.length co, .slice none 0 0, .string ⟨#[]⟩], .bool false]) (by simp [results, Tryz.results41, go_sem, z0, z1, z2, z3, z4]) rfl ?_
                exact ⟨HBW.out, .inr ⟨HR0.out, _, _, _, _, _, rfl, by simp [Value.oneCell']⟩⟩
              cases hq2 : (q == [120, 109, 108, 110, 115]) <;> rw [hq2] at HQN HAT0
              rotate_left 1
              · have HR0 : RowKit.Hid (R = none) := Lib.hid (HQN.out true rfl rfl)
                clear HQN HAT0
                go_wp2_with (first | (go_at_call 82; refine HSP.out.mono ?_; clear HSP; rintro e w5 ⟨rfl, hb5⟩; have hnx := HNX.out.below hb5 HNX.out.lt; have d0 := (hnx.cell 0).trans rfl; have d1 := (hnx.cell 1).trans rfl; have HNX5 := Lib.hid hnx; have HKA5 := Lib.hid (HKA.out.belowK hb5); have HBA5 := Lib.hid (HBOA.out.below hb5 HBOA.out.lt); have HOW5 := Lib.hid (owns_below HOWA.out hb5); clear hnx hb5; have HX5 := Lib.hid (Blk.new w5 93 #[.string ⟨#[]⟩, .string (bs q), .string (bs x1)]); have HB5X := Lib.hid (below_alloc1 w5 (.cells #[.string ⟨#[]⟩, .string (bs q), .string (bs x1)] 93)); have HK5 := Lib.hid (HKA5.out.belowK HB5X.out); have d0 := ((HNX5.out.below HB5X.out HNX5.out.lt).cell 0).trans rfl) | (go_at_call 83; refine (HND.out _ HK5.out).mono ?_; clear HND; rintro e w6 ⟨rfl, hb6⟩; have hb6' := hb6.trans ((below_alloc1 w6 (.cells #[.string (bs u1), .string (bs u2)] 40)).mono hb6.size); have hnn := Blk.new w6 40 #[.string (bs u1), .string (bs u2)]; have n0 := (hnn.cell 0).trans rfl; have n1 := (hnn.cell 1).trans rfl; have HX6 := Lib.hid (HX5.out.below hb6' HX5.out.lt); have HK6 := Lib.hid (HK5.out.belowK hb6'); have HO6 := Lib.hid ((HBA5.out.alloc (.cells #[.string ⟨#[]⟩, .string (bs q), .string (bs x1)] 93)).below hb6' (HBA5.out.alloc (.cells #[.string ⟨#[]⟩, .string (bs q), .string (bs x1)] 93)).lt); have HW6 := Lib.hid (owns_below (owns_below HOW5.out HB5X.out) hb6'); have r0 := (HO6.out.cell 0).trans rfl; have r1 := (HO6.out.cell 1).trans rfl; have r2 := (HO6.out.cell 2).trans rfl; have r3 := (HO6.out.cell 3).trans rfl; have r4 := (HO6.out.cell 4).trans rfl; have HBR6 := Lib.hid (HK6.out.blkK HBR4.out (by omega)); have HB6 := Lib.hid (HK6.out.under HW4.out (by omega) (by omega)); clear hnn hb6 hb6') | (refine wpList_store (.tmp 4) (.tmp 135) 44 rfl rfl (w.heap.size + 1) 0 _ _ #[.string (bs v1), .string (bs v2), .slice po out.length co, .slice none 0 0, .string ⟨#[]⟩] rfl rfl HBR6.out (by kernel_rfl) (by simp [Value.oneCell']) (by simp) ?_))
                intro w8 hb8 ho8
                rw [putCells_all #[.string ⟨#[]⟩, .string ⟨#[]⟩, .slice none 0 0, .slice none 0 0, .string ⟨#[]⟩] #[.string (bs v1), .string (bs v2), .slice po out.length co, .slice none 0 0, .string ⟨#[]⟩] rfl] at hb8
                have z0 := (hb8.cell 0).trans rfl
                have z1 := (hb8.cell 1).trans rfl
                have z2 := (hb8.cell 2).trans rfl
                have z3 := (hb8.cell 3).trans rfl
                have z4 := (hb8.cell 4).trans rfl
                have HBW := Lib.hid (HB6.out.trans (ho8.below (by omega : w.heap.size ≤ w.heap.size + 1)))
                clear hb8 ho8
                go_wp2_with fail
                refine bodyPost_ret (v := .tuple #[.agg #[.string (bs v1), .string (bs v2), .slice po out.length co, .slice none 0 0, .string ⟨#[]⟩], .bool false]) (by simp [results, Tryz.results41, go_sem, z0, z1, z2, z3, z4]) rfl ?_
                exact ⟨HBW.out, .inr ⟨HR0.out, _, _, _, _, _, rfl, by simp [Value.oneCell']⟩⟩
              have HAT : RowKit.Hid ((if hasN out u1 u2 = true then none else atsSp D (out ++ [[u1, u2, x1]]) (ax.drop (j + 1))) = atsSp D [] ax) := Lib.hid (HAT0.out)
              clear HQN HAT0
              go_wp2_with (first | (go_at_call 82; refine HSP.out.mono ?_; clear HSP; rintro e w5 ⟨rfl, hb5⟩; have hnx := HNX.out.below hb5 HNX.out.lt; have d0 := (hnx.cell 0).trans rfl; have d1 := (hnx.cell 1).trans rfl; have HNX5 := Lib.hid hnx; have HKA5 := Lib.hid (HKA.out.belowK hb5); have HBA5 := Lib.hid (HBOA.out.below hb5 HBOA.out.lt); have HOW5 := Lib.hid (owns_below HOWA.out hb5); clear hnx hb5; have HX5 := Lib.hid (Blk.new w5 93 #[.string ⟨#[]⟩, .string (bs q), .string (bs x1)]); have HB5X := Lib.hid (below_alloc1 w5 (.cells #[.string ⟨#[]⟩, .string (bs q), .string (bs x1)] 93)); have HK5 := Lib.hid (HKA5.out.belowK HB5X.out); have d0 := ((HNX5.out.below HB5X.out HNX5.out.lt).cell 0).trans rfl) | (go_at_call 83; refine (HND.out _ HK5.out).mono ?_; clear HND; rintro e w6 ⟨rfl, hb6⟩; have hb6' := hb6.trans ((below_alloc1 w6 (.cells #[.string (bs u1), .string (bs u2)] 40)).mono hb6.size); have hnn := Blk.new w6 40 #[.string (bs u1), .string (bs u2)]; have n0 := (hnn.cell 0).trans rfl; have n1 := (hnn.cell 1).trans rfl; have HX6 := Lib.hid (HX5.out.below hb6' HX5.out.lt); have HK6 := Lib.hid (HK5.out.belowK hb6'); have HO6 := Lib.hid ((HBA5.out.alloc (.cells #[.string ⟨#[]⟩, .string (bs q), .string (bs x1)] 93)).below hb6' (HBA5.out.alloc (.cells #[.string ⟨#[]⟩, .string (bs q), .string (bs x1)] 93)).lt); have HW6 := Lib.hid (owns_below (owns_below HOW5.out HB5X.out) hb6'); have r0 := (HO6.out.cell 0).trans rfl; have r1 := (HO6.out.cell 1).trans rfl; have r2 := (HO6.out.cell 2).trans rfl; have r3 := (HO6.out.cell 3).trans rfl; have r4 := (HO6.out.cell 4).trans rfl; have HBR6 := Lib.hid (HK6.out.blkK HBR4.out (by omega)); have HB6 := Lib.hid (HK6.out.under HW4.out (by omega) (by omega)); clear hnn hb6 hb6') | (refine wpList_store (.tmp 137) (.tmp 136) 40 rfl rfl w5.heap.size 0 _ _ #[.string (bs u1), .string (bs u2)] rfl rfl HX6.out (by kernel_rfl) (by simp [Value.oneCell']) (by simp) ?_))
              intro w7 hb7 ho7
              have hb7 : Blk w7 w5.heap.size 93 #[.string (bs u1), .string (bs u2), .string (bs x1)] := hb7
              have hk5 := HKA5.out.size
              have HX7 := Lib.hid hb7
              have HK7 := Lib.hid (HK6.out.onlyN ho7 (by omega))
              have HO7 := Lib.hid (ho7.blk HO6.out (by omega))
              have HW7 := Lib.hid (owns_only ho7 HW6.out (fun b hb => by have := (HOW5.out.lt b hb).2; omega))
              have o2' := (HO7.out.cell 2).trans rfl
              clear c0 HNX HKA HBOA HOWA hb7 ho7 hx0 hx1 n0 n1 r0 r1 r2 r3 r4 HX6 HK6 HO6 HW6 HBR6 HB6
              obtain ⟨n0, rfl⟩ : ∃ n0 : List UInt8, n0 = u1 := ⟨_, rfl⟩
              obtain ⟨n1, rfl⟩ : ∃ n1 : List UInt8, n1 = u2 := ⟨_, rfl⟩
              go_wp2_with fail
              clear o2' HNX5 HKA5 HBA5 HOW5
              generalize w5.heap.size = gX at *
              obtain ⟨wo, rfl⟩ : ∃ wo, wo = wr := ⟨_, rfl⟩
              obtain ⟨pz, cz, hpz, hz1, hz2, hz3⟩ := owns_rd HW7.out
              cases hpz
              have HRO := Lib.hid hz3
              have hk7 := HK7.out.size
              have HO7W : RowKit.Hid (Below w.heap.size w w7) := Lib.hid (HK7.out.under HW4.out (by omega) (by omega))
              unfold maxLen at hz2
              clear hz3
              go_loopw [141] (fun i wz => ∃ m : Nat, m ≤ out.length ∧ i = .int .i64 m ∧ hasN (out.take m) n0 n1 = false ∧ Below w7.heap.size w7 wz) (fun i _ => out.length - (intOf i).toNat)
              case atStart => exact ⟨0, by omega, rfl, rfl, Below.refl _ _⟩
              case round =>
                obtain ⟨m, hm, rfl, hno, hbz⟩ := hrel
                by_cases hlm : m < out.length
                · obtain ⟨e2, o2, b0, b1, b2, rfl, hgm, hb0, hb1, hb2⟩ := at_2 HRO.out HOL.out hlm
                  have hb0 := Below.keeps hbz _ _ hb0
                  have hb1 := Below.keeps hbz _ _ hb1
                  have hb2 := Below.keeps hbz _ _ hb2
                  have hlm' : (m : Int) < (out.length : Int) := by omega
                  have hbK := hbz.alloc hbz.size (.cells #[.string (bs b0), .string (bs b1), .string (bs b2)] 93)
                  have hN := Blk.new wr 93 #[.string (bs b0), .string (bs b1), .string (bs b2)]
                  have u0 := (hN.cell 0).trans rfl
                  have u1 := (hN.cell 1).trans rfl
                  have hx7 := HX7.out.below hbK HX7.out.lt
                  have y0 := (hx7.cell 0).trans rfl
                  have y1 := (hx7.cell 1).trans rfl
                  have HST := Lib.hid (hasN_step hlm hgm hno)
                  have pe := fun w => eqNmD b0 b1 n0 n1 w
                  have HBK := Lib.hid hbK
                  clear hN hx7 hgm hno hbK
                  cases hE : (b0 == n0 && b1 == n1) <;> rw [hE] at HST <;> simp only [hE] at pe
                  · go_wp2_with fail
                    go_roundw
                    case rel => exact ⟨m + 1, by omega, by go_num, HST.out, HBK.out⟩
                    case measure => simp [intOf]; omega
                  · have HR0 : RowKit.Hid (R = none) := Lib.hid (by
                      have h := HAT.out
                      rw [if_pos (hasN_more HST.out)] at h
                      rw [← HR3.out, ← h]
                      rfl)
                    have ho9 := HO7.out.below HBK.out HO7.out.lt
                    have r0 := (ho9.cell 0).trans rfl
                    have r1 := (ho9.cell 1).trans rfl
                    have r2 := (ho9.cell 2).trans rfl
                    have r3 := (ho9.cell 3).trans rfl
                    have r4 := (ho9.cell 4).trans rfl
                    have HBRZ := Lib.hid ((HK7.out.blkK HBR4.out (by omega)).below HBK.out (by have := HBR4.out.lt; omega))
                    have HBZ := Lib.hid (HO7W.out.trans (HBK.out.mono HO7W.out.size))
                    clear ho9
                    go_wp2_with (first | fail | (refine wpList_store (.tmp 4) (.tmp 150) 44 rfl rfl (w.heap.size + 1) 0 _ _ #[.string (bs v1), .string (bs v2), .slice (some ⟨e2, o2, none⟩) out.length co, .slice none 0 0, .string ⟨#[]⟩] rfl rfl HBRZ.out (by kernel_rfl) (by simp [Value.oneCell']) (by simp) ?_))
                    intro w8 hb8 ho8
                    rw [putCells_all #[.string ⟨#[]⟩, .string ⟨#[]⟩, .slice none 0 0, .slice none 0 0, .string ⟨#[]⟩] #[.string (bs v1), .string (bs v2), .slice (some ⟨e2, o2, none⟩) out.length co, .slice none 0 0, .string ⟨#[]⟩] rfl] at hb8
                    have z0 := (hb8.cell 0).trans rfl
                    have z1 := (hb8.cell 1).trans rfl
                    have z2 := (hb8.cell 2).trans rfl
                    have z3 := (hb8.cell 3).trans rfl
                    have z4 := (hb8.cell 4).trans rfl
                    have HBW := Lib.hid (HBZ.out.trans (ho8.below (by omega : w.heap.size ≤ w.heap.size + 1)))
                    clear hb8 ho8
                    go_wp2_with fail
                    refine bodyPost_ret (v := .tuple #[.agg #[.string (bs v1), .string (bs v2), .slice (some ⟨e2, o2, none⟩) out.length co, .slice none 0 0, .string ⟨#[]⟩], .bool false]) (by simp [results, Tryz.results41, go_sem, z0, z1, z2, z3, z4]) rfl ?_
                    exact ⟨HBW.out, .inr ⟨HR0.out, _, _, _, _, _, rfl, by simp [Value.oneCell']⟩⟩
                · obtain rfl : m = out.length := by omega
                  rw [List.take_of_length_le (Nat.le_refl _)] at hno
                  have HAT3 : RowKit.Hid (atsSp D (out ++ [[n0, n1, x1]]) (ax.drop (j + 1)) = atsSp D [] ax) := Lib.hid (by
                    have h := HAT.out
                    rw [hno, if_neg (by decide)] at h
                    exact h)
                  have hbo8 := HO7.out.below hbz HO7.out.lt
                  have hx8 := HX7.out.below hbz HX7.out.lt
                  have s0 := (hbo8.cell 2).trans rfl
                  have t0 := (hx8.cell 0).trans rfl
                  have t1 := (hx8.cell 1).trans rfl
                  have t2 := (hx8.cell 2).trans rfl
                  have HBO8 := Lib.hid hbo8
                  have HOW8 := Lib.hid (owns_below HW7.out hbz)
                  have HK8 := Lib.hid (HK7.out.belowK hbz)
                  have hk8 := HK8.out.size
                  clear hno hbo8 hx8 HAT hbz
                  obtain ⟨i0, hi0, hy0, hy1, hy2⟩ := info_parts attr24_info
                  go_wp2_with (at_builtin; refine wpList_app (.tmp 153) (.tmp 155) 41 rfl rfl w4.heap.size 93 i0 (.agg #[.string ⟨#[]⟩, .string ⟨#[]⟩, .string ⟨#[]⟩]) 3 48 Tryz.underlying41 hi0 hy0 hy1 hy2 rfl (by decide) _ _ _ rfl (owns_below HOW8.out (below_alloc1 _ _)) _ _ _ [.string (bs n0), .string (bs n1), .string (bs x1)] rfl rfl (rd_at _ #[_, _, _] _ _ _ rfl) (by simp [Value.oneCell']) (by unfold maxLen; omega) (by omega) (by simp; omega) ?_)
                  intro v9 w9 ho9 hg9
                  obtain ⟨p9, c9, rfl, _, _, _⟩ := owns_rd ho9
                  have hbo9 := grown_blk hg9 (owns_below HOW8.out (below_alloc1 _ _)) (HBO8.out.alloc _) (by decide)
                  have f1 := hbo9.frozen 2
                  have k1 := (hbo9.cell 2).trans rfl
                  have HK9 := Lib.hid ((HK8.out.belowK (below_alloc1 _ _)).grownN hg9 (fun b hb => (HOW8.out.lt b hb).1))
                  have HB9 := Lib.hid hbo9
                  have HO9 := Lib.hid ho9
                  clear hbo9 ho9 hg9 s0 t0 t1 t2
                  go_wp2_with fail
                  go_roundw
                  case rel => exact ⟨j + 1, out ++ [[n0, n1, x1]], p9, c9, by omega, by go_num, HAT3.out, (fun a ha => by
                    rcases List.mem_append.1 ha with ha | ha
                    · exact HOL.out a ha
                    · rw [List.mem_singleton] at ha; subst ha; rfl), by simp; omega, by rw [acells_snoc, List.length_append]; exact ((Only.refl (w.heap.size + 1 + 1) w9).set_ 2 _).owns2 HO9.out h6lt, (by rw [List.length_append]; exact HB9.out.set_ 2 _), HK9.out.onlyK ((Only.refl (w.heap.size + 1 + 1) w9).set_ 2 _)⟩
                  case measure => simp [intOf]; omega
            · have HAT := Lib.hid (HBARE.out rfl rfl rfl)
              clear HBARE HPRE
              obtain ⟨n0, hn0⟩ : ∃ n0 : List UInt8, n0 = [] := ⟨_, rfl⟩
              obtain ⟨n1, rfl⟩ : ∃ n1 : List UInt8, n1 = q := ⟨_, rfl⟩
              rw [← hn0] at HAT
              go_wp2_with (go_at_call 82; refine HSP.out.mono ?_; clear HSP; rintro e w5 ⟨rfl, hb5⟩; have hnx := HNX.out.below hb5 HNX.out.lt; have d0 := (hnx.cell 0).trans rfl; have d1 := (hnx.cell 1).trans rfl; have HNX5 := Lib.hid hnx; have HKA5 := Lib.hid (HKA.out.belowK hb5); have HBA5 := Lib.hid (HBOA.out.below hb5 HBOA.out.lt); have HOW5 := Lib.hid (owns_below HOWA.out hb5); clear hnx hb5; have o2' := ((HBA5.out.alloc (.cells #[.string ⟨#[]⟩, .string (bs n1), .string (bs x1)] 93)).cell 2).trans rfl)
              have HX7 : RowKit.Hid (Blk (w5.alloc (.cells #[.string ⟨#[]⟩, .string (bs n1), .string (bs x1)] 93)) w5.heap.size 93 #[.string (bs n0), .string (bs n1), .string (bs x1)]) := Lib.hid (by rw [hn0]; exact Blk.new w5 93 #[.string ⟨#[]⟩, .string (bs n1), .string (bs x1)])
              have HK7 := Lib.hid (HKA5.out.belowK (below_alloc1 w5 (.cells #[.string ⟨#[]⟩, .string (bs n1), .string (bs x1)] 93)))
              have HO7 := Lib.hid (HBA5.out.alloc (.cells #[.string ⟨#[]⟩, .string (bs n1), .string (bs x1)] 93))
              have HW7 := Lib.hid (owns_below HOW5.out (below_alloc1 w5 (.cells #[.string ⟨#[]⟩, .string (bs n1), .string (bs x1)] 93)))
              clear d0 d1 c0 o2' hn0 HNX HKA HBOA HOWA HNX5 HKA5 HBA5 HOW5 HND hp0 hp1 hx0 hx1
              generalize w5.heap.size = gX at *
              generalize w5.alloc (.cells #[.string ⟨#[]⟩, .string (bs n1), .string (bs x1)] 93) = w7 at *
              obtain ⟨wo, rfl⟩ : ∃ wo, wo = wr := ⟨_, rfl⟩
              obtain ⟨pz, cz, hpz, hz1, hz2, hz3⟩ := owns_rd HW7.out
              cases hpz
              have HRO := Lib.hid hz3
              have hk7 := HK7.out.size
              have HO7W : RowKit.Hid (Below w.heap.size w w7) := Lib.hid (HK7.out.under HW4.out (by omega) (by omega))
              unfold maxLen at hz2
              clear hz3
              go_loopw [141] (fun i wz => ∃ m : Nat, m ≤ out.length ∧ i = .int .i64 m ∧ hasN (out.take m) n0 n1 = false ∧ Below w7.heap.size w7 wz) (fun i _ => out.length - (intOf i).toNat)
              case atStart => exact ⟨0, by omega, rfl, rfl, Below.refl _ _⟩
              case round =>
                obtain ⟨m, hm, rfl, hno, hbz⟩ := hrel
                by_cases hlm : m < out.length
                · obtain ⟨e2, o2, b0, b1, b2, rfl, hgm, hb0, hb1, hb2⟩ := at_2 HRO.out HOL.out hlm
                  have hb0 := Below.keeps hbz _ _ hb0
                  have hb1 := Below.keeps hbz _ _ hb1
                  have hb2 := Below.keeps hbz _ _ hb2
                  have hlm' : (m : Int) < (out.length : Int) := by omega
                  have hbK := hbz.alloc hbz.size (.cells #[.string (bs b0), .string (bs b1), .string (bs b2)] 93)
                  have hN := Blk.new wr 93 #[.string (bs b0), .string (bs b1), .string (bs b2)]
                  have u0 := (hN.cell 0).trans rfl
                  have u1 := (hN.cell 1).trans rfl
                  have hx7 := HX7.out.below hbK HX7.out.lt
                  have y0 := (hx7.cell 0).trans rfl
                  have y1 := (hx7.cell 1).trans rfl
                  have HST := Lib.hid (hasN_step hlm hgm hno)
                  have pe := fun w => eqNmD b0 b1 n0 n1 w
                  have HBK := Lib.hid hbK
                  clear hN hx7 hgm hno hbK
                  cases hE : (b0 == n0 && b1 == n1) <;> rw [hE] at HST <;> simp only [hE] at pe
                  · go_wp2_with fail
                    go_roundw
                    case rel => exact ⟨m + 1, by omega, by go_num, HST.out, HBK.out⟩
                    case measure => simp [intOf]; omega
                  · have HR0 : RowKit.Hid (R = none) := Lib.hid (by
                      have h := HAT.out
                      rw [if_pos (hasN_more HST.out)] at h
                      rw [← HR3.out, ← h]
                      rfl)
                    have ho9 := HO7.out.below HBK.out HO7.out.lt
                    have r0 := (ho9.cell 0).trans rfl
                    have r1 := (ho9.cell 1).trans rfl
                    have r2 := (ho9.cell 2).trans rfl
                    have r3 := (ho9.cell 3).trans rfl
                    have r4 := (ho9.cell 4).trans rfl
                    have HBRZ := Lib.hid ((HK7.out.blkK HBR4.out (by omega)).below HBK.out (by have := HBR4.out.lt; omega))
                    have HBZ := Lib.hid (HO7W.out.trans (HBK.out.mono HO7W.out.size))
                    clear ho9
                    go_wp2_with (first | fail | (refine wpList_store (.tmp 4) (.tmp 150) 44 rfl rfl (w.heap.size + 1) 0 _ _ #[.string (bs v1), .string (bs v2), .slice (some ⟨e2, o2, none⟩) out.length co, .slice none 0 0, .string ⟨#[]⟩] rfl rfl HBRZ.out (by kernel_rfl) (by simp [Value.oneCell']) (by simp) ?_))
                    intro w8 hb8 ho8
                    rw [putCells_all #[.string ⟨#[]⟩, .string ⟨#[]⟩, .slice none 0 0, .slice none 0 0, .string ⟨#[]⟩] #[.string (bs v1), .string (bs v2), .slice (some ⟨e2, o2, none⟩) out.length co, .slice none 0 0, .string ⟨#[]⟩] rfl] at hb8
                    have z0 := (hb8.cell 0).trans rfl
                    have z1 := (hb8.cell 1).trans rfl
                    have z2 := (hb8.cell 2).trans rfl
                    have z3 := (hb8.cell 3).trans rfl
                    have z4 := (hb8.cell 4).trans rfl
                    have HBW := Lib.hid (HBZ.out.trans (ho8.below (by omega : w.heap.size ≤ w.heap.size + 1)))
                    clear hb8 ho8
                    go_wp2_with fail
                    refine bodyPost_ret (v := .tuple #[.agg #[.string (bs v1), .string (bs v2), .slice (some ⟨e2, o2, none⟩) out.length co, .slice none 0 0, .string ⟨#[]⟩], .bool false]) (by simp [results, Tryz.results41, go_sem, z0, z1, z2, z3, z4]) rfl ?_
                    exact ⟨HBW.out, .inr ⟨HR0.out, _, _, _, _, _, rfl, by simp [Value.oneCell']⟩⟩
                · obtain rfl : m = out.length := by omega
                  rw [List.take_of_length_le (Nat.le_refl _)] at hno
                  have HAT3 : RowKit.Hid (atsSp D (out ++ [[n0, n1, x1]]) (ax.drop (j + 1)) = atsSp D [] ax) := Lib.hid (by
                    have h := HAT.out
                    rw [hno, if_neg (by decide)] at h
                    exact h)
                  have hbo8 := HO7.out.below hbz HO7.out.lt
                  have hx8 := HX7.out.below hbz HX7.out.lt
                  have s0 := (hbo8.cell 2).trans rfl
                  have t0 := (hx8.cell 0).trans rfl
                  have t1 := (hx8.cell 1).trans rfl
                  have t2 := (hx8.cell 2).trans rfl
                  have HBO8 := Lib.hid hbo8
                  have HOW8 := Lib.hid (owns_below HW7.out hbz)
                  have HK8 := Lib.hid (HK7.out.belowK hbz)
                  have hk8 := HK8.out.size
                  clear hno hbo8 hx8 HAT hbz
                  obtain ⟨i0, hi0, hy0, hy1, hy2⟩ := info_parts attr24_info
                  go_wp2_with (at_builtin; refine wpList_app (.tmp 153) (.tmp 155) 41 rfl rfl w4.heap.size 93 i0 (.agg #[.string ⟨#[]⟩, .string ⟨#[]⟩, .string ⟨#[]⟩]) 3 48 Tryz.underlying41 hi0 hy0 hy1 hy2 rfl (by decide) _ _ _ rfl (owns_below HOW8.out (below_alloc1 _ _)) _ _ _ [.string (bs n0), .string (bs n1), .string (bs x1)] rfl rfl (rd_at _ #[_, _, _] _ _ _ rfl) (by simp [Value.oneCell']) (by unfold maxLen; omega) (by omega) (by simp; omega) ?_)
                  intro v9 w9 ho9 hg9
                  obtain ⟨p9, c9, rfl, _, _, _⟩ := owns_rd ho9
                  have hbo9 := grown_blk hg9 (owns_below HOW8.out (below_alloc1 _ _)) (HBO8.out.alloc _) (by decide)
                  have f1 := hbo9.frozen 2
                  have k1 := (hbo9.cell 2).trans rfl
                  have HK9 := Lib.hid ((HK8.out.belowK (below_alloc1 _ _)).grownN hg9 (fun b hb => (HOW8.out.lt b hb).1))
                  have HB9 := Lib.hid hbo9
                  have HO9 := Lib.hid ho9
                  clear hbo9 ho9 hg9 s0 t0 t1 t2
                  go_wp2_with fail
                  go_roundw
                  case rel => exact ⟨j + 1, out ++ [[n0, n1, x1]], p9, c9, by omega, by go_num, HAT3.out, (fun a ha => by
                    rcases List.mem_append.1 ha with ha | ha
                    · exact HOL.out a ha
                    · rw [List.mem_singleton] at ha; subst ha; rfl), by simp; omega, by rw [acells_snoc, List.length_append]; exact ((Only.refl (w.heap.size + 1 + 1) w9).set_ 2 _).owns2 HO9.out h6lt, (by rw [List.length_append]; exact HB9.out.set_ 2 _), HK9.out.onlyK ((Only.refl (w.heap.size + 1 + 1) w9).set_ 2 _)⟩
                  case measure => simp [intOf]; omega
          · obtain rfl : j = ax.length := by omega
            rw [List.drop_of_length_le (Nat.le_refl _)] at hat
            have hat : atsSp D [] ax = some out := by rw [← hat]; unfold atsSp; rfl
            have HR4 : RowKit.Hid (((Tr.resL D kx).map fun k => Tr.node [v1, v2] out k []) = R) := Lib.hid (by rw [← HR3.out, hat]; rfl)
            obtain ⟨w9, rfl⟩ : ∃ w9, w9 = wr := ⟨_, rfl⟩
            have hk9 := hkx.size
            have hlim : w.heap.size ≤ w4.heap.size := HW4.out.size
            have HW9 := Lib.hid (hkx.under HW4.out (by omega) (by omega))
            have hbx9 := hkx.blkK HBX4.out (by omega)
            have HBR9 := Lib.hid (hkx.blkK HBR4.out (by omega))
            have HRJ9 := Lib.hid (hkx.rdK HRJ4.out HPJ.out)
            have HPJ9 : RowKit.Hid (∀ x, pj = some x → x.block < w9.heap.size ∧ x.block ≠ (w.heap.size + 1 + 1)) := Lib.hid fun x hx => ⟨by have := (HPJ.out x hx).1; omega, (HPJ.out x hx).2⟩
            have HOW9 := Lib.hid hown
            have HBO9 := Lib.hid hbo
            have HOL := Lib.hid hol
            have e2' := (hbx9.cell 2).trans rfl
            have h69 := hbo.lt
            clear e1' hat hkx hbx9 hown hbo hol HR3 HPJ HRJ4 HBR4 HBX4 HBO4
            go_wp2_with fail
            go_loopw [162] (fun i wr => ∃ (j : Nat) (pv : Option Addr) (cv : Nat) (ys : List Tr) (dss : List (List Value)), j ≤ kx.length ∧ i = .int .i64 j ∧ Tr.resL D (kx.take j) = some ys ∧ wr.ownsRow w9.heap.size 44 5 (.slice pv j cv) j dss.flatten ∧ TrL wr (Bt w9.heap.size wr.heap.size (Value.slice pv j cv).ownBlock) ys dss ∧ wr.ownsRow w4.heap.size 93 3 (.slice po out.length co) out.length (acells out) ∧ Blk wr (w.heap.size + 1 + 1) 44 #[.string (bs v1), .string (bs v2), .slice po out.length co, .slice pv j cv, .string ⟨#[]⟩] ∧ Kx (w.heap.size + 1 + 1) w9 wr) (fun i _ => kx.length - (intOf i).toNat)
            case atStart => exact ⟨0, none, 0, [], [], by omega, rfl, resL_nil _, World.ownsRow_nil _ _ _ _, (by unfold TrL; rfl), HOW9.out, HBO9.out, Kx.refl _ _⟩
            case round =>
              obtain ⟨j, pv, cv, ys, dss, hj, rfl, hrl, hrow, hkids, hown, hbo, hkx⟩ := hrel
              clear e2'
              have hbw := hkx.under HW9.out (by omega) (by omega)
              by_cases hlt : j < kx.length
              · obtain ⟨e1, o1, m0, u1, u2, u3, u4, u5, u6, u7, rfl, hgx, hT1, hk0, hk1, hk2, hk3⟩ := kid_1 HK.out HL.out HX3.out hlt
                have hk0 := Below.keeps hbw _ _ hk0
                have hk1 := Below.keeps hbw _ _ hk1
                have hk2 := Below.keeps hbw _ _ hk2
                have hk3 := Below.keeps hbw _ _ hk3
                have hlt' : (j : Int) < (kx.length : Int) := by omega
                have ok1 := okL_get 1 kx HX3.out j hlt
                have sh1 := shrL_get kx HS4.out j hlt
                have fw1 := fewL_get kx HF3.out j hlt
                have HST := Lib.hid (resL_step hlt hrl)
                have HRL := Lib.hid hrl
                have hbK := below_alloc1 wr (.cells #[.string (bs m0), .slice u4 u1.length u5, .slice u6 u2.length u7, .string (bs u3)] 50)
                have HIC := Lib.hid (HIH.out kx[j] P _ D pj cj (wr.alloc (.cells #[.string (bs m0), .slice u4 u1.length u5, .slice u6 u2.length u7, .string (bs u3)] 50)) (HKS.out j hlt) ok1 sh1 fw1 (by have := HDL.out; omega) (hT1.below (hbw.alloc hbw.size _)) ((hkx.rdK HRJ9.out HPJ9.out).keep (Below.keeps hbK)) (fun a ha => by have := (HPJ9.out a ha).1; have := hkx.size; have := hbK.size; omega) HCJ.out.1 HCJ.out.2)
                have hnm := fun y (h : kx[j].res D = some y) => res_nm h
                generalize kx[j].res D = O at *
                have HNM2 := Lib.hid hnm
                have hNK := Blk.new wr 50 #[.string (bs m0), .slice u4 u1.length u5, .slice u6 u2.length u7, .string (bs u3)]
                have c0 := (hNK.cell 0).trans rfl
                have c1 := (hNK.cell 1).trans rfl
                have c2 := (hNK.cell 2).trans rfl
                have c3 := (hNK.cell 3).trans rfl
                have HVL := Lib.hid (fun g hg => hrow.lt g hg)
                have G5 := Lib.hid (owns_below hown hbK)
                have G6 := Lib.hid (owns_below hrow hbK)
                have G7 := Lib.hid (hkids.below hbK)
                have GB := Lib.hid (hbo.alloc (.cells #[.string (bs m0), .slice u4 u1.length u5, .slice u6 u2.length u7, .string (bs u3)] 50))
                have GK := Lib.hid (hkx.belowK hbK)
                have hszr := hkx.size
                have hrs : wr.heap.size + 1 = (wr.alloc (.cells #[.string (bs m0), .slice u4 u1.length u5, .slice u6 u2.length u7, .string (bs u3)] 50)).heap.size := by rw [World.size_alloc]
                have HRS := Lib.hid hrs
                clear hgx hT1 hnm hNK hbK hrow hkids hown hbo hkx hbw ok1 sh1 fw1 hrl hrs
                cases O with
                | none =>
                  have HR0 : RowKit.Hid (R = none) := Lib.hid (by
                    have h := HST.out
                    rw [← HR4.out, resL_bad h]
                    rfl)
                  have HIC2 : RowKit.Hid (Calls Tryz.prog 41 #[.agg #[.string (bs m0), .slice u4 u1.length u5, .slice u6 u2.length u7, .string (bs u3)], .slice pj D.length cj] (wr.alloc (.cells #[.string (bs m0), .slice u4 u1.length u5, .slice u6 u2.length u7, .string (bs u3)] 50)) fun e w' => ∃ f0 f1 f2 f3 f4, e = .returned (.tuple #[.agg #[f0, f1, f2, f3, f4], .bool false]) ∧ (f0.oneCell' = true ∧ f1.oneCell' = true ∧ f2.oneCell' = true ∧ f3.oneCell' = true ∧ f4.oneCell' = true) ∧ Below (wr.alloc (.cells #[.string (bs m0), .slice u4 u1.length u5, .slice u6 u2.length u7, .string (bs u3)] 50)).heap.size (wr.alloc (.cells #[.string (bs m0), .slice u4 u1.length u5, .slice u6 u2.length u7, .string (bs u3)] 50)) w') := Lib.hid (HIC.out.mono fun e w' h => h.2.elim (fun ⟨y, cs, h1, _⟩ => by cases h1) fun ⟨_, f0, f1, f2, f3, f4, h2, h3⟩ => ⟨f0, f1, f2, f3, f4, h2, h3, h.1⟩)
                  clear HIC
                  go_wp2_with (first | (go_at_call 41; refine HIC2.out.mono ?_; clear HIC2; rintro e w5 ⟨f0, f1, f2, f3, f4, rfl, ⟨g0, g1, g2, g3, g4⟩, hb5⟩; have HN5 := Lib.hid (Blk.new w5 44 #[.string ⟨#[]⟩, .string ⟨#[]⟩, .slice none 0 0, .slice none 0 0, .string ⟨#[]⟩])) | (refine wpList_store (.tmp 24) (.tmp 170) 44 rfl rfl w5.heap.size 0 _ _ #[f0, f1, f2, f3, f4] rfl rfl HN5.out (by kernel_rfl) (by simp; exact ⟨g0, g1, g2, g3, g4⟩) (by simp) ?_))
                  intro w6 hb6 ho6
                  have hbb := hb5.trans ((below_alloc1 w5 (.cells #[.string ⟨#[]⟩, .string ⟨#[]⟩, .slice none 0 0, .slice none 0 0, .string ⟨#[]⟩] 44)).mono hb5.size)
                  have hs5 := hb5.size
                  have hgb := GB.out.lt
                  have HBO6 := Lib.hid (ho6.blk (GB.out.below hbb GB.out.lt) (by omega))
                  have HK6 := Lib.hid ((GK.out.belowK hbb).onlyN ho6 (by have := GK.out.size; omega))
                  have HBR6 := Lib.hid (HK6.out.blkK HBR9.out (by omega))
                  have HB6 := Lib.hid (HK6.out.under HW9.out (by omega) (by omega))
                  have r0 := (HBO6.out.cell 0).trans rfl
                  have r1 := (HBO6.out.cell 1).trans rfl
                  have r2 := (HBO6.out.cell 2).trans rfl
                  have r3 := (HBO6.out.cell 3).trans rfl
                  have r4 := (HBO6.out.cell 4).trans rfl
                  clear hb6 ho6 hbb hb5 c0 c1 c2 c3 hk0 hk1 hk2 hk3
                  go_wp2_with (first | fail | (refine wpList_store (.tmp 4) (.tmp 174) 44 rfl rfl (w.heap.size + 1) 0 _ _ #[.string (bs v1), .string (bs v2), .slice po out.length co, .slice pv j cv, .string ⟨#[]⟩] rfl rfl HBR6.out (by kernel_rfl) (by simp [Value.oneCell']) (by simp) ?_))
                  intro w8 hb8 ho8
                  rw [putCells_all #[.string ⟨#[]⟩, .string ⟨#[]⟩, .slice none 0 0, .slice none 0 0, .string ⟨#[]⟩] #[.string (bs v1), .string (bs v2), .slice po out.length co, .slice pv j cv, .string ⟨#[]⟩] rfl] at hb8
                  have z0 := (hb8.cell 0).trans rfl
                  have z1 := (hb8.cell 1).trans rfl
                  have z2 := (hb8.cell 2).trans rfl
                  have z3 := (hb8.cell 3).trans rfl
                  have z4 := (hb8.cell 4).trans rfl
                  have HBW := Lib.hid (HB6.out.trans (ho8.below (by omega : w.heap.size ≤ w.heap.size + 1)))
                  clear hb8 ho8
                  go_wp2_with fail
                  refine bodyPost_ret (v := .tuple #[.agg #[.string (bs v1), .string (bs v2), .slice po out.length co, .slice pv j cv, .string ⟨#[]⟩], .bool false]) (by simp [results, Tryz.results41, go_sem, z0, z1, z2, z3, z4]) rfl ?_
                  exact ⟨HBW.out, .inr ⟨HR0.out, _, _, _, _, _, rfl, by simp [Value.oneCell']⟩⟩
                | some X =>
                  have HIC2 : RowKit.Hid (Calls Tryz.prog 41 #[.agg #[.string (bs m0), .slice u4 u1.length u5, .slice u6 u2.length u7, .string (bs u3)], .slice pj D.length cj] (wr.alloc (.cells #[.string (bs m0), .slice u4 u1.length u5, .slice u6 u2.length u7, .string (bs u3)] 50)) fun e w' => ∃ f0 f1 f2 f3 f4, e = .returned (.tuple #[.agg #[f0, f1, f2, f3, f4], .bool true]) ∧ TrC w' (Bt (wr.heap.size + 1) w'.heap.size none) X [f0, f1, f2, f3, f4] ∧ Below (wr.alloc (.cells #[.string (bs m0), .slice u4 u1.length u5, .slice u6 u2.length u7, .string (bs u3)] 50)).heap.size (wr.alloc (.cells #[.string (bs m0), .slice u4 u1.length u5, .slice u6 u2.length u7, .string (bs u3)] 50)) w') := Lib.hid (HIC.out.mono fun e w' h => h.2.elim (fun ⟨y, cs, h1, h2, h3⟩ => by
                    cases h1
                    obtain ⟨f0, f1, f2, f3, f4, rfl⟩ := five_of (l := cs) (by rw [h3.len, HNM2.out X rfl])
                    rw [← HRS.out] at h3
                    exact ⟨f0, f1, f2, f3, f4, h2, h3, h.1⟩) fun h2 => by cases h2.1)
                  clear HIC
                  go_wp2_with (first | (go_at_call 41; refine HIC2.out.mono ?_; clear HIC2; rintro e w5 ⟨f0, f1, f2, f3, f4, rfl, hT5, hb5⟩; have HN5 := Lib.hid (Blk.new w5 44 #[.string ⟨#[]⟩, .string ⟨#[]⟩, .slice none 0 0, .slice none 0 0, .string ⟨#[]⟩])) | (refine wpList_store (.tmp 24) (.tmp 170) 44 rfl rfl w5.heap.size 0 _ _ #[f0, f1, f2, f3, f4] rfl rfl HN5.out (by kernel_rfl) (by simp; exact ⟨hT5.one _ (by simp), hT5.one _ (by simp), hT5.one _ (by simp), hT5.one _ (by simp), hT5.one _ (by simp)⟩) (by simp) ?_))
                  intro w6 hb6 ho6
                  have hb6 : Blk w6 w5.heap.size 44 #[f0, f1, f2, f3, f4] := hb6
                  have hbb := hb5.trans ((below_alloc1 w5 (.cells #[.string ⟨#[]⟩, .string ⟨#[]⟩, .slice none 0 0, .slice none 0 0, .string ⟨#[]⟩] 44)).mono hb5.size)
                  have hs5 := hb5.size
                  have hs6 : w6.heap.size = w5.heap.size + 1 := by rw [ho6.size, World.size_alloc]
                  have hgb := GB.out.lt
                  have hgk := GK.out.size
                  have hrs := HRS.out
                  have hbo6 := ho6.blk (GB.out.below hbb GB.out.lt) (by omega)
                  have hone := hT5.one
                  have g0 := hone f0 (by simp)
                  have g1 := hone f1 (by simp)
                  have g2 := hone f2 (by simp)
                  have g3 := hone f3 (by simp)
                  have g4 := hone f4 (by simp)
                  have HBO6 := Lib.hid hbo6
                  have HK6 := Lib.hid ((GK.out.belowK hbb).onlyN ho6 (by omega))
                  have HOW6 := Lib.hid (owns_only ho6 (owns_below G5.out hbb) (fun b hb => by have := (G5.out.lt b hb).2; omega))
                  have HRW6 := Lib.hid (owns_only ho6 (owns_below G6.out hbb) (fun b hb => by have := (HVL.out b hb).2; omega))
                  have HTL6 := Lib.hid ((G7.out.below hbb).only ho6 (fun b hb => by have := hb.2.1; omega))
                  have HTC6 := Lib.hid ((hT5.below (below_alloc1 w5 (.cells #[.string ⟨#[]⟩, .string ⟨#[]⟩, .slice none 0 0, .slice none 0 0, .string ⟨#[]⟩] 44))).only ho6 (fun b hb => by have := hb.2.1; omega))
                  have y0 := (hb6.cell 0).trans rfl
                  have y1 := (hb6.cell 1).trans rfl
                  have y2 := (hb6.cell 2).trans rfl
                  have y3 := (hb6.cell 3).trans rfl
                  have y4 := (hb6.cell 4).trans rfl
                  have s0 := (hbo6.cell 3).trans rfl
                  clear hb6 ho6 hbb hb5 c0 c1 c2 c3 hk0 hk1 hk2 hk3 hbo6 hone hT5
                  obtain ⟨i0, hi0, hy0, hy1, hy2⟩ := info_parts elem24_info
                  go_wp2_with (at_builtin; go_loud (refine wpList_appAt (.tmp 176) (.tmp 178) 42 rfl rfl w9.heap.size 44 i0 (.agg #[.string ⟨#[]⟩, .string ⟨#[]⟩, .slice none 0 0, .slice none 0 0, .string ⟨#[]⟩]) 5 96 Tryz.underlying42 hi0 hy0 hy1 hy2 rfl (by decide) _ _ _ rfl (owns_below HRW6.out (below_alloc1 _ _)) _ _ _ [f0, f1, f2, f3, f4] rfl rfl (rd_at _ #[_, _, _, _, _] _ _ _ hs6.symm) (by simp; exact ⟨g0, g1, g2, g3, g4⟩) (by unfold maxLen; omega) (by omega) (by simp; omega) ?_))
                  intro v7 w7 ho7 hg7 hat7
                  obtain ⟨p7, c7, rfl, _, _, _⟩ := owns_rd ho7
                  have hbX := below_alloc1 w6 (.cells #[f0, f1, f2, f3, f4] 44)
                  have hbo7 := grown_blk2 hg7 (HBO6.out.alloc (.cells #[f0, f1, f2, f3, f4] 44)) (fun e => by have := (HVL.out _ e).1; omega)
                  have hpr := prow_step (n := j + 1) hg7 (by rw [World.size_alloc, hs6]; exact hat7) (fun g hg => (HVL.out g hg).2) (by omega) (by simp; omega) (HTL6.out.below hbX) (HTC6.out.below hbX) (by simp; omega) (by rw [flat_snoc]; exact ho7)
                  obtain ⟨cs7, hr7, ht7⟩ := hpr
                  have f1' := hbo7.frozen 3
                  have k1 := (hbo7.cell 3).trans rfl
                  have HK7 := Lib.hid ((HK6.out.belowK hbX).grownN hg7 (fun b hb => (HVL.out b hb).1))
                  have HO7 := Lib.hid (grown_owns hg7 (owns_below HRW6.out hbX) (owns_below HOW6.out hbX) (by decide))
                  have HB7 := Lib.hid hbo7
                  have HR7 := Lib.hid hr7
                  have HT7 := Lib.hid ht7
                  clear hbo7 ho7 hg7 hat7 hr7 ht7 hbX s0 y0 y1 y2 y3 y4
                  go_wp2_with fail
                  go_roundw
                  case rel => exact ⟨j + 1, p7, c7, ys ++ [X], dss ++ [cs7], by omega, by go_num, HST.out, ((Only.refl (w.heap.size + 1 + 1) w7).set_ 3 _).owns2 HR7.out (by omega), (by
                    have h := HT7.out.only ((Only.refl (w.heap.size + 1 + 1) w7).set_ 3 (.slice p7 (j + 1) c7)) (fun b hb => by have := hb.1; omega)
                    rw [show w7.heap.size = (w7.setCell ⟨(w.heap.size + 1 + 1), 3, none⟩ (.slice p7 (j + 1) c7)).heap.size from ((Only.refl (w.heap.size + 1 + 1) w7).set_ 3 _).size.symm] at h
                    exact h), ((Only.refl (w.heap.size + 1 + 1) w7).set_ 3 _).owns2 HO7.out h6lt, HB7.out.set_ 3 _, HK7.out.onlyK ((Only.refl (w.heap.size + 1 + 1) w7).set_ 3 _)⟩
                  case measure => simp [intOf]; omega
              · obtain rfl : j = kx.length := by omega
                rw [List.take_of_length_le (Nat.le_refl _)] at hrl
                have HR0 : RowKit.Hid (R = some (.node [v1, v2] out ys [])) := Lib.hid (by rw [← HR4.out, hrl]; rfl)
                have hyl := resL_len hrl
                obtain ⟨pA, cA, heA, yy1, yy2, yy3, yy4⟩ := owns_rdP hown
                cases heA
                obtain ⟨pV, cV, heV, zz1, zz2, zz3, zz4⟩ := owns_rdP hrow
                cases heV
                have hkr := hkx.size
                have r0 := (hbo.cell 0).trans rfl
                have r1 := (hbo.cell 1).trans rfl
                have r2 := (hbo.cell 2).trans rfl
                have r3 := (hbo.cell 3).trans rfl
                have r4 := (hbo.cell 4).trans rfl
                have HBRF := Lib.hid (hkx.blkK HBR9.out (by omega))
                have HFIN := Lib.hid (show ∀ w', Only (w.heap.size + 1) wr w' → TrC w' (Bt w.heap.size w'.heap.size none) (.node [v1, v2] out ys []) [.string (bs v1), .string (bs v2), .slice po out.length co, .slice pv kx.length cv, .string ⟨#[]⟩] from fun w' k => by
                  have e := k.size
                  have q1 : Rd w' po (acells out) := yy3.keepP (P := fun b => w4.heap.size ≤ b) (fun a ha => (yy4 a ha).1) fun a v hp hc => (World.cell?_of_block (k.block a.block (by omega))).trans hc
                  have q2 : Rd w' pv dss.flatten := zz3.keepP (P := fun b => w9.heap.size ≤ b) (fun a ha => (zz4 a ha).1) fun a v hp hc => (World.cell?_of_block (k.block a.block (by omega))).trans hc
                  unfold TrC
                  rw [hyl]
                  exact ⟨po, co, pv, cv, dss, rfl, ⟨yy1, yy2, q1, fun a ha => ⟨by have := (yy4 a ha).1; omega, by rw [e]; exact (yy4 a ha).2, by simp⟩⟩, ⟨zz1, zz2, q2, fun a ha => ⟨by have := (zz4 a ha).1; omega, by rw [e]; exact (zz4 a ha).2, by simp⟩⟩,
                    (hkids.only k (fun b hb => by have := hb.1; omega)).imp fun b hb => ⟨by have := hb.1; omega, by rw [e]; exact hb.2.1, by simp⟩⟩)
                have HBW := Lib.hid hbw
                clear hbo hown hrow hkids hbw hkx hrl yy1 yy2 yy3 yy4 zz1 zz2 zz3 zz4
                go_wp2_with (refine wpList_store (.tmp 4) (.tmp 182) 44 rfl rfl (w.heap.size + 1) 0 _ _ #[.string (bs v1), .string (bs v2), .slice po out.length co, .slice pv kx.length cv, .string ⟨#[]⟩] rfl rfl HBRF.out (by kernel_rfl) (by simp [Value.oneCell']) (by simp) ?_)
                intro w8 hb8 ho8
                have hb8 : Blk w8 (w.heap.size + 1) 44 #[.string (bs v1), .string (bs v2), .slice po out.length co, .slice pv kx.length cv, .string ⟨#[]⟩] := hb8
                have z0 := (hb8.cell 0).trans rfl
                have z1 := (hb8.cell 1).trans rfl
                have z2 := (hb8.cell 2).trans rfl
                have z3 := (hb8.cell 3).trans rfl
                have z4 := (hb8.cell 4).trans rfl
                have HO8 := Lib.hid ho8
                clear r0 r1 r2 r3 r4 hb8 ho8
                go_wp2_with fail
                refine bodyPost_ret (v := .tuple #[.agg #[.string (bs v1), .string (bs v2), .slice po out.length co, .slice pv kx.length cv, .string ⟨#[]⟩], .bool true]) (by simp [results, Tryz.results41, go_sem, z0, z1, z2, z3, z4]) rfl ?_
                exact ⟨HBW.out.trans (Only.below HO8.out (by omega)), .inl ⟨_, [.string (bs v1), .string (bs v2), .slice po out.length co, .slice pv kx.length cv, .string ⟨#[]⟩], HR0.out, rfl, HFIN.out w8 HO8.out⟩⟩
end Go.Proofs.YtkghpmpmcafhkaaGreatDoor
