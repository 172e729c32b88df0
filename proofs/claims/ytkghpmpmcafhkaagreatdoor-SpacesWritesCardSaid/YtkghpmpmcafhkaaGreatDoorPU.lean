/- PcTr -/
import Derived.Test.YtkghpmpmcafhkaaGreatDoorPS
import Derived.Test.YtkghpmpmcafhkaaGreatDoorPA
import Derived.Test.YtkghpmpmcafhkaaGreatDoorPD
namespace Go.Proofs.YtkghpmpmcafhkaaGreatDoor
set_option maxHeartbeats 8000000
set_option maxRecDepth 20000
open Go.RowKit Go.Extern.Stop Go.Stop Go.Extern
attribute [local go_sem] bs_toList
attribute [local irreducible] wpPhi wpPhiU
end Go.Proofs.YtkghpmpmcafhkaaGreatDoor
namespace Go.Proofs.YtkghpmpmcafhkaaGreatDoor
set_option maxHeartbeats 8000000
set_option maxRecDepth 20000
open Go.RowKit Go.Extern.Stop Go.Stop Go.Extern
attribute [local go_sem] bs_toList
attribute [local irreducible] wpPhi wpPhiU
theorem trx_five {w : World} {P : Nat → Prop} {x : Tr} {cs : List Value} (h : TrX w P x cs) (hn : x.nm.length = 2) : ∃ s0 s1 p1 n1 c1 p2 n2 c2 s3, cs = [.string s0, .string s1, .slice p1 n1 c1, .slice p2 n2 c2, .string s3] := by
  obtain ⟨nm, ats, ks, t⟩ := x
  obtain ⟨a, b, rfl⟩ := two_of hn
  unfold TrX at h
  obtain ⟨pa, ca, pk, ck, css, rfl, _⟩ := h
  exact ⟨_, _, _, _, _, _, _, _, _, rfl⟩
theorem atsF_len (o : Pc) : (atsF o).length = o.ats.length := by simp [atsF]
theorem atsF_step {o : Pc} {j : Nat} (h : j < o.ats.length) : (atsF o).take (j + 1) = (atsF o).take j ++ [[o.sps.getD j [], (o.ats.getD j []).getD 0 [], (o.ats.getD j []).getD 1 []]] := by
  rw [List.take_succ_eq_append_getElem (by rw [atsF_len]; exact h)]
  congr 2
  simp [atsF]
theorem elem24_infoE : (Tryz.prog.info? 35).map (fun i => (i.zero, i.size, i.bytes)) = some (some (.agg #[.string ⟨#[]⟩, .string ⟨#[]⟩, .slice none 0 0, .slice none 0 0, .string ⟨#[]⟩]), 5, 96) := by kernel_rfl
theorem elem24_infoA : (Tryz.prog.info? 95).map (fun i => (i.zero, i.size, i.bytes)) = some (some (.agg #[.string ⟨#[]⟩, .string ⟨#[]⟩, .string ⟨#[]⟩]), 3, 48) := by kernel_rfl
theorem elem24_any (ps : List Pc) (rv : Value) (W0 : World) (h0 : PcL W0 rv ps) (hlen : ps.length ≤ 1000) (hats : ∀ o ∈ ps, o.ats.length ≤ 1000) : ∀ (n i : Nat) (w : World), Below W0.heap.size W0 w → i < ps.length → ps.length ≤ n + i →
    Calls Tryz.prog 19 #[rv, .int .i64 i] w (TrRL 0 (elemN ps n i) w) := by
  intro n
  induction n with
  | zero => intro i w _ h1 h2; omega
  | succ n ih =>
    intro i w hw0 hi hn
    obtain ⟨p, cap, rfl, H1, H2, H3⟩ := h0
    unfold maxLen at H2
    obtain ⟨i9, hi9, hy0, hy1, hy2⟩ := info_parts elem24_infoE
    obtain ⟨i0, hi0, hz0, hz1, hz2⟩ := info_parts elem24_infoA
    have IH := Lib.hid ih
    have HP := Lib.hid H3
    have HW0 := Lib.hid hw0
    have hwz := hw0.size
    have ho9 := H3 i ps[i] (List.getElem?_eq_getElem hi)
    have hna := hats ps[i] (List.getElem_mem hi)
    have hod : ps.getD i pc0 = ps[i] := by rw [List.getD_eq_getElem?_getD, List.getElem?_eq_getElem hi, Option.getD_some]
    generalize ps[i] = o at ho9 hod hna
    obtain ⟨b, off, pa, ca, pq, cq, rfl, c0, c1, c2, c3, c4, c5, ⟨a1, a2, a3⟩, hk2, ⟨s1, s2, s3⟩⟩ := ho9
    unfold maxLen at a2 s2
    have hX : elemN ps (n + 1) i = .node [o.sp, o.nm] (atsF o) ((kidsTo (parF ps) i ps.length).map (elemN ps n)) o.tx := by
      show mkE ps i _ = _
      unfold mkE
      rw [hod]
      rfl
    rw [hX]
    have k := Below.keeps hw0
    have HA := Lib.hid (a3.keep k)
    have HS := Lib.hid (s3.keep k)
    have HX2 := Lib.hid hk2
    have ka := Below.keeps (below_alloc1 w (.cells #[.string ⟨#[]⟩, .string ⟨#[]⟩, .slice none 0 0, .slice none 0 0, .string ⟨#[]⟩] 35))
    have cs1 := ka _ _ (k _ _ c1)
    have cn1 := ka _ _ (k _ _ c2)
    have ct1 := ka _ _ (k _ _ c5)
    have ca0 := k _ _ c3
    have cq0 := k _ _ c4
    have HC4 := Lib.hid cq0
    have hi' : (i : Int) < (ps.length : Int) := by omega
    have HB1 := Lib.hid (below_alloc1 w (.cells #[.string ⟨#[]⟩, .string ⟨#[]⟩, .slice none 0 0, .slice none 0 0, .string ⟨#[]⟩] 35))
    have HM1 := Lib.hid (Blk.new w 35 #[.string ⟨#[]⟩, .string ⟨#[]⟩, .slice none 0 0, .slice none 0 0, .string ⟨#[]⟩])
    have hs1 : (w.alloc (.cells #[.string ⟨#[]⟩, .string ⟨#[]⟩, .slice none 0 0, .slice none 0 0, .string ⟨#[]⟩] 35)).heap.size = w.heap.size + 1 := by simp
    have HCA := Lib.hid ca0
    clear c0 c1 c2 c3 c4 c5 hk2 s3 a3 H3 ih hw0 ka k hX hod ca0 cq0
    go_enter Tryz.func19, Tryz.ntmps19
    go_wp2_with fail
    generalize w.alloc (.cells #[.string ⟨#[]⟩, .string ⟨#[]⟩, .slice none 0 0, .slice none 0 0, .string ⟨#[]⟩] 35) = wa at *
    have HS1 := Lib.hid hs1
    clear hs1
    refine wp_phi_tail (List.take 18 _) (List.drop 18 _) (List.take_append_drop 18 _).symm (fun w' => (w'.cell? ⟨b, off + i * 6 + 1, none⟩ = some (.string (bs o.sp))) ∧ (w'.cell? ⟨b, off + i * 6 + 2, none⟩ = some (.string (bs o.nm))) ∧ (w'.cell? ⟨b, off + i * 6 + 5, none⟩ = some (.string (bs o.tx))) ∧ Below wa.heap.size wa w') [(17, PNew (wa.heap.size) 35 #[.string ⟨#[]⟩, .string ⟨#[]⟩, .slice none 0 0, .slice none 0 0, .string ⟨#[]⟩])] [] (by kernel_rfl) (by kernel_rfl) ?_ ?_ ⟨cs1, cn1, ct1, ((Below.refl _ wa)).drew⟩ ?_
    · rintro w1' w2' ⟨f0, f1, f3, hIB⟩ hb
      exact ⟨(by first | exact f0.below hb | exact f0.keep (Below.keeps hb) | exact Below.keeps hb _ _ f0 | exact Blk.below f0 hb (Blk.lt f0)), (by first | exact f1.below hb | exact f1.keep (Below.keeps hb) | exact Below.keeps hb _ _ f1 | exact Blk.below f1 hb (Blk.lt f1)), (by first | exact f3.below hb | exact f3.keep (Below.keeps hb) | exact Below.keeps hb _ _ f3 | exact Blk.below f3 hb (Blk.lt f3)), hIB.trans (hb.mono hIB.size)⟩
    · simp only [List.mem_cons, List.not_mem_nil, or_false, forall_eq_or_imp, forall_eq]
      exact fun _ _ _ _ h' h => PNew_stays h' h
    simp only [List.take_succ_cons, List.take_zero, List.drop_succ_cons, List.drop_zero]
    repeat (first | (refine phi_skipK rfl (fun K hK => ?_); simp only [Act.put, List.setIfInBounds_toArray, List.set_cons_succ, List.set_cons_zero, List.cons_append, List.nil_append]; apply hK; clear hK K) | (refine phi_pureK rfl rfl (fun K hK => ?_); apply Exists.intro; constructor; (focus (rintro w' ⟨f0, f1, f3, hIB⟩; (clear hIB); first | (go_simp; done) | (go_simp; (try go_bits); (try go_simp); rfl) | go_simp)); simp only [Act.put, List.setIfInBounds_toArray, List.set_cons_succ, List.set_cons_zero, List.cons_append, List.nil_append]; apply hK; clear hK K))
    refine phi_partK (PNew (wa.heap.size) 35 #[.string ⟨#[]⟩, .string ⟨#[]⟩, .slice none 0 0, .slice none 0 0, .string ⟨#[]⟩]) rfl rfl ⟨_, 0, rfl⟩ ?_ (fun K hK v hv => ?_)
    · rintro w' ⟨f0, f1, f3, hIB⟩ hf
      have HGS := Lib.hid hIB.size
      clear hf f0 f1 f3 hIB
      unfold gives
      go_simp
      refine ⟨⟨_, rfl⟩, fun g hg => ?_, below_alloc1 _ _⟩
      obtain rfl : w'.heap.size = g := by simpa using hg
      exact ⟨HGS.out, Blk.new _ _ _⟩
    obtain ⟨g_17, rfl⟩ := hv
    simp only [Act.put, List.setIfInBounds_toArray, List.set_cons_succ, List.set_cons_zero, List.cons_append, List.nil_append]
    apply hK
    clear hK K
    repeat (first | (refine phi_skipK rfl (fun K hK => ?_); simp only [Act.put, List.setIfInBounds_toArray, List.set_cons_succ, List.set_cons_zero, List.cons_append, List.nil_append]; apply hK; clear hK K) | (refine phi_pureK rfl rfl (fun K hK => ?_); apply Exists.intro; constructor; (focus (rintro w' ⟨f0, f1, f3, hIB⟩; (clear hIB); first | (go_simp; done) | (go_simp; (try go_bits); (try go_simp); rfl) | go_simp)); simp only [Act.put, List.setIfInBounds_toArray, List.set_cons_succ, List.set_cons_zero, List.cons_append, List.nil_append]; apply hK; clear hK K))
    refine phi_done ?_
    rintro w2 ⟨f0, f1, f3, hb2⟩ hk9
    have hb_17 := hk9 (17, fun w1 => (PNew (wa.heap.size) 35 #[.string ⟨#[]⟩, .string ⟨#[]⟩, .slice none 0 0, .slice none 0 0, .string ⟨#[]⟩]).fact w1 (.pointer (some ⟨g_17, 0, none⟩))) (by simp) g_17 rfl
    clear hk9
    obtain ⟨hgb, hgk⟩ := hb_17
    generalize g_17 = gE at *
    refine wpList_store (.tmp 5) (.tmp 26) 35 rfl rfl gE 0 _ _ #[.string (bs o.sp), .string (bs o.nm), .slice none 0 0, .slice none 0 0, .string (bs o.tx)] rfl rfl hgk (by kernel_rfl) (by simp [Value.oneCell']) (by simp) ?_
    intro w3 hn3 ko3
    rw [putCells_all #[.string ⟨#[]⟩, .string ⟨#[]⟩, .slice none 0 0, .slice none 0 0, .string ⟨#[]⟩] #[.string (bs o.sp), .string (bs o.nm), .slice none 0 0, .slice none 0 0, .string (bs o.tx)] rfl] at hn3
    have hs1 := HS1.out
    have hge : w.heap.size + 1 ≤ gE := by omega
    have M3 := Lib.hid (ko3.blk (HM1.out.below hb2 (by omega)) (by omega))
    have O3 := Lib.hid hn3
    have B3 := Lib.hid (HB1.out.trans ((hb2.mono (by omega)).trans (ko3.below (by omega))))
    have ca3 := Below.keeps B3.out _ _ HCA.out
    clear hs1 hn3 ko3 hgk cs1 cn1 ct1 f0 f1 f3 hb2 hgb HB1 HM1
    go_wp2_with fail
    clear ca3
    go_loopw [33] (fun iv wr => ∃ (j : Nat) (v : Value), j ≤ o.ats.length ∧ iv = .int .i64 j ∧ wr.ownsRow (gE + 1) 95 3 v j (acells ((atsF o).take j)) ∧ Blk wr w.heap.size 35 #[.string ⟨#[]⟩, .string ⟨#[]⟩, .slice none 0 0, .slice none 0 0, .string ⟨#[]⟩] ∧ Blk wr gE 35 #[.string (bs o.sp), .string (bs o.nm), v, .slice none 0 0, .string (bs o.tx)] ∧ Below w.heap.size w wr) (fun iv _ => o.ats.length - (intOf iv).toNat)
    case atStart => exact ⟨0, .slice none 0 0, by omega, rfl, ⟨by simp [acells], .inl ⟨rfl, rfl⟩⟩, M3.out, O3.out, B3.out⟩
    case round =>
      clear M3 O3 B3
      obtain ⟨j, v, hj, rfl, hown, hM, hO, hbw⟩ := hrel
      by_cases hlt : j < o.ats.length
      · obtain ⟨e1, o1, x0, x1, rfl, hgx, hx0, hx1⟩ := at_1 HA.out HX2.out hlt
        have hx0 := Below.keeps hbw _ _ hx0
        have hx1 := Below.keeps hbw _ _ hx1
        have hlt' : (j : Int) < (o.ats.length : Int) := by omega
        have hat := atsF_step hlt
        rw [List.getD_eq_getElem?_getD (l := o.ats), List.getElem?_eq_getElem hlt, Option.getD_some, hgx] at hat
        simp only [List.getD_cons_zero, List.getD_cons_succ] at hat
        have hat := (congrArg acells hat).trans (acells_snoc _ _)
        obtain ⟨pv, cv, rfl, _, _, _⟩ := owns_rd hown
        have cs3 := Below.keeps (below_alloc1 wr (.cells #[.string (bs x0), .string (bs x1)] 69)) _ _ (Below.keeps hbw _ _ HC4.out)
        by_cases hsp : j < o.sps.length
        · obtain ⟨b7, o7, rfl, hx⟩ := rd_str HS.out hsp
          have hx := Below.keeps (below_alloc1 wr (.cells #[.string (bs x0), .string (bs x1)] 69)) _ _ (Below.keeps hbw _ _ hx)
          rw [List.getD_eq_getElem?_getD (l := o.sps), List.getElem?_eq_getElem hsp, Option.getD_some] at hat
          generalize o.sps[j] = sx at *
          have hsp' : (j : Int) < (o.sps.length : Int) := by omega
          have HAT := Lib.hid (show acells ((atsF o).take (j + 1)) = acells ((atsF o).take j) ++ [.string (bs sx), .string (bs x0), .string (bs x1)] from by rw [hat]; rfl)
          have k1 : (wr.alloc (.cells #[.string (bs x0), .string (bs x1)] 69)).cell? ⟨gE, 2, none⟩ = some (.slice pv j cv) := ((hO.alloc _).cell 2).trans rfl
          have HN2 := Lib.hid ((hM.alloc (.cells #[.string (bs x0), .string (bs x1)] 69)).alloc (.cells #[.string (bs sx), .string (bs x0), .string (bs x1)] 95))
          have HO2 := Lib.hid ((hO.alloc (.cells #[.string (bs x0), .string (bs x1)] 69)).alloc (.cells #[.string (bs sx), .string (bs x0), .string (bs x1)] 95))
          have HB2 := Lib.hid (below_alloc (below_alloc hbw (.cells #[.string (bs x0), .string (bs x1)] 69)) (.cells #[.string (bs sx), .string (bs x0), .string (bs x1)] 95))
          have HOW := Lib.hid (owns_below (owns_below hown (below_alloc1 wr (.cells #[.string (bs x0), .string (bs x1)] 69))) (below_alloc1 _ (.cells #[.string (bs sx), .string (bs x0), .string (bs x1)] 95)))
          have hs1 : gE + 1 ≤ wr.heap.size := hO.lt
          have hs2 : gE + 1 ≤ ((wr.alloc (.cells #[.string (bs x0), .string (bs x1)] 69)).alloc (.cells #[.string (bs sx), .string (bs x0), .string (bs x1)] 95)).heap.size := by have := hO.lt; simp; omega
          clear hgx hat hown hM hO hbw
          go_wp2_with (at_builtin; refine wpList_app (.tmp 55) (.tmp 63) 32 rfl rfl (gE + 1) 95 i0 (.agg #[.string ⟨#[]⟩, .string ⟨#[]⟩, .string ⟨#[]⟩]) 3 48 Tryz.underlying32 hi0 hz0 hz1 hz2 rfl (by decide) _ _ _ rfl HOW.out _ _ _ [.string (bs sx), .string (bs x0), .string (bs x1)] rfl rfl (rd_at _ #[_, _, _] _ _ _ (by simp)) ?b1 ?b2 ?b3 hs2 ?_)
          case b1 => simp [Value.oneCell']
          case b2 => unfold maxLen; omega
          case b3 => omega
          intro v1 w1 ho1 hg1
          obtain ⟨p1, cp1, rfl, _, _, _⟩ := owns_rd ho1
          have hlo : ∀ g, (Value.slice pv j cv).ownBlock = some g → gE + 1 ≤ g := fun g hg => (HOW.out.lt g hg).1
          have hM1 : Blk w1 w.heap.size 35 #[.string ⟨#[]⟩, .string ⟨#[]⟩, .slice none 0 0, .slice none 0 0, .string ⟨#[]⟩] := (hg1.block _ HN2.out.lt fun e => by have := hlo _ e.symm; omega).trans HN2.out
          have hO1 : Blk w1 gE 35 #[.string (bs o.sp), .string (bs o.nm), .slice pv j cv, .slice none 0 0, .string (bs o.tx)] := (hg1.block _ HO2.out.lt fun e => by have := hlo _ e.symm; omega).trans HO2.out
          have hb1 := HB2.out.grown hg1 (by simp; omega) fun g hg => by have := hlo g hg; omega
          have c1 := (hO1.cell 2).trans rfl
          have f1 := hO1.frozen 2
          have R2 := Lib.hid (show Blk (w1.setCell ⟨gE, 2, none⟩ (.slice p1 (j + 1) cp1)) w.heap.size 35 #[.string ⟨#[]⟩, .string ⟨#[]⟩, .slice none 0 0, .slice none 0 0, .string ⟨#[]⟩] from hM1.far (by omega) _ _)
          have R3 := Lib.hid (show Blk (w1.setCell ⟨gE, 2, none⟩ (.slice p1 (j + 1) cp1)) gE 35 #[.string (bs o.sp), .string (bs o.nm), .slice p1 (j + 1) cp1, .slice none 0 0, .string (bs o.tx)] from hO1.set_ 2 (.slice p1 (j + 1) cp1))
          have R4 := Lib.hid (show Below w.heap.size w (w1.setCell ⟨gE, 2, none⟩ (.slice p1 (j + 1) cp1)) from hb1.setCell (show w.heap.size ≤ gE by omega) _)
          have R5 := Lib.hid (show (w1.setCell ⟨gE, 2, none⟩ (.slice p1 (j + 1) cp1)).ownsRow (gE + 1) 95 3 (.slice p1 (j + 1) cp1) (j + 1) (acells ((atsF o).take (j + 1))) from ((Only.refl _ w1).set_ 2 (.slice p1 (j + 1) cp1)).owns2 (by rw [HAT.out]; exact ho1) (by omega))
          clear hx0 hx1 cs3 k1 hlo hM1 hO1 hb1 ho1 hg1 HN2 HO2 HB2 HOW HAT
          go_wp2_with fail
          go_roundw
          case rel => exact ⟨j + 1, .slice p1 (j + 1) cp1, by omega, by go_num, R5.out, R2.out, R3.out, R4.out⟩
          case measure => simp [intOf]; omega
        · rw [List.getD_eq_getElem?_getD (l := o.sps), List.getElem?_eq_none (by omega), Option.getD_none] at hat
          have hsp' : ¬ ((j : Int) < (o.sps.length : Int)) := by omega
          have HAT := Lib.hid (show acells ((atsF o).take (j + 1)) = acells ((atsF o).take j) ++ [.string ⟨#[]⟩, .string (bs x0), .string (bs x1)] from by rw [hat]; rfl)
          have k1 : (wr.alloc (.cells #[.string (bs x0), .string (bs x1)] 69)).cell? ⟨gE, 2, none⟩ = some (.slice pv j cv) := ((hO.alloc _).cell 2).trans rfl
          have HN2 := Lib.hid ((hM.alloc (.cells #[.string (bs x0), .string (bs x1)] 69)).alloc (.cells #[.string ⟨#[]⟩, .string (bs x0), .string (bs x1)] 95))
          have HO2 := Lib.hid ((hO.alloc (.cells #[.string (bs x0), .string (bs x1)] 69)).alloc (.cells #[.string ⟨#[]⟩, .string (bs x0), .string (bs x1)] 95))
          have HB2 := Lib.hid (below_alloc (below_alloc hbw (.cells #[.string (bs x0), .string (bs x1)] 69)) (.cells #[.string ⟨#[]⟩, .string (bs x0), .string (bs x1)] 95))
          have HOW := Lib.hid (owns_below (owns_below hown (below_alloc1 wr (.cells #[.string (bs x0), .string (bs x1)] 69))) (below_alloc1 _ (.cells #[.string ⟨#[]⟩, .string (bs x0), .string (bs x1)] 95)))
          have hs1 : gE + 1 ≤ wr.heap.size := hO.lt
          have hs2 : gE + 1 ≤ ((wr.alloc (.cells #[.string (bs x0), .string (bs x1)] 69)).alloc (.cells #[.string ⟨#[]⟩, .string (bs x0), .string (bs x1)] 95)).heap.size := by have := hO.lt; simp; omega
          clear hgx hat hown hM hO hbw
          go_wp2_with (at_builtin; refine wpList_app (.tmp 55) (.tmp 63) 32 rfl rfl (gE + 1) 95 i0 (.agg #[.string ⟨#[]⟩, .string ⟨#[]⟩, .string ⟨#[]⟩]) 3 48 Tryz.underlying32 hi0 hz0 hz1 hz2 rfl (by decide) _ _ _ rfl HOW.out _ _ _ [.string ⟨#[]⟩, .string (bs x0), .string (bs x1)] rfl rfl (rd_at _ #[_, _, _] _ _ _ (by simp)) ?b1 ?b2 ?b3 hs2 ?_)
          case b1 => simp [Value.oneCell']
          case b2 => unfold maxLen; omega
          case b3 => omega
          intro v1 w1 ho1 hg1
          obtain ⟨p1, cp1, rfl, _, _, _⟩ := owns_rd ho1
          have hlo : ∀ g, (Value.slice pv j cv).ownBlock = some g → gE + 1 ≤ g := fun g hg => (HOW.out.lt g hg).1
          have hM1 : Blk w1 w.heap.size 35 #[.string ⟨#[]⟩, .string ⟨#[]⟩, .slice none 0 0, .slice none 0 0, .string ⟨#[]⟩] := (hg1.block _ HN2.out.lt fun e => by have := hlo _ e.symm; omega).trans HN2.out
          have hO1 : Blk w1 gE 35 #[.string (bs o.sp), .string (bs o.nm), .slice pv j cv, .slice none 0 0, .string (bs o.tx)] := (hg1.block _ HO2.out.lt fun e => by have := hlo _ e.symm; omega).trans HO2.out
          have hb1 := HB2.out.grown hg1 (by simp; omega) fun g hg => by have := hlo g hg; omega
          have c1 := (hO1.cell 2).trans rfl
          have f1 := hO1.frozen 2
          have R2 := Lib.hid (show Blk (w1.setCell ⟨gE, 2, none⟩ (.slice p1 (j + 1) cp1)) w.heap.size 35 #[.string ⟨#[]⟩, .string ⟨#[]⟩, .slice none 0 0, .slice none 0 0, .string ⟨#[]⟩] from hM1.far (by omega) _ _)
          have R3 := Lib.hid (show Blk (w1.setCell ⟨gE, 2, none⟩ (.slice p1 (j + 1) cp1)) gE 35 #[.string (bs o.sp), .string (bs o.nm), .slice p1 (j + 1) cp1, .slice none 0 0, .string (bs o.tx)] from hO1.set_ 2 (.slice p1 (j + 1) cp1))
          have R4 := Lib.hid (show Below w.heap.size w (w1.setCell ⟨gE, 2, none⟩ (.slice p1 (j + 1) cp1)) from hb1.setCell (show w.heap.size ≤ gE by omega) _)
          have R5 := Lib.hid (show (w1.setCell ⟨gE, 2, none⟩ (.slice p1 (j + 1) cp1)).ownsRow (gE + 1) 95 3 (.slice p1 (j + 1) cp1) (j + 1) (acells ((atsF o).take (j + 1))) from ((Only.refl _ w1).set_ 2 (.slice p1 (j + 1) cp1)).owns2 (by rw [HAT.out]; exact ho1) (by omega))
          clear hx0 hx1 cs3 k1 hlo hM1 hO1 hb1 ho1 hg1 HN2 HO2 HB2 HOW HAT
          go_wp2_with fail
          go_roundw
          case rel => exact ⟨j + 1, .slice p1 (j + 1) cp1, by omega, by go_num, R5.out, R2.out, R3.out, R4.out⟩
          case measure => simp [intOf]; omega
      · obtain rfl : j = o.ats.length := by omega
        rw [List.take_of_length_le (by rw [atsF_len]; exact Nat.le_refl _)] at hown
        go_wp2_with fail
        obtain ⟨wo, rfl⟩ : ∃ wo, wo = wr := ⟨_, rfl⟩
        obtain ⟨va, rfl⟩ : ∃ va, va = v := ⟨_, rfl⟩
        have hs9 : gE + 1 ≤ wo.heap.size := hO.lt
        go_loopw [9] (fun iv wr => ∃ (k m : Nat) (v : Value) (ks : List Tr) (css : List (List Value)), i < k ∧ k ≤ ps.length ∧ iv = .int .i64 k ∧ ks = (kidsTo (parF ps) i k).map (elemN ps n) ∧ m = ks.length ∧ m ≤ k ∧ wr.ownsRow (gE + 1) 35 5 v m css.flatten ∧ TrXL wr (BtL 0 (gE + 1) wr.heap.size v.ownBlock) ks css ∧ wr.ownsRow (gE + 1) 95 3 va o.ats.length (acells (atsF o)) ∧ Blk wr w.heap.size 35 #[.string ⟨#[]⟩, .string ⟨#[]⟩, .slice none 0 0, .slice none 0 0, .string ⟨#[]⟩] ∧ Blk wr gE 35 #[.string (bs o.sp), .string (bs o.nm), va, v, .string (bs o.tx)] ∧ Below w.heap.size w wr) (fun iv _ => ps.length - (intOf iv).toNat)
        case atStart => exact ⟨i + 1, 0, .slice none 0 0, [], [], by omega, by omega, by go_num, by rw [kidsTo_low _ _ _ (Nat.le_refl _)]; rfl, rfl, by omega, ⟨rfl, .inl ⟨rfl, rfl⟩⟩, (by unfold TrXL; rfl), hown, hM, hO, hbw⟩
        case round =>
          clear hown hM hO hbw
          obtain ⟨k, m, v, ks, css, hik, hkl, rfl, hks, hmk, hmle, hrow, hkids, hown, hM, hO, hbw⟩ := hrel
          have HMK := Lib.hid hmk
          clear hmk
          obtain ⟨pA, cA, rfl, yy1, yy2, yy3, yy4⟩ := owns_rdP hown
          by_cases hlt : k < ps.length
          · obtain ⟨b9, off9, pa9, ca9, pq9, cq9, ep, q0, q1, q2, q3, q4, q5, z1, z2, z3⟩ := HP.out k ps[k] (List.getElem?_eq_getElem hlt)
            cases ep
            have cp := Below.keeps (HW0.out.trans (hbw.mono hwz)) _ _ q0
            have hpk : parF ps k = prN ps[k].par k := by
              unfold parF
              rw [List.getD_eq_getElem?_getD, List.getElem?_eq_getElem hlt, Option.getD_some]
            have hKT := kidsTo_succ (parF ps) i k
            rw [hpk] at hKT
            have hpl : prN ps[k].par k < k := prN_lt _ (by omega)
            have hmod : wrap64 ((IntKind.u64.wrap ps[k].par).tmod (k : Int)) = ((prN ps[k].par k : Nat) : Int) := by
              obtain ⟨N, hN1, hN2, hN3⟩ := wrap_mod ps[k].par (k : Int) (by omega) (by omega)
              rw [hN1]
              unfold prN
              omega
            have hku : IntKind.u64.wrap (k : Int) = (k : Int) := by rw [IntKind.wrap_u64]; omega
            have hk0 : ¬ (k : Int) = 0 := by omega
            have hlt' : (k : Int) < (ps.length : Int) := by omega
            generalize ps[k].par = par at *
            generalize prN par k = pk at *
            clear q0 q1 q2 q3 q4 q5 z1 z2 z3 hpk yy1 yy2 yy3 yy4
            have HKS := Lib.hid hks
            have HKT := Lib.hid hKT
            clear hks hKT
            by_cases hpi : pk = i
            · subst hpi
              obtain ⟨pv, cv, rfl, _, _, _⟩ := owns_rd hrow
              have hs8 : gE + 1 ≤ wr.heap.size := by have := hO.lt; omega
              have HVL := Lib.hid (show ∀ g, (Value.slice pv m cv).ownBlock = some g → gE + 1 ≤ g ∧ g < wr.heap.size from fun g hg => hrow.lt g hg)
              have ihc := Lib.hid (fun (w' : World) (h1 : Below w.heap.size w w') => IH.out k w' (HW0.out.trans (h1.mono hwz)) hlt (by omega))
              have HXN := Lib.hid (show (elemN ps n k).nm.length = 2 by unfold elemN; cases n <;> rfl)
              have HTK := Lib.hid (show (kidsTo (parF ps) pk (k + 1)).map (elemN ps n) = ks ++ [elemN ps n k] by rw [HKT.out, if_pos ⟨hik, rfl⟩, List.map_append, HKS.out]; rfl)
              generalize elemN ps n k = X at ihc HTK HXN
              have G1 := Lib.hid hM; have G3 := Lib.hid hO; have G5 := Lib.hid hown; have G6 := Lib.hid hrow; have G7 := Lib.hid hkids; have G8 := Lib.hid hbw
              clear hM hO hrow hkids hbw hown
              go_wp2_with fail
              clear cp hmod hku hk0
              refine wp_phiU_tail (List.take 8 _) (List.drop 8 _) (List.take_append_drop 8 _).symm (rT 6 (gE + 1) 5 35 (.slice pv m cv) m)
                (fun w' => Blk w' gE 35 #[.string (bs o.sp), .string (bs o.nm), .slice pA o.ats.length cA, .slice pv m cv, .string (bs o.tx)] ∧ Blk w' w.heap.size 35 #[.string ⟨#[]⟩, .string ⟨#[]⟩, .slice none 0 0, .slice none 0 0, .string ⟨#[]⟩] ∧ w'.ownsRow (gE + 1) 95 3 (.slice pA o.ats.length cA) o.ats.length (acells (atsF o)) ∧ TrXL w' (BtL 0 (gE + 1) wr.heap.size (Value.slice pv m cv).ownBlock) ks css ∧ Below w.heap.size w w' ∧ wr.heap.size ≤ w'.heap.size)
                [(4, PKidL (fun v => ∃ s0 s1 p1 n1 c1 p2 n2 c2 s3, v = Value.agg #[.string s0, .string s1, .slice p1 n1 c1, .slice p2 n2 c2, .string s3]) 0 wr.heap.size X), (5, POneL 0 wr.heap.size 35 X), (6, PRowL 0 (gE + 1) 5 35 (m + 1) ks css X)] [(5, [4]), (6, [4, 5])] [(6, fun w' => w'.ownsRow (gE + 1) 35 5 (.slice pv m cv) m css.flatten)] [] (by kernel_rfl) (by kernel_rfl) ?_ ?_ ?_ ?_ ?_ ?_
              · rintro p _ w1 w2 ⟨g1, g2, g5, g6, g7, g8⟩ hR
                exact ⟨rT_blklo hR g1 (by omega), rT_blklo hR g2 (by omega), rT_owns hR g5 (by decide), rT_trxl hR g6 (fun b hb e => by
                  rcases hb with hb | hb
                  · omega
                  · exact hb.2.2 e), rT_below hR g7 (by omega) (by omega), Nat.le_trans g8 (rT_size hR)⟩
              · intro p hp p' hp' hne hks hns w1 w2 v hI hR hf
                have hv : ∀ g, (Value.slice pv m cv).ownBlock = some g → 0 ≤ g ∧ g < wr.heap.size := fun g hg => ⟨Nat.zero_le _, (HVL.out g hg).2⟩
                simp only [List.mem_cons, List.not_mem_nil, or_false] at hp hp'
                rcases hp with rfl | rfl | rfl
                · exact PKidL_stays hR hv hf
                · exact POneL_stays hR hv hf
                · rcases hp' with rfl | rfl | rfl
                  · exact absurd (show (4 : Nat) ∈ needs [(5, [4]), (6, [4, 5])] 6 by decide) hns
                  · exact absurd (show (5 : Nat) ∈ needs [(5, [4]), (6, [4, 5])] 6 by decide) hns
                  · exact absurd rfl hne
              · intro p hp u hu hne w1 w2 hI hR hf
                simp only [List.mem_cons, List.not_mem_nil, or_false] at hp hu
                subst hu
                rcases hp with rfl | rfl | rfl
                · have hR := rT_o (show (4 : Nat) ≠ 6 by decide) ▸ hR
                  exact owns_below hf hR
                · have hR := rT_o (show (5 : Nat) ≠ 6 by decide) ▸ hR
                  exact owns_below hf hR
                · exact absurd rfl hne
              · intro u hu
                simp only [List.mem_cons, List.not_mem_nil, or_false] at hu
                subst hu
                exact owns_below G6.out (Below.refl _ _).drew
              · exact ⟨G3.out, G1.out, owns_below G5.out (Below.refl _ _).drew, G7.out.below (Below.refl _ _).drew, G8.out.drew, Nat.le_refl _⟩
              simp only [List.take_succ_cons, List.take_zero, List.drop_succ_cons, List.drop_zero]
              clear G1 G3 G5 G6 G7 G8
              repeat (first | (refine phiU_skipK rfl (fun K hK => ?_); simp only [Act.put, List.setIfInBounds_toArray, List.set_cons_succ, List.set_cons_zero, List.cons_append, List.nil_append]; apply hK; clear hK K) | (refine phiU_pureK rfl rfl (fun K hK => ?_); apply Exists.intro; constructor; (focus (rintro w' ⟨g1, g2, g5, g6, g7, g8⟩; have k1 := (g1.cell 3).trans rfl; clear g1 g2 g5 g6 g7 g8; first | (go_simp; done) | (go_simp; (try go_bits); (try go_simp); rfl) | go_simp)); simp only [Act.put, List.setIfInBounds_toArray, List.set_cons_succ, List.set_cons_zero, List.cons_append, List.nil_append]; apply hK; clear hK K))
              refine phiU_partK (PKidL (fun v => ∃ s0 s1 p1 n1 c1 p2 n2 c2 s3, v = Value.agg #[.string s0, .string s1, .slice p1 n1 c1, .slice p2 n2 c2, .string s3]) 0 wr.heap.size X) rfl rfl ⟨_, ⟨#[]⟩, ⟨#[]⟩, none, 0, 0, none, 0, 0, ⟨#[]⟩, rfl⟩ ?_ (fun K hK v hv => ?_)
              · rintro w' ⟨g1, g2, g5, g6, g7, g8⟩ hf hu
                clear hf hu
                unfold gives
                have HG := Lib.hid (And.intro g7 g8)
                clear g1 g2 g5 g6 g7 g8
                go_simp
                refine (ihc.out w' HG.out.1).mono ?_
                rintro e w'' ⟨cs, rfl, hcs, hb⟩
                obtain ⟨s0, s1, p1, n1, c1, p2, n2, c2, s3, rfl⟩ := trx_five hcs HXN.out
                exact ⟨_, rfl, ⟨s0, s1, p1, n1, c1, p2, n2, c2, s3, rfl⟩, ⟨_, w''.heap.size, rfl, TrX.imp (fun b hb => hb.imp id (fun hb => ⟨Nat.le_trans HG.out.2 hb.1, hb.2.1, hb.2.2⟩)) _ _ hcs, Nat.le_refl _⟩, by rw [rT_o (by decide)]; exact hb⟩
              obtain ⟨s0, s1, p1, n1, c1, p2, n2, c2, s3, rfl⟩ := hv
              simp only [Act.put, List.setIfInBounds_toArray, List.set_cons_succ, List.set_cons_zero, List.cons_append, List.nil_append]
              apply hK
              clear hK K
              refine phiU_partK (POneL 0 wr.heap.size 35 X) rfl rfl ⟨_, 0, rfl⟩ ?_ (fun K hK v hv => ?_)
              · rintro w' ⟨g1, g2, g5, g6, g7, g8⟩ hf hu
                have h3 := hf (4, fun w1 => (PKidL (fun v => ∃ s0 s1 p1 n1 c1 p2 n2 c2 s3, v = Value.agg #[.string s0, .string s1, .slice p1 n1 c1, .slice p2 n2 c2, .string s3]) 0 wr.heap.size X).fact w1 (.agg #[.string s0, .string s1, .slice p1 n1 c1, .slice p2 n2 c2, .string s3])) (by simp) (List.contains_iff_mem.1 rfl) rfl
                have HG := Lib.hid (And.intro h3 g8)
                clear hf hu h3 g1 g2 g5 g6 g7 g8
                unfold gives
                go_simp
                refine ⟨⟨_, rfl⟩, fun g hg => ?_, by rw [rT_o (by decide)]; exact below_alloc1 _ _⟩
                obtain rfl : w'.heap.size = g := by simpa using hg
                obtain ⟨⟨cs, B, e3, t3, b3⟩, g8⟩ := HG.out
                injection e3 with e3
                refine ⟨by omega, cs, B, ?_, t3.below (below_alloc1 _ _), Nat.le_trans b3 (below_alloc1 w' _).size⟩
                rw [← e3]
                exact Blk.new _ _ _
              obtain ⟨g9, rfl⟩ := hv
              simp only [Act.put, List.setIfInBounds_toArray, List.set_cons_succ, List.set_cons_zero, List.cons_append, List.nil_append]
              apply hK
              clear hK K
              refine phiU_partK (PRowL 0 (gE + 1) 5 35 (m + 1) ks css X) rfl rfl ⟨_, none, 0, rfl⟩ ?_ (fun K hK v hv => ?_)
              · rintro w' ⟨g1, g2, g5, g6, g7, g8⟩ hf hu
                have h4 := hf (5, fun w1 => (POneL 0 wr.heap.size 35 X).fact w1 (.slice (some ⟨g9, 0, none⟩) 1 1)) (by simp) (List.contains_iff_mem.1 rfl) rfl
                obtain ⟨h4b, cs, B, b4, t4, l4⟩ := h4 g9 rfl
                have hu8 : w'.ownsRow (gE + 1) 35 5 (.slice pv m cv) m css.flatten := hu (6, fun w' => w'.ownsRow (gE + 1) 35 5 (.slice pv m cv) m css.flatten) (by simp) rfl
                have hv : ∀ g, (Value.slice pv m cv).ownBlock = some g → 0 ≤ g ∧ g < wr.heap.size := fun g hg => ⟨Nat.zero_le _, (HVL.out g hg).2⟩
                clear hf hu h4
                refine gives_appAt (.tmp 88) (.tmp 92) 33 rfl (gE + 1) 35 i9 (.agg #[.string ⟨#[]⟩, .string ⟨#[]⟩, .slice none 0 0, .slice none 0 0, .string ⟨#[]⟩]) 5 96 Tryz.underlying33 hi9 hy0 hy1 hy2 rfl (by decide) _ _ _ rfl hu8 _ _ _ cs rfl (by rw [t4.len, HXN.out]) (.inr ⟨g9, 0, rfl, fun i u hiu => ?_⟩) t4.one (by unfold maxLen; omega) (by omega) (by omega) ?_
                · rw [Nat.zero_add, b4.cell]
                  simpa using hiu
                intro v2 w2 ho2 hg2 hat2
                obtain ⟨p2, c2, rfl, _, _, _⟩ := owns_rd ho2
                refine ⟨⟨p2, c2, rfl⟩, prow_stepL hg2 hat2 hv (by omega) (by omega) (by omega) g6 t4 l4 (by rw [flat_snoc]; exact ho2), ?_⟩
                rw [rT_at]
                exact ⟨⟨_, hu8⟩, hg2⟩
              obtain ⟨p8, c8, rfl⟩ := hv
              simp only [Act.put, List.setIfInBounds_toArray, List.set_cons_succ, List.set_cons_zero, List.cons_append, List.nil_append]
              apply hK
              clear hK K
              repeat (first | (refine phiU_skipK rfl (fun K hK => ?_); simp only [Act.put, List.setIfInBounds_toArray, List.set_cons_succ, List.set_cons_zero, List.cons_append, List.nil_append]; apply hK; clear hK K) | (refine phiU_pureK rfl rfl (fun K hK => ?_); apply Exists.intro; constructor; (focus (rintro w' ⟨g1, g2, g5, g6, g7, g8⟩; have k1 := (g1.cell 3).trans rfl; clear g1 g2 g5 g6 g7 g8; first | (go_simp; done) | (go_simp; (try go_bits); (try go_simp); rfl) | go_simp)); simp only [Act.put, List.setIfInBounds_toArray, List.set_cons_succ, List.set_cons_zero, List.cons_append, List.nil_append]; apply hK; clear hK K))
              refine phiU_done ?_
              rintro w9 ⟨g1, g2, g5, g6, g7, g8⟩ hf
              obtain ⟨cs, ho9, hk9⟩ := hf (6, fun w1 => (PRowL 0 (gE + 1) 5 35 (m + 1) ks css X).fact w1 (.slice p8 (m + 1) c8)) (by simp) rfl
              have f1 := g1.frozen 3
              have k1 := (g1.cell 3).trans rfl
              have O9 := ((Only.refl gE w9).set_ 3 (.slice p8 (m + 1) c8))
              have R1 := Lib.hid (O9.blk g2 (by omega))
              have R3 := Lib.hid (show Blk (w9.setCell ⟨gE, 3, none⟩ (.slice p8 (m + 1) c8)) gE 35 #[.string (bs o.sp), .string (bs o.nm), .slice pA o.ats.length cA, .slice p8 (m + 1) c8, .string (bs o.tx)] from g1.set_ 3 _)
              have R4 := Lib.hid (g7.setCell (p := ⟨gE, 3, none⟩) (show w.heap.size ≤ gE by omega) (.slice p8 (m + 1) c8))
              have R5 := Lib.hid (O9.owns2 ho9 (by omega))
              have R6 := Lib.hid (O9.owns2 g5 (by omega))
              have R7 := Lib.hid (hk9.only O9 (fun b hb => by
                rcases hb with hb | hb
                · omega
                · have := hb.1; omega))
              rw [show w9.heap.size = (w9.setCell ⟨gE, 3, none⟩ (.slice p8 (m + 1) c8)).heap.size from O9.size.symm] at R7
              clear hf g1 g2 g5 g6 g7 g8 O9 ho9 hk9 ihc HVL
              go_wp2_with fail
              go_roundw
              case rel => exact ⟨k + 1, m + 1, .slice p8 (m + 1) c8, ks ++ [X], css ++ [cs], by omega, by omega, by go_num, HTK.out.symm, by rw [List.length_append, HMK.out]; rfl, by omega, R5.out, R7.out, R6.out, R1.out, R3.out, R4.out⟩
              case measure => simp [intOf]; omega
            · have hne : ((pk : Int) == (i : Int)) = false := by rw [beq_eq_false_iff_ne]; omega
              have R1 := Lib.hid hM; have R3 := Lib.hid hO; have R5 := Lib.hid hrow; have R7 := Lib.hid hkids; have R4 := Lib.hid hbw; have R6 := Lib.hid hown
              have HNP := Lib.hid hpi
              clear hM hO hrow hkids hbw hpi hown
              go_wp2_with fail
              go_roundw
              case rel => exact ⟨k + 1, m, v, ks, css, by omega, by omega, by go_num, by rw [HKT.out, if_neg (fun h => HNP.out h.2), List.append_nil]; exact HKS.out, HMK.out, by omega, R5.out, R7.out, R6.out, R1.out, R3.out, R4.out⟩
              case measure => simp [intOf]; omega
          · obtain rfl : k = ps.length := by omega
            obtain ⟨pv, cv, rfl, zz1, zz2, zz3, zz4⟩ := owns_rdP hrow
            have r0 := (hO.cell 0).trans rfl
            have r1 := (hO.cell 1).trans rfl
            have r2 := (hO.cell 2).trans rfl
            have r3 := (hO.cell 3).trans rfl
            have r4 := (hO.cell 4).trans rfl
            have HMb := Lib.hid hM
            have HFIN := Lib.hid (show ∀ w', Only w.heap.size wr w' → TrX w' (BtL 0 w.heap.size w'.heap.size none) (.node [o.sp, o.nm] (atsF o) ks o.tx) [.string (bs o.sp), .string (bs o.nm), .slice pA o.ats.length cA, .slice pv m cv, .string (bs o.tx)] from fun w' kk => by
              have e := kk.size
              have q1 : Rd w' pA (acells (atsF o)) := yy3.keepP (P := fun b => gE + 1 ≤ b) (fun a ha => (yy4 a ha).1) fun a v hp hc => (World.cell?_of_block (kk.block a.block (by omega))).trans hc
              have q2 : Rd w' pv css.flatten := zz3.keepP (P := fun b => gE + 1 ≤ b) (fun a ha => (zz4 a ha).1) fun a v hp hc => (World.cell?_of_block (kk.block a.block (by omega))).trans hc
              unfold TrX
              have hmk := HMK.out
              rw [hmk, ← atsF_len o]
              exact ⟨pA, cA, pv, cv, css, rfl, ⟨by rw [atsF_len]; exact yy1, yy2, q1, fun _ a ha => .inr ⟨by have := (yy4 a ha).1; omega, by rw [e]; exact (yy4 a ha).2, by simp⟩⟩, ⟨by rw [← hmk]; exact zz1, zz2, q2, fun a ha => .inr ⟨by have := (zz4 a ha).1; omega, by rw [e]; exact (zz4 a ha).2, by simp⟩⟩,
                TrXL.imp (fun b hb => by
                  rcases hb with hb | hb
                  · exact .inl hb
                  · exact .inr ⟨by have := hb.1; omega, by rw [e]; exact hb.2.1, by simp⟩) ks css (hkids.only kk (fun b hb => by
                  rcases hb with hb | hb
                  · omega
                  · have := hb.1; omega))⟩)
            have HKS := Lib.hid hks
            have HBW := Lib.hid hbw
            clear hM hO hrow hkids zz1 zz2 zz3 zz4 yy1 yy2 yy3 yy4 hbw hks hown
            go_wp2_with (refine wpList_store (.tmp 4) (.tmp 95) 35 rfl rfl w.heap.size 0 _ _ #[.string (bs o.sp), .string (bs o.nm), .slice pA o.ats.length cA, .slice pv m cv, .string (bs o.tx)] rfl rfl HMb.out ?s0 ?s1 ?s2 ?_)
            case s0 => kernel_rfl
            case s1 => simp [Value.oneCell']
            case s2 => simp
            intro w8 hb8 ho8
            rw [putCells_all #[.string ⟨#[]⟩, .string ⟨#[]⟩, .slice none 0 0, .slice none 0 0, .string ⟨#[]⟩] #[.string (bs o.sp), .string (bs o.nm), .slice pA o.ats.length cA, .slice pv m cv, .string (bs o.tx)] rfl] at hb8
            have z0 := (hb8.cell 0).trans rfl
            have z1 := (hb8.cell 1).trans rfl
            have z2 := (hb8.cell 2).trans rfl
            have z3 := (hb8.cell 3).trans rfl
            have z4 := (hb8.cell 4).trans rfl
            have HB8 := Lib.hid hb8; have HO8 := Lib.hid ho8
            clear r0 r1 r2 r3 r4 hb8 ho8
            go_wp2_with fail
            refine bodyPost_ret (v := .agg #[.string (bs o.sp), .string (bs o.nm), .slice pA o.ats.length cA, .slice pv m cv, .string (bs o.tx)]) (by simp [results, Tryz.results19, go_sem, z0, z1, z2, z3, z4]) rfl ?_
            exact ⟨[.string (bs o.sp), .string (bs o.nm), .slice pA o.ats.length cA, .slice pv m cv, .string (bs o.tx)], rfl, (by rw [← HKS.out]; exact HFIN.out w8 HO8.out), HBW.out.trans (Only.below HO8.out (by omega))⟩
end Go.Proofs.YtkghpmpmcafhkaaGreatDoor
