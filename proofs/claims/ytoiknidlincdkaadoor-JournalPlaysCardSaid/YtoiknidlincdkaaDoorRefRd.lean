/-
  RefRd: the document's Read: the rows at the beginning of bytes.
-/
import Derived.Test.YtoiknidlincdkaaDoorJourE
namespace Go.Proofs.YtoiknidlincdkaaDoor
open Go.RowKit
attribute [local go_sem] bs_toList

def RefReadR (b : List UInt8) (w : World) (e : Ending) (w' : World) : Prop :=
  ∃ v, e = .returned (.tuple #[v, .int .i64 ((readJ b).2 : Int)]) ∧ OutJ w' w.heap.size v (readJ b).1 ∧ Below w.heap.size w w'
theorem AtJ.end_ {b : List UInt8} {k n : Nat} (h : AtJ b k n) (hk : k = (readJ b).1.length) : n = (readJ b).2 ∧ (readJ b).1.take k = (readJ b).1 := by
  have h1 := h.at_
  subst hk
  rw [List.take_of_length_le (Nat.le_refl _)] at h1
  exact ⟨by rw [h1, ← (readJ_ok b).2.2.1], List.take_of_length_le (Nat.le_refl _)⟩
theorem run_slice_at {P : Program} {t e : TypeId} {i : TypeInfo} (ht : P.underlying t = some (.slice e)) (hi : P.info? e = some i) (h1 : i.size = 1) (b off n cap lo k : Nat) (hlo : lo ≤ k) (hk : k ≤ cap) (hlc : lo < cap) (w : World) :
    (Instr.slice t (.slice (some ⟨b, off, none⟩) n cap) (some (.int .i64 (lo : Int))) (some (.int .i64 (k : Int))) none).run P w = .ok (.slice (some ⟨b, off + lo, none⟩) (k - lo) (cap - lo)) w := by
  rw [run_slice_mid ht hi _ n cap lo k hlo hk w]
  unfold cutp
  rw [if_neg (by omega), h1, Option.map_some, Nat.mul_one, cell_add]
set_option maxRecDepth 20000 in
set_option maxHeartbeats 8000000 in
theorem refread_any (w : World) (v : Value) (b : List UInt8) (hbl : b.length ≤ 65536) (hv : Byt w v b) :
    Calls Tryd.prog 16 #[v] w (RefReadR b w) := by
  have HV := Lib.hid hv
  obtain ⟨pb, cb, rfl, q1, q2, q3⟩ := hv
  unfold maxLen at q2
  have Q3 := Lib.hid q3
  obtain ⟨i0, hi, hz0, hz1, hz2⟩ := info_parts rowInfo
  obtain ⟨i8, hi8, hz80, hz81, hz82⟩ := info_parts byt8Info
  clear q3
  go_enter Tryd.func16, Tryd.ntmps16
  go_wp2_with fail
  go_loopw [4, 5] (fun o a wr => ∃ k at_ : Nat, AtJ b k at_ ∧ a = .int .i64 (at_ : Int) ∧ OutJ wr w.heap.size o ((readJ b).1.take k) ∧ Below w.heap.size w wr) (fun _ a _ => b.length - (intOf a).toNat)
  case atStart =>
    have ho := World.ownsRow_lit (base := w.heap.size) (e := 22) (size := 1) w #[] 0 (Nat.le_refl _) (by unfold maxLen; omega) rfl
    exact ⟨0, 0, AtJ.zero b, rfl, ⟨[], rfl, by simpa using ho, by simp⟩, below_alloc1 _ _⟩
  case round =>
    obtain ⟨k, at_, hat, rfl, hout, hbw⟩ := hrel
    have HAT := Lib.hid hat
    have HO := Lib.hid hout
    have hle := hat.le
    have hrk := hat.kk
    have hLl : ((readJ b).1.take k).length ≤ 65536 := by
      have h1 := (readJ_ok b).2.2.1
      have h2 := (readJ_ok b).2.2.2
      have h3 := framesJ_many (readJ b).1
      rw [List.length_take]
      omega
    obtain ⟨us, hus, hown, hel⟩ := id hout
    obtain ⟨po, co, rfl, _, _, _⟩ := owns_rd hown
    have HUS := Lib.hid hus
    have HOWN := Lib.hid hown
    have HEL := Lib.hid hel
    clear hat hout hus hown hel hrk
    have HEND := Lib.hid (fun (hk : k = (readJ b).1.length) => HAT.out.end_ hk)
    obtain ⟨L, hL⟩ : ∃ L, (readJ b).1.take k = L := ⟨_, rfl⟩
    rw [hL] at HO HUS HOWN HEL HEND hLl
    rw [hL]
    have HLE := Lib.hid hL
    clear hL
    by_cases h7 : b.length - at_ < 7
    · have d1 : decide ((b.length : Int) - (at_ : Int) < 7) = true := by rw [decide_eq_true_eq]; omega
      have hk := HEND.out (HAT.out.none (head_short (by rw [List.length_drop]; exact h7)))
      have HKK := Lib.hid hk
      clear hk
      go_wp2_with fail
      go_ret2
      exact ⟨_, by rw [← HKK.out.1]; rfl, by rw [← HKK.out.2]; exact HO.out, hbw⟩
    · have d1 : decide ((b.length : Int) - (at_ : Int) < 7) = false := by rw [decide_eq_false_iff_not]; omega
      obtain ⟨bb, off, hp, hcell⟩ := byt_cell Q3.out (k := at_) (by omega)
      obtain ⟨bb1, off1, hp1, hcell1⟩ := byt_cell Q3.out (k := at_ + 1) (by omega)
      subst hp
      cases hp1
      have hcell := Below.keeps hbw _ _ hcell
      have hcell1 := Below.keeps hbw _ _ hcell1
      have hcn : cntJ (b.drop at_) = (b[at_]'(by omega)).toNat * 256 + (b[at_ + 1]'(by omega)).toNat := by
        unfold cntJ
        rw [List.getD, List.getElem?_drop, List.getD, List.getElem?_drop, Nat.add_zero, List.getElem?_eq_getElem (by omega), List.getElem?_eq_getElem (by omega)]
        rfl
      have hb0 := (b[at_]'(by omega)).toNat_lt
      have hb1 := (b[at_ + 1]'(by omega)).toNat_lt
      generalize b[at_]'(by omega) = x at *
      generalize b[at_ + 1]'(by omega) = y at *
      have HCN := Lib.hid hcn
      have HCE := Lib.hid (And.intro hcell hcell1)
      clear hcn
      go_wp2_with fail
      have n1 : at_ < b.length := by omega
      have n2 : at_ + 1 < b.length := by omega
      have i1 : (at_ : Int) + 1 < (b.length : Int) := by omega
      have i2 : IntKind.i64.wrap ((at_ : Int) + 1) = (at_ : Int) + 1 := IntWalk.i64_in _ (by omega)
      have i3 : (0 : Int) ≤ (at_ : Int) + 1 := by omega
      have i4 : ((at_ : Int) + 1).toNat = at_ + 1 := by omega
      have i5 : IntKind.i64.wrap ((x.toNat : Int) * 256) = (x.toNat : Int) * 256 := IntWalk.i64_in _ (by omega)
      have i6 : IntKind.i64.wrap ((x.toNat : Int) * 256 + (y.toNat : Int)) = (x.toNat : Int) * 256 + (y.toNat : Int) := IntWalk.i64_in _ (by omega)
      refine wp_phi (fun w' => Below wr.heap.size wr w') [] [] (by kernel_rfl) (by kernel_rfl) (fun w1 w2 h1 h2 => h1.trans (h2.mono h1.size)) (fun p hp => by cases hp) (Below.refl _ _).drew ?_
      repeat (first | (refine phi_skipK rfl (fun K hK => ?_); simp only [Act.put, List.setIfInBounds_toArray, List.set_cons_succ, List.set_cons_zero]; (try simp only [List.cons_append]); (try simp only [List.nil_append]); apply hK; clear hK K) | (refine phi_pureK rfl rfl (fun K hK => ?_); apply Exists.intro; constructor; (focus (rintro w' hI; have q1 := Below.keeps hI _ _ HCE.out.1; have q2 := Below.keeps hI _ _ HCE.out.2; clear hI; first | (go_simp; done) | (go_simp; (try go_bits); (try go_simp); rfl) | go_simp)); simp only [Act.put, List.setIfInBounds_toArray, List.set_cons_succ, List.set_cons_zero]; (try simp only [List.cons_append]); (try simp only [List.nil_append]); apply hK; clear hK K))
      refine phi_done ?_
      intro w1 hI _
      refine wpList_nil ?_
      clear n1 n2 i1 i2 i3 i4 i5 i6
      have HXY := Lib.hid (show ((x.toNat : Int) * 256 + (y.toNat : Int)) = (cntJ (b.drop at_) : Int) from by rw [HCN.out]; omega)
      rw [HXY.out]
      have hcb : cntJ (b.drop at_) ≤ 65535 := by rw [HCN.out]; omega
      have HO1 := Lib.hid (HO.out.below hI)
      have HB1 := Lib.hid (hbw.trans (hI.mono hbw.size))
      obtain ⟨c, hcc⟩ : ∃ c, cntJ (b.drop at_) = c := ⟨_, rfl⟩
      rw [hcc] at hcb ⊢
      have HCC := Lib.hid hcc
      have HEL1 := Lib.hid (fun (i : Nat) (l : List UInt8) (hl : L[i]? = some l) => by
        obtain ⟨u, hu, ho⟩ := HEL.out i l hl
        exact (⟨u, hu, owns_below ho hI⟩ : ∃ u, us[i]? = some u ∧ w1.ownsRow w.heap.size 5 1 u l.length (bvs l)))
      have HOWN1 := Lib.hid (owns_below HOWN.out hI)
      have HBYB := Lib.hid (HV.out.below HB1.out)
      clear hcc hI HXY HCN HCE HO HOWN HEL hcell hcell1 hb0 hb1 hbw
      have hbw := HB1.out
      have hnone : ¬ (1 ≤ c ∧ c ≤ 200 ∧ at_ + c + 6 ≤ b.length) → k = (readJ b).1.length := fun h => HAT.out.none (by
        refine head_count ?_
        rw [HCC.out, List.length_drop]
        omega)
      have HNO := Lib.hid hnone
      clear hnone
      by_cases k1 : c < 1
      · have HKK := Lib.hid (HEND.out (HNO.out (by omega)))
        have d2 : decide ((c : Int) < 1) = true := by rw [decide_eq_true_eq]; omega
        go_wp2_with fail
        go_ret2
        exact ⟨_, by rw [← HKK.out.1]; rfl, by rw [← HKK.out.2]; exact HO1.out, hbw⟩
      have d2 : decide ((c : Int) < 1) = false := by rw [decide_eq_false_iff_not]; omega
      by_cases k2 : 200 < c
      · have HKK := Lib.hid (HEND.out (HNO.out (by omega)))
        have d3 : decide (200 < (c : Int)) = true := by rw [decide_eq_true_eq]; omega
        go_wp2_with fail
        go_ret2
        exact ⟨_, by rw [← HKK.out.1]; rfl, by rw [← HKK.out.2]; exact HO1.out, hbw⟩
      have d3 : decide (200 < (c : Int)) = false := by rw [decide_eq_false_iff_not]; omega
      by_cases k3 : b.length < at_ + c + 6
      · have HKK := Lib.hid (HEND.out (HNO.out (by omega)))
        have d4 : decide ((b.length : Int) - (at_ : Int) < (c : Int) + 6) = true := by rw [decide_eq_true_eq]; omega
        go_wp2_with fail
        go_ret2
        exact ⟨_, by rw [← HKK.out.1]; rfl, by rw [← HKK.out.2]; exact HO1.out, hbw⟩
      have d4 : decide ((b.length : Int) - (at_ : Int) < (c : Int) + 6) = false := by rw [decide_eq_false_iff_not]; omega
      have hcut : ∀ m n : Nat, m + n ≤ b.length → Byt w1 (.slice (some ⟨bb, off + m, none⟩) n (cb - m)) ((b.drop m).take n) := fun m n hmn => by
        obtain ⟨p8, c8, e8, _, _, hr8⟩ := HBYB.out
        cases e8
        have hr7 := (hr8.drop m).take n
        rw [← bvs_drop, ← bvs_take, Option.map_some, cell_add] at hr7
        exact ⟨_, _, by rw [List.length_take, List.length_drop]; congr 1; omega, by rw [List.length_take, List.length_drop]; omega, by unfold maxLen; omega, hr7⟩
      have HCUT := Lib.hid hcut
      clear hcut
      have HRL := Lib.hid (show ((b.drop (at_ + 2)).take c).length = c from by rw [List.length_take, List.length_drop]; omega)
      have HHD := Lib.hid (show headJ (b.drop at_) = if frameJ ((b.drop (at_ + 2)).take c) = (b.drop at_).take (c + 6) then some ((b.drop (at_ + 2)).take c) else none from by
        have h := head_ref (b.drop at_) (by rw [List.length_drop]; omega) (by rw [HCC.out]; omega) (by rw [HCC.out]; omega) (by rw [HCC.out, List.length_drop]; omega)
        rw [HCC.out, List.drop_drop] at h
        exact h)
      have HFR := Lib.hid (refframe_any w1 _ ((b.drop (at_ + 2)).take c) (HCUT.out (at_ + 2) c (by omega)))
      have HOKR := Lib.hid (show okRow ((b.drop (at_ + 2)).take c) = true from (okRow_iff _).2 ⟨by rw [HRL.out]; omega, by rw [HRL.out]; omega⟩)
      unfold FramedR frameR at HFR
      rw [HOKR.out, if_pos rfl] at HFR
      obtain ⟨r, hr⟩ : ∃ r, (b.drop (at_ + 2)).take c = r := ⟨_, rfl⟩
      have HR := Lib.hid hr
      rw [hr] at HRL HHD HFR HOKR
      clear hr
      have hnn : at_ + 2 + c - (at_ + 2) = c := by omega
      go_wp2_with fail
      clear hnn
      refine HFR.out.mono ?_
      rintro e w2 ⟨vf, rfl, hof, hb2⟩
      obtain ⟨pf, cf, rfl, _, _, _⟩ := owns_rd hof
      have HYF := Lib.hid (owns_byt hof)
      have HYC := Lib.hid ((HCUT.out at_ (c + 6) (by omega)).below hb2)
      have HYR := Lib.hid (show Byt w2 (.slice (some ⟨bb, off + (at_ + 2), none⟩) c (cb - (at_ + 2))) r from by
        have h := HCUT.out (at_ + 2) c (by omega)
        rw [HR.out] at h
        exact h.below hb2)
      have HO2 := Lib.hid (HO1.out.below hb2)
      have HB2 := Lib.hid (hbw.trans (hb2.mono hbw.size))
      have HEL2 := Lib.hid (fun (i : Nat) (l : List UInt8) (hl : L[i]? = some l) => by
        obtain ⟨u, hu, ho⟩ := HEL1.out i l hl
        exact (⟨u, hu, owns_below ho hb2⟩ : ∃ u, us[i]? = some u ∧ w2.ownsRow w.heap.size 5 1 u l.length (bvs l)))
      have HOWN2 := Lib.hid (owns_below HOWN1.out hb2)
      clear hof hb2 HFR HCUT HO1 HEL1 HOWN1 HBYB hbw
      obtain ⟨G, hG⟩ : ∃ G, (frameJ r == (b.drop at_).take (c + 6)) = G := ⟨_, rfl⟩
      have HG := Lib.hid hG
      clear d1 d2 d3 d4
      have hlc : ((b.drop at_).take (c + 6)).length = c + 6 := by rw [List.length_take, List.length_drop]; omega
      have HLC := Lib.hid hlc
      clear hlc
      have hw2 := HB2.out
      have hyf := HYF.out
      have hyc := HYC.out
      go_wp2_with fail
      have j1 : IntKind.i64.wrap ((at_ : Int) + (c : Int)) = (at_ : Int) + (c : Int) := IntWalk.i64_in _ (by omega)
      have j2 : IntKind.i64.wrap ((at_ : Int) + (c : Int) + 6) = (at_ : Int) + (c : Int) + 6 := IntWalk.i64_in _ (by omega)
      have hsl : ∀ w, (Instr.slice 22 (.slice (some ⟨bb, off, none⟩) b.length cb) (some (.int .i64 (at_ : Int))) (some (.int .i64 ((at_ : Int) + (c : Int) + 6))) none).run Tryd.prog w = .ok (.slice (some ⟨bb, off + at_, none⟩) (c + 6) (cb - at_)) w := fun w => by
        have h := run_slice_at (P := Tryd.prog) Tryd.underlying22 hi8 hz81 bb off b.length cb at_ (at_ + c + 6) (by omega) (by omega) (by omega) w
        rw [show at_ + c + 6 - at_ = c + 6 by omega, show ((at_ + c + 6 : Nat) : Int) = (at_ : Int) + (c : Int) + 6 by omega] at h
        exact h
      refine wp_phi (fun w' => (Byt w' (.slice pf (frameJ r).length cf) (frameJ r)) ∧ (Byt w' (.slice (some ⟨bb, off + at_, none⟩) (c + 6) (cb - at_)) ((b.drop at_).take (c + 6))) ∧ Below w2.heap.size w2 w') [] [] (by kernel_rfl) (by kernel_rfl) ?_ ?_ ⟨hyf, hyc, ((Below.refl w2.heap.size w2)).drew⟩ ?_
      · rintro w1' w2' ⟨y1, y2, hIB⟩ hb
        exact ⟨(by first | exact y1.below hb | exact y1.keep (Below.keeps hb) | exact Below.keeps hb _ _ y1 | exact Blk.below y1 hb (Blk.lt y1)), (by first | exact y2.below hb | exact y2.keep (Below.keeps hb) | exact Below.keeps hb _ _ y2 | exact Blk.below y2 hb (Blk.lt y2)), hIB.trans (hb.mono hIB.size)⟩
      · intro p hp; cases hp
      repeat (first | (refine phi_skipK rfl (fun K hK => ?_); simp only [Act.put, List.setIfInBounds_toArray, List.set_cons_succ, List.set_cons_zero]; (try simp only [List.cons_append]); (try simp only [List.nil_append]); apply hK; clear hK K) | (refine phi_pureK rfl rfl (fun K hK => ?_); apply Exists.intro; constructor; (focus (rintro w' ⟨y1, y2, hIB⟩; have s1 := str_of y1; have s2 := str_of y2; clear y1 y2 hIB; first | (go_simp; done) | (go_simp; (try go_bits); (try go_simp); rfl) | go_simp)); simp only [Act.put, List.setIfInBounds_toArray, List.set_cons_succ, List.set_cons_zero]; (try simp only [List.cons_append]); (try simp only [List.nil_append]); apply hK; clear hK K))
      refine phi_done ?_
      rintro w5 ⟨y1, y2, hb5⟩ _
      refine wpList_nil ?_
      clear j1 j2 hsl y1 hyf hyc hG hw2
      have HB5 := Lib.hid (HB2.out.trans (hb5.mono HB2.out.size))
      have HO5 := Lib.hid (HO2.out.below hb5)
      have HYR5 := Lib.hid (HYR.out.below hb5)
      have HEL5 := Lib.hid (fun (i : Nat) (l : List UInt8) (hl : L[i]? = some l) => by
        obtain ⟨u, hu, ho⟩ := HEL2.out i l hl
        exact (⟨u, hu, owns_below ho hb5⟩ : ∃ u, us[i]? = some u ∧ w5.ownsRow w.heap.size 5 1 u l.length (bvs l)))
      have HOWN5 := Lib.hid (owns_below HOWN2.out hb5)
      clear hb5 y2 HYR HYF HYC HO2 HEL2 HOWN2 HB2
      cases G
      · have HKK := Lib.hid (HEND.out (HAT.out.none (by
          rw [HHD.out, if_neg (by have := HG.out; simpa using this)])))
        clear HG HHD
        go_wp2_with fail
        go_ret2
        exact ⟨_, by rw [← HKK.out.1]; rfl, by rw [← HKK.out.2]; exact HO5.out, HB5.out⟩
      · have hhd := HHD.out
        rw [if_pos (by have := HG.out; simpa using this)] at hhd
        obtain ⟨hkr, hrk, hat2⟩ := HAT.out.some hhd
        rw [HRL.out] at hat2
        have HTK := Lib.hid (show (readJ b).1.take (k + 1) = L ++ [r] from by rw [List.take_succ_eq_append_getElem hkr, hrk, HLE.out])
        have HAT2 := Lib.hid hat2
        have hk1' : r.length = c := HRL.out
        clear hhd HG HHD HEND HNO hkr hrk hat2 hk1'
        have hnn : at_ + 2 + c - (at_ + 2) = c := by omega
        have hal := below_alloc1 w5 (.cells #[] 5)
        have ho0 : (w5.alloc (.cells #[] 5)).ownsRow w.heap.size 5 1 (.slice (some ⟨w5.heap.size, 0, none⟩) 0 0) 0 [] := by
          simpa using World.ownsRow_lit (base := w.heap.size) (e := 5) (size := 1) w5 #[] 0 HB5.out.size (by unfold maxLen; omega) rfl
        have hs0 := (below_alloc HB5.out (.cells #[] 5)).size
        obtain ⟨p9, c9, e9, _, _, hr9⟩ := HYR5.out
        have hr9 := hr9.keep (keep_alloc w5 (.cells #[] 5))
        injection e9 with e91 e92 e93
        subst e91
        have HRX := Lib.hid hr9
        have HAL := Lib.hid hal
        clear hr9 hal e92 e93
        go_wp2_with (at_builtin; refine wpList_appAt (.tmp 73) (.tmp 81) 22 rfl rfl w.heap.size 5 i8 (.int .u8 0) 1 1 Tryd.underlying22 hi8 hz80 hz81 hz82 rfl (by decide) _ _ _ rfl ho0 _ _ _ (bvs r) rfl ?b0 HRX.out bvs_one ?b2 ?b3 hs0 ?_)
        case b0 => rw [bvs_len]; have := HRL.out; omega
        case b2 => unfold maxLen; omega
        case b3 => omega
        intro v1 w6 ho6 hg6 _
        have hb6 : Below w5.heap.size w5 w6 := HAL.out.grown hg6 (by simp) (fun g hg => by cases hg; exact Nat.le_refl _)
        have HB6 := Lib.hid (HB5.out.trans (hb6.mono HB5.out.size))
        have HO6 := Lib.hid ho6
        have HEL6 := Lib.hid (fun (i : Nat) (l : List UInt8) (hl : L[i]? = some l) => by
          obtain ⟨u, hu, ho⟩ := HEL5.out i l hl
          exact (⟨u, hu, owns_below ho hb6⟩ : ∃ u, us[i]? = some u ∧ w6.ownsRow w.heap.size 5 1 u l.length (bvs l)))
        have HOWN6 := Lib.hid (owns_below HOWN5.out hb6)
        obtain ⟨p6, c6, rfl, _, _, _⟩ := owns_rd ho6
        clear ho6 hg6 hb6 ho0 hs0 hnn
        have hal := below_alloc1 w6 (.cells #[.slice p6 c c6] 22)
        have hown := owns_below HOWN6.out hal
        have hs3 := (below_alloc HB6.out (.cells #[.slice p6 c c6] 22)).size
        have HAL6 := Lib.hid hal
        clear hal
        go_wp2_with (at_builtin; refine wpList_app (.tmp 72) (.tmp 83) 39 rfl rfl w.heap.size 22 i0 (.slice none 0 0) 1 24 Tryd.underlying39 hi hz0 hz1 hz2 rfl (by decide) _ _ _ rfl hown _ _ _ [.slice p6 c c6] rfl rfl (rd_at _ #[_] _ _ _ rfl) ?d1 ?d2 ?d3 hs3 ?_)
        case d1 => first | trivial | exact rfl | simp [Value.oneCell']
        case d2 => unfold maxLen; omega
        case d3 => omega
        intro v4 w7 ho7 hg7
        have hbw7 := (below_alloc HB6.out (.cells #[.slice p6 c c6] 22)).grown hg7 hs3 (fun g hg => (hown.lt g hg).1)
        have HO7 := Lib.hid (show OutJ w7 w.heap.size v4 (L ++ [r]) from OutJ.add HUS.out ho7 hown hg7 (fun i f hf => by
          obtain ⟨u, hu, ho⟩ := HEL6.out i f hf
          exact ⟨u, hu, owns_below ho HAL6.out⟩) (owns_below (by have h := HO6.out; (try simp only [Nat.zero_add, List.nil_append] at h); rw [HRL.out]; exact h) HAL6.out))
        obtain ⟨p7, c7, rfl, _, _, _⟩ := owns_rd ho7
        clear hown ho7 hg7 hs3
        go_wp2_with fail
        go_roundw
        case rel => exact ⟨k + 1, at_ + (c + 6), HAT2.out, by go_num, by rw [HTK.out]; exact HO7.out, hbw7⟩
        case measure => simp [intOf]; omega
end Go.Proofs.YtoiknidlincdkaaDoor
