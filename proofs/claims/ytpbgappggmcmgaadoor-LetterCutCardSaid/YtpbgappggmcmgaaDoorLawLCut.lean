/-
  LawLCut: the walk of LetterCut.
-/
import Derived.Test.YtpbgappggmcmgaaDoorLetterE3
import Derived.Test.YtpbgappggmcmgaaDoorLetterH
import Derived.Test.YtpbgappggmcmgaaDoorCutNum
namespace Go.Proofs.YtpbgappggmcmgaaDoor
open Go.RowKit Go.Extern.Stop Go.Stop Go.Extern
attribute [local go_sem] bs_toList

theorem right_answer {m : Msg} (h : rightM m = true) : rightM (answerM m 15 0) = true ∧ ∀ c : Int, 1 ≤ c → c ≤ 5 → rightM (answerM m 19 c) = true := by
  unfold rightM at h
  simp only [Bool.and_eq_true] at h
  obtain ⟨⟨⟨⟨⟨⟨⟨h1, h2⟩, h3⟩, h4⟩, h5⟩, h6⟩, h7⟩, h8⟩ := h
  have h5 := inR_yes h5
  have a5 : regH m.k ≤ 5 := by unfold regH; split <;> omega
  have e5 : inR m.r 0 5 = true := by unfold inR; rw [Bool.and_eq_true, decide_eq_true_eq, decide_eq_true_eq]; omega
  refine ⟨?_, fun c c1 c5 => ?_⟩
  · unfold rightM answerM
    show (inR 15 1 19 && inR m.t 0 3 && inR m.f 0 3 && actOk m.n m.s && inR m.r 0 5 && inR m.p 0 7 && inR 0 0 0 && inR 0 0 0) = true
    rw [h2, h3, h4, e5, h6]; rfl
  · have ec : inR c 1 5 = true := by unfold inR; rw [Bool.and_eq_true, decide_eq_true_eq, decide_eq_true_eq]; omega
    unfold rightM answerM
    show (inR 19 1 19 && inR m.t 0 3 && inR m.f 0 3 && actOk m.n m.s && inR m.r 0 5 && inR m.p 0 7 && inR 0 0 0 && inR c 1 5) = true
    rw [h2, h3, h4, e5, h6, ec]; rfl
theorem answer_wf {m : Msg} (h : m.wf) {k c : Int} (hk : inI k) (hc : inI c) : (answerM m k c).wf := by
  intro x hx
  unfold answerM Msg.l at hx
  simp only [List.mem_cons, List.not_mem_nil, or_false] at hx
  rcases hx with rfl | rfl | rfl | rfl | rfl | rfl | rfl | rfl | rfl
  · exact hk
  · exact h _ (by unfold Msg.l; simp)
  · exact h _ (by unfold Msg.l; simp)
  · exact h _ (by unfold Msg.l; simp)
  · exact h _ (by unfold Msg.l; simp)
  · exact h _ (by unfold Msg.l; simp)
  · exact h _ (by unfold Msg.l; simp)
  · unfold inI; omega
  · exact hc
theorem enc_some {m : Msg} (h : rightM m = true) : 0 < (encL m).length := by
  have hk : 1 ≤ m.k := by
    unfold rightM at h
    simp only [Bool.and_eq_true] at h
    exact (inR_yes h.1.1.1.1.1.1.1).1
  unfold encL
  rw [if_pos h]
  unfold Msg.l
  simp only [tagRow]
  rw [if_neg (by omega)]
  simp [joinL, fieldB]
set_option maxRecDepth 20000 in
set_option maxHeartbeats 4000000 in
theorem lcut_law (m : Msg) (x : Int) (hm : m.wf) (w : World) (E : Nat → Addr) (h : IdsG w E) :
    Calls Tryd.prog 7 #[msgV m, .int .i64 x] w fun e w' => e = .returned (.bool true) ∧ Below w.heap.size w w' := by
  have HG := Lib.hid (fun w' (hb : Below w.heap.size w w') => h.below hb)
  have HAL := Lib.hid (fun w' h => lalive_any w' E h)
  have HEN := Lib.hid (fun w' h => encode_any m hm w' E h)
  unfold GivesB at HEN
  cases hr : rightM m
  · have he : encE m = 4 := by unfold encE; rw [hr]; rfl
    have hev : ∃ a, errV E 4 = .iface 128 a := ⟨_, rfl⟩
    obtain ⟨a, hev⟩ := hev
    rw [he, hev] at HEN
    generalize encL m = l at *
    clear he hr hm h hev
    unfold msgV at HEN ⊢
    obtain ⟨a0, a1, a2, a3, a4, a5, a6, a7, a8⟩ := m
    simp only at HEN ⊢
    have B := Lib.hid (below_alloc1 w (.cells #[.int .i64 a0, .int .i64 a1, .int .i64 a2, .int .i64 a3, .int .i64 a4, .int .i64 a5, .int .i64 a6, .int .i64 a7, .int .i64 a8] 25))
    have N := Lib.hid (Blk.new w 25 #[.int .i64 a0, .int .i64 a1, .int .i64 a2, .int .i64 a3, .int .i64 a4, .int .i64 a5, .int .i64 a6, .int .i64 a7, .int .i64 a8])
    have n0 := (N.out.cell 0).trans rfl
    have n1 := (N.out.cell 1).trans rfl
    have n2 := (N.out.cell 2).trans rfl
    have n3 := (N.out.cell 3).trans rfl
    have n4 := (N.out.cell 4).trans rfl
    have n5 := (N.out.cell 5).trans rfl
    have n6 := (N.out.cell 6).trans rfl
    have n7 := (N.out.cell 7).trans rfl
    have n8 := (N.out.cell 8).trans rfl
    go_enter Tryd.func7, Tryd.ntmps7
    go_wp2_with fail
    refine (HAL.out _ (HG.out _ B.out)).mono ?_
    rintro e w' ⟨rfl, hb⟩
    have B' := Lib.hid (B.out.trans (hb.mono B.out.size))
    have N' := Lib.hid (N.out.below hb N.out.lt)
    clear hb B N n0 n1 n2 n3 n4 n5 n6 n7 n8
    have n0 := (N'.out.cell 0).trans rfl
    have n1 := (N'.out.cell 1).trans rfl
    have n2 := (N'.out.cell 2).trans rfl
    have n3 := (N'.out.cell 3).trans rfl
    have n4 := (N'.out.cell 4).trans rfl
    have n5 := (N'.out.cell 5).trans rfl
    have n6 := (N'.out.cell 6).trans rfl
    have n7 := (N'.out.cell 7).trans rfl
    have n8 := (N'.out.cell 8).trans rfl
    have B := Lib.hid B'.out
    have N := Lib.hid N'.out
    clear B' N'
    go_wp2_with fail
    refine (HEN.out _ (HG.out _ B.out)).mono ?_
    rintro e w' ⟨v, rfl, ho, hb⟩
    have hyt := owns_byt ho
    obtain ⟨p, c, rfl, hcl, _, _⟩ := id hyt
    have Y := Lib.hid hyt
    clear ho hyt
    have B' := Lib.hid (B.out.trans (hb.mono B.out.size))
    have N' := Lib.hid (N.out.below hb N.out.lt)
    clear hb B N n0 n1 n2 n3 n4 n5 n6 n7 n8
    have n0 := (N'.out.cell 0).trans rfl
    have n1 := (N'.out.cell 1).trans rfl
    have n2 := (N'.out.cell 2).trans rfl
    have n3 := (N'.out.cell 3).trans rfl
    have n4 := (N'.out.cell 4).trans rfl
    have n5 := (N'.out.cell 5).trans rfl
    have n6 := (N'.out.cell 6).trans rfl
    have n7 := (N'.out.cell 7).trans rfl
    have n8 := (N'.out.cell 8).trans rfl
    have B := Lib.hid B'.out
    have N := Lib.hid N'.out
    clear B' N'
    go_wp2_with fail
    go_ret
    exact ⟨rfl, B.out⟩
  · have he : encE m = 0 := by unfold encE; rw [hr]; rfl
    have hsm := enc_small hr
    have hso := enc_some hr
    have HRA := Lib.hid (right_answer hr)
    have HAN := Lib.hid (fun k c w' => answer_any m k c w')
    have HR1 := Lib.hid (fun w' h => lright_any (answerM m 15 0) (answer_wf hm (by unfold inI; omega) (by unfold inI; omega)) w' E h)
    rw [(right_answer hr).1] at HR1
    have HR2 := Lib.hid (fun (c : Int) (h1 : 1 ≤ c) (h5 : c ≤ 5) w' h => lright_any (answerM m 19 c) (answer_wf hm (by unfold inI; omega) (by unfold inI; omega)) w' E h)
    have HDC := Lib.hid (fun b v w' h hy => decode_any b v w' E h hy)
    have hu := u64_conv x
    have hul := u64n_lt x
    have hu2 := fun w => u64_conv ((encL m).length : Int) w
    have hu3 : u64n ((encL m).length : Int) = (encL m).length := by unfold u64n; omega
    simp only [hu3] at hu2
    have hnz : ¬ ((encL m).length : Int) = 0 := by omega
    obtain ⟨k, hkl, hkw⟩ := last_k x (encL m).length hso (by omega)
    have HKW := Lib.hid hkw
    clear hkw
    have hz5 : 0 ≤ (u64n x : Int) % 5 ∧ (u64n x : Int) % 5 < 5 := by omega
    have HNE := Lib.hid (fun h0 => dec_cut hr k hkl h0)
    have HC5 := Lib.hid (HRA.out.2 (1 + (u64n x : Int) % 5) (by omega) (by omega))
    have HR5 := Lib.hid (HR2.out (1 + (u64n x : Int) % 5) (by omega) (by omega))
    rw [HC5.out] at HR5
    obtain ⟨i1, hi', hz0', hz1', hz2'⟩ := info_parts byt8Info
    simp only [he, errV_zero] at HEN
    clear he hr hm h hsm hu3 HRA HR2 HC5
    generalize encL m = l at *
    generalize hde : decE (l.take k) = de at *
    generalize hdm : decM (l.take k) = dm at *
    have HDT := Lib.hid (HDC.out (l.take k))
    rw [hde, hdm] at HDT
    clear HDC hde hdm
    have hnm : de = 0 → eqM dm m = false := fun h0 => by
      rw [Bool.eq_false_iff]
      intro h9
      exact HNE.out h0 ((eqM_iff _ _).1 h9)
    unfold eqM at hnm
    clear HNE
    unfold msgV answerM at HAN HR1 HR5
    unfold msgV at HEN HDT ⊢
    obtain ⟨a0, a1, a2, a3, a4, a5, a6, a7, a8⟩ := m
    obtain ⟨b0, b1, b2, b3, b4, b5, b6, b7, b8⟩ := dm
    simp only at HEN HAN HR1 HR5 HDT hnm ⊢
    have hneq := fun w' => neqMsg b0 b1 b2 b3 b4 b5 b6 b7 b8 a0 a1 a2 a3 a4 a5 a6 a7 a8 w'
    by_cases hz : de = 0
    · subst hz
      have hn0 := hnm rfl
      rw [hn0] at hneq
      simp only [errV_zero, Bool.not_false] at HDT hneq
      clear hnm hn0
      have B := Lib.hid (below_alloc1 w (.cells #[.int .i64 a0, .int .i64 a1, .int .i64 a2, .int .i64 a3, .int .i64 a4, .int .i64 a5, .int .i64 a6, .int .i64 a7, .int .i64 a8] 25))
      have N := Lib.hid (Blk.new w 25 #[.int .i64 a0, .int .i64 a1, .int .i64 a2, .int .i64 a3, .int .i64 a4, .int .i64 a5, .int .i64 a6, .int .i64 a7, .int .i64 a8])
      have n0 := (N.out.cell 0).trans rfl
      have n1 := (N.out.cell 1).trans rfl
      have n2 := (N.out.cell 2).trans rfl
      have n3 := (N.out.cell 3).trans rfl
      have n4 := (N.out.cell 4).trans rfl
      have n5 := (N.out.cell 5).trans rfl
      have n6 := (N.out.cell 6).trans rfl
      have n7 := (N.out.cell 7).trans rfl
      have n8 := (N.out.cell 8).trans rfl
      go_enter Tryd.func7, Tryd.ntmps7
      go_wp2_with fail
      refine (HAL.out _ (HG.out _ B.out)).mono ?_
      rintro e w' ⟨rfl, hb⟩
      have B' := Lib.hid (B.out.trans (hb.mono B.out.size))
      have N' := Lib.hid (N.out.below hb N.out.lt)
      clear hb B N n0 n1 n2 n3 n4 n5 n6 n7 n8
      have n0 := (N'.out.cell 0).trans rfl
      have n1 := (N'.out.cell 1).trans rfl
      have n2 := (N'.out.cell 2).trans rfl
      have n3 := (N'.out.cell 3).trans rfl
      have n4 := (N'.out.cell 4).trans rfl
      have n5 := (N'.out.cell 5).trans rfl
      have n6 := (N'.out.cell 6).trans rfl
      have n7 := (N'.out.cell 7).trans rfl
      have n8 := (N'.out.cell 8).trans rfl
      have B := Lib.hid B'.out
      have N := Lib.hid N'.out
      clear B' N'
      go_wp2_with fail
      refine (HEN.out _ (HG.out _ B.out)).mono ?_
      rintro e w' ⟨v, rfl, ho, hb⟩
      have hyt := owns_byt ho
      obtain ⟨p, c, rfl, hcl, _, _⟩ := id hyt
      have Y := Lib.hid hyt
      clear ho hyt
      have B' := Lib.hid (B.out.trans (hb.mono B.out.size))
      have N' := Lib.hid (N.out.below hb N.out.lt)
      clear hb B N n0 n1 n2 n3 n4 n5 n6 n7 n8
      have n0 := (N'.out.cell 0).trans rfl
      have n1 := (N'.out.cell 1).trans rfl
      have n2 := (N'.out.cell 2).trans rfl
      have n3 := (N'.out.cell 3).trans rfl
      have n4 := (N'.out.cell 4).trans rfl
      have n5 := (N'.out.cell 5).trans rfl
      have n6 := (N'.out.cell 6).trans rfl
      have n7 := (N'.out.cell 7).trans rfl
      have n8 := (N'.out.cell 8).trans rfl
      have B := Lib.hid B'.out
      have N := Lib.hid N'.out
      clear B' N'
      have hsl := fun w => run_slice_to (P := Tryd.prog) Tryd.underlying27 hi' p l.length c k (by omega) w
      have HT := Lib.hid (byt_take' Y.out k (Nat.le_of_lt hkl))
      have hkw := HKW.out
      go_wp2_with fail
      refine (HDT.out _ _ (HG.out _ B.out) HT.out).mono ?_
      rintro e w' ⟨rfl, hb⟩
      have B' := Lib.hid (B.out.trans (hb.mono B.out.size))
      have N' := Lib.hid (N.out.below hb N.out.lt)
      clear hb B N n0 n1 n2 n3 n4 n5 n6 n7 n8
      have n0 := (N'.out.cell 0).trans rfl
      have n1 := (N'.out.cell 1).trans rfl
      have n2 := (N'.out.cell 2).trans rfl
      have n3 := (N'.out.cell 3).trans rfl
      have n4 := (N'.out.cell 4).trans rfl
      have n5 := (N'.out.cell 5).trans rfl
      have n6 := (N'.out.cell 6).trans rfl
      have n7 := (N'.out.cell 7).trans rfl
      have n8 := (N'.out.cell 8).trans rfl
      have B := Lib.hid B'.out
      have N := Lib.hid N'.out
      clear B' N'
      clear Y HT hsl hkw hcl
      have M := Lib.hid (Blk.new w' 25 #[.int .i64 0, .int .i64 0, .int .i64 0, .int .i64 0, .int .i64 0, .int .i64 0, .int .i64 0, .int .i64 0, .int .i64 0])
      have N' := Lib.hid (N.out.alloc (.cells #[.int .i64 0, .int .i64 0, .int .i64 0, .int .i64 0, .int .i64 0, .int .i64 0, .int .i64 0, .int .i64 0, .int .i64 0] 25))
      have B' := Lib.hid (below_alloc B.out (.cells #[.int .i64 0, .int .i64 0, .int .i64 0, .int .i64 0, .int .i64 0, .int .i64 0, .int .i64 0, .int .i64 0, .int .i64 0] 25))
      go_wp2_with (refine wpList_store (.tmp 7) (.tmp 28) 25 rfl rfl w'.heap.size 0 _ _ #[.int .i64 b0, .int .i64 b1, .int .i64 b2, .int .i64 b3, .int .i64 b4, .int .i64 b5, .int .i64 b6, .int .i64 b7, .int .i64 b8] rfl rfl M.out (by kernel_rfl) (by simp [Value.oneCell']) (by simp) ?_)
      intro w7 hn7 ko7
      have h7 : Blk w7 w'.heap.size 25 #[.int .i64 b0, .int .i64 b1, .int .i64 b2, .int .i64 b3, .int .i64 b4, .int .i64 b5, .int .i64 b6, .int .i64 b7, .int .i64 b8] := hn7
      have B7 := Lib.hid (B'.out.trans (ko7.below B.out.size))
      have N7 := Lib.hid (ko7.blk N'.out (Nat.ne_of_lt N.out.lt))
      have H7 := Lib.hid h7
      clear hn7 ko7 h7 M B' B N' N n0 n1 n2 n3 n4 n5 n6 n7 n8
      generalize w'.heap.size = gc at *
      have n0 := (N7.out.cell 0).trans rfl
      have n1 := (N7.out.cell 1).trans rfl
      have n2 := (N7.out.cell 2).trans rfl
      have n3 := (N7.out.cell 3).trans rfl
      have n4 := (N7.out.cell 4).trans rfl
      have n5 := (N7.out.cell 5).trans rfl
      have n6 := (N7.out.cell 6).trans rfl
      have n7 := (N7.out.cell 7).trans rfl
      have n8 := (N7.out.cell 8).trans rfl
      have c0 := (H7.out.cell 0).trans rfl
      have c1 := (H7.out.cell 1).trans rfl
      have c2 := (H7.out.cell 2).trans rfl
      have c3 := (H7.out.cell 3).trans rfl
      have c4 := (H7.out.cell 4).trans rfl
      have c5 := (H7.out.cell 5).trans rfl
      have c6 := (H7.out.cell 6).trans rfl
      have c7 := (H7.out.cell 7).trans rfl
      have c8 := (H7.out.cell 8).trans rfl
      have B := Lib.hid B7.out
      have N := Lib.hid N7.out
      have C := Lib.hid H7.out
      clear B7 H7 N7
      go_wp2_with fail
      refine (HAN.out 15 0 _).mono ?_
      rintro e w' ⟨rfl, hb⟩
      have B' := Lib.hid (B.out.trans (hb.mono B.out.size))
      have N' := Lib.hid (N.out.below hb N.out.lt)
      have C' := Lib.hid (C.out.below hb C.out.lt)
      clear hb B N C n0 n1 n2 n3 n4 n5 n6 n7 n8 c0 c1 c2 c3 c4 c5 c6 c7 c8
      have n0 := (N'.out.cell 0).trans rfl
      have n1 := (N'.out.cell 1).trans rfl
      have n2 := (N'.out.cell 2).trans rfl
      have n3 := (N'.out.cell 3).trans rfl
      have n4 := (N'.out.cell 4).trans rfl
      have n5 := (N'.out.cell 5).trans rfl
      have n6 := (N'.out.cell 6).trans rfl
      have n7 := (N'.out.cell 7).trans rfl
      have n8 := (N'.out.cell 8).trans rfl
      have c0 := (C'.out.cell 0).trans rfl
      have c1 := (C'.out.cell 1).trans rfl
      have c2 := (C'.out.cell 2).trans rfl
      have c3 := (C'.out.cell 3).trans rfl
      have c4 := (C'.out.cell 4).trans rfl
      have c5 := (C'.out.cell 5).trans rfl
      have c6 := (C'.out.cell 6).trans rfl
      have c7 := (C'.out.cell 7).trans rfl
      have c8 := (C'.out.cell 8).trans rfl
      have B := Lib.hid B'.out
      have N := Lib.hid N'.out
      have C := Lib.hid C'.out
      clear B' N' C'
      go_wp2_with fail
      refine (HR1.out _ (HG.out _ B.out)).mono ?_
      rintro e w' ⟨rfl, hb⟩
      have B' := Lib.hid (B.out.trans (hb.mono B.out.size))
      have N' := Lib.hid (N.out.below hb N.out.lt)
      have C' := Lib.hid (C.out.below hb C.out.lt)
      clear hb B N C n0 n1 n2 n3 n4 n5 n6 n7 n8 c0 c1 c2 c3 c4 c5 c6 c7 c8
      have n0 := (N'.out.cell 0).trans rfl
      have n1 := (N'.out.cell 1).trans rfl
      have n2 := (N'.out.cell 2).trans rfl
      have n3 := (N'.out.cell 3).trans rfl
      have n4 := (N'.out.cell 4).trans rfl
      have n5 := (N'.out.cell 5).trans rfl
      have n6 := (N'.out.cell 6).trans rfl
      have n7 := (N'.out.cell 7).trans rfl
      have n8 := (N'.out.cell 8).trans rfl
      have c0 := (C'.out.cell 0).trans rfl
      have c1 := (C'.out.cell 1).trans rfl
      have c2 := (C'.out.cell 2).trans rfl
      have c3 := (C'.out.cell 3).trans rfl
      have c4 := (C'.out.cell 4).trans rfl
      have c5 := (C'.out.cell 5).trans rfl
      have c6 := (C'.out.cell 6).trans rfl
      have c7 := (C'.out.cell 7).trans rfl
      have c8 := (C'.out.cell 8).trans rfl
      have B := Lib.hid B'.out
      have N := Lib.hid N'.out
      have C := Lib.hid C'.out
      clear B' N' C'
      go_wp2_with fail
      refine (HAN.out 19 (1 + (u64n x : Int) % 5) _).mono ?_
      rintro e w' ⟨rfl, hb⟩
      have B' := Lib.hid (B.out.trans (hb.mono B.out.size))
      have N' := Lib.hid (N.out.below hb N.out.lt)
      have C' := Lib.hid (C.out.below hb C.out.lt)
      clear hb B N C n0 n1 n2 n3 n4 n5 n6 n7 n8 c0 c1 c2 c3 c4 c5 c6 c7 c8
      have n0 := (N'.out.cell 0).trans rfl
      have n1 := (N'.out.cell 1).trans rfl
      have n2 := (N'.out.cell 2).trans rfl
      have n3 := (N'.out.cell 3).trans rfl
      have n4 := (N'.out.cell 4).trans rfl
      have n5 := (N'.out.cell 5).trans rfl
      have n6 := (N'.out.cell 6).trans rfl
      have n7 := (N'.out.cell 7).trans rfl
      have n8 := (N'.out.cell 8).trans rfl
      have c0 := (C'.out.cell 0).trans rfl
      have c1 := (C'.out.cell 1).trans rfl
      have c2 := (C'.out.cell 2).trans rfl
      have c3 := (C'.out.cell 3).trans rfl
      have c4 := (C'.out.cell 4).trans rfl
      have c5 := (C'.out.cell 5).trans rfl
      have c6 := (C'.out.cell 6).trans rfl
      have c7 := (C'.out.cell 7).trans rfl
      have c8 := (C'.out.cell 8).trans rfl
      have B := Lib.hid B'.out
      have N := Lib.hid N'.out
      have C := Lib.hid C'.out
      clear B' N' C'
      go_wp2_with fail
      refine (HR5.out _ (HG.out _ B.out)).mono ?_
      rintro e w' ⟨rfl, hb⟩
      have B' := Lib.hid (B.out.trans (hb.mono B.out.size))
      have N' := Lib.hid (N.out.below hb N.out.lt)
      have C' := Lib.hid (C.out.below hb C.out.lt)
      clear hb B N C n0 n1 n2 n3 n4 n5 n6 n7 n8 c0 c1 c2 c3 c4 c5 c6 c7 c8
      have n0 := (N'.out.cell 0).trans rfl
      have n1 := (N'.out.cell 1).trans rfl
      have n2 := (N'.out.cell 2).trans rfl
      have n3 := (N'.out.cell 3).trans rfl
      have n4 := (N'.out.cell 4).trans rfl
      have n5 := (N'.out.cell 5).trans rfl
      have n6 := (N'.out.cell 6).trans rfl
      have n7 := (N'.out.cell 7).trans rfl
      have n8 := (N'.out.cell 8).trans rfl
      have c0 := (C'.out.cell 0).trans rfl
      have c1 := (C'.out.cell 1).trans rfl
      have c2 := (C'.out.cell 2).trans rfl
      have c3 := (C'.out.cell 3).trans rfl
      have c4 := (C'.out.cell 4).trans rfl
      have c5 := (C'.out.cell 5).trans rfl
      have c6 := (C'.out.cell 6).trans rfl
      have c7 := (C'.out.cell 7).trans rfl
      have c8 := (C'.out.cell 8).trans rfl
      have B := Lib.hid B'.out
      have N := Lib.hid N'.out
      have C := Lib.hid C'.out
      clear B' N' C'
      go_wp2_with fail
      go_ret
      exact ⟨rfl, B.out⟩
    · obtain ⟨en, rfl⟩ : ∃ en, de = en + 1 := ⟨de - 1, by omega⟩
      simp only [errV_suc] at HDT
      clear hnm hneq hz
      have B := Lib.hid (below_alloc1 w (.cells #[.int .i64 a0, .int .i64 a1, .int .i64 a2, .int .i64 a3, .int .i64 a4, .int .i64 a5, .int .i64 a6, .int .i64 a7, .int .i64 a8] 25))
      have N := Lib.hid (Blk.new w 25 #[.int .i64 a0, .int .i64 a1, .int .i64 a2, .int .i64 a3, .int .i64 a4, .int .i64 a5, .int .i64 a6, .int .i64 a7, .int .i64 a8])
      have n0 := (N.out.cell 0).trans rfl
      have n1 := (N.out.cell 1).trans rfl
      have n2 := (N.out.cell 2).trans rfl
      have n3 := (N.out.cell 3).trans rfl
      have n4 := (N.out.cell 4).trans rfl
      have n5 := (N.out.cell 5).trans rfl
      have n6 := (N.out.cell 6).trans rfl
      have n7 := (N.out.cell 7).trans rfl
      have n8 := (N.out.cell 8).trans rfl
      go_enter Tryd.func7, Tryd.ntmps7
      go_wp2_with fail
      refine (HAL.out _ (HG.out _ B.out)).mono ?_
      rintro e w' ⟨rfl, hb⟩
      have B' := Lib.hid (B.out.trans (hb.mono B.out.size))
      have N' := Lib.hid (N.out.below hb N.out.lt)
      clear hb B N n0 n1 n2 n3 n4 n5 n6 n7 n8
      have n0 := (N'.out.cell 0).trans rfl
      have n1 := (N'.out.cell 1).trans rfl
      have n2 := (N'.out.cell 2).trans rfl
      have n3 := (N'.out.cell 3).trans rfl
      have n4 := (N'.out.cell 4).trans rfl
      have n5 := (N'.out.cell 5).trans rfl
      have n6 := (N'.out.cell 6).trans rfl
      have n7 := (N'.out.cell 7).trans rfl
      have n8 := (N'.out.cell 8).trans rfl
      have B := Lib.hid B'.out
      have N := Lib.hid N'.out
      clear B' N'
      go_wp2_with fail
      refine (HEN.out _ (HG.out _ B.out)).mono ?_
      rintro e w' ⟨v, rfl, ho, hb⟩
      have hyt := owns_byt ho
      obtain ⟨p, c, rfl, hcl, _, _⟩ := id hyt
      have Y := Lib.hid hyt
      clear ho hyt
      have B' := Lib.hid (B.out.trans (hb.mono B.out.size))
      have N' := Lib.hid (N.out.below hb N.out.lt)
      clear hb B N n0 n1 n2 n3 n4 n5 n6 n7 n8
      have n0 := (N'.out.cell 0).trans rfl
      have n1 := (N'.out.cell 1).trans rfl
      have n2 := (N'.out.cell 2).trans rfl
      have n3 := (N'.out.cell 3).trans rfl
      have n4 := (N'.out.cell 4).trans rfl
      have n5 := (N'.out.cell 5).trans rfl
      have n6 := (N'.out.cell 6).trans rfl
      have n7 := (N'.out.cell 7).trans rfl
      have n8 := (N'.out.cell 8).trans rfl
      have B := Lib.hid B'.out
      have N := Lib.hid N'.out
      clear B' N'
      have hsl := fun w => run_slice_to (P := Tryd.prog) Tryd.underlying27 hi' p l.length c k (by omega) w
      have HT := Lib.hid (byt_take' Y.out k (Nat.le_of_lt hkl))
      have hkw := HKW.out
      go_wp2_with fail
      refine (HDT.out _ _ (HG.out _ B.out) HT.out).mono ?_
      rintro e w' ⟨rfl, hb⟩
      have B' := Lib.hid (B.out.trans (hb.mono B.out.size))
      have N' := Lib.hid (N.out.below hb N.out.lt)
      clear hb B N n0 n1 n2 n3 n4 n5 n6 n7 n8
      have n0 := (N'.out.cell 0).trans rfl
      have n1 := (N'.out.cell 1).trans rfl
      have n2 := (N'.out.cell 2).trans rfl
      have n3 := (N'.out.cell 3).trans rfl
      have n4 := (N'.out.cell 4).trans rfl
      have n5 := (N'.out.cell 5).trans rfl
      have n6 := (N'.out.cell 6).trans rfl
      have n7 := (N'.out.cell 7).trans rfl
      have n8 := (N'.out.cell 8).trans rfl
      have B := Lib.hid B'.out
      have N := Lib.hid N'.out
      clear B' N'
      clear Y HT hsl hkw hcl
      have M := Lib.hid (Blk.new w' 25 #[.int .i64 0, .int .i64 0, .int .i64 0, .int .i64 0, .int .i64 0, .int .i64 0, .int .i64 0, .int .i64 0, .int .i64 0])
      have N' := Lib.hid (N.out.alloc (.cells #[.int .i64 0, .int .i64 0, .int .i64 0, .int .i64 0, .int .i64 0, .int .i64 0, .int .i64 0, .int .i64 0, .int .i64 0] 25))
      have B' := Lib.hid (below_alloc B.out (.cells #[.int .i64 0, .int .i64 0, .int .i64 0, .int .i64 0, .int .i64 0, .int .i64 0, .int .i64 0, .int .i64 0, .int .i64 0] 25))
      go_wp2_with (refine wpList_store (.tmp 7) (.tmp 28) 25 rfl rfl w'.heap.size 0 _ _ #[.int .i64 b0, .int .i64 b1, .int .i64 b2, .int .i64 b3, .int .i64 b4, .int .i64 b5, .int .i64 b6, .int .i64 b7, .int .i64 b8] rfl rfl M.out (by kernel_rfl) (by simp [Value.oneCell']) (by simp) ?_)
      intro w7 hn7 ko7
      have h7 : Blk w7 w'.heap.size 25 #[.int .i64 b0, .int .i64 b1, .int .i64 b2, .int .i64 b3, .int .i64 b4, .int .i64 b5, .int .i64 b6, .int .i64 b7, .int .i64 b8] := hn7
      have B7 := Lib.hid (B'.out.trans (ko7.below B.out.size))
      have N7 := Lib.hid (ko7.blk N'.out (Nat.ne_of_lt N.out.lt))
      have H7 := Lib.hid h7
      clear hn7 ko7 h7 M B' B N' N n0 n1 n2 n3 n4 n5 n6 n7 n8
      generalize w'.heap.size = gc at *
      have n0 := (N7.out.cell 0).trans rfl
      have n1 := (N7.out.cell 1).trans rfl
      have n2 := (N7.out.cell 2).trans rfl
      have n3 := (N7.out.cell 3).trans rfl
      have n4 := (N7.out.cell 4).trans rfl
      have n5 := (N7.out.cell 5).trans rfl
      have n6 := (N7.out.cell 6).trans rfl
      have n7 := (N7.out.cell 7).trans rfl
      have n8 := (N7.out.cell 8).trans rfl
      have c0 := (H7.out.cell 0).trans rfl
      have c1 := (H7.out.cell 1).trans rfl
      have c2 := (H7.out.cell 2).trans rfl
      have c3 := (H7.out.cell 3).trans rfl
      have c4 := (H7.out.cell 4).trans rfl
      have c5 := (H7.out.cell 5).trans rfl
      have c6 := (H7.out.cell 6).trans rfl
      have c7 := (H7.out.cell 7).trans rfl
      have c8 := (H7.out.cell 8).trans rfl
      have B := Lib.hid B7.out
      have N := Lib.hid N7.out
      have C := Lib.hid H7.out
      clear B7 H7 N7
      go_wp2_with fail
      refine (HAN.out 15 0 _).mono ?_
      rintro e w' ⟨rfl, hb⟩
      have B' := Lib.hid (B.out.trans (hb.mono B.out.size))
      have N' := Lib.hid (N.out.below hb N.out.lt)
      have C' := Lib.hid (C.out.below hb C.out.lt)
      clear hb B N C n0 n1 n2 n3 n4 n5 n6 n7 n8 c0 c1 c2 c3 c4 c5 c6 c7 c8
      have n0 := (N'.out.cell 0).trans rfl
      have n1 := (N'.out.cell 1).trans rfl
      have n2 := (N'.out.cell 2).trans rfl
      have n3 := (N'.out.cell 3).trans rfl
      have n4 := (N'.out.cell 4).trans rfl
      have n5 := (N'.out.cell 5).trans rfl
      have n6 := (N'.out.cell 6).trans rfl
      have n7 := (N'.out.cell 7).trans rfl
      have n8 := (N'.out.cell 8).trans rfl
      have c0 := (C'.out.cell 0).trans rfl
      have c1 := (C'.out.cell 1).trans rfl
      have c2 := (C'.out.cell 2).trans rfl
      have c3 := (C'.out.cell 3).trans rfl
      have c4 := (C'.out.cell 4).trans rfl
      have c5 := (C'.out.cell 5).trans rfl
      have c6 := (C'.out.cell 6).trans rfl
      have c7 := (C'.out.cell 7).trans rfl
      have c8 := (C'.out.cell 8).trans rfl
      have B := Lib.hid B'.out
      have N := Lib.hid N'.out
      have C := Lib.hid C'.out
      clear B' N' C'
      go_wp2_with fail
      refine (HR1.out _ (HG.out _ B.out)).mono ?_
      rintro e w' ⟨rfl, hb⟩
      have B' := Lib.hid (B.out.trans (hb.mono B.out.size))
      have N' := Lib.hid (N.out.below hb N.out.lt)
      have C' := Lib.hid (C.out.below hb C.out.lt)
      clear hb B N C n0 n1 n2 n3 n4 n5 n6 n7 n8 c0 c1 c2 c3 c4 c5 c6 c7 c8
      have n0 := (N'.out.cell 0).trans rfl
      have n1 := (N'.out.cell 1).trans rfl
      have n2 := (N'.out.cell 2).trans rfl
      have n3 := (N'.out.cell 3).trans rfl
      have n4 := (N'.out.cell 4).trans rfl
      have n5 := (N'.out.cell 5).trans rfl
      have n6 := (N'.out.cell 6).trans rfl
      have n7 := (N'.out.cell 7).trans rfl
      have n8 := (N'.out.cell 8).trans rfl
      have c0 := (C'.out.cell 0).trans rfl
      have c1 := (C'.out.cell 1).trans rfl
      have c2 := (C'.out.cell 2).trans rfl
      have c3 := (C'.out.cell 3).trans rfl
      have c4 := (C'.out.cell 4).trans rfl
      have c5 := (C'.out.cell 5).trans rfl
      have c6 := (C'.out.cell 6).trans rfl
      have c7 := (C'.out.cell 7).trans rfl
      have c8 := (C'.out.cell 8).trans rfl
      have B := Lib.hid B'.out
      have N := Lib.hid N'.out
      have C := Lib.hid C'.out
      clear B' N' C'
      go_wp2_with fail
      refine (HAN.out 19 (1 + (u64n x : Int) % 5) _).mono ?_
      rintro e w' ⟨rfl, hb⟩
      have B' := Lib.hid (B.out.trans (hb.mono B.out.size))
      have N' := Lib.hid (N.out.below hb N.out.lt)
      have C' := Lib.hid (C.out.below hb C.out.lt)
      clear hb B N C n0 n1 n2 n3 n4 n5 n6 n7 n8 c0 c1 c2 c3 c4 c5 c6 c7 c8
      have n0 := (N'.out.cell 0).trans rfl
      have n1 := (N'.out.cell 1).trans rfl
      have n2 := (N'.out.cell 2).trans rfl
      have n3 := (N'.out.cell 3).trans rfl
      have n4 := (N'.out.cell 4).trans rfl
      have n5 := (N'.out.cell 5).trans rfl
      have n6 := (N'.out.cell 6).trans rfl
      have n7 := (N'.out.cell 7).trans rfl
      have n8 := (N'.out.cell 8).trans rfl
      have c0 := (C'.out.cell 0).trans rfl
      have c1 := (C'.out.cell 1).trans rfl
      have c2 := (C'.out.cell 2).trans rfl
      have c3 := (C'.out.cell 3).trans rfl
      have c4 := (C'.out.cell 4).trans rfl
      have c5 := (C'.out.cell 5).trans rfl
      have c6 := (C'.out.cell 6).trans rfl
      have c7 := (C'.out.cell 7).trans rfl
      have c8 := (C'.out.cell 8).trans rfl
      have B := Lib.hid B'.out
      have N := Lib.hid N'.out
      have C := Lib.hid C'.out
      clear B' N' C'
      go_wp2_with fail
      refine (HR5.out _ (HG.out _ B.out)).mono ?_
      rintro e w' ⟨rfl, hb⟩
      have B' := Lib.hid (B.out.trans (hb.mono B.out.size))
      have N' := Lib.hid (N.out.below hb N.out.lt)
      have C' := Lib.hid (C.out.below hb C.out.lt)
      clear hb B N C n0 n1 n2 n3 n4 n5 n6 n7 n8 c0 c1 c2 c3 c4 c5 c6 c7 c8
      have n0 := (N'.out.cell 0).trans rfl
      have n1 := (N'.out.cell 1).trans rfl
      have n2 := (N'.out.cell 2).trans rfl
      have n3 := (N'.out.cell 3).trans rfl
      have n4 := (N'.out.cell 4).trans rfl
      have n5 := (N'.out.cell 5).trans rfl
      have n6 := (N'.out.cell 6).trans rfl
      have n7 := (N'.out.cell 7).trans rfl
      have n8 := (N'.out.cell 8).trans rfl
      have c0 := (C'.out.cell 0).trans rfl
      have c1 := (C'.out.cell 1).trans rfl
      have c2 := (C'.out.cell 2).trans rfl
      have c3 := (C'.out.cell 3).trans rfl
      have c4 := (C'.out.cell 4).trans rfl
      have c5 := (C'.out.cell 5).trans rfl
      have c6 := (C'.out.cell 6).trans rfl
      have c7 := (C'.out.cell 7).trans rfl
      have c8 := (C'.out.cell 8).trans rfl
      have B := Lib.hid B'.out
      have N := Lib.hid N'.out
      have C := Lib.hid C'.out
      clear B' N' C'
      go_wp2_with fail
      go_ret
      exact ⟨rfl, B.out⟩
end Go.Proofs.YtpbgappggmcmgaaDoor
