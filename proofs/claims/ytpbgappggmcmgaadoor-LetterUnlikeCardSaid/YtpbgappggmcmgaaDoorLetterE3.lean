/-
  LetterE3: letter.Encode.
-/
import Derived.Test.YtpbgappggmcmgaaDoorLetterE2
import Derived.Test.YtpbgappggmcmgaaDoorLetterR
import Derived.Test.YtpbgappggmcmgaaDoorTryY
namespace Go.Proofs.YtpbgappggmcmgaaDoor
open Go.RowKit Go.Extern.Stop Go.Stop Go.Extern

set_option maxRecDepth 20000 in
set_option maxHeartbeats 4000000 in
theorem encode_any (m : Msg) (hm : m.wf) (w : World) (E : Nat → Addr) (h : IdsG w E) :
    Calls Tryd.prog 9 #[msgV m] w (GivesB w E (encL m) (encE m)) := by
  have HG := Lib.hid (fun w' (hb : Below w.heap.size w w') => h.below hb)
  have HR := Lib.hid (fun w' h => lright_any m hm w' E h)
  have B := Lib.hid (below_alloc1 w (.cells (ivL m.l) 25))
  have N := Lib.hid (Blk.new w 25 (ivL m.l))
  have n0 := (N.out.cell 0).trans rfl
  have n1 := (N.out.cell 1).trans rfl
  have n2 := (N.out.cell 2).trans rfl
  have n3 := (N.out.cell 3).trans rfl
  have n4 := (N.out.cell 4).trans rfl
  have n5 := (N.out.cell 5).trans rfl
  have n6 := (N.out.cell 6).trans rfl
  have n7 := (N.out.cell 7).trans rfl
  have n8 := (N.out.cell 8).trans rfl
  clear h
  cases hr : rightM m
  · rw [hr] at HR
    have HE := Lib.hid (show encE m = 4 ∧ encL m = [] by unfold encE encL; rw [hr]; exact ⟨rfl, rfl⟩)
    clear hr
    unfold msgV at HR ⊢
    go_enter Tryd.func9, Tryd.ntmps9
    go_wp2_with fail
    refine (HR.out _ (HG.out _ B.out)).mono ?_
    rintro e w' ⟨rfl, hb⟩
    have B' := Lib.hid (B.out.trans (hb.mono B.out.size))
    have e3 := (HG.out _ B'.out).errs.cell 3 (by omega)
    simp only [errVar, List.getD_cons_zero, List.getD_cons_succ, errAt] at e3
    clear hb n0 n1 n2 n3 n4 n5 n6 n7 n8 HR
    go_wp2_with fail
    go_quiet (fail)
    go_wp2_with fail
    go_ret2
    refine ⟨_, by rw [HE.out.1]; rfl, ?_, B'.out.trans ((below_drewN _ _).mono B'.out.size)⟩
    rw [HE.out.2]
    exact ⟨rfl, .inl ⟨rfl, rfl⟩⟩
  · rw [hr] at HR
    have HE := Lib.hid (show encE m = 0 by unfold encE; rw [if_pos hr])
    have HF := Lib.hid (fun w' (h : IdsG w' E) (hb : Blk w' w.heap.size 25 (ivL m.l)) => encF_any m w.heap.size w' E h.errs hb hr)
    clear hr
    unfold msgV at HR ⊢
    go_enter Tryd.func9, Tryd.ntmps9
    go_wp2_with fail
    refine (HR.out _ (HG.out _ B.out)).mono ?_
    rintro e w' ⟨rfl, hb⟩
    have B' := Lib.hid (B.out.trans (hb.mono B.out.size))
    have N' := Lib.hid (N.out.below hb N.out.lt)
    have G' := Lib.hid (HG.out _ B'.out)
    clear hb n0 n1 n2 n3 n4 n5 n6 n7 n8 HR
    go_wp2_with fail
    refine (tryY_any w' E 24 #[.pointer (some ⟨w.heap.size, 0, none⟩)] [] (fun w1 v w2 => w2.ownsRow w1.heap.size 5 1 v (encL m).length (bvs (encL m))) (fun _ _ _ => False) (by simp) (fun w2 hb => (G'.out.below hb.nil_below).errs) ?_ ?_ ?_).mono ?_
    · intro w1 v w2 ho
      obtain ⟨p, c, rfl, _⟩ := owns_rd ho
      exact ⟨_, _, _, rfl⟩
    · intro w; rfl
    · intro w1 hb hs
      refine (HF.out w1 (G'.out.below hb) (N'.out.below hb N'.out.lt)).mono ?_
      rintro e w2 ⟨v, rfl, ho, hb2⟩
      exact ⟨.inl ⟨v, rfl, ho⟩, But.of_below hb2⟩
    · rintro e w3 ⟨hb0, w1, w2, hs, hb1, hb2, hb3, hor⟩
      rcases hor with ⟨v, rfl, ho⟩ | ⟨n, _, hq, _⟩
      · have ho3 := But.owns (S := [w'.heap.size, w'.heap.size + 1, w'.heap.size + 2]) hb3 (by simp; omega) ho
        have ho4 := owns_lower ho3 (base' := w.heap.size) (by have := B'.out.size; omega)
        have B3 := Lib.hid (B'.out.trans (hb0.nil_below.mono B'.out.size))
        obtain ⟨p, c, rfl, _, _, _⟩ := owns_rd ho4
        have HO := Lib.hid ho4
        clear ho ho3 ho4 hb0 hb1 hb2 hb3 hs
        go_wp2_with fail
        go_ret2
        exact ⟨_, by rw [HE.out]; rfl, HO.out, B3.out⟩
      · exact hq.elim
end Go.Proofs.YtpbgappggmcmgaaDoor
