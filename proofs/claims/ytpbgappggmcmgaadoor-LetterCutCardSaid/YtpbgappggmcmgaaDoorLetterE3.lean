/-
  LetterE3: letter.Encode.
  LetterL: the laws of chapter 8: alive; two messages that are the same.
-/
import Derived.Test.YtpbgappggmcmgaaDoorLetterE
import Derived.Test.YtpbgappggmcmgaaDoorLetterR
import Derived.Test.YtpbgappggmcmgaaDoorTryY
namespace Go.Proofs.YtpbgappggmcmgaaDoor
open Go.RowKit Go.Extern.Stop Go.Stop Go.Extern

set_option maxRecDepth 20000 in
set_option maxHeartbeats 4000000 in
theorem encode_any (m : Msg) (hm : m.wf) (w : World) (E : Nat → Addr) (h : IdsG w E) :
    Calls Tryd.prog 9 #[msgV m] w (GivesB w E (encL m) (encE m)) := by
  have HG := Lib.hid (fun w' (hb : Below w.heap.size w w') => h.below hb)
  have HR := Lib.hid (fun w' h => lright_any m hm w' E h)
  have B := Lib.hid (below_alloc1 w (.cells (ivL m.l) 25))
  have N := Lib.hid (Blk.new w 25 (ivL m.l))
  have n0 := (N.out.cell 0).trans rfl
  have n1 := (N.out.cell 1).trans rfl
  have n2 := (N.out.cell 2).trans rfl
  have n3 := (N.out.cell 3).trans rfl
  have n4 := (N.out.cell 4).trans rfl
  have n5 := (N.out.cell 5).trans rfl
  have n6 := (N.out.cell 6).trans rfl
  have n7 := (N.out.cell 7).trans rfl
  have n8 := (N.out.cell 8).trans rfl
  clear h
  cases hr : rightM m
  · rw [hr] at HR
    have HE := Lib.hid (show encE m = 4 ∧ encL m = [] by unfold encE encL; rw [hr]; exact ⟨rfl, rfl⟩)
    clear hr
    unfold msgV at HR ⊢
    go_enter Tryd.func9, Tryd.ntmps9
    go_wp2_with fail
    refine (HR.out _ (HG.out _ B.out)).mono ?_
    rintro e w' ⟨rfl, hb⟩
    have B' := Lib.hid (B.out.trans (hb.mono B.out.size))
    have e3 := (HG.out _ B'.out).errs.cell 3 (by omega)
    simp only [errVar, List.getD_cons_zero, List.getD_cons_succ, errAt] at e3
    clear hb n0 n1 n2 n3 n4 n5 n6 n7 n8 HR
    go_wp2_with fail
    go_quiet (fail)
    go_wp2_with fail
    go_ret2
    refine ⟨_, by rw [HE.out.1]; rfl, ?_, B'.out.trans ((below_drewN _ _).mono B'.out.size)⟩
    rw [HE.out.2]
    exact ⟨rfl, .inl ⟨rfl, rfl⟩⟩
  · rw [hr] at HR
    have HE := Lib.hid (show encE m = 0 by unfold encE; rw [if_pos hr])
    have HF := Lib.hid (fun w' (h : IdsG w' E) (hb : Blk w' w.heap.size 25 (ivL m.l)) => encF_any m w.heap.size w' E h.errs hb hr)
    clear hr
    unfold msgV at HR ⊢
    go_enter Tryd.func9, Tryd.ntmps9
    go_wp2_with fail
    refine (HR.out _ (HG.out _ B.out)).mono ?_
    rintro e w' ⟨rfl, hb⟩
    have B' := Lib.hid (B.out.trans (hb.mono B.out.size))
    have N' := Lib.hid (N.out.below hb N.out.lt)
    have G' := Lib.hid (HG.out _ B'.out)
    clear hb n0 n1 n2 n3 n4 n5 n6 n7 n8 HR
    go_wp2_with fail
    refine (tryY_any w' E 24 #[.pointer (some ⟨w.heap.size, 0, none⟩)] [] (fun w1 v w2 => w2.ownsRow w1.heap.size 5 1 v (encL m).length (bvs (encL m))) (fun _ _ _ => False) (by simp) (fun w2 hb => (G'.out.below hb.nil_below).errs) ?_ ?_ ?_).mono ?_
    · intro w1 v w2 ho
      obtain ⟨p, c, rfl, _⟩ := owns_rd ho
      exact ⟨_, _, _, rfl⟩
    · intro w; rfl
    · intro w1 hb hs
      refine (HF.out w1 (G'.out.below hb) (N'.out.below hb N'.out.lt)).mono ?_
      rintro e w2 ⟨v, rfl, ho, hb2⟩
      exact ⟨.inl ⟨v, rfl, ho⟩, But.of_below hb2⟩
    · rintro e w3 ⟨hb0, w1, w2, hs, hb1, hb2, hb3, hor⟩
      rcases hor with ⟨v, rfl, ho⟩ | ⟨n, _, hq, _⟩
      · have ho3 := But.owns (S := [w'.heap.size, w'.heap.size + 1, w'.heap.size + 2]) hb3 (by simp; omega) ho
        have ho4 := owns_lower ho3 (base' := w.heap.size) (by have := B'.out.size; omega)
        have B3 := Lib.hid (B'.out.trans (hb0.nil_below.mono B'.out.size))
        obtain ⟨p, c, rfl, _, _, _⟩ := owns_rd ho4
        have HO := Lib.hid ho4
        clear ho ho3 ho4 hb0 hb1 hb2 hb3 hs
        go_wp2_with fail
        go_ret2
        exact ⟨_, by rw [HE.out]; rfl, HO.out, B3.out⟩
      · exact hq.elim
end Go.Proofs.YtpbgappggmcmgaaDoor

namespace Go.Proofs.YtpbgappggmcmgaaDoor
open Go.RowKit Go.Extern.Stop Go.Stop Go.Extern
attribute [local go_sem] bs_toList

def m0 : Msg := ⟨1, 1, 0, 0, 2, 0, 3, 0, 0⟩
theorem m0_wf : m0.wf := by
  intro x hx
  unfold m0 Msg.l at hx
  simp only [List.mem_cons, List.not_mem_nil, or_false] at hx
  unfold inI
  omega
theorem m0_right : rightM m0 = true := by
  unfold rightM actOk actT numT m0
  rfl
theorem numB_1 (n : Nat) (h0 : n ≠ 0) (h : n < 256) : numB n = [UInt8.ofNat n] := by
  rw [numB_pos h0, Nat.div_eq_of_lt h, numB_zero]; rfl
theorem m0_enc : encE m0 = 0 ∧ encL m0 = [1, 0, 1, 1, 2, 0, 1, 1, 5, 0, 1, 2, 7, 0, 1, 3] := by
  unfold encE encL
  rw [if_pos m0_right, if_pos m0_right]
  refine ⟨rfl, ?_⟩
  have h1 := numB_1 1 (by decide) (by decide)
  have h2 := numB_1 2 (by decide) (by decide)
  have h3 := numB_1 3 (by decide) (by decide)
  have e : tagRow 0 m0.l = [(1, numB 1), (2, numB 1), (5, numB 2), (7, numB 3)] := by
    unfold m0 Msg.l
    simp [tagRow]
  rw [e, h1, h2, h3]
  rfl
theorem lalive_any (w : World) (E : Nat → Addr) (h : IdsG w E) :
    Calls Tryd.prog 8 #[] w fun e w' => e = .returned (.bool true) ∧ Below w.heap.size w w' := by
  have HE := Lib.hid (encode_any m0 m0_wf w E h)
  rw [m0_enc.1, m0_enc.2] at HE
  go_enter Tryd.func8, Tryd.ntmps8
  go_wp2_with fail
  refine HE.out.mono ?_
  rintro e w' ⟨v, rfl, ho, hb⟩
  have hby := owns_byt ho
  rw [errV_zero]
  obtain ⟨p, c, rfl, h1, h2, h3⟩ := id hby
  have s1 : (convert 27 9 (.slice p [1, 0, 1, 1, 2, 0, 1, 1, 5, 0, 1, 2, 7, 0, 1, 3].length c)).run Tryd.prog w' = .ok (.string (bs [1, 0, 1, 1, 2, 0, 1, 1, 5, 0, 1, 2, 7, 0, 1, 3])) w' := str_of hby
  simp only [List.length_cons, List.length_nil, Nat.zero_add, Nat.reduceAdd] at s1
  have B := Lib.hid hb
  clear hb ho hby h1 h2 h3 HE h
  go_wp2_with fail
  go_ret
  exact ⟨rfl, B.out⟩
def eqM (a b : Msg) : Bool := (a.k == b.k) && (a.f == b.f) && (a.t == b.t) && (a.n == b.n) && (a.s == b.s) && (a.r == b.r) && (a.p == b.p) && (a.q == b.q) && (a.c == b.c)
theorem eqM_iff (a b : Msg) : eqM a b = true ↔ a = b := by
  obtain ⟨a0, a1, a2, a3, a4, a5, a6, a7, a8⟩ := a
  obtain ⟨b0, b1, b2, b3, b4, b5, b6, b7, b8⟩ := b
  unfold eqM
  simp only [Bool.and_eq_true, beq_iff_eq, Msg.mk.injEq]
  constructor
  · rintro ⟨⟨⟨⟨⟨⟨⟨⟨h0, h1⟩, h2⟩, h3⟩, h4⟩, h5⟩, h6⟩, h7⟩, h8⟩
    exact ⟨h0, h1, h2, h3, h4, h5, h6, h7, h8⟩
  · rintro ⟨h0, h1, h2, h3, h4, h5, h6, h7, h8⟩
    exact ⟨⟨⟨⟨⟨⟨⟨⟨h0, h1⟩, h2⟩, h3⟩, h4⟩, h5⟩, h6⟩, h7⟩, h8⟩
theorem eqMsg (a0 a1 a2 a3 a4 a5 a6 a7 a8 b0 b1 b2 b3 b4 b5 b6 b7 b8 : Int) (w : World) : (binOp .eql 25 (.agg #[.int .i64 a0, .int .i64 a1, .int .i64 a2, .int .i64 a3, .int .i64 a4, .int .i64 a5, .int .i64 a6, .int .i64 a7, .int .i64 a8]) (.agg #[.int .i64 b0, .int .i64 b1, .int .i64 b2, .int .i64 b3, .int .i64 b4, .int .i64 b5, .int .i64 b6, .int .i64 b7, .int .i64 b8])).run Tryd.prog w = .ok (.bool ((a0 == b0) && (a1 == b1) && (a2 == b2) && (a3 == b3) && (a4 == b4) && (a5 == b5) && (a6 == b6) && (a7 == b7) && (a8 == b8))) w := by
  cases h0 : (a0 == b0)
  · go_simp
  · cases h1 : (a1 == b1)
    · go_simp
    · cases h2 : (a2 == b2)
      · go_simp
      · cases h3 : (a3 == b3)
        · go_simp
        · cases h4 : (a4 == b4)
          · go_simp
          · cases h5 : (a5 == b5)
            · go_simp
            · cases h6 : (a6 == b6)
              · go_simp
              · cases h7 : (a7 == b7)
                · go_simp
                · cases h8 : (a8 == b8) <;> go_simp
theorem neqMsg (a0 a1 a2 a3 a4 a5 a6 a7 a8 b0 b1 b2 b3 b4 b5 b6 b7 b8 : Int) (w : World) : (binOp .neq 25 (.agg #[.int .i64 a0, .int .i64 a1, .int .i64 a2, .int .i64 a3, .int .i64 a4, .int .i64 a5, .int .i64 a6, .int .i64 a7, .int .i64 a8]) (.agg #[.int .i64 b0, .int .i64 b1, .int .i64 b2, .int .i64 b3, .int .i64 b4, .int .i64 b5, .int .i64 b6, .int .i64 b7, .int .i64 b8])).run Tryd.prog w = .ok (.bool (!((a0 == b0) && (a1 == b1) && (a2 == b2) && (a3 == b3) && (a4 == b4) && (a5 == b5) && (a6 == b6) && (a7 == b7) && (a8 == b8)))) w := by
  cases h0 : (a0 == b0)
  · go_simp
  · cases h1 : (a1 == b1)
    · go_simp
    · cases h2 : (a2 == b2)
      · go_simp
      · cases h3 : (a3 == b3)
        · go_simp
        · cases h4 : (a4 == b4)
          · go_simp
          · cases h5 : (a5 == b5)
            · go_simp
            · cases h6 : (a6 == b6)
              · go_simp
              · cases h7 : (a7 == b7)
                · go_simp
                · cases h8 : (a8 == b8) <;> go_simp
end Go.Proofs.YtpbgappggmcmgaaDoor
