/-
  LawTries: the walk of CatchTries.
-/
import Derived.Test.YtliapmjocgohfaaDoorTryNil
import Derived.Test.YtliapmjocgohfaaDoorLawMust
namespace Go.Proofs.YtliapmjocgohfaaDoor
open Go.RowKit Go.Extern.Stop Go.Stop Go.Extern

theorem kindE_le (k : Nat) : kindE k ≤ 14 := by unfold kindE; split <;> (try split) <;> (try split) <;> omega
theorem kindE_zero (k : Nat) (hk : k ≤ 21) (h : kindE k = 0) : k = 0 := by
  unfold kindE at h
  split at h
  · assumption
  · split at h
    · omega
    · simp_all
/-- CatchTries$1: it does, and gives x -/
theorem tries1_any (w : World) (E : Nat → Addr) (sy : Addr) (k : Nat) (hk : k ≤ 20) (x : Int) (bk bc bx : Nat) (hbk : Blk w bk 3 #[.int .i64 (k : Int)]) (hbc : Blk w bc 3 #[.int .i64 0]) (hbx : Blk w bx 3 #[.int .i64 x]) (hne : bx ≠ bc)
    (he : ∀ w', But [bc] w w' → Errs15 w' E sy) :
    Calls Tryd.prog 16 #[.pointer (some ⟨bk, 0, none⟩), .pointer (some ⟨bc, 0, none⟩), .pointer (some ⟨bx, 0, none⟩)] w fun e w2 =>
      MayG (fun v w2 => kindE k = 0 ∧ v = .int .i64 x ∧ Blk w2 bc 3 #[.int .i64 1]) (fun n _ => kindE k = n + 1) E e w2 ∧ But [bc] w w2 := by
  have HD := Lib.hid (does_any w E sy k hk bc 0 (by omega) hbc he)
  have ck := (hbk.cell 0).trans rfl
  have HX := Lib.hid hbx
  have HNE := Lib.hid hne
  have HKE := Lib.hid (kindE_le k)
  clear hbk hbc hbx he hne hk
  go_enter Tryd.func16, Tryd.ntmps16
  go_wp2_with fail
  refine HD.out.mono ?_
  rintro e w1 ⟨hbut, hb1, ⟨h0, rfl⟩ | ⟨u, n, hn, hu, ht, rfl⟩⟩
  · have cx := ((hbut.blk HX.out (by simp; exact HNE.out)).cell 0).trans rfl
    have HB := Lib.hid hbut
    have HC := Lib.hid hb1
    clear hbut hb1
    go_wp2_with fail
    go_ret
    exact ⟨.inl ⟨_, rfl, h0, rfl, HC.out⟩, HB.out⟩
  · have HB := Lib.hid hbut
    have HC := Lib.hid hb1
    have HT := Lib.hid ht
    have HN := Lib.hid hn
    clear hbut hb1 ht hn
    obtain ⟨T, x0, rfl⟩ := hu
    go_wp2_with fail
    have h14 := HKE.out
    have hn' := HN.out
    exact ⟨rfl, .inr ⟨_, n, by omega, hn', ⟨_, _, rfl⟩, HT.out, rfl⟩, HB.out⟩
set_option maxRecDepth 20000 in
set_option maxHeartbeats 2000000 in
theorem tries_law (y x : Int) (w : World) (E : Nat → Addr) (sy : Addr) (he : Errs15 w E sy) :
    Calls Tryd.prog 4 #[.int .i64 y, .int .i64 x] w (ok1 w) := by
  have HE := Lib.hid he
  have hmf := @run_makeFunc Tryd.prog
  have hu1 := u64_conv y
  obtain ⟨k, hk, hk1⟩ : ∃ k : Nat, k < 22 ∧ (u64n y : Int) % 22 = (k : Int) := ⟨u64n y % 22, by omega, by omega⟩
  have hb0 := below_alloc (below_alloc1 w (.cells #[.int .i64 y] 3)) (.cells #[.int .i64 x] 3)
  have hy0 := (Blk.new w 3 #[.int .i64 y]).alloc (.cells #[.int .i64 x] 3)
  have hx0 := Blk.new (w.alloc (.cells #[.int .i64 y] 3)) 3 #[.int .i64 x]
  simp only [World.size_alloc] at hx0
  have HX0 := Lib.hid hx0
  have HY0 := Lib.hid hy0
  have HB0 := Lib.hid hb0
  clear he hb0 hx0 hy0
  go_enter Tryd.func4, Tryd.ntmps4
  go_wp2_with fail
  refine (alive_any _ E (HE.out.errs.below HB0.out)).mono ?_
  rintro e w1 ⟨rfl, hb1'⟩
  have hx1 := HX0.out.below hb1' HX0.out.lt
  have hy1 := HY0.out.below hb1' HY0.out.lt
  have HB1 := Lib.hid (HB0.out.trans (hb1'.mono HB0.out.size))
  have cy := (hy1.cell 0).trans rfl
  have fy := hy1.frozen 0
  have HX1 := Lib.hid hx1
  have HY1 := Lib.hid hy1
  have hc3 : (((w1.setCell ⟨w.heap.size, 0, none⟩ (.int .i64 (k : Int))).alloc (.cells #[.int .i64 0] 3))).heap.size = w1.heap.size + 1 := by simp
  have hx3 := (hx1.far (b := w.heap.size) (by omega) 0 (.int .i64 (k : Int))).alloc (.cells #[.int .i64 0] 3)
  have hy3 : Blk ((w1.setCell ⟨w.heap.size, 0, none⟩ (.int .i64 (k : Int))).alloc (.cells #[.int .i64 0] 3)) w.heap.size 3 #[.int .i64 (k : Int)] := (hy1.set_ 0 (.int .i64 (k : Int))).alloc (.cells #[.int .i64 0] 3)
  have hn3 := Blk.new (w1.setCell ⟨w.heap.size, 0, none⟩ (.int .i64 (k : Int))) 3 #[.int .i64 0]
  have hb3 := below_alloc (Below.setCell HB1.out (p := ⟨w.heap.size, 0, none⟩) (Nat.le_refl _) (.int .i64 (k : Int))) (.cells #[.int .i64 0] 3)
  have ky3 := (hy3.cell 0).trans rfl
  rw [World.size_setCell] at hn3
  have HX3 := Lib.hid hx3
  have HY3 := Lib.hid hy3
  have HN3 := Lib.hid hn3
  have HB3 := Lib.hid hb3
  have HS3 := Lib.hid hc3
  have HLX := Lib.hid hx1.lt
  have HK := Lib.hid (show k ≤ 21 by omega)
  clear hb1' HX0 HY0 hx1 hy1 hc3 hx3 hy3 hn3 hb3
  by_cases h21 : k = 21
  · have hkn : (((k : Nat) : Int) == 21) = true := by rw [beq_iff_eq]; omega
    have HKE := Lib.hid (show kindE k = 13 by rw [h21]; decide)
    clear h21
    go_wp2_with fail
    generalize ((w1.setCell ⟨w.heap.size, 0, none⟩ (.int .i64 (k : Int))).alloc (.cells #[.int .i64 0] 3)) = w3 at *
    refine (tryN_nil w3 E (HE.out.errs.below HB3.out)).mono ?_
    rintro e w4 ⟨rfl, hb4'⟩
    have hb4 := HB3.out.trans (hb4'.mono HB3.out.size)
    have hy4 := HY3.out.below hb4' HY3.out.lt
    have cy4 := (hy4.cell 0).trans rfl
    have HRE := Lib.hid (referr_any k HK.out w4)
    have HN := Lib.hid (num_any w4 E 13 (by omega) (HE.out.errs.below hb4))
    rw [errV_suc] at HN
    unfold errAt
    clear hb4' hy4
    go_wp2_with fail
    refine HRE.out.mono ?_
    rintro e w5 ⟨rfl, rfl⟩
    rw [HKE.out]
    go_wp2_with fail
    refine HN.out.mono ?_
    rintro e w5 ⟨rfl, hb5⟩
    go_wp2_with fail
    go_ret
    exact ⟨rfl, hb4.trans (hb5.mono hb4.size)⟩
  · have hkn : (((k : Nat) : Int) == 21) = false := by rw [beq_eq_false_iff_ne]; omega
    go_wp2_with fail
    generalize ((w1.setCell ⟨w.heap.size, 0, none⟩ (.int .i64 (k : Int))).alloc (.cells #[.int .i64 0] 3)) = w3 at *
    have hs3 := HS3.out
    refine (tryN_any w3 E 16 _ [w1.heap.size] (fun _ v w2 => kindE k = 0 ∧ v = .int .i64 x ∧ Blk w2 w1.heap.size 3 #[.int .i64 1]) (fun n _ _ => kindE k = n + 1) (by simp; omega) (fun w' h => (HE.out.below (HB3.out.trans (h.below (B := w.heap.size) (by simp; exact HB1.out.size) HB3.out.size))).errs) (fun _ _ _ h => ⟨_, h.2.1⟩) (fun w => by kernel_rfl) ?_).mono ?_
    · intro w4 hb4 _
      have hb4' := HB3.out.trans (hb4.mono HB3.out.size)
      exact tries1_any w4 E sy k (by have := HK.out; omega) x _ _ _ (HY3.out.below hb4 HY3.out.lt) (HN3.out.below hb4 HN3.out.lt) (HX3.out.below hb4 HX3.out.lt) (by have := HLX.out; omega) (fun w' h => HE.out.below (hb4'.trans (h.below (B := w.heap.size) (by simp; exact HB1.out.size) hb4'.size)))
    · rintro e w6 ⟨hbut, w4, w5, _, hb4, hb45, hb56, hor⟩
      have hb6 := HB3.out.trans (hbut.below (B := w.heap.size) (by simp; exact HB1.out.size) HB3.out.size)
      have hx6 := hbut.blk HX3.out (by simp; have := HLX.out; omega)
      have hy6 := hbut.blk HY3.out (by simp; have := HLX.out; omega)
      have cx6 := (hx6.cell 0).trans rfl
      have cy6 := (hy6.cell 0).trans rfl
      have HRE := Lib.hid (referr_any k HK.out w6)
      have HB6 := Lib.hid hb6
      rcases hor with ⟨v, rfl, h0, rfl, hc⟩ | ⟨n, hn, hk0, rfl⟩
      · have hc6 := hb56.blk hc (by simp; omega)
        have cc6 := (hc6.cell 0).trans rfl
        rw [h0] at HRE
        clear h0 hx6 hy6 hbut hb4 hb45 hb56 hc hc6 hb6 hs3 hmf hu1 hk1 cy fy ky3
        go_wp2_with fail
        refine HRE.out.mono ?_
        rintro e w7 ⟨rfl, rfl⟩
        go_wp2_with fail
        go_ret
        exact ⟨rfl, HB6.out⟩
      · have HN := Lib.hid (num_any w6 E (n + 1) (by omega) (HE.out.errs.below hb6))
        rw [errV_suc] at HN
        rw [hk0] at HRE
        have hnz : (((n + 1 : Nat) : Int) == 0) = false := by rw [beq_eq_false_iff_ne]; omega
        have hnz2 : (((n : Nat) : Int) + 1 == 0) = false := by rw [beq_eq_false_iff_ne]; omega
        have hnn : (((n + 1 : Nat) : Int) == ((n + 1 : Nat) : Int)) = true := by simp
        unfold errAt
        clear hk0 hx6 hy6 hbut hb4 hb45 hb56 hs3 hmf hu1 hk1 cy fy ky3
        go_wp2_with fail
        refine HRE.out.mono ?_
        rintro e w7 ⟨rfl, rfl⟩
        go_wp2_with fail
        refine HN.out.mono ?_
        rintro e w7 ⟨rfl, hb7⟩
        go_wp2_with fail
        go_ret
        exact ⟨rfl, hb6.trans (hb7.mono hb6.size)⟩
end Go.Proofs.YtliapmjocgohfaaDoor
