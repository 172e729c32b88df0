/-
  LawIBack: the walk of IdsBack.
-/
import Derived.Test.YtehdbiilbbbbpaaDoorIdsB
import Derived.Test.YtehdbiilbbbbpaaDoorLawIUnlike
namespace Go.Proofs.YtehdbiilbbbbpaaDoor
open Go.RowKit Go.Extern.Stop Go.Stop Go.Extern

theorem actS_len (a b : Nat) (ha : a < 4) (hb : b < 1000000) : (actS a b).length ≤ 1000000 := by
  have := (dec_len a 6 (by omega)).2
  have := (dec_len b 6 (by omega)).2
  unfold actS
  simp; omega
theorem regS_len (a b r : Nat) (ha : a < 4) (hb : b < 1000000) (hr : r < 6) : (actS a b ++ 47 :: dec r).length ≤ 1000000 := by
  have := (dec_len a 6 (by omega)).2
  have := (dec_len b 6 (by omega)).2
  have := (dec_len r 6 (by omega)).2
  unfold actS
  simp; omega
theorem partS_len (a p : Nat) (ha : a < 4) (hp : p < 8) : ((112 : UInt8) :: (dec a ++ 46 :: dec p)).length ≤ 1000000 := by
  have := (dec_len a 6 (by omega)).2
  have := (dec_len p 6 (by omega)).2
  simp; omega
set_option maxRecDepth 20000 in
set_option maxHeartbeats 8000000 in
theorem back_law (x y r p : Int) (hx : -9223372036854775808 ≤ x) (hy : -9223372036854775808 ≤ y) (hr : -9223372036854775808 ≤ r) (hp : -9223372036854775808 ≤ p) (w : World) (E : Nat → Addr) (h : IdsG w E) :
    Calls Tryd.prog 6 #[actV x y, .int .i64 r, .int .i64 p] w fun e w' => e = .returned (.bool true) ∧ Below w.heap.size w w' := by
  have hb1 := below_alloc1 w (.cells #[.int .i64 x, .int .i64 y] 23)
  have B := Lib.hid hb1
  have N := Lib.hid (Blk.new w 23 #[.int .i64 x, .int .i64 y])
  have c0 := (N.out.cell 0).trans rfl
  have c1 := (N.out.cell 1).trans rfl
  have HG := Lib.hid (fun w' (hb : Below w.heap.size w w') => h.below hb)
  have HAL := Lib.hid (fun w' h => alive_any w' E h)
  have HA := Lib.hid (fun w' h => act_any w' E x y hx hy h)
  have HR := Lib.hid (fun w' h => reg_any w' E x y r hx hy hr h)
  have HP := Lib.hid (fun w' h => part_any w' E x p hx hp h)
  have eA := actT_is x y
  have eR := regT_is x y r
  have eP := partT_is x p
  unfold actV at HA HR ⊢
  clear hb1 h hx hy hr hp
  by_cases hc : 0 ≤ x ∧ x < 4 ∧ 0 ≤ y ∧ y < 1000000
  · by_cases hR : 0 ≤ r ∧ r < 6
    · by_cases hP : 0 ≤ p ∧ p < 8
      · rw [if_pos (by omega)] at eA
        rw [if_pos (by omega)] at eR
        rw [if_pos (by omega)] at eP
        have t1 := toActT_act x.toNat y.toNat (by omega) (by omega)
        have t2 := toRegT_act x.toNat y.toNat
        have t3 := toPartT_act x.toNat y.toNat
        have t4 := toNodeT_act x.toNat y.toNat
        have l1 := actS_len x.toNat y.toNat (by omega) (by omega)
        have nx : ((x.toNat : Nat) : Int) = x := by omega
        have ny : ((y.toNat : Nat) : Int) = y := by omega
        have t5 := toRegT_reg x.toNat y.toNat r.toNat (by omega) (by omega) (by omega)
        have t6 := toActT_reg x.toNat y.toNat r.toNat (by omega)
        have l2 := regS_len x.toNat y.toNat r.toNat (by omega) (by omega) (by omega)
        have nr : ((r.toNat : Nat) : Int) = r := by omega
        have t7 := toPartT_part x.toNat p.toNat (by omega) (by omega)
        have l3 := partS_len x.toNat p.toNat (by omega) (by omega)
        have np : ((p.toNat : Nat) : Int) = p := by omega
        clear hc hR hP
        go_enter Tryd.func6, Tryd.ntmps6
        go_wp2_with fail
        generalize w.alloc (.cells #[.int .i64 x, .int .i64 y] 23) = w' at *
        refine (HAL.out _ (HG.out _ B.out)).mono ?_
        rintro e w' ⟨rfl, hb⟩
        have B' := Lib.hid (B.out.trans (hb.mono B.out.size))
        have N' := Lib.hid (N.out.below hb N.out.lt)
        clear c0 c1 hb B N
        have c0 := (N'.out.cell 0).trans rfl
        have c1 := (N'.out.cell 1).trans rfl
        have B := Lib.hid B'.out
        have N := Lib.hid N'.out
        clear B' N'
        go_wp2_with fail
        refine (HA.out _ (HG.out _ B.out)).mono ?_
        rintro e w' ⟨hb, rfl⟩
        simp only [eA, Option.getD_some, Option.getD_none, ebad, errV_zero, errV_suc]
        have B' := Lib.hid (B.out.trans (hb.mono B.out.size))
        have N' := Lib.hid (N.out.below hb N.out.lt)
        clear c0 c1 hb B N
        have c0 := (N'.out.cell 0).trans rfl
        have c1 := (N'.out.cell 1).trans rfl
        have B := Lib.hid B'.out
        have N := Lib.hid N'.out
        clear B' N'
        go_wp2_with fail
        refine (toAct_any _ l1 _ E (HG.out _ B.out).errs).mono ?_
        rintro e w' ⟨hb, rfl, _⟩
        simp only [t1, nx, ny, xval, xbad, errV_zero, errV_suc]
        have B' := Lib.hid (B.out.trans (hb.mono B.out.size))
        have N' := Lib.hid (N.out.below hb N.out.lt)
        clear c0 c1 hb B N
        have c0 := (N'.out.cell 0).trans rfl
        have c1 := (N'.out.cell 1).trans rfl
        have B := Lib.hid B'.out
        have N := Lib.hid N'.out
        clear B' N'
        have B' := Lib.hid (below_alloc B.out (.cells #[.int .i64 x, .int .i64 y] 23))
        have N' := Lib.hid (N.out.alloc (.cells #[.int .i64 x, .int .i64 y] 23))
        have M := Lib.hid (Blk.new w' 23 #[.int .i64 x, .int .i64 y])
        clear c0 c1 B N
        have c0 := (N'.out.cell 0).trans rfl
        have c1 := (N'.out.cell 1).trans rfl
        have m0 := (M.out.cell 0).trans rfl
        have m1 := (M.out.cell 1).trans rfl
        have B := Lib.hid B'.out
        have N := Lib.hid N'.out
        clear B' N'
        go_wp2_with fail
        generalize w'.alloc (.cells #[.int .i64 x, .int .i64 y] 23) = w' at *
        refine (toReg_any _ l1 _ E (HG.out _ B.out).errs).mono ?_
        rintro e w' ⟨hb, rfl, _⟩
        simp only [t2, xval, xbad, errV_zero, errV_suc]
        have B' := Lib.hid (B.out.trans (hb.mono B.out.size))
        have N' := Lib.hid (N.out.below hb N.out.lt)
        have M' := Lib.hid (M.out.below hb M.out.lt)
        clear m0 m1 M
        have M := Lib.hid M'.out
        have m0 := (M.out.cell 0).trans rfl
        have m1 := (M.out.cell 1).trans rfl
        clear M'
        clear c0 c1 hb B N
        have c0 := (N'.out.cell 0).trans rfl
        have c1 := (N'.out.cell 1).trans rfl
        have B := Lib.hid B'.out
        have N := Lib.hid N'.out
        clear B' N'
        have B' := Lib.hid (below_alloc B.out (.cells #[.int .i64 0, .int .i64 0] 23))
        have N' := Lib.hid (N.out.alloc (.cells #[.int .i64 0, .int .i64 0] 23))
        have M' := Lib.hid (M.out.alloc (.cells #[.int .i64 0, .int .i64 0] 23))
        clear m0 m1 M
        clear c0 c1 B N
        have c0 := (N'.out.cell 0).trans rfl
        have c1 := (N'.out.cell 1).trans rfl
        have M := Lib.hid M'.out
        have m0 := (M.out.cell 0).trans rfl
        have m1 := (M.out.cell 1).trans rfl
        clear M'
        have B := Lib.hid B'.out
        have N := Lib.hid N'.out
        clear B' N'
        go_wp2_with fail
        generalize w'.alloc (.cells #[.int .i64 0, .int .i64 0] 23) = w' at *
        refine (toPart_any _ l1 _ E (HG.out _ B.out).errs).mono ?_
        rintro e w' ⟨hb, rfl, _⟩
        simp only [t3, xval, xbad, errV_zero, errV_suc]
        have B' := Lib.hid (B.out.trans (hb.mono B.out.size))
        have N' := Lib.hid (N.out.below hb N.out.lt)
        have M' := Lib.hid (M.out.below hb M.out.lt)
        clear m0 m1 M
        have M := Lib.hid M'.out
        have m0 := (M.out.cell 0).trans rfl
        have m1 := (M.out.cell 1).trans rfl
        clear M'
        clear c0 c1 hb B N
        have c0 := (N'.out.cell 0).trans rfl
        have c1 := (N'.out.cell 1).trans rfl
        have B := Lib.hid B'.out
        have N := Lib.hid N'.out
        clear B' N'
        go_wp2_with fail
        refine (toNode_any _ l1 _ E (HG.out _ B.out).errs).mono ?_
        rintro e w' ⟨hb, rfl, _⟩
        simp only [t4, xval, xbad, errV_zero, errV_suc]
        have B' := Lib.hid (B.out.trans (hb.mono B.out.size))
        have N' := Lib.hid (N.out.below hb N.out.lt)
        have M' := Lib.hid (M.out.below hb M.out.lt)
        clear m0 m1 M
        have M := Lib.hid M'.out
        have m0 := (M.out.cell 0).trans rfl
        have m1 := (M.out.cell 1).trans rfl
        clear M'
        clear c0 c1 hb B N
        have c0 := (N'.out.cell 0).trans rfl
        have c1 := (N'.out.cell 1).trans rfl
        have B := Lib.hid B'.out
        have N := Lib.hid N'.out
        clear B' N'
        go_wp2_with fail
        clear m0 m1 M
        refine (HR.out _ (HG.out _ B.out)).mono ?_
        rintro e w' ⟨hb, rfl⟩
        simp only [eR, Option.getD_some, Option.getD_none, ebad, errV_zero, errV_suc]
        have B' := Lib.hid (B.out.trans (hb.mono B.out.size))
        have N' := Lib.hid (N.out.below hb N.out.lt)
        clear c0 c1 hb B N
        have c0 := (N'.out.cell 0).trans rfl
        have c1 := (N'.out.cell 1).trans rfl
        have B := Lib.hid B'.out
        have N := Lib.hid N'.out
        clear B' N'
        go_wp2_with fail
        refine (toReg_any _ l2 _ E (HG.out _ B.out).errs).mono ?_
        rintro e w' ⟨hb, rfl, _⟩
        simp only [t5, nx, ny, nr, xval, xbad, errV_zero, errV_suc]
        have B' := Lib.hid (B.out.trans (hb.mono B.out.size))
        have N' := Lib.hid (N.out.below hb N.out.lt)
        clear c0 c1 hb B N
        have c0 := (N'.out.cell 0).trans rfl
        have c1 := (N'.out.cell 1).trans rfl
        have B := Lib.hid B'.out
        have N := Lib.hid N'.out
        clear B' N'
        have B' := Lib.hid (below_alloc B.out (.cells #[.int .i64 x, .int .i64 y] 23))
        have N' := Lib.hid (N.out.alloc (.cells #[.int .i64 x, .int .i64 y] 23))
        have M := Lib.hid (Blk.new w' 23 #[.int .i64 x, .int .i64 y])
        clear c0 c1 B N
        have c0 := (N'.out.cell 0).trans rfl
        have c1 := (N'.out.cell 1).trans rfl
        have m0 := (M.out.cell 0).trans rfl
        have m1 := (M.out.cell 1).trans rfl
        have B := Lib.hid B'.out
        have N := Lib.hid N'.out
        clear B' N'
        go_wp2_with fail
        generalize w'.alloc (.cells #[.int .i64 x, .int .i64 y] 23) = w' at *
        refine (toAct_any _ l2 _ E (HG.out _ B.out).errs).mono ?_
        rintro e w' ⟨hb, rfl, _⟩
        simp only [t6, xval, xbad, errV_zero, errV_suc]
        have B' := Lib.hid (B.out.trans (hb.mono B.out.size))
        have N' := Lib.hid (N.out.below hb N.out.lt)
        have M' := Lib.hid (M.out.below hb M.out.lt)
        clear m0 m1 M
        have M := Lib.hid M'.out
        have m0 := (M.out.cell 0).trans rfl
        have m1 := (M.out.cell 1).trans rfl
        clear M'
        clear c0 c1 hb B N
        have c0 := (N'.out.cell 0).trans rfl
        have c1 := (N'.out.cell 1).trans rfl
        have B := Lib.hid B'.out
        have N := Lib.hid N'.out
        clear B' N'
        have B' := Lib.hid (below_alloc B.out (.cells #[.int .i64 0, .int .i64 0] 23))
        have N' := Lib.hid (N.out.alloc (.cells #[.int .i64 0, .int .i64 0] 23))
        have M' := Lib.hid (M.out.alloc (.cells #[.int .i64 0, .int .i64 0] 23))
        clear m0 m1 M
        clear c0 c1 B N
        have c0 := (N'.out.cell 0).trans rfl
        have c1 := (N'.out.cell 1).trans rfl
        have M := Lib.hid M'.out
        have m0 := (M.out.cell 0).trans rfl
        have m1 := (M.out.cell 1).trans rfl
        clear M'
        have B := Lib.hid B'.out
        have N := Lib.hid N'.out
        clear B' N'
        go_wp2_with fail
        generalize w'.alloc (.cells #[.int .i64 0, .int .i64 0] 23) = w' at *
        clear m0 m1 M
        refine (HP.out _ (HG.out _ B.out)).mono ?_
        rintro e w' ⟨hb, rfl⟩
        simp only [eP, Option.getD_some, Option.getD_none, ebad, errV_zero, errV_suc]
        have B' := Lib.hid (B.out.trans (hb.mono B.out.size))
        have N' := Lib.hid (N.out.below hb N.out.lt)
        clear c0 c1 hb B N
        have c0 := (N'.out.cell 0).trans rfl
        have c1 := (N'.out.cell 1).trans rfl
        have B := Lib.hid B'.out
        have N := Lib.hid N'.out
        clear B' N'
        go_wp2_with fail
        refine (toPart_any _ l3 _ E (HG.out _ B.out).errs).mono ?_
        rintro e w' ⟨hb, rfl, _⟩
        simp only [t7, nx, np, xval, xbad, errV_zero, errV_suc]
        have B' := Lib.hid (B.out.trans (hb.mono B.out.size))
        have N' := Lib.hid (N.out.below hb N.out.lt)
        clear c0 c1 hb B N
        have c0 := (N'.out.cell 0).trans rfl
        have c1 := (N'.out.cell 1).trans rfl
        have B := Lib.hid B'.out
        have N := Lib.hid N'.out
        clear B' N'
        go_wp2_with fail
        go_ret
        exact ⟨rfl, B.out⟩
      · rw [if_pos (by omega)] at eA
        rw [if_pos (by omega)] at eR
        rw [if_neg (by omega)] at eP
        have t1 := toActT_act x.toNat y.toNat (by omega) (by omega)
        have t2 := toRegT_act x.toNat y.toNat
        have t3 := toPartT_act x.toNat y.toNat
        have t4 := toNodeT_act x.toNat y.toNat
        have l1 := actS_len x.toNat y.toNat (by omega) (by omega)
        have nx : ((x.toNat : Nat) : Int) = x := by omega
        have ny : ((y.toNat : Nat) : Int) = y := by omega
        have t5 := toRegT_reg x.toNat y.toNat r.toNat (by omega) (by omega) (by omega)
        have t6 := toActT_reg x.toNat y.toNat r.toNat (by omega)
        have l2 := regS_len x.toNat y.toNat r.toNat (by omega) (by omega) (by omega)
        have nr : ((r.toNat : Nat) : Int) = r := by omega
        clear hc hR hP
        go_enter Tryd.func6, Tryd.ntmps6
        go_wp2_with fail
        generalize w.alloc (.cells #[.int .i64 x, .int .i64 y] 23) = w' at *
        refine (HAL.out _ (HG.out _ B.out)).mono ?_
        rintro e w' ⟨rfl, hb⟩
        have B' := Lib.hid (B.out.trans (hb.mono B.out.size))
        have N' := Lib.hid (N.out.below hb N.out.lt)
        clear c0 c1 hb B N
        have c0 := (N'.out.cell 0).trans rfl
        have c1 := (N'.out.cell 1).trans rfl
        have B := Lib.hid B'.out
        have N := Lib.hid N'.out
        clear B' N'
        go_wp2_with fail
        refine (HA.out _ (HG.out _ B.out)).mono ?_
        rintro e w' ⟨hb, rfl⟩
        simp only [eA, Option.getD_some, Option.getD_none, ebad, errV_zero, errV_suc]
        have B' := Lib.hid (B.out.trans (hb.mono B.out.size))
        have N' := Lib.hid (N.out.below hb N.out.lt)
        clear c0 c1 hb B N
        have c0 := (N'.out.cell 0).trans rfl
        have c1 := (N'.out.cell 1).trans rfl
        have B := Lib.hid B'.out
        have N := Lib.hid N'.out
        clear B' N'
        go_wp2_with fail
        refine (toAct_any _ l1 _ E (HG.out _ B.out).errs).mono ?_
        rintro e w' ⟨hb, rfl, _⟩
        simp only [t1, nx, ny, xval, xbad, errV_zero, errV_suc]
        have B' := Lib.hid (B.out.trans (hb.mono B.out.size))
        have N' := Lib.hid (N.out.below hb N.out.lt)
        clear c0 c1 hb B N
        have c0 := (N'.out.cell 0).trans rfl
        have c1 := (N'.out.cell 1).trans rfl
        have B := Lib.hid B'.out
        have N := Lib.hid N'.out
        clear B' N'
        have B' := Lib.hid (below_alloc B.out (.cells #[.int .i64 x, .int .i64 y] 23))
        have N' := Lib.hid (N.out.alloc (.cells #[.int .i64 x, .int .i64 y] 23))
        have M := Lib.hid (Blk.new w' 23 #[.int .i64 x, .int .i64 y])
        clear c0 c1 B N
        have c0 := (N'.out.cell 0).trans rfl
        have c1 := (N'.out.cell 1).trans rfl
        have m0 := (M.out.cell 0).trans rfl
        have m1 := (M.out.cell 1).trans rfl
        have B := Lib.hid B'.out
        have N := Lib.hid N'.out
        clear B' N'
        go_wp2_with fail
        generalize w'.alloc (.cells #[.int .i64 x, .int .i64 y] 23) = w' at *
        refine (toReg_any _ l1 _ E (HG.out _ B.out).errs).mono ?_
        rintro e w' ⟨hb, rfl, _⟩
        simp only [t2, xval, xbad, errV_zero, errV_suc]
        have B' := Lib.hid (B.out.trans (hb.mono B.out.size))
        have N' := Lib.hid (N.out.below hb N.out.lt)
        have M' := Lib.hid (M.out.below hb M.out.lt)
        clear m0 m1 M
        have M := Lib.hid M'.out
        have m0 := (M.out.cell 0).trans rfl
        have m1 := (M.out.cell 1).trans rfl
        clear M'
        clear c0 c1 hb B N
        have c0 := (N'.out.cell 0).trans rfl
        have c1 := (N'.out.cell 1).trans rfl
        have B := Lib.hid B'.out
        have N := Lib.hid N'.out
        clear B' N'
        have B' := Lib.hid (below_alloc B.out (.cells #[.int .i64 0, .int .i64 0] 23))
        have N' := Lib.hid (N.out.alloc (.cells #[.int .i64 0, .int .i64 0] 23))
        have M' := Lib.hid (M.out.alloc (.cells #[.int .i64 0, .int .i64 0] 23))
        clear m0 m1 M
        clear c0 c1 B N
        have c0 := (N'.out.cell 0).trans rfl
        have c1 := (N'.out.cell 1).trans rfl
        have M := Lib.hid M'.out
        have m0 := (M.out.cell 0).trans rfl
        have m1 := (M.out.cell 1).trans rfl
        clear M'
        have B := Lib.hid B'.out
        have N := Lib.hid N'.out
        clear B' N'
        go_wp2_with fail
        generalize w'.alloc (.cells #[.int .i64 0, .int .i64 0] 23) = w' at *
        refine (toPart_any _ l1 _ E (HG.out _ B.out).errs).mono ?_
        rintro e w' ⟨hb, rfl, _⟩
        simp only [t3, xval, xbad, errV_zero, errV_suc]
        have B' := Lib.hid (B.out.trans (hb.mono B.out.size))
        have N' := Lib.hid (N.out.below hb N.out.lt)
        have M' := Lib.hid (M.out.below hb M.out.lt)
        clear m0 m1 M
        have M := Lib.hid M'.out
        have m0 := (M.out.cell 0).trans rfl
        have m1 := (M.out.cell 1).trans rfl
        clear M'
        clear c0 c1 hb B N
        have c0 := (N'.out.cell 0).trans rfl
        have c1 := (N'.out.cell 1).trans rfl
        have B := Lib.hid B'.out
        have N := Lib.hid N'.out
        clear B' N'
        go_wp2_with fail
        refine (toNode_any _ l1 _ E (HG.out _ B.out).errs).mono ?_
        rintro e w' ⟨hb, rfl, _⟩
        simp only [t4, xval, xbad, errV_zero, errV_suc]
        have B' := Lib.hid (B.out.trans (hb.mono B.out.size))
        have N' := Lib.hid (N.out.below hb N.out.lt)
        have M' := Lib.hid (M.out.below hb M.out.lt)
        clear m0 m1 M
        have M := Lib.hid M'.out
        have m0 := (M.out.cell 0).trans rfl
        have m1 := (M.out.cell 1).trans rfl
        clear M'
        clear c0 c1 hb B N
        have c0 := (N'.out.cell 0).trans rfl
        have c1 := (N'.out.cell 1).trans rfl
        have B := Lib.hid B'.out
        have N := Lib.hid N'.out
        clear B' N'
        go_wp2_with fail
        clear m0 m1 M
        refine (HR.out _ (HG.out _ B.out)).mono ?_
        rintro e w' ⟨hb, rfl⟩
        simp only [eR, Option.getD_some, Option.getD_none, ebad, errV_zero, errV_suc]
        have B' := Lib.hid (B.out.trans (hb.mono B.out.size))
        have N' := Lib.hid (N.out.below hb N.out.lt)
        clear c0 c1 hb B N
        have c0 := (N'.out.cell 0).trans rfl
        have c1 := (N'.out.cell 1).trans rfl
        have B := Lib.hid B'.out
        have N := Lib.hid N'.out
        clear B' N'
        go_wp2_with fail
        refine (toReg_any _ l2 _ E (HG.out _ B.out).errs).mono ?_
        rintro e w' ⟨hb, rfl, _⟩
        simp only [t5, nx, ny, nr, xval, xbad, errV_zero, errV_suc]
        have B' := Lib.hid (B.out.trans (hb.mono B.out.size))
        have N' := Lib.hid (N.out.below hb N.out.lt)
        clear c0 c1 hb B N
        have c0 := (N'.out.cell 0).trans rfl
        have c1 := (N'.out.cell 1).trans rfl
        have B := Lib.hid B'.out
        have N := Lib.hid N'.out
        clear B' N'
        have B' := Lib.hid (below_alloc B.out (.cells #[.int .i64 x, .int .i64 y] 23))
        have N' := Lib.hid (N.out.alloc (.cells #[.int .i64 x, .int .i64 y] 23))
        have M := Lib.hid (Blk.new w' 23 #[.int .i64 x, .int .i64 y])
        clear c0 c1 B N
        have c0 := (N'.out.cell 0).trans rfl
        have c1 := (N'.out.cell 1).trans rfl
        have m0 := (M.out.cell 0).trans rfl
        have m1 := (M.out.cell 1).trans rfl
        have B := Lib.hid B'.out
        have N := Lib.hid N'.out
        clear B' N'
        go_wp2_with fail
        generalize w'.alloc (.cells #[.int .i64 x, .int .i64 y] 23) = w' at *
        refine (toAct_any _ l2 _ E (HG.out _ B.out).errs).mono ?_
        rintro e w' ⟨hb, rfl, _⟩
        simp only [t6, xval, xbad, errV_zero, errV_suc]
        have B' := Lib.hid (B.out.trans (hb.mono B.out.size))
        have N' := Lib.hid (N.out.below hb N.out.lt)
        have M' := Lib.hid (M.out.below hb M.out.lt)
        clear m0 m1 M
        have M := Lib.hid M'.out
        have m0 := (M.out.cell 0).trans rfl
        have m1 := (M.out.cell 1).trans rfl
        clear M'
        clear c0 c1 hb B N
        have c0 := (N'.out.cell 0).trans rfl
        have c1 := (N'.out.cell 1).trans rfl
        have B := Lib.hid B'.out
        have N := Lib.hid N'.out
        clear B' N'
        have B' := Lib.hid (below_alloc B.out (.cells #[.int .i64 0, .int .i64 0] 23))
        have N' := Lib.hid (N.out.alloc (.cells #[.int .i64 0, .int .i64 0] 23))
        have M' := Lib.hid (M.out.alloc (.cells #[.int .i64 0, .int .i64 0] 23))
        clear m0 m1 M
        clear c0 c1 B N
        have c0 := (N'.out.cell 0).trans rfl
        have c1 := (N'.out.cell 1).trans rfl
        have M := Lib.hid M'.out
        have m0 := (M.out.cell 0).trans rfl
        have m1 := (M.out.cell 1).trans rfl
        clear M'
        have B := Lib.hid B'.out
        have N := Lib.hid N'.out
        clear B' N'
        go_wp2_with fail
        generalize w'.alloc (.cells #[.int .i64 0, .int .i64 0] 23) = w' at *
        clear m0 m1 M
        refine (HP.out _ (HG.out _ B.out)).mono ?_
        rintro e w' ⟨hb, rfl⟩
        simp only [eP, Option.getD_some, Option.getD_none, ebad, errV_zero, errV_suc]
        have B' := Lib.hid (B.out.trans (hb.mono B.out.size))
        have N' := Lib.hid (N.out.below hb N.out.lt)
        clear c0 c1 hb B N
        have c0 := (N'.out.cell 0).trans rfl
        have c1 := (N'.out.cell 1).trans rfl
        have B := Lib.hid B'.out
        have N := Lib.hid N'.out
        clear B' N'
        go_wp2_with fail
        go_ret
        exact ⟨rfl, B.out⟩
    · by_cases hP : 0 ≤ p ∧ p < 8
      · rw [if_pos (by omega)] at eA
        rw [if_neg (by omega)] at eR
        rw [if_pos (by omega)] at eP
        have t1 := toActT_act x.toNat y.toNat (by omega) (by omega)
        have t2 := toRegT_act x.toNat y.toNat
        have t3 := toPartT_act x.toNat y.toNat
        have t4 := toNodeT_act x.toNat y.toNat
        have l1 := actS_len x.toNat y.toNat (by omega) (by omega)
        have nx : ((x.toNat : Nat) : Int) = x := by omega
        have ny : ((y.toNat : Nat) : Int) = y := by omega
        have t7 := toPartT_part x.toNat p.toNat (by omega) (by omega)
        have l3 := partS_len x.toNat p.toNat (by omega) (by omega)
        have np : ((p.toNat : Nat) : Int) = p := by omega
        clear hc hR hP
        go_enter Tryd.func6, Tryd.ntmps6
        go_wp2_with fail
        generalize w.alloc (.cells #[.int .i64 x, .int .i64 y] 23) = w' at *
        refine (HAL.out _ (HG.out _ B.out)).mono ?_
        rintro e w' ⟨rfl, hb⟩
        have B' := Lib.hid (B.out.trans (hb.mono B.out.size))
        have N' := Lib.hid (N.out.below hb N.out.lt)
        clear c0 c1 hb B N
        have c0 := (N'.out.cell 0).trans rfl
        have c1 := (N'.out.cell 1).trans rfl
        have B := Lib.hid B'.out
        have N := Lib.hid N'.out
        clear B' N'
        go_wp2_with fail
        refine (HA.out _ (HG.out _ B.out)).mono ?_
        rintro e w' ⟨hb, rfl⟩
        simp only [eA, Option.getD_some, Option.getD_none, ebad, errV_zero, errV_suc]
        have B' := Lib.hid (B.out.trans (hb.mono B.out.size))
        have N' := Lib.hid (N.out.below hb N.out.lt)
        clear c0 c1 hb B N
        have c0 := (N'.out.cell 0).trans rfl
        have c1 := (N'.out.cell 1).trans rfl
        have B := Lib.hid B'.out
        have N := Lib.hid N'.out
        clear B' N'
        go_wp2_with fail
        refine (toAct_any _ l1 _ E (HG.out _ B.out).errs).mono ?_
        rintro e w' ⟨hb, rfl, _⟩
        simp only [t1, nx, ny, xval, xbad, errV_zero, errV_suc]
        have B' := Lib.hid (B.out.trans (hb.mono B.out.size))
        have N' := Lib.hid (N.out.below hb N.out.lt)
        clear c0 c1 hb B N
        have c0 := (N'.out.cell 0).trans rfl
        have c1 := (N'.out.cell 1).trans rfl
        have B := Lib.hid B'.out
        have N := Lib.hid N'.out
        clear B' N'
        have B' := Lib.hid (below_alloc B.out (.cells #[.int .i64 x, .int .i64 y] 23))
        have N' := Lib.hid (N.out.alloc (.cells #[.int .i64 x, .int .i64 y] 23))
        have M := Lib.hid (Blk.new w' 23 #[.int .i64 x, .int .i64 y])
        clear c0 c1 B N
        have c0 := (N'.out.cell 0).trans rfl
        have c1 := (N'.out.cell 1).trans rfl
        have m0 := (M.out.cell 0).trans rfl
        have m1 := (M.out.cell 1).trans rfl
        have B := Lib.hid B'.out
        have N := Lib.hid N'.out
        clear B' N'
        go_wp2_with fail
        generalize w'.alloc (.cells #[.int .i64 x, .int .i64 y] 23) = w' at *
        refine (toReg_any _ l1 _ E (HG.out _ B.out).errs).mono ?_
        rintro e w' ⟨hb, rfl, _⟩
        simp only [t2, xval, xbad, errV_zero, errV_suc]
        have B' := Lib.hid (B.out.trans (hb.mono B.out.size))
        have N' := Lib.hid (N.out.below hb N.out.lt)
        have M' := Lib.hid (M.out.below hb M.out.lt)
        clear m0 m1 M
        have M := Lib.hid M'.out
        have m0 := (M.out.cell 0).trans rfl
        have m1 := (M.out.cell 1).trans rfl
        clear M'
        clear c0 c1 hb B N
        have c0 := (N'.out.cell 0).trans rfl
        have c1 := (N'.out.cell 1).trans rfl
        have B := Lib.hid B'.out
        have N := Lib.hid N'.out
        clear B' N'
        have B' := Lib.hid (below_alloc B.out (.cells #[.int .i64 0, .int .i64 0] 23))
        have N' := Lib.hid (N.out.alloc (.cells #[.int .i64 0, .int .i64 0] 23))
        have M' := Lib.hid (M.out.alloc (.cells #[.int .i64 0, .int .i64 0] 23))
        clear m0 m1 M
        clear c0 c1 B N
        have c0 := (N'.out.cell 0).trans rfl
        have c1 := (N'.out.cell 1).trans rfl
        have M := Lib.hid M'.out
        have m0 := (M.out.cell 0).trans rfl
        have m1 := (M.out.cell 1).trans rfl
        clear M'
        have B := Lib.hid B'.out
        have N := Lib.hid N'.out
        clear B' N'
        go_wp2_with fail
        generalize w'.alloc (.cells #[.int .i64 0, .int .i64 0] 23) = w' at *
        refine (toPart_any _ l1 _ E (HG.out _ B.out).errs).mono ?_
        rintro e w' ⟨hb, rfl, _⟩
        simp only [t3, xval, xbad, errV_zero, errV_suc]
        have B' := Lib.hid (B.out.trans (hb.mono B.out.size))
        have N' := Lib.hid (N.out.below hb N.out.lt)
        have M' := Lib.hid (M.out.below hb M.out.lt)
        clear m0 m1 M
        have M := Lib.hid M'.out
        have m0 := (M.out.cell 0).trans rfl
        have m1 := (M.out.cell 1).trans rfl
        clear M'
        clear c0 c1 hb B N
        have c0 := (N'.out.cell 0).trans rfl
        have c1 := (N'.out.cell 1).trans rfl
        have B := Lib.hid B'.out
        have N := Lib.hid N'.out
        clear B' N'
        go_wp2_with fail
        refine (toNode_any _ l1 _ E (HG.out _ B.out).errs).mono ?_
        rintro e w' ⟨hb, rfl, _⟩
        simp only [t4, xval, xbad, errV_zero, errV_suc]
        have B' := Lib.hid (B.out.trans (hb.mono B.out.size))
        have N' := Lib.hid (N.out.below hb N.out.lt)
        have M' := Lib.hid (M.out.below hb M.out.lt)
        clear m0 m1 M
        have M := Lib.hid M'.out
        have m0 := (M.out.cell 0).trans rfl
        have m1 := (M.out.cell 1).trans rfl
        clear M'
        clear c0 c1 hb B N
        have c0 := (N'.out.cell 0).trans rfl
        have c1 := (N'.out.cell 1).trans rfl
        have B := Lib.hid B'.out
        have N := Lib.hid N'.out
        clear B' N'
        go_wp2_with fail
        clear m0 m1 M
        refine (HR.out _ (HG.out _ B.out)).mono ?_
        rintro e w' ⟨hb, rfl⟩
        simp only [eR, Option.getD_some, Option.getD_none, ebad, errV_zero, errV_suc]
        have B' := Lib.hid (B.out.trans (hb.mono B.out.size))
        have N' := Lib.hid (N.out.below hb N.out.lt)
        clear c0 c1 hb B N
        have c0 := (N'.out.cell 0).trans rfl
        have c1 := (N'.out.cell 1).trans rfl
        have B := Lib.hid B'.out
        have N := Lib.hid N'.out
        clear B' N'
        go_wp2_with fail
        refine (HP.out _ (HG.out _ B.out)).mono ?_
        rintro e w' ⟨hb, rfl⟩
        simp only [eP, Option.getD_some, Option.getD_none, ebad, errV_zero, errV_suc]
        have B' := Lib.hid (B.out.trans (hb.mono B.out.size))
        have N' := Lib.hid (N.out.below hb N.out.lt)
        clear c0 c1 hb B N
        have c0 := (N'.out.cell 0).trans rfl
        have c1 := (N'.out.cell 1).trans rfl
        have B := Lib.hid B'.out
        have N := Lib.hid N'.out
        clear B' N'
        go_wp2_with fail
        refine (toPart_any _ l3 _ E (HG.out _ B.out).errs).mono ?_
        rintro e w' ⟨hb, rfl, _⟩
        simp only [t7, nx, np, xval, xbad, errV_zero, errV_suc]
        have B' := Lib.hid (B.out.trans (hb.mono B.out.size))
        have N' := Lib.hid (N.out.below hb N.out.lt)
        clear c0 c1 hb B N
        have c0 := (N'.out.cell 0).trans rfl
        have c1 := (N'.out.cell 1).trans rfl
        have B := Lib.hid B'.out
        have N := Lib.hid N'.out
        clear B' N'
        go_wp2_with fail
        go_ret
        exact ⟨rfl, B.out⟩
      · rw [if_pos (by omega)] at eA
        rw [if_neg (by omega)] at eR
        rw [if_neg (by omega)] at eP
        have t1 := toActT_act x.toNat y.toNat (by omega) (by omega)
        have t2 := toRegT_act x.toNat y.toNat
        have t3 := toPartT_act x.toNat y.toNat
        have t4 := toNodeT_act x.toNat y.toNat
        have l1 := actS_len x.toNat y.toNat (by omega) (by omega)
        have nx : ((x.toNat : Nat) : Int) = x := by omega
        have ny : ((y.toNat : Nat) : Int) = y := by omega
        clear hc hR hP
        go_enter Tryd.func6, Tryd.ntmps6
        go_wp2_with fail
        generalize w.alloc (.cells #[.int .i64 x, .int .i64 y] 23) = w' at *
        refine (HAL.out _ (HG.out _ B.out)).mono ?_
        rintro e w' ⟨rfl, hb⟩
        have B' := Lib.hid (B.out.trans (hb.mono B.out.size))
        have N' := Lib.hid (N.out.below hb N.out.lt)
        clear c0 c1 hb B N
        have c0 := (N'.out.cell 0).trans rfl
        have c1 := (N'.out.cell 1).trans rfl
        have B := Lib.hid B'.out
        have N := Lib.hid N'.out
        clear B' N'
        go_wp2_with fail
        refine (HA.out _ (HG.out _ B.out)).mono ?_
        rintro e w' ⟨hb, rfl⟩
        simp only [eA, Option.getD_some, Option.getD_none, ebad, errV_zero, errV_suc]
        have B' := Lib.hid (B.out.trans (hb.mono B.out.size))
        have N' := Lib.hid (N.out.below hb N.out.lt)
        clear c0 c1 hb B N
        have c0 := (N'.out.cell 0).trans rfl
        have c1 := (N'.out.cell 1).trans rfl
        have B := Lib.hid B'.out
        have N := Lib.hid N'.out
        clear B' N'
        go_wp2_with fail
        refine (toAct_any _ l1 _ E (HG.out _ B.out).errs).mono ?_
        rintro e w' ⟨hb, rfl, _⟩
        simp only [t1, nx, ny, xval, xbad, errV_zero, errV_suc]
        have B' := Lib.hid (B.out.trans (hb.mono B.out.size))
        have N' := Lib.hid (N.out.below hb N.out.lt)
        clear c0 c1 hb B N
        have c0 := (N'.out.cell 0).trans rfl
        have c1 := (N'.out.cell 1).trans rfl
        have B := Lib.hid B'.out
        have N := Lib.hid N'.out
        clear B' N'
        have B' := Lib.hid (below_alloc B.out (.cells #[.int .i64 x, .int .i64 y] 23))
        have N' := Lib.hid (N.out.alloc (.cells #[.int .i64 x, .int .i64 y] 23))
        have M := Lib.hid (Blk.new w' 23 #[.int .i64 x, .int .i64 y])
        clear c0 c1 B N
        have c0 := (N'.out.cell 0).trans rfl
        have c1 := (N'.out.cell 1).trans rfl
        have m0 := (M.out.cell 0).trans rfl
        have m1 := (M.out.cell 1).trans rfl
        have B := Lib.hid B'.out
        have N := Lib.hid N'.out
        clear B' N'
        go_wp2_with fail
        generalize w'.alloc (.cells #[.int .i64 x, .int .i64 y] 23) = w' at *
        refine (toReg_any _ l1 _ E (HG.out _ B.out).errs).mono ?_
        rintro e w' ⟨hb, rfl, _⟩
        simp only [t2, xval, xbad, errV_zero, errV_suc]
        have B' := Lib.hid (B.out.trans (hb.mono B.out.size))
        have N' := Lib.hid (N.out.below hb N.out.lt)
        have M' := Lib.hid (M.out.below hb M.out.lt)
        clear m0 m1 M
        have M := Lib.hid M'.out
        have m0 := (M.out.cell 0).trans rfl
        have m1 := (M.out.cell 1).trans rfl
        clear M'
        clear c0 c1 hb B N
        have c0 := (N'.out.cell 0).trans rfl
        have c1 := (N'.out.cell 1).trans rfl
        have B := Lib.hid B'.out
        have N := Lib.hid N'.out
        clear B' N'
        have B' := Lib.hid (below_alloc B.out (.cells #[.int .i64 0, .int .i64 0] 23))
        have N' := Lib.hid (N.out.alloc (.cells #[.int .i64 0, .int .i64 0] 23))
        have M' := Lib.hid (M.out.alloc (.cells #[.int .i64 0, .int .i64 0] 23))
        clear m0 m1 M
        clear c0 c1 B N
        have c0 := (N'.out.cell 0).trans rfl
        have c1 := (N'.out.cell 1).trans rfl
        have M := Lib.hid M'.out
        have m0 := (M.out.cell 0).trans rfl
        have m1 := (M.out.cell 1).trans rfl
        clear M'
        have B := Lib.hid B'.out
        have N := Lib.hid N'.out
        clear B' N'
        go_wp2_with fail
        generalize w'.alloc (.cells #[.int .i64 0, .int .i64 0] 23) = w' at *
        refine (toPart_any _ l1 _ E (HG.out _ B.out).errs).mono ?_
        rintro e w' ⟨hb, rfl, _⟩
        simp only [t3, xval, xbad, errV_zero, errV_suc]
        have B' := Lib.hid (B.out.trans (hb.mono B.out.size))
        have N' := Lib.hid (N.out.below hb N.out.lt)
        have M' := Lib.hid (M.out.below hb M.out.lt)
        clear m0 m1 M
        have M := Lib.hid M'.out
        have m0 := (M.out.cell 0).trans rfl
        have m1 := (M.out.cell 1).trans rfl
        clear M'
        clear c0 c1 hb B N
        have c0 := (N'.out.cell 0).trans rfl
        have c1 := (N'.out.cell 1).trans rfl
        have B := Lib.hid B'.out
        have N := Lib.hid N'.out
        clear B' N'
        go_wp2_with fail
        refine (toNode_any _ l1 _ E (HG.out _ B.out).errs).mono ?_
        rintro e w' ⟨hb, rfl, _⟩
        simp only [t4, xval, xbad, errV_zero, errV_suc]
        have B' := Lib.hid (B.out.trans (hb.mono B.out.size))
        have N' := Lib.hid (N.out.below hb N.out.lt)
        have M' := Lib.hid (M.out.below hb M.out.lt)
        clear m0 m1 M
        have M := Lib.hid M'.out
        have m0 := (M.out.cell 0).trans rfl
        have m1 := (M.out.cell 1).trans rfl
        clear M'
        clear c0 c1 hb B N
        have c0 := (N'.out.cell 0).trans rfl
        have c1 := (N'.out.cell 1).trans rfl
        have B := Lib.hid B'.out
        have N := Lib.hid N'.out
        clear B' N'
        go_wp2_with fail
        clear m0 m1 M
        refine (HR.out _ (HG.out _ B.out)).mono ?_
        rintro e w' ⟨hb, rfl⟩
        simp only [eR, Option.getD_some, Option.getD_none, ebad, errV_zero, errV_suc]
        have B' := Lib.hid (B.out.trans (hb.mono B.out.size))
        have N' := Lib.hid (N.out.below hb N.out.lt)
        clear c0 c1 hb B N
        have c0 := (N'.out.cell 0).trans rfl
        have c1 := (N'.out.cell 1).trans rfl
        have B := Lib.hid B'.out
        have N := Lib.hid N'.out
        clear B' N'
        go_wp2_with fail
        refine (HP.out _ (HG.out _ B.out)).mono ?_
        rintro e w' ⟨hb, rfl⟩
        simp only [eP, Option.getD_some, Option.getD_none, ebad, errV_zero, errV_suc]
        have B' := Lib.hid (B.out.trans (hb.mono B.out.size))
        have N' := Lib.hid (N.out.below hb N.out.lt)
        clear c0 c1 hb B N
        have c0 := (N'.out.cell 0).trans rfl
        have c1 := (N'.out.cell 1).trans rfl
        have B := Lib.hid B'.out
        have N := Lib.hid N'.out
        clear B' N'
        go_wp2_with fail
        go_ret
        exact ⟨rfl, B.out⟩
  · by_cases hP : 0 ≤ x ∧ x < 4 ∧ 0 ≤ p ∧ p < 8
    · rw [if_neg (by omega)] at eA
      rw [if_neg (by omega)] at eR
      rw [if_pos (by omega)] at eP
      have t7 := toPartT_part x.toNat p.toNat (by omega) (by omega)
      have l3 := partS_len x.toNat p.toNat (by omega) (by omega)
      have np : ((p.toNat : Nat) : Int) = p := by omega
      have nx : ((x.toNat : Nat) : Int) = x := by omega
      clear hc hP
      go_enter Tryd.func6, Tryd.ntmps6
      go_wp2_with fail
      generalize w.alloc (.cells #[.int .i64 x, .int .i64 y] 23) = w' at *
      refine (HAL.out _ (HG.out _ B.out)).mono ?_
      rintro e w' ⟨rfl, hb⟩
      have B' := Lib.hid (B.out.trans (hb.mono B.out.size))
      have N' := Lib.hid (N.out.below hb N.out.lt)
      clear c0 c1 hb B N
      have c0 := (N'.out.cell 0).trans rfl
      have c1 := (N'.out.cell 1).trans rfl
      have B := Lib.hid B'.out
      have N := Lib.hid N'.out
      clear B' N'
      go_wp2_with fail
      refine (HA.out _ (HG.out _ B.out)).mono ?_
      rintro e w' ⟨hb, rfl⟩
      simp only [eA, Option.getD_some, Option.getD_none, ebad, errV_zero, errV_suc]
      have B' := Lib.hid (B.out.trans (hb.mono B.out.size))
      have N' := Lib.hid (N.out.below hb N.out.lt)
      clear c0 c1 hb B N
      have c0 := (N'.out.cell 0).trans rfl
      have c1 := (N'.out.cell 1).trans rfl
      have B := Lib.hid B'.out
      have N := Lib.hid N'.out
      clear B' N'
      go_wp2_with fail
      refine (HR.out _ (HG.out _ B.out)).mono ?_
      rintro e w' ⟨hb, rfl⟩
      simp only [eR, Option.getD_some, Option.getD_none, ebad, errV_zero, errV_suc]
      have B' := Lib.hid (B.out.trans (hb.mono B.out.size))
      have N' := Lib.hid (N.out.below hb N.out.lt)
      clear c0 c1 hb B N
      have c0 := (N'.out.cell 0).trans rfl
      have c1 := (N'.out.cell 1).trans rfl
      have B := Lib.hid B'.out
      have N := Lib.hid N'.out
      clear B' N'
      go_wp2_with fail
      refine (HP.out _ (HG.out _ B.out)).mono ?_
      rintro e w' ⟨hb, rfl⟩
      simp only [eP, Option.getD_some, Option.getD_none, ebad, errV_zero, errV_suc]
      have B' := Lib.hid (B.out.trans (hb.mono B.out.size))
      have N' := Lib.hid (N.out.below hb N.out.lt)
      clear c0 c1 hb B N
      have c0 := (N'.out.cell 0).trans rfl
      have c1 := (N'.out.cell 1).trans rfl
      have B := Lib.hid B'.out
      have N := Lib.hid N'.out
      clear B' N'
      go_wp2_with fail
      refine (toPart_any _ l3 _ E (HG.out _ B.out).errs).mono ?_
      rintro e w' ⟨hb, rfl, _⟩
      simp only [t7, nx, np, xval, xbad, errV_zero, errV_suc]
      have B' := Lib.hid (B.out.trans (hb.mono B.out.size))
      have N' := Lib.hid (N.out.below hb N.out.lt)
      clear c0 c1 hb B N
      have c0 := (N'.out.cell 0).trans rfl
      have c1 := (N'.out.cell 1).trans rfl
      have B := Lib.hid B'.out
      have N := Lib.hid N'.out
      clear B' N'
      go_wp2_with fail
      go_ret
      exact ⟨rfl, B.out⟩
    · rw [if_neg (by omega)] at eA
      rw [if_neg (by omega)] at eR
      rw [if_neg (by omega)] at eP
      clear hc hP
      go_enter Tryd.func6, Tryd.ntmps6
      go_wp2_with fail
      generalize w.alloc (.cells #[.int .i64 x, .int .i64 y] 23) = w' at *
      refine (HAL.out _ (HG.out _ B.out)).mono ?_
      rintro e w' ⟨rfl, hb⟩
      have B' := Lib.hid (B.out.trans (hb.mono B.out.size))
      have N' := Lib.hid (N.out.below hb N.out.lt)
      clear c0 c1 hb B N
      have c0 := (N'.out.cell 0).trans rfl
      have c1 := (N'.out.cell 1).trans rfl
      have B := Lib.hid B'.out
      have N := Lib.hid N'.out
      clear B' N'
      go_wp2_with fail
      refine (HA.out _ (HG.out _ B.out)).mono ?_
      rintro e w' ⟨hb, rfl⟩
      simp only [eA, Option.getD_some, Option.getD_none, ebad, errV_zero, errV_suc]
      have B' := Lib.hid (B.out.trans (hb.mono B.out.size))
      have N' := Lib.hid (N.out.below hb N.out.lt)
      clear c0 c1 hb B N
      have c0 := (N'.out.cell 0).trans rfl
      have c1 := (N'.out.cell 1).trans rfl
      have B := Lib.hid B'.out
      have N := Lib.hid N'.out
      clear B' N'
      go_wp2_with fail
      refine (HR.out _ (HG.out _ B.out)).mono ?_
      rintro e w' ⟨hb, rfl⟩
      simp only [eR, Option.getD_some, Option.getD_none, ebad, errV_zero, errV_suc]
      have B' := Lib.hid (B.out.trans (hb.mono B.out.size))
      have N' := Lib.hid (N.out.below hb N.out.lt)
      clear c0 c1 hb B N
      have c0 := (N'.out.cell 0).trans rfl
      have c1 := (N'.out.cell 1).trans rfl
      have B := Lib.hid B'.out
      have N := Lib.hid N'.out
      clear B' N'
      go_wp2_with fail
      refine (HP.out _ (HG.out _ B.out)).mono ?_
      rintro e w' ⟨hb, rfl⟩
      simp only [eP, Option.getD_some, Option.getD_none, ebad, errV_zero, errV_suc]
      have B' := Lib.hid (B.out.trans (hb.mono B.out.size))
      have N' := Lib.hid (N.out.below hb N.out.lt)
      clear c0 c1 hb B N
      have c0 := (N'.out.cell 0).trans rfl
      have c1 := (N'.out.cell 1).trans rfl
      have B := Lib.hid B'.out
      have N := Lib.hid N'.out
      clear B' N'
      go_wp2_with fail
      go_ret
      exact ⟨rfl, B.out⟩
end Go.Proofs.YtehdbiilbbbbpaaDoor
