/- RefYC -/
import Derived.Test.YtkghpmpmcafhkaaGreatDoorRF
import Derived.Test.YtkghpmpmcafhkaaGreatDoorPD
import Derived.Test.YtkghpmpmcafhkaaGreatDoorPA
namespace Go.Proofs.YtkghpmpmcafhkaaGreatDoor
set_option maxHeartbeats 8000000
set_option maxRecDepth 20000
open Go.RowKit
attribute [local go_sem] bs_toList
def RdR (o : Option Tr) (w : World) (e : Ending) (w' : World) : Prop :=
  Below w.heap.size w w' ∧ ((∃ y c0 c1 c2 c3 c4, o = some y ∧ e = .returned (.tuple #[.agg #[c0, c1, c2, c3, c4], .int .i64 0]) ∧ TrC w' (Bt w.heap.size w'.heap.size none) y [c0, c1, c2, c3, c4]) ∨ (o = none ∧ e = .returned (.tuple #[.agg #[.string ⟨#[]⟩, .string ⟨#[]⟩, .slice none 0 0, .slice none 0 0, .string ⟨#[]⟩], .int .i64 4])))
theorem rResolve_any (x : Tr) (P : Nat → Prop) (cx : List Value) (w : World) (hx : x.ok 1) (hsh : x.shr) (hfw : x.few) (hsz : x.sz ≤ 1000) (hbig : x.wrt.length ≤ 100000000) (hT : TrC w P x cx) :
    Calls Tryz.prog 14 #[.agg cx.toArray] w (RdR (resolveF x) w) := by
  obtain ⟨c0, c1, c2, c3, rfl⟩ := cells4b hT hx
  show Calls Tryz.prog 14 #[.agg #[c0, c1, c2, c3]] w _
  obtain ⟨w2, hw2⟩ : ∃ w2, w2 = (w.alloc (.cells #[c0, c1, c2, c3] 50)).alloc (.cells #[.string ⟨#[]⟩, .string ⟨#[]⟩, .slice none 0 0, .slice none 0 0, .string ⟨#[]⟩] 44) := ⟨_, rfl⟩
  have hB2 : Below w.heap.size w w2 := by rw [hw2]; exact below_alloc (below_alloc1 w _) _
  have hN1 : Blk w2 w.heap.size 50 #[c0, c1, c2, c3] := by rw [hw2]; exact (Blk.new w _ _).alloc _
  have hN2 : Blk w2 (w.heap.size + 1) 44 #[.string ⟨#[]⟩, .string ⟨#[]⟩, .slice none 0 0, .slice none 0 0, .string ⟨#[]⟩] := by
    rw [hw2]
    have := Blk.new (w.alloc (.cells #[c0, c1, c2, c3] 50)) 44 #[.string ⟨#[]⟩, .string ⟨#[]⟩, .slice none 0 0, .slice none 0 0, .string ⟨#[]⟩]
    rwa [World.size_alloc] at this
  have hone := hT.one
  have g0 := hone c0 (by simp)
  have g1 := hone c1 (by simp)
  have g2 := hone c2 (by simp)
  have g3 := hone c3 (by simp)
  have HTX := Lib.hid (rtext_any x P _ w2 hx hsh hbig (hT.below hB2))
  have HRS := Lib.hid (fun w' (hb : Below w.heap.size w w') => rresolve_any 1000 x P _ [] none 0 w' hsz hx hsh hfw (by simp) (hT.below hb) (.inl rfl) (by simp) (Nat.le_refl _) (by unfold maxLen; omega))
  have k0 := (hN1.cell 0).trans rfl
  have k1 := (hN1.cell 1).trans rfl
  have k2 := (hN1.cell 2).trans rfl
  have k3 := (hN1.cell 3).trans rfl
  rw [hw2] at k0 k1 k2 k3 HTX
  have HW2 := Lib.hid hw2
  have B2 := Lib.hid hB2
  have N1 := Lib.hid hN1
  have N2 := Lib.hid hN2
  obtain ⟨R, hR⟩ : ∃ R, resolveF x = R := ⟨_, rfl⟩
  rw [hR]
  have HR := Lib.hid hR
  clear hR hw2 hB2 hN1 hN2 hone hT hx hsh hfw hsz hbig
  cases hr : x.rgt 1
  · have hE : textE x = 4 := by unfold textE; rw [hr]; rfl
    have hS : textS x = [] := by unfold textS; rw [hE]; rfl
    rw [hE, hS] at HTX
    obtain rfl : R = none := by rw [← HR.out]; unfold resolveF; rw [hr]; rfl
    clear HR HRS hE hS hr
    go_enter Tryz.func14, Tryz.ntmps14
    go_wp2_with (first | (go_at_call 33; refine HTX.out.mono ?_; clear HTX; rintro e w3 ⟨rfl, hb3⟩; rw [← HW2.out] at hb3) | (refine wpList_store (.tmp 2) (.tmp 15) 44 rfl rfl (w.heap.size + 1) 0 _ _ #[.string ⟨#[]⟩, .string ⟨#[]⟩, .slice none 0 0, .slice none 0 0, .string ⟨#[]⟩] rfl rfl (N2.out.below hb3 N2.out.lt) (by kernel_rfl) (by simp [Value.oneCell']) (by simp) ?_))
    intro w8 hb8 ho8
    have hb8 : Blk w8 (w.heap.size + 1) 44 #[.string ⟨#[]⟩, .string ⟨#[]⟩, .slice none 0 0, .slice none 0 0, .string ⟨#[]⟩] := hb8
    have z0 := (hb8.cell 0).trans rfl
    have z1 := (hb8.cell 1).trans rfl
    have z2 := (hb8.cell 2).trans rfl
    have z3 := (hb8.cell 3).trans rfl
    have z4 := (hb8.cell 4).trans rfl
    have HO8 := Lib.hid ho8
    clear hb8 ho8
    go_wp2_with fail
    refine bodyPost_ret (v := .tuple #[.agg #[.string ⟨#[]⟩, .string ⟨#[]⟩, .slice none 0 0, .slice none 0 0, .string ⟨#[]⟩], .int .i64 4]) (by simp [results, Tryz.results14, go_sem, z0, z1, z2, z3, z4]) rfl ?_
    exact ⟨(B2.out.trans (hb3.mono B2.out.size)).trans (HO8.out.below (by omega)), .inr ⟨rfl, rfl⟩⟩
  · have hE : textE x = if 20000 < x.wrt.length then 3 else 0 := by unfold textE; rw [hr, if_neg (by decide)]
    have hz : ((textE x : Int) == 4) = false := by
      rw [hE]
      split <;> rfl
    have HRX : RowKit.Hid (x.res [] = R) := Lib.hid (by rw [← HR.out]; unfold resolveF; rw [if_pos hr])
    have HNM0 := Lib.hid (fun y (h : R = some y) => res_nm (HRX.out.trans h))
    rw [HRX.out] at HRS
    clear HR hE hr HRX
    generalize textE x = E at *
    generalize textS x = S at *
    have HNM : RowKit.Hid (∀ y, R = some y → y.nm.length = 2) := HNM0
    cases R with
    | none =>
      have HRN := Lib.hid (fun w' hb => (HRS.out w' hb).mono (R' := fun e w2 => ∃ f0 f1 f2 f3 f4, e = .returned (.tuple #[.agg #[f0, f1, f2, f3, f4], .bool false]) ∧ (f0.oneCell' = true ∧ f1.oneCell' = true ∧ f2.oneCell' = true ∧ f3.oneCell' = true ∧ f4.oneCell' = true) ∧ Below w'.heap.size w' w2) fun e w2 h => h.2.elim (fun ⟨y, cs, h1, _⟩ => by cases h1) fun ⟨_, f0, f1, f2, f3, f4, h2, h3⟩ => ⟨f0, f1, f2, f3, f4, h2, h3, h.1⟩)
      clear HRS
      go_enter Tryz.func14, Tryz.ntmps14
      go_wp2_with (first | (go_at_call 33; refine HTX.out.mono ?_; clear HTX; rintro e w3 ⟨rfl, hb3⟩; rw [← HW2.out] at hb3; have hb03 := B2.out.trans (hb3.mono B2.out.size); have m0 := ((N1.out.below hb3 N1.out.lt).cell 0).trans rfl; have m1 := ((N1.out.below hb3 N1.out.lt).cell 1).trans rfl; have m2 := ((N1.out.below hb3 N1.out.lt).cell 2).trans rfl; have m3 := ((N1.out.below hb3 N1.out.lt).cell 3).trans rfl) | (go_at_call 41; refine (HRN.out _ hb03).mono ?_; clear HRN; rintro e w5 ⟨f0, f1, f2, f3, f4, rfl, ⟨q0, q1, q2, q3, q4⟩, hb5⟩; have HN5 := Lib.hid (Blk.new w5 44 #[.string ⟨#[]⟩, .string ⟨#[]⟩, .slice none 0 0, .slice none 0 0, .string ⟨#[]⟩])) | (refine wpList_store (.tmp 6) (.tmp 20) 44 rfl rfl w5.heap.size 0 _ _ #[f0, f1, f2, f3, f4] rfl rfl HN5.out (by kernel_rfl) (by simp; exact ⟨q0, q1, q2, q3, q4⟩) (by simp) ?_))
      intro w6 hb6 ho6
      have h25 : w.heap.size + 1 < w5.heap.size := Nat.lt_of_lt_of_le (N2.out.below hb3 N2.out.lt).lt hb5.size
      have HN6 := Lib.hid (ho6.blk (((N2.out.below hb3 N2.out.lt).below hb5 (N2.out.below hb3 N2.out.lt).lt).alloc (.cells #[.string ⟨#[]⟩, .string ⟨#[]⟩, .slice none 0 0, .slice none 0 0, .string ⟨#[]⟩] 44)) (by omega))
      have hB5 := hb03.trans (hb5.mono hb03.size)
      have HB6 := Lib.hid ((hB5.trans ((below_alloc1 w5 (.cells #[.string ⟨#[]⟩, .string ⟨#[]⟩, .slice none 0 0, .slice none 0 0, .string ⟨#[]⟩] 44)).mono hB5.size)).trans (ho6.below (by omega : w.heap.size ≤ w5.heap.size)))
      clear hb6 ho6 hb5 k0 k1 k2 k3
      go_wp2_with (refine wpList_store (.tmp 2) (.tmp 24) 44 rfl rfl (w.heap.size + 1) 0 _ _ #[.string ⟨#[]⟩, .string ⟨#[]⟩, .slice none 0 0, .slice none 0 0, .string ⟨#[]⟩] rfl rfl HN6.out (by kernel_rfl) (by simp [Value.oneCell']) (by simp) ?_)
      intro w8 hb8 ho8
      have hb8 : Blk w8 (w.heap.size + 1) 44 #[.string ⟨#[]⟩, .string ⟨#[]⟩, .slice none 0 0, .slice none 0 0, .string ⟨#[]⟩] := hb8
      have z0 := (hb8.cell 0).trans rfl
      have z1 := (hb8.cell 1).trans rfl
      have z2 := (hb8.cell 2).trans rfl
      have z3 := (hb8.cell 3).trans rfl
      have z4 := (hb8.cell 4).trans rfl
      have HO8 := Lib.hid ho8
      clear hb8 ho8
      go_wp2_with fail
      refine bodyPost_ret (v := .tuple #[.agg #[.string ⟨#[]⟩, .string ⟨#[]⟩, .slice none 0 0, .slice none 0 0, .string ⟨#[]⟩], .int .i64 4]) (by simp [results, Tryz.results14, go_sem, z0, z1, z2, z3, z4]) rfl ?_
      exact ⟨HB6.out.trans (HO8.out.below (by omega)), .inr ⟨rfl, rfl⟩⟩
    | some X =>
      have HRN := Lib.hid (fun w' hb => (HRS.out w' hb).mono (R' := fun e w2 => ∃ f0 f1 f2 f3 f4, e = .returned (.tuple #[.agg #[f0, f1, f2, f3, f4], .bool true]) ∧ TrC w2 (Bt w'.heap.size w2.heap.size none) X [f0, f1, f2, f3, f4] ∧ Below w'.heap.size w' w2) fun e w2 h => h.2.elim (fun ⟨y, cs, h1, h2, h3⟩ => by
        cases h1
        obtain ⟨f0, f1, f2, f3, f4, rfl⟩ := five_of (l := cs) (by rw [h3.len, HNM.out X rfl])
        exact ⟨f0, f1, f2, f3, f4, h2, h3, h.1⟩) fun h2 => by cases h2.1)
      clear HRS
      go_enter Tryz.func14, Tryz.ntmps14
      go_wp2_with (first | (go_at_call 33; refine HTX.out.mono ?_; clear HTX; rintro e w3 ⟨rfl, hb3⟩; rw [← HW2.out] at hb3; have hb03 := B2.out.trans (hb3.mono B2.out.size); have m0 := ((N1.out.below hb3 N1.out.lt).cell 0).trans rfl; have m1 := ((N1.out.below hb3 N1.out.lt).cell 1).trans rfl; have m2 := ((N1.out.below hb3 N1.out.lt).cell 2).trans rfl; have m3 := ((N1.out.below hb3 N1.out.lt).cell 3).trans rfl) | (go_at_call 41; refine (HRN.out _ hb03).mono ?_; clear HRN; rintro e w5 ⟨f0, f1, f2, f3, f4, rfl, hT5, hb5⟩; have HN5 := Lib.hid (Blk.new w5 44 #[.string ⟨#[]⟩, .string ⟨#[]⟩, .slice none 0 0, .slice none 0 0, .string ⟨#[]⟩])) | (refine wpList_store (.tmp 6) (.tmp 20) 44 rfl rfl w5.heap.size 0 _ _ #[f0, f1, f2, f3, f4] rfl rfl HN5.out (by kernel_rfl) (by simp; exact ⟨hT5.one _ (by simp), hT5.one _ (by simp), hT5.one _ (by simp), hT5.one _ (by simp), hT5.one _ (by simp)⟩) (by simp) ?_))
      intro w6 hb6 ho6
      have hb6 : Blk w6 w5.heap.size 44 #[f0, f1, f2, f3, f4] := hb6
      have h25 : w.heap.size + 1 < w5.heap.size := Nat.lt_of_lt_of_le (N2.out.below hb3 N2.out.lt).lt hb5.size
      have h13 : w.heap.size + 1 < w3.heap.size := (N2.out.below hb3 N2.out.lt).lt
      have HN6 := Lib.hid (ho6.blk (((N2.out.below hb3 N2.out.lt).below hb5 (N2.out.below hb3 N2.out.lt).lt).alloc (.cells #[.string ⟨#[]⟩, .string ⟨#[]⟩, .slice none 0 0, .slice none 0 0, .string ⟨#[]⟩] 44)) (by omega))
      have hB5 := hb03.trans (hb5.mono hb03.size)
      have HB6 := Lib.hid ((hB5.trans ((below_alloc1 w5 (.cells #[.string ⟨#[]⟩, .string ⟨#[]⟩, .slice none 0 0, .slice none 0 0, .string ⟨#[]⟩] 44)).mono hB5.size)).trans (ho6.below (by omega : w.heap.size ≤ w5.heap.size)))
      have hone := hT5.one
      have q0 := hone f0 (by simp)
      have q1 := hone f1 (by simp)
      have q2 := hone f2 (by simp)
      have q3 := hone f3 (by simp)
      have q4 := hone f4 (by simp)
      have hs6 : w6.heap.size = w5.heap.size + 1 := by rw [ho6.size, World.size_alloc]
      have HT6 := Lib.hid (((hT5.below (below_alloc1 w5 (.cells #[.string ⟨#[]⟩, .string ⟨#[]⟩, .slice none 0 0, .slice none 0 0, .string ⟨#[]⟩] 44))).only ho6 (fun b hb => by have := hb.2.1; omega)).imp (Q := fun b => w.heap.size + 1 < b ∧ b < w6.heap.size) fun b hb => ⟨by have := hb.1; omega, by have := hb.2.1; omega⟩)
      have y0 := (hb6.cell 0).trans rfl
      have y1 := (hb6.cell 1).trans rfl
      have y2 := (hb6.cell 2).trans rfl
      have y3 := (hb6.cell 3).trans rfl
      have y4 := (hb6.cell 4).trans rfl
      clear hb6 ho6 hb5 k0 k1 k2 k3 hT5 hone
      go_wp2_with (refine wpList_store (.tmp 2) (.tmp 25) 44 rfl rfl (w.heap.size + 1) 0 _ _ #[f0, f1, f2, f3, f4] rfl rfl HN6.out (by kernel_rfl) (by simp; exact ⟨q0, q1, q2, q3, q4⟩) (by simp) ?_)
      intro w8 hb8 ho8
      have hb8 : Blk w8 (w.heap.size + 1) 44 #[f0, f1, f2, f3, f4] := hb8
      have z0 := (hb8.cell 0).trans rfl
      have z1 := (hb8.cell 1).trans rfl
      have z2 := (hb8.cell 2).trans rfl
      have z3 := (hb8.cell 3).trans rfl
      have z4 := (hb8.cell 4).trans rfl
      have HO8 := Lib.hid ho8
      clear hb8 ho8
      go_wp2_with fail
      refine bodyPost_ret (v := .tuple #[.agg #[f0, f1, f2, f3, f4], .int .i64 0]) (by simp [results, Tryz.results14, go_sem, z0, z1, z2, z3, z4]) rfl ?_
      exact ⟨HB6.out.trans (HO8.out.below (by omega)), .inl ⟨X, f0, f1, f2, f3, f4, rfl, rfl, (HT6.out.only HO8.out (fun b hb => by have := hb.1; omega)).imp fun b hb => ⟨by have := hb.1; omega, by rw [HO8.out.size]; exact hb.2, by simp⟩⟩⟩
end Go.Proofs.YtkghpmpmcafhkaaGreatDoor
namespace Go.Proofs.YtkghpmpmcafhkaaGreatDoor
set_option maxHeartbeats 8000000
set_option maxRecDepth 20000
open Go.RowKit Go.Extern.Stop Go.Stop Go.Extern
attribute [local go_sem] bs_toList
theorem rneqAttr2 (a0 a1 a2 b0 b1 b2 : List UInt8) (w : World) : (binOp .neq 93 (.agg #[.string (bs a0), .string (bs a1), .string (bs a2)]) (.agg #[.string (bs b0), .string (bs b1), .string (bs b2)])).run Tryz.prog w = .ok (.bool (!((a0 == b0) && (a1 == b1) && (a2 == b2)))) w := by
  cases h0 : (a0 == b0)
  · go_simp
  · skip
    cases h1 : (a1 == b1)
    · go_simp
    · skip
      cases h2 : (a2 == b2) <;> go_simp
theorem rneqName2 (a0 a1 b0 b1 : List UInt8) (w : World) : (binOp .neq 40 (.agg #[.string (bs a0), .string (bs a1)]) (.agg #[.string (bs b0), .string (bs b1)])).run Tryz.prog w = .ok (.bool (!((a0 == b0) && (a1 == b1)))) w := by
  cases h0 : (a0 == b0)
  · go_simp
  · skip
    cases h1 : (a1 == b1) <;> go_simp
theorem refsame2_any : ∀ (n : Nat) (x y : Tr) (P Q : Nat → Prop) (cx cy : List Value) (w : World), x.sz ≤ n → x.ok 2 → y.ok 2 → TrC w P x cx → TrC w Q y cy →
    Calls Tryz.prog 16 #[.agg cx.toArray, .agg cy.toArray] w (Gives w (.bool (x.eqb y))) := by
  intro n
  induction n with
  | zero => intro x y P Q cx cy w hs; have := x.sz_pos; omega
  | succ n ih =>
    intro x y P Q cx cy w hs hx hy hcx hcy
    obtain ⟨nx, ax, kx, tx⟩ := x
    obtain ⟨ny, ay, ky, ty⟩ := y
    unfold TrC at hcx hcy
    unfold Tr.ok at hx hy
    obtain ⟨hx1, hx2, hx3⟩ := hx
    obtain ⟨hy1, hy2, hy3⟩ := hy
    obtain ⟨a0, a1, rfl⟩ := two_of hx1
    obtain ⟨b0, b1, rfl⟩ := two_of hy1
    obtain ⟨pa, ca, pk, ck, css, rfl, ⟨A1, A2, A3, -⟩, ⟨K1, K2, K3, -⟩, hL⟩ := hcx
    obtain ⟨qa, da, qk, dk, dss, rfl, ⟨B1, B2, B3, -⟩, ⟨M1, M2, M3, -⟩, hM⟩ := hcy
    show Calls Tryz.prog 16 #[.agg #[.string (bs a0), .string (bs a1), .slice pa ax.length ca, .slice pk kx.length ck, .string (bs tx)], .agg #[.string (bs b0), .string (bs b1), .slice qa ay.length da, .slice qk ky.length dk, .string (bs ty)]] w _
    have HB := Lib.hid (below_alloc (below_alloc1 w (.cells #[.string (bs a0), .string (bs a1), .slice pa ax.length ca, .slice pk kx.length ck, .string (bs tx)] 44)) (.cells #[.string (bs b0), .string (bs b1), .slice qa ay.length da, .slice qk ky.length dk, .string (bs ty)] 44))
    have HN := Lib.hid ((Blk.new w 44 #[.string (bs a0), .string (bs a1), .slice pa ax.length ca, .slice pk kx.length ck, .string (bs tx)]).alloc (.cells #[.string (bs b0), .string (bs b1), .slice qa ay.length da, .slice qk ky.length dk, .string (bs ty)] 44))
    have HM := Lib.hid (show Blk ((w.alloc (.cells #[.string (bs a0), .string (bs a1), .slice pa ax.length ca, .slice pk kx.length ck, .string (bs tx)] 44)).alloc (.cells #[.string (bs b0), .string (bs b1), .slice qa ay.length da, .slice qk ky.length dk, .string (bs ty)] 44)) (w.heap.size + 1) 44 #[.string (bs b0), .string (bs b1), .slice qa ay.length da, .slice qk ky.length dk, .string (bs ty)] from by
      have := Blk.new (w.alloc (.cells #[.string (bs a0), .string (bs a1), .slice pa ax.length ca, .slice pk kx.length ck, .string (bs tx)] 44)) 44 #[.string (bs b0), .string (bs b1), .slice qa ay.length da, .slice qk ky.length dk, .string (bs ty)]
      rwa [World.size_alloc] at this)
    have HA := Lib.hid A3; have HA' := Lib.hid B3; have HK := Lib.hid K3; have HK' := Lib.hid M3; have HL := Lib.hid hL; have HL' := Lib.hid hM
    have HX2 := Lib.hid hx2; have HX3 := Lib.hid hx3; have HY2 := Lib.hid hy2; have HY3 := Lib.hid hy3
    have IH := Lib.hid ih
    unfold maxLen at A2 K2 B2 M2
    have hs' : ∀ i (hi : i < kx.length), kx[i].sz ≤ n := fun i hi => by
      have := Tr.sz_kid (.node [a0, a1] ax kx tx) i hi
      simp only [Tr.ks] at this
      omega
    have HS := Lib.hid hs'
    clear A3 B3 K3 M3 hL hM hx1 hy1 hx2 hx3 hy2 hy3 ih hs hs'
    have q1 : ∀ i, (HN.out.cell i) = (HN.out.cell i) := fun _ => rfl
    clear q1
    have c0 := (HN.out.cell 0).trans rfl
    have c1 := (HN.out.cell 1).trans rfl
    have c2 := (HN.out.cell 2).trans rfl
    have c3 := (HN.out.cell 3).trans rfl
    have c4 := (HN.out.cell 4).trans rfl
    have d0 := (HM.out.cell 0).trans rfl
    have d1 := (HM.out.cell 1).trans rfl
    have d2 := (HM.out.cell 2).trans rfl
    have d3 := (HM.out.cell 3).trans rfl
    have d4 := (HM.out.cell 4).trans rfl
    have en := fun w => rneqName2 a0 a1 b0 b1 w
    cases hN : ((a0 == b0) && (a1 == b1))
    · simp only [hN, Bool.not_false] at en
      have HR := Lib.hid (show Tr.eqb (.node [a0, a1] ax kx tx) (.node [b0, b1] ay ky ty) = false by unfold Tr.eqb; have e : (([a0, a1] : List (List UInt8)) == [b0, b1]) = false := (by simpa using hN); rw [e]; simp)
      clear hN
      go_enter Tryz.func16, Tryz.ntmps16
      go_wp2_with fail
      go_ret
      exact ⟨by rw [HR.out]; rfl, HB.out⟩
    simp only [hN, Bool.not_true] at en
    have HNM := Lib.hid hN
    clear hN
    cases hT : (tx == ty)
    · have HR := Lib.hid (show Tr.eqb (.node [a0, a1] ax kx tx) (.node [b0, b1] ay ky ty) = false by unfold Tr.eqb; rw [hT]; simp)
      go_enter Tryz.func16, Tryz.ntmps16
      go_wp2_with fail
      go_ret
      exact ⟨by rw [HR.out]; rfl, HB.out⟩
    have HTT := Lib.hid hT
    by_cases hla : ax.length = ay.length
    rotate_left 1
    · have hne : ((ax.length : Int) != (ay.length : Int)) = true := by simp; omega
      have HR := Lib.hid (show Tr.eqb (.node [a0, a1] ax kx tx) (.node [b0, b1] ay ky ty) = false by unfold Tr.eqb; have : (ax == ay) = false := (by rw [beq_eq_false_iff_ne]; intro e; exact hla (by rw [e])); rw [this]; simp)
      go_enter Tryz.func16, Tryz.ntmps16
      go_wp2_with fail
      go_ret
      exact ⟨by rw [HR.out]; rfl, HB.out⟩
    have hne : ((ax.length : Int) != (ay.length : Int)) = false := by simp [hla]
    have HLA := Lib.hid hla
    have hla' : ax.length ≤ ay.length := by omega
    clear hla
    by_cases hlk : kx.length = ky.length
    rotate_left 1
    · have hnk : ((kx.length : Int) != (ky.length : Int)) = true := by simp; omega
      have HR := Lib.hid (show Tr.eqb (.node [a0, a1] ax kx tx) (.node [b0, b1] ay ky ty) = false by unfold Tr.eqb; rw [Tr.eqbL_len hlk]; simp)
      go_enter Tryz.func16, Tryz.ntmps16
      go_wp2_with fail
      go_ret
      exact ⟨by rw [HR.out]; rfl, HB.out⟩
    have hnk : ((kx.length : Int) != (ky.length : Int)) = false := by simp [hlk]
    have HLK := Lib.hid hlk
    have hlk' : kx.length ≤ ky.length := by omega
    clear hlk
    go_enter Tryz.func16, Tryz.ntmps16
    go_wp2_with fail
    clear c0 d0 c1 d1 c2 d2 c3 d3 c4 d4 en hT hne hnk
    go_loopw [40] (fun i wr => ∃ j : Nat, j ≤ ax.length ∧ i = .int .i64 j ∧ ax.take j = ay.take j ∧ Below w.heap.size w wr ∧ Blk wr w.heap.size 44 #[.string (bs a0), .string (bs a1), .slice pa ax.length ca, .slice pk kx.length ck, .string (bs tx)] ∧ Blk wr (w.heap.size + 1) 44 #[.string (bs b0), .string (bs b1), .slice qa ay.length da, .slice qk ky.length dk, .string (bs ty)]) (fun i _ => ax.length - (intOf i).toNat)
    case atStart => exact ⟨0, by omega, rfl, rfl, HB.out, HN.out, HM.out⟩
    case round =>
      clear HN HM HB
      obtain ⟨j, hj, rfl, heq, hbw, hN, hM⟩ := hrel
      by_cases hlt : j < ax.length
      · have hlt2 : j < ay.length := by omega
        obtain ⟨e1, o1, x0, x1, x2, rfl, hgx, hx0, hx1, hx2⟩ := at_2 HA.out HX2.out hlt
        obtain ⟨e2, o2, y0, y1, y2, rfl, hgy, hy0, hy1, hy2⟩ := at_2 HA'.out HY2.out hlt2
        have GX := Lib.hid hgx; have GY := Lib.hid hgy; have HEQ := Lib.hid heq
        clear hgx hgy heq
        have hx0 := Below.keeps hbw _ _ hx0
        have hy0 := Below.keeps hbw _ _ hy0
        have hx1 := Below.keeps hbw _ _ hx1
        have hy1 := Below.keeps hbw _ _ hy1
        have hx2 := Below.keeps hbw _ _ hx2
        have hy2 := Below.keeps hbw _ _ hy2
        have ne := fun w => rneqAttr2 x0 x1 x2 y0 y1 y2 w
        have k1 := (hN.cell 2).trans rfl
        have k2 := (hM.cell 2).trans rfl
        have hlt' : (j : Int) < (ax.length : Int) := by omega
        have hlt2' : (j : Int) < (ay.length : Int) := by omega
        cases hE : ((x0 == y0) && (x1 == y1) && (x2 == y2))
        all_goals
          (first | simp only [hE, Bool.not_false] at ne | simp only [hE, Bool.not_true] at ne)
          have HE := Lib.hid hE
          clear hE
          go_wp2_with fail
          refine wp_phi (fun w' => (Blk w' w.heap.size 44 #[.string (bs a0), .string (bs a1), .slice (some ⟨e1, o1, none⟩) ax.length ca, .slice pk kx.length ck, .string (bs tx)]) ∧ (Blk w' (w.heap.size + 1) 44 #[.string (bs b0), .string (bs b1), .slice (some ⟨e2, o2, none⟩) ay.length da, .slice qk ky.length dk, .string (bs ty)]) ∧ (w'.cell? ⟨e1, o1 + j * 3, none⟩ = some (.string (bs x0))) ∧ (w'.cell? ⟨e1, o1 + j * 3 + 1, none⟩ = some (.string (bs x1))) ∧ (w'.cell? ⟨e1, o1 + j * 3 + 2, none⟩ = some (.string (bs x2))) ∧ (w'.cell? ⟨e2, o2 + j * 3, none⟩ = some (.string (bs y0))) ∧ (w'.cell? ⟨e2, o2 + j * 3 + 1, none⟩ = some (.string (bs y1))) ∧ (w'.cell? ⟨e2, o2 + j * 3 + 2, none⟩ = some (.string (bs y2))) ∧ Below w.heap.size w w') [] [] (by kernel_rfl) (by kernel_rfl) ?_ ?_ ⟨hN, hM, hx0, hx1, hx2, hy0, hy1, hy2, (hbw).drew⟩ ?_
          · rintro w1' w2' ⟨f1, f2, gx0, gx1, gx2, gy0, gy1, gy2, hIB⟩ hb
            exact ⟨(by first | exact f1.below hb | exact f1.keep (Below.keeps hb) | exact Below.keeps hb _ _ f1 | exact Blk.below f1 hb (Blk.lt f1)), (by first | exact f2.below hb | exact f2.keep (Below.keeps hb) | exact Below.keeps hb _ _ f2 | exact Blk.below f2 hb (Blk.lt f2)), (by first | exact gx0.below hb | exact gx0.keep (Below.keeps hb) | exact Below.keeps hb _ _ gx0 | exact Blk.below gx0 hb (Blk.lt gx0)), (by first | exact gx1.below hb | exact gx1.keep (Below.keeps hb) | exact Below.keeps hb _ _ gx1 | exact Blk.below gx1 hb (Blk.lt gx1)), (by first | exact gx2.below hb | exact gx2.keep (Below.keeps hb) | exact Below.keeps hb _ _ gx2 | exact Blk.below gx2 hb (Blk.lt gx2)), (by first | exact gy0.below hb | exact gy0.keep (Below.keeps hb) | exact Below.keeps hb _ _ gy0 | exact Blk.below gy0 hb (Blk.lt gy0)), (by first | exact gy1.below hb | exact gy1.keep (Below.keeps hb) | exact Below.keeps hb _ _ gy1 | exact Blk.below gy1 hb (Blk.lt gy1)), (by first | exact gy2.below hb | exact gy2.keep (Below.keeps hb) | exact Below.keeps hb _ _ gy2 | exact Blk.below gy2 hb (Blk.lt gy2)), hIB.trans (hb.mono hIB.size)⟩
          · intro p hp; cases hp
          repeat (first | (refine phi_skipK rfl (fun K hK => ?_); simp only [Act.put, List.setIfInBounds_toArray, List.set_cons_succ, List.set_cons_zero, List.cons_append, List.nil_append]; apply hK; clear hK K) | (refine phi_pureK rfl rfl (fun K hK => ?_); apply Exists.intro; constructor; (focus (rintro w' ⟨f1, f2, gx0, gx1, gx2, gy0, gy1, gy2, hIB⟩; have k1 := (f1.cell 2).trans rfl; have k2 := (f2.cell 2).trans rfl; clear f1 f2 hIB; first | (go_simp; done) | (go_simp; (try go_bits); (try go_simp); rfl) | go_simp)); simp only [Act.put, List.setIfInBounds_toArray, List.set_cons_succ, List.set_cons_zero, List.cons_append, List.nil_append]; apply hK; clear hK K))
          refine phi_done ?_
          rintro w2 ⟨f1, f2, gx0, gx1, gx2, gy0, gy1, gy2, hbw2⟩ _
          refine wpList_nil ?_
          clear hx0 hy0 gx0 gy0 hx1 hy1 gx1 gy1 hx2 hy2 gx2 gy2 ne k1 k2 hN hM hbw
        · have HR := Lib.hid (show Tr.eqb (.node [a0, a1] ax kx tx) (.node [b0, b1] ay ky ty) = false by
            rw [Bool.eq_false_iff]
            intro e
            have := Tr.eqb_eq _ _ e
            injection this with i1 i2 i3 i4
            subst i2
            have e3 := GX.out.symm.trans GY.out
            have e4 := HE.out
            simp only [List.cons.injEq, and_true] at e3
            simp [e3] at e4)
          go_wp2_with fail
          go_ret
          exact ⟨by rw [HR.out]; rfl, hbw2⟩
        · go_wp2_with fail
          go_roundw
          case rel => exact ⟨j + 1, by omega, by go_num, take_step hlt hlt2 HEQ.out (by rw [GX.out, GY.out]; have := HE.out; simp only [Bool.and_eq_true, beq_iff_eq] at this; simp [this]), hbw2, f1, f2⟩
          case measure => simp [intOf]; omega
      · obtain rfl : j = ax.length := by omega
        have HEQ := Lib.hid (show ax = ay by
          rw [List.take_of_length_le (Nat.le_refl _), HLA.out, List.take_of_length_le (Nat.le_refl _)] at heq
          exact heq)
        clear heq
        have k1 := (hN.cell 3).trans rfl
        go_wp2_with fail
        clear k1
        obtain ⟨wo, rfl⟩ : ∃ wo, wo = wr := ⟨_, rfl⟩
        go_loopw [58] (fun i wr => ∃ j : Nat, j ≤ kx.length ∧ i = .int .i64 j ∧ Tr.eqbL kx ky = Tr.eqbL (kx.drop j) (ky.drop j) ∧ Below w.heap.size w wr ∧ Blk wr w.heap.size 44 #[.string (bs a0), .string (bs a1), .slice pa ax.length ca, .slice pk kx.length ck, .string (bs tx)] ∧ Blk wr (w.heap.size + 1) 44 #[.string (bs b0), .string (bs b1), .slice qa ay.length da, .slice qk ky.length dk, .string (bs ty)]) (fun i _ => kx.length - (intOf i).toNat)
        case atStart => exact ⟨0, by omega, rfl, rfl, hbw, hN, hM⟩
        case round =>
          clear hbw hN hM
          obtain ⟨j, hj, rfl, heq, hbw, hN, hM⟩ := hrel
          by_cases hlt : j < kx.length
          · have hlt2 : j < ky.length := by omega
            obtain ⟨e1, o1, m0, m1, u1, u2, u3, u4, u5, u6, u7, rfl, hgx, hT1, hk0, hk1, hk2, hk3, hk4⟩ := kid_2 HK.out HL.out HX3.out hlt
            obtain ⟨e2, o2, l0, l1, v1, v2, v3, v4, v5, v6, v7, rfl, hgy, hT2, hl0, hl1, hl2, hl3, hl4⟩ := kid_2 HK'.out HL'.out HY3.out hlt2
            have hr := Tr.eqbL_drop HLK.out hlt
            have HEQ := Lib.hid (heq.trans hr)
            have ok1 := okL_get 2 kx HX3.out j hlt
            have ok2 := okL_get 2 ky HY3.out j hlt2
            have ihc := Lib.hid (fun (w' : World) (h1 : TrC w' P kx[j] [.string (bs m0), .string (bs m1), .slice u4 u1.length u5, .slice u6 u2.length u7, .string (bs u3)]) (h2 : TrC w' Q ky[j] [.string (bs l0), .string (bs l1), .slice v4 v1.length v5, .slice v6 v2.length v7, .string (bs v3)]) => IH.out kx[j] ky[j] P Q _ _ w' (HS.out j hlt) ok1 ok2 h1 h2)
            clear heq hgx hgy hr ok1 ok2
            have hT1' := hT1.below hbw
            have hT2' := hT2.below hbw
            have hk0 := Below.keeps hbw _ _ hk0
            have hl0 := Below.keeps hbw _ _ hl0
            have hk1 := Below.keeps hbw _ _ hk1
            have hl1 := Below.keeps hbw _ _ hl1
            have hk2 := Below.keeps hbw _ _ hk2
            have hl2 := Below.keeps hbw _ _ hl2
            have hk3 := Below.keeps hbw _ _ hk3
            have hl3 := Below.keeps hbw _ _ hl3
            have hk4 := Below.keeps hbw _ _ hk4
            have hl4 := Below.keeps hbw _ _ hl4
            have k1 := (hN.cell 3).trans rfl
            have k2 := (hM.cell 3).trans rfl
            have hlt' : (j : Int) < (kx.length : Int) := by omega
            have hlt2' : (j : Int) < (ky.length : Int) := by omega
            clear hT1 hT2
            generalize kx[j] = X at *
            generalize ky[j] = Y at *
            go_wp2_with fail
            refine wp_phi (fun w' => (Blk w' w.heap.size 44 #[.string (bs a0), .string (bs a1), .slice pa ax.length ca, .slice (some ⟨e1, o1, none⟩) kx.length ck, .string (bs tx)]) ∧ (Blk w' (w.heap.size + 1) 44 #[.string (bs b0), .string (bs b1), .slice qa ay.length da, .slice (some ⟨e2, o2, none⟩) ky.length dk, .string (bs ty)]) ∧ (TrC w' P X [.string (bs m0), .string (bs m1), .slice u4 u1.length u5, .slice u6 u2.length u7, .string (bs u3)]) ∧ (TrC w' Q Y [.string (bs l0), .string (bs l1), .slice v4 v1.length v5, .slice v6 v2.length v7, .string (bs v3)]) ∧ (w'.cell? ⟨e1, o1 + j * 5, none⟩ = some (.string (bs m0))) ∧ (w'.cell? ⟨e1, o1 + j * 5 + 1, none⟩ = some (.string (bs m1))) ∧ (w'.cell? ⟨e1, o1 + j * 5 + 2, none⟩ = some (.slice u4 u1.length u5)) ∧ (w'.cell? ⟨e1, o1 + j * 5 + 3, none⟩ = some (.slice u6 u2.length u7)) ∧ (w'.cell? ⟨e1, o1 + j * 5 + 4, none⟩ = some (.string (bs u3))) ∧ (w'.cell? ⟨e2, o2 + j * 5, none⟩ = some (.string (bs l0))) ∧ (w'.cell? ⟨e2, o2 + j * 5 + 1, none⟩ = some (.string (bs l1))) ∧ (w'.cell? ⟨e2, o2 + j * 5 + 2, none⟩ = some (.slice v4 v1.length v5)) ∧ (w'.cell? ⟨e2, o2 + j * 5 + 3, none⟩ = some (.slice v6 v2.length v7)) ∧ (w'.cell? ⟨e2, o2 + j * 5 + 4, none⟩ = some (.string (bs v3))) ∧ Below w.heap.size w w') [(10, PVal (.bool (X.eqb Y)))] [] (by kernel_rfl) (by kernel_rfl) ?_ ?_ ⟨hN, hM, hT1'.below (Below.refl _ _).drew, hT2'.below (Below.refl _ _).drew, hk0, hk1, hk2, hk3, hk4, hl0, hl1, hl2, hl3, hl4, (hbw).drew⟩ ?_
            · rintro w1' w2' ⟨f1, f2, f3, f4, gk0, gk1, gk2, gk3, gk4, gl0, gl1, gl2, gl3, gl4, hIB⟩ hb
              exact ⟨(by first | exact f1.below hb | exact f1.keep (Below.keeps hb) | exact Below.keeps hb _ _ f1 | exact Blk.below f1 hb (Blk.lt f1)), (by first | exact f2.below hb | exact f2.keep (Below.keeps hb) | exact Below.keeps hb _ _ f2 | exact Blk.below f2 hb (Blk.lt f2)), (by first | exact f3.below hb | exact f3.keep (Below.keeps hb) | exact Below.keeps hb _ _ f3 | exact Blk.below f3 hb (Blk.lt f3)), (by first | exact f4.below hb | exact f4.keep (Below.keeps hb) | exact Below.keeps hb _ _ f4 | exact Blk.below f4 hb (Blk.lt f4)), (by first | exact gk0.below hb | exact gk0.keep (Below.keeps hb) | exact Below.keeps hb _ _ gk0 | exact Blk.below gk0 hb (Blk.lt gk0)), (by first | exact gk1.below hb | exact gk1.keep (Below.keeps hb) | exact Below.keeps hb _ _ gk1 | exact Blk.below gk1 hb (Blk.lt gk1)), (by first | exact gk2.below hb | exact gk2.keep (Below.keeps hb) | exact Below.keeps hb _ _ gk2 | exact Blk.below gk2 hb (Blk.lt gk2)), (by first | exact gk3.below hb | exact gk3.keep (Below.keeps hb) | exact Below.keeps hb _ _ gk3 | exact Blk.below gk3 hb (Blk.lt gk3)), (by first | exact gk4.below hb | exact gk4.keep (Below.keeps hb) | exact Below.keeps hb _ _ gk4 | exact Blk.below gk4 hb (Blk.lt gk4)), (by first | exact gl0.below hb | exact gl0.keep (Below.keeps hb) | exact Below.keeps hb _ _ gl0 | exact Blk.below gl0 hb (Blk.lt gl0)), (by first | exact gl1.below hb | exact gl1.keep (Below.keeps hb) | exact Below.keeps hb _ _ gl1 | exact Blk.below gl1 hb (Blk.lt gl1)), (by first | exact gl2.below hb | exact gl2.keep (Below.keeps hb) | exact Below.keeps hb _ _ gl2 | exact Blk.below gl2 hb (Blk.lt gl2)), (by first | exact gl3.below hb | exact gl3.keep (Below.keeps hb) | exact Below.keeps hb _ _ gl3 | exact Blk.below gl3 hb (Blk.lt gl3)), (by first | exact gl4.below hb | exact gl4.keep (Below.keeps hb) | exact Below.keeps hb _ _ gl4 | exact Blk.below gl4 hb (Blk.lt gl4)), hIB.trans (hb.mono hIB.size)⟩
            · simp only [List.mem_cons, List.not_mem_nil, or_false, forall_eq_or_imp, forall_eq]
              exact fun _ _ _ _ h' h => PVal_stays _ _ _ _ h' h
            repeat (first | (refine phi_skipK rfl (fun K hK => ?_); simp only [Act.put, List.setIfInBounds_toArray, List.set_cons_succ, List.set_cons_zero, List.cons_append, List.nil_append]; apply hK; clear hK K) | (refine phi_pureK rfl rfl (fun K hK => ?_); apply Exists.intro; constructor; (focus (rintro w' ⟨f1, f2, f3, f4, gk0, gk1, gk2, gk3, gk4, gl0, gl1, gl2, gl3, gl4, hIB⟩; have k1 := (f1.cell 3).trans rfl; have k2 := (f2.cell 3).trans rfl; clear f1 f2 f3 f4 hIB; first | (go_simp; done) | (go_simp; (try go_bits); (try go_simp); rfl) | go_simp)); simp only [Act.put, List.setIfInBounds_toArray, List.set_cons_succ, List.set_cons_zero, List.cons_append, List.nil_append]; apply hK; clear hK K))
            refine phi_partK (PVal (.bool (X.eqb Y))) rfl rfl ⟨_, rfl⟩ ?_ (fun K hK v hv => ?_)
            · rintro w' ⟨f1, f2, f3, f4, gk0, gk1, gk2, gk3, gk4, gl0, gl1, gl2, gl3, gl4, hIB⟩ hf
              unfold gives
              clear hf
              go_simp
              refine (ihc.out _ f3 f4).mono ?_
              rintro e w'' ⟨rfl, hb⟩
              exact ⟨_, rfl, rfl, trivial, hb⟩
            obtain rfl : v = _ := hv
            simp only [Act.put, List.setIfInBounds_toArray, List.set_cons_succ, List.set_cons_zero, List.cons_append, List.nil_append]
            apply hK
            clear hK K
            repeat (first | (refine phi_skipK rfl (fun K hK => ?_); simp only [Act.put, List.setIfInBounds_toArray, List.set_cons_succ, List.set_cons_zero, List.cons_append, List.nil_append]; apply hK; clear hK K) | (refine phi_pureK rfl rfl (fun K hK => ?_); apply Exists.intro; constructor; (focus (rintro w' ⟨f1, f2, f3, f4, gk0, gk1, gk2, gk3, gk4, gl0, gl1, gl2, gl3, gl4, hIB⟩; have k1 := (f1.cell 3).trans rfl; have k2 := (f2.cell 3).trans rfl; clear f1 f2 f3 f4 hIB; first | (go_simp; done) | (go_simp; (try go_bits); (try go_simp); rfl) | go_simp)); simp only [Act.put, List.setIfInBounds_toArray, List.set_cons_succ, List.set_cons_zero, List.cons_append, List.nil_append]; apply hK; clear hK K))
            refine phi_done ?_
            rintro w2 ⟨f1, f2, f3, f4, gk0, gk1, gk2, gk3, gk4, gl0, gl1, gl2, gl3, gl4, hbw2⟩ _
            refine wpList_nil ?_
            clear hk0 hl0 gk0 gl0 hk1 hl1 gk1 gl1 hk2 hl2 gk2 gl2 hk3 hl3 gk3 gl3 hk4 hl4 gk4 gl4 k1 k2 hN hM hbw f3 f4 hT1' hT2' ihc
            cases hE : X.eqb Y
            · have HR := Lib.hid (show Tr.eqb (.node [a0, a1] ax kx tx) (.node [b0, b1] ay ky ty) = false by unfold Tr.eqb; rw [HEQ.out, hE]; simp)
              go_wp2_with fail
              go_ret
              exact ⟨by rw [HR.out]; rfl, hbw2⟩
            · rw [hE] at HEQ
              go_wp2_with fail
              go_roundw
              case rel => exact ⟨j + 1, by omega, by go_num, HEQ.out.trans (Bool.true_and _), hbw2, f1, f2⟩
              case measure => simp [intOf]; omega
          · obtain rfl : j = kx.length := by omega
            go_wp2_with fail
            go_ret
            refine ⟨?_, hbw⟩
            rw [List.drop_of_length_le (Nat.le_refl _), HLK.out, List.drop_of_length_le (Nat.le_refl _)] at heq
            have e1 := HNM.out
            have e2 := HTT.out
            simp only [Bool.and_eq_true, beq_iff_eq] at e1 e2
            have e3 : Tr.eqbL kx ky = true := heq.trans rfl
            have e4 := HEQ.out
            have e5 : Tr.eqb (.node [a0, a1] ax kx tx) (.node [b0, b1] ay ky ty) = true := by
              unfold Tr.eqb
              rw [e3, e4]
              simp [e1, e2]
            rw [e5]
            rfl
end Go.Proofs.YtkghpmpmcafhkaaGreatDoor
