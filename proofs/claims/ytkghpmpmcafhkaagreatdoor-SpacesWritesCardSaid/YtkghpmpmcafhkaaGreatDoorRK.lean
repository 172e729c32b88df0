/- RefYG -/
import Derived.Test.YtkghpmpmcafhkaaGreatDoorRJ
import Derived.Test.YtkghpmpmcafhkaaGreatDoorRG
import Derived.Test.YtkghpmpmcafhkaaGreatDoorPN
import Derived.Test.YtkghpmpmcafhkaaGreatDoorPS
namespace Go.Proofs.YtkghpmpmcafhkaaGreatDoor
set_option maxHeartbeats 600000
set_option maxRecDepth 20000
open Go.RowKit
attribute [local go_sem] bs_toList
theorem GrO.belowB {a b : World} {v v1 : Value} {B : Nat} (h : GrO a b v v1) (hv : ∀ i, v.ownBlock = some i → B ≤ i) (hB : B ≤ a.heap.size) : Below B a b :=
  ⟨h.1.os, h.1.tape, h.1.output, h.1.size, fun i hi => h.1.block i (by omega) (fun e => by have := hv i e.symm; omega)⟩
theorem declOf_take {l : List (List UInt8)} {i : Nat} (h : i < l.length) : (declOf l).take (i + 1) = (declOf l).take i ++ [[xmlnsL ++ 58 :: prefF i, l[i]]] := by
  have hl : (declOf l).length = l.length := by simp [declOf]
  rw [List.take_succ_eq_append_getElem (by rw [hl]; exact h)]
  congr 2
  unfold declOf
  simp [List.getElem?_eq_getElem h]
theorem declOf_len (l : List (List UInt8)) : (declOf l).length = l.length := by simp [declOf]
theorem acells_len2 {l : List (List (List UInt8))} (h : ∀ a ∈ l, a.length = 1 + 1) : (acells l).length = l.length * 2 := by
  induction l with
  | nil => rfl
  | cons a l ih =>
    have : acells (a :: l) = strs a ++ acells l := rfl
    rw [this, List.length_append, strs_len, h a (by simp), ih (fun b hb => h b (by simp [hb])), List.length_cons]
    omega
def WdR (o : Option Tr) (w : World) (e : Ending) (w' : World) : Prop :=
  Below w.heap.size w w' ∧ ((∃ y c0 c1 c2 c3, o = some y ∧ e = .returned (.tuple #[.agg #[c0, c1, c2, c3], .int .i64 0]) ∧ TrC w' (Bt w.heap.size w'.heap.size none) y [c0, c1, c2, c3]) ∨ (o = none ∧ e = .returned (.tuple #[.agg #[.string ⟨#[]⟩, .slice none 0 0, .slice none 0 0, .string ⟨#[]⟩], .int .i64 4])))
theorem wrap_small (k : Nat) (h : k ≤ 1000000) : wrap64 ((k : Int) + 1) = (k : Int) + 1 := by
  unfold wrap64
  omega
def Fits (x : Tr) : Prop := x.ok 1 ∧ x.shr ∧ x.few ∧ x.sz ≤ 1000 ∧ x.wrt.length ≤ 100000000
theorem rWrite_any (x : Tr) (P : Nat → Prop) (cx : List Value) (w : World) (hx : x.ok 2) (hsh : x.shr) (hfw : x.few) (hsz : x.sz ≤ 1000) (hnm : x.nms.length ≤ 40000) (hfit : ∀ y, x.wri (x.meet []) = some y → Fits (withDecl (x.meet []) y)) (hPw : ∀ b, P b → b < w.heap.size) (hT : TrC w P x cx) :
    Calls Tryz.prog 21 #[.agg cx.toArray] w (WdR (writeF x) w) := by
  obtain ⟨c0, c1, c2, c3, c4, rfl⟩ := cells5 hT hx
  show Calls Tryz.prog 21 #[.agg #[c0, c1, c2, c3, c4]] w _
  obtain ⟨w3, hw3⟩ : ∃ w3, w3 = ((w.alloc (.cells #[c0, c1, c2, c3, c4] 44)).alloc (.cells #[.string ⟨#[]⟩, .slice none 0 0, .slice none 0 0, .string ⟨#[]⟩] 50)).alloc (.cells #[.string ⟨#[]⟩, .slice none 0 0, .slice none 0 0, .string ⟨#[]⟩] 50) := ⟨_, rfl⟩
  have hB3 : Below w.heap.size w w3 := by rw [hw3]; exact below_alloc (below_alloc (below_alloc1 w _) _) _
  have hN1 : Blk w3 w.heap.size 44 #[c0, c1, c2, c3, c4] := by rw [hw3]; exact ((Blk.new w _ _).alloc _).alloc _
  have hN2 : Blk w3 (w.heap.size + 1) 50 #[.string ⟨#[]⟩, .slice none 0 0, .slice none 0 0, .string ⟨#[]⟩] := by
    rw [hw3]
    have := (Blk.new (w.alloc (.cells #[c0, c1, c2, c3, c4] 44)) 50 #[.string ⟨#[]⟩, .slice none 0 0, .slice none 0 0, .string ⟨#[]⟩]).alloc (.cells #[.string ⟨#[]⟩, .slice none 0 0, .slice none 0 0, .string ⟨#[]⟩] 50)
    rwa [World.size_alloc] at this
  have hN3 : Blk w3 (w.heap.size + 1 + 1) 50 #[.string ⟨#[]⟩, .slice none 0 0, .slice none 0 0, .string ⟨#[]⟩] := by
    rw [hw3]
    have := Blk.new ((w.alloc (.cells #[c0, c1, c2, c3, c4] 44)).alloc (.cells #[.string ⟨#[]⟩, .slice none 0 0, .slice none 0 0, .string ⟨#[]⟩] 50)) 50 #[.string ⟨#[]⟩, .slice none 0 0, .slice none 0 0, .string ⟨#[]⟩]
    rwa [World.size_alloc, World.size_alloc] at this
  have hone := hT.one
  have q0 := hone c0 (by simp)
  have q1 := hone c1 (by simp)
  have q2 := hone c2 (by simp)
  have q3 := hone c3 (by simp)
  have q4 := hone c4 (by simp)
  obtain ⟨B, hBs⟩ : ∃ B, w3.heap.size = B := ⟨_, rfl⟩
  have HMT := Lib.hid (rmeet_any B x.sz x P _ [] (.slice none 0 0) w3 (Nat.le_refl _) hx (hT.below hB3) (World.ownsRow_nil _ _ _ _) (Nat.le_of_eq hBs.symm) (fun i hi => ⟨Nat.lt_of_lt_of_le (hPw i hi) hB3.size, by simp [Value.ownBlock]⟩) (by simp; omega))
  have hml := meet_len x []
  simp only [List.length_nil, Nat.zero_add] at hml
  obtain ⟨R, hR⟩ : ∃ R, writeF x = R := ⟨_, rfl⟩
  rw [hR]
  unfold writeF at hR
  generalize x.meet [] = L at *
  have HWR := Lib.hid (fun (pL : Option Addr) (cL : Nat) (w' : World) (hb : Below w.heap.size w w') (hc : L.length ≤ cL) (hm : cL ≤ maxLen) (hr : Rd w' pL (strs L)) => rwrite24_any L pL cL hc hm (by omega) x.sz x P _ w' (Nat.le_refl _) hx hsh hfw (hT.below hb) hr)
  have HSM := Lib.hid (fun (y : Tr) (Q : Nat → Prop) (cy : List Value) (w' : World) (hy : y.ok 2) (hb : Below w.heap.size w w') (hty : TrC w' Q y cy) => refsame2_any y.sz y x Q P cy _ w' (Nat.le_refl _) hy hx hty (hT.below hb))
  have HR := Lib.hid hR
  have HFT := Lib.hid hfit
  have HW3 := Lib.hid hw3
  have B3 := Lib.hid hB3
  have N1 := Lib.hid hN1
  have N2 := Lib.hid hN2
  have N3 := Lib.hid hN3
  have hs3 : w3.heap.size = w.heap.size + 1 + 1 + 1 := by rw [hw3, World.size_alloc, World.size_alloc, World.size_alloc]
  have HS3 := Lib.hid hs3
  have HBS := Lib.hid hBs
  have HBS := Lib.hid hBs
  have HBS := Lib.hid hBs
  have HBS := Lib.hid hBs
  have HBS := Lib.hid hBs
  have HBS := Lib.hid hBs
  have HBS := Lib.hid hBs
  have HBS := Lib.hid hBs
  have HBS := Lib.hid hBs
  have HBS := Lib.hid hBs
  have HBS := Lib.hid hBs
  have HBS := Lib.hid hBs
  have HBS := Lib.hid hBs
  have HBS := Lib.hid hBs
  have HBS := Lib.hid hBs
  have HBS := Lib.hid hBs
  have HBS := Lib.hid hBs
  have HBS := Lib.hid hBs
  have HBS := Lib.hid hBs
  have k0 := (hN1.cell 0).trans rfl
  have k1 := (hN1.cell 1).trans rfl
  have k2 := (hN1.cell 2).trans rfl
  have k3 := (hN1.cell 3).trans rfl
  have k4 := (hN1.cell 4).trans rfl
  rw [hw3] at k0 k1 k2 k3 k4 HMT
  clear hR hw3 hB3 hN1 hN2 hN3 hone hT hx hsh hfw hsz hfit hPw hs3 hnm hBs
  go_enter Tryz.func21, Tryz.ntmps21
  cases hX : x.wri L with
  | none =>
    obtain rfl : R = none := by rw [← HR.out, hX]; rfl
    have HWRN := Lib.hid (fun pL cL w' hb hc hm hr => (HWR.out pL cL w' hb hc hm hr).mono (R' := fun e w2 => ∃ f0 f1 f2 f3, e = .returned (.tuple #[.agg #[f0, f1, f2, f3], .bool false]) ∧ (f0.oneCell' = true ∧ f1.oneCell' = true ∧ f2.oneCell' = true ∧ f3.oneCell' = true) ∧ Below w'.heap.size w' w2) fun e w2 h => h.2.elim (fun ⟨y, cs, h1, _⟩ => by rw [hX] at h1; cases h1) fun ⟨_, f0, f1, f2, f3, h2, h3⟩ => ⟨f0, f1, f2, f3, h2, h3, h.1⟩)
    clear HWR HR HSM HFT hX
    go_wp2_with (first | (go_at_call 49; refine HMT.out.mono ?_; clear HMT; rintro e w4 ⟨pm, cm, rfl, hom, hgm⟩; rw [← HW3.out] at hgm; have hb34 := hgm.belowB (B := w3.heap.size) (by simp [Value.ownBlock]) (Nat.le_refl _); have hB4 := B3.out.trans (hb34.mono B3.out.size); have hx4 := N1.out.below hb34 N1.out.lt; have m0 := (hx4.cell 0).trans rfl; have m1 := (hx4.cell 1).trans rfl; have m2 := (hx4.cell 2).trans rfl; have m3 := (hx4.cell 3).trans rfl; have m4 := (hx4.cell 4).trans rfl; obtain ⟨pm', cm', hpe, hcc, hcx, hrr⟩ := owns_rd hom; cases hpe; have HN1 := Lib.hid hx4; have HN2 := Lib.hid (N2.out.below hb34 N2.out.lt); have HN3 := Lib.hid (N3.out.below hb34 N3.out.lt); have HRM := Lib.hid hrr; have HOM := Lib.hid hom; have h34 := hb34.size; clear hx4 hom hgm hb34 hrr) | (go_at_call 50; refine (HWRN.out _ _ w4 hB4 hcc hcx HRM.out).mono ?_; clear HWRN; rintro e w5 ⟨f0, f1, f2, f3, rfl, ⟨g0, g1, g2, g3⟩, hb5⟩; have HN5 := Lib.hid (Blk.new w5 50 #[.string ⟨#[]⟩, .slice none 0 0, .slice none 0 0, .string ⟨#[]⟩])) | (with_reducible refine at_sto 6 20 ?_; refine wpList_store (.tmp 6) (.tmp 20) 50 rfl rfl w5.heap.size 0 _ _ #[f0, f1, f2, f3] rfl rfl HN5.out (by kernel_rfl) (by simp; exact ⟨g0, g1, g2, g3⟩) (by simp) ?_))
    intro w6 hb6 ho6
    have hs5 := hb5.size
    have h3lt := HN3.out.lt
    have hbb := hb5.trans ((below_alloc1 w5 (.cells #[.string ⟨#[]⟩, .slice none 0 0, .slice none 0 0, .string ⟨#[]⟩] 50)).mono hb5.size)
    have HRES := Lib.hid (ho6.blk (HN2.out.below hbb HN2.out.lt) (by omega))
    have hn6 := ho6.blk (HN3.out.below hbb HN3.out.lt) (by omega)
    have n0 := (hn6.cell 0).trans rfl
    have n1 := (hn6.cell 1).trans rfl
    have n2 := (hn6.cell 2).trans rfl
    have n3 := (hn6.cell 3).trans rfl
    have HB6 := Lib.hid ((hB4.trans (hbb.mono hB4.size)).trans (ho6.below (by omega : w.heap.size ≤ w5.heap.size)))
    clear hb6 ho6 hbb hb5 hn6 m0 m1 m2 m3 m4 k0 k1 k2 k3 k4
    go_wp2_with (first | fail | (with_reducible refine at_sto 2 24 ?_; refine wpList_store (.tmp 2) (.tmp 24) 50 rfl rfl (w.heap.size + 1) 0 _ _ #[.string ⟨#[]⟩, .slice none 0 0, .slice none 0 0, .string ⟨#[]⟩] rfl rfl HRES.out (by kernel_rfl) (by simp [Value.oneCell']) (by simp) ?_))
    intro w8 hb8 ho8
    have hb8 : Blk w8 (w.heap.size + 1) 50 #[.string ⟨#[]⟩, .slice none 0 0, .slice none 0 0, .string ⟨#[]⟩] := hb8
    have z0 := (hb8.cell 0).trans rfl
    have z1 := (hb8.cell 1).trans rfl
    have z2 := (hb8.cell 2).trans rfl
    have z3 := (hb8.cell 3).trans rfl
    have HO8 := Lib.hid ho8
    clear hb8 ho8
    go_wp2_with fail
    refine bodyPost_ret (v := .tuple #[.agg #[.string ⟨#[]⟩, .slice none 0 0, .slice none 0 0, .string ⟨#[]⟩], .int .i64 4]) (by simp [results, Tryz.results21, go_sem, z0, z1, z2, z3]) rfl ?_
    exact ⟨HB6.out.trans (HO8.out.below (by omega)), .inr ⟨rfl, rfl⟩⟩
  | some X =>
    have hX1 := wri_nm hX
    have hfit := HFT.out X hX
    have HXR : RowKit.Hid (((resolveF (withDecl L X)).bind fun b => if b.eqb x = true then some (withDecl L X) else none) = R) := Lib.hid (by rw [← HR.out, hX]; rfl)
    have HWRN := Lib.hid (fun pL cL w' hb hc hm hr => (HWR.out pL cL w' hb hc hm hr).mono (R' := fun e w2 => ∃ f0 f1 f2 f3, e = .returned (.tuple #[.agg #[f0, f1, f2, f3], .bool true]) ∧ TrC w2 (Bt w'.heap.size w2.heap.size none) X [f0, f1, f2, f3] ∧ Below w'.heap.size w' w2) fun e w2 h => h.2.elim (fun ⟨y, cs, h1, h2, h3⟩ => by
      rw [hX] at h1
      cases h1
      obtain ⟨f0, f1, f2, f3, rfl⟩ := four_of (l := cs) (by rw [h3.len, hX1])
      exact ⟨f0, f1, f2, f3, h2, h3, h.1⟩) fun h2 => by rw [hX] at h2; cases h2.1)
    clear HWR HR HFT hX
    go_wp2_with (first | (go_at_call 49; refine HMT.out.mono ?_; clear HMT; rintro e w4 ⟨pm, cm, rfl, hom, hgm⟩; rw [← HW3.out] at hgm; have hb34 := hgm.belowB (B := w3.heap.size) (by simp [Value.ownBlock]) (Nat.le_refl _); have hB4 := B3.out.trans (hb34.mono B3.out.size); have hx4 := N1.out.below hb34 N1.out.lt; have m0 := (hx4.cell 0).trans rfl; have m1 := (hx4.cell 1).trans rfl; have m2 := (hx4.cell 2).trans rfl; have m3 := (hx4.cell 3).trans rfl; have m4 := (hx4.cell 4).trans rfl; obtain ⟨pm', cm', hpe, hcc, hcx, hrr⟩ := owns_rd hom; cases hpe; have HN1 := Lib.hid hx4; have HN2 := Lib.hid (N2.out.below hb34 N2.out.lt); have HN3 := Lib.hid (N3.out.below hb34 N3.out.lt); have HRM := Lib.hid hrr; have HOM := Lib.hid hom; have h34 := hb34.size; clear hx4 hom hgm hb34 hrr) | (go_at_call 50; refine (HWRN.out _ _ w4 hB4 hcc hcx HRM.out).mono ?_; clear HWRN; rintro e w5 ⟨f0, f1, f2, f3, rfl, hT5, hb5⟩; have HN5 := Lib.hid (Blk.new w5 50 #[.string ⟨#[]⟩, .slice none 0 0, .slice none 0 0, .string ⟨#[]⟩])) | (with_reducible refine at_sto 6 20 ?_; refine wpList_store (.tmp 6) (.tmp 20) 50 rfl rfl w5.heap.size 0 _ _ #[f0, f1, f2, f3] rfl rfl HN5.out (by kernel_rfl) (by simp; exact ⟨hT5.one _ (by simp), hT5.one _ (by simp), hT5.one _ (by simp), hT5.one _ (by simp)⟩) (by simp) ?_))
    intro w6 hb6 ho6
    have hb6 : Blk w6 w5.heap.size 50 #[f0, f1, f2, f3] := hb6
    have hs5 := hb5.size
    have h3lt := HN3.out.lt
    have hbb := hb5.trans ((below_alloc1 w5 (.cells #[.string ⟨#[]⟩, .slice none 0 0, .slice none 0 0, .string ⟨#[]⟩] 50)).mono hb5.size)
    have hs6 : w6.heap.size = w5.heap.size + 1 := by rw [ho6.size, World.size_alloc]
    have HRES6 := Lib.hid (ho6.blk (HN2.out.below hbb HN2.out.lt) (by omega))
    have HNO6 := Lib.hid (ho6.blk (HN3.out.below hbb HN3.out.lt) (by omega))
    have HBX6 := Lib.hid (ho6.blk (HN1.out.below hbb HN1.out.lt) (by omega))
    have HB46 := Lib.hid (hbb.trans (ho6.below (by omega : w4.heap.size ≤ w5.heap.size)))
    have HB56 := Lib.hid ((below_alloc1 w5 (.cells #[.string ⟨#[]⟩, .slice none 0 0, .slice none 0 0, .string ⟨#[]⟩] 50)).trans (ho6.below (Nat.le_refl _)))
    have HBW4 := Lib.hid hB4
    obtain ⟨xn, xa, xk, xt⟩ := X
    obtain ⟨x0, rfl⟩ := one_of hX1
    have hT5c := hT5
    unfold TrC at hT5c
    obtain ⟨qa, da, qk, dk, cks, hcells, ⟨A1, A2, A3, A4⟩, ⟨K1, K2, K3, K4⟩, hKL⟩ := hT5c
    simp only [strs, List.map_cons, List.map_nil, List.cons_append, List.nil_append, List.cons.injEq, and_true] at hcells
    obtain ⟨rfl, rfl, rfl, rfl⟩ := hcells
    have HA5 := Lib.hid A3
    have HK5 := Lib.hid (And.intro K3 (And.intro K4 hKL))
    have HK12 := Lib.hid (And.intro K1 K2)
    have hxa2 : ∀ a ∈ xa, a.length = 1 + 1 := by have := hfit.1; unfold withDecl Tr.ok at this; exact fun a ha => this.2.1 a (by simp [ha])
    have hxal : L.length + xa.length ≤ 100000 := by
      have := hfit.2.2.1
      unfold withDecl Tr.few at this
      have h := this.1
      rw [List.length_append, declOf_len] at h
      exact h
    have HFIT := Lib.hid hfit
    have HXA := Lib.hid hxa2
    have HXL := Lib.hid hxal
    have HB6 := Lib.hid hb6
    have HS6 := Lib.hid hs6
    clear hs6 ho6 hbb hb5 hT5 m0 m1 m2 m3 m4 k0 k1 k2 k3 k4 A3 A4 K1 K2 K3 K4 hKL hb6 hB4 hxa2 hxal hfit hX1
    go_wp2_with fail
    go_loopw [8, 9, 10, 28] (fun lv _ _ i wr => ∃ (k : Nat) (p8 : Option Addr) (c8 : Nat), k ≤ L.length ∧ i = .int .i64 k ∧ lv = .slice p8 k c8 ∧ wr.ownsRow w6.heap.size 91 2 (.slice p8 k c8) k (acells ((declOf L).take k)) ∧ Below w6.heap.size w6 wr) (fun _ _ _ i _ => L.length - (intOf i).toNat)
    case atStart => exact ⟨0, _, 0, by omega, rfl, rfl, by rw [List.take_zero]; exact (RowZ.new 91 2 w6.heap.size w6 (Nat.le_refl _)).own, below_alloc1 _ _⟩
    case round =>
      obtain ⟨k, p8, c8, hk, rfl, rfl, hown, hbw⟩ := hrel
      have hb4w : Below w4.heap.size w4 wr := HB46.out.trans (hbw.mono HB46.out.size)
      by_cases hlt : k < L.length
      · obtain ⟨e1, o1, rfl, hcl⟩ := str_1 (HRM.out.keep (Below.keeps hb4w)) hlt
        have hlt' : (k : Int) < (L.length : Int) := by omega
        have hkL : k + 1 ≤ 1000000 := by have := HXL.out; omega
        have HDG := Lib.hid (show Calls Tryz.prog 51 #[.int .i64 (wrap64 ((k : Int) + 1))] wr (fun e w' => e = .returned (.string (bs (Lib.decDigits (k + 1)))) ∧ Below wr.heap.size wr w') from by rw [wrap_small k (by omega)]; exact rdig_any (k + 1) hkL wr)
        have hdl := rdd_len 6 (k + 1) (by omega)
        have hnx := declOf_take hlt
        have hpf : xmlnsL ++ 58 :: prefF k = [120, 109, 108, 110, 115, 58, 110] ++ Lib.decDigits (k + 1) := rfl
        rw [hpf] at hnx
        obtain ⟨d, hd⟩ : ∃ d, L[k] = d := ⟨_, rfl⟩
        rw [hd] at hnx hcl
        obtain ⟨S, hS⟩ : ∃ S, [120, 109, 108, 110, 115, 58, 110] ++ Lib.decDigits (k + 1) = S := ⟨_, rfl⟩
        have s1 : ∀ w, (Op.stringOp .add ⟨#[120, 109, 108, 110, 115, 58, 110]⟩ (bs (Lib.decDigits (k + 1)))).run Tryz.prog w = .ok (.string (bs S)) w := by rw [← hS]; exact fun w => run_str_add (P := Tryz.prog) w [120, 109, 108, 110, 115, 58, 110] (Lib.decDigits (k + 1)) (by simp; omega)
        rw [hS] at hnx
        generalize Lib.decDigits (k + 1) = DD at *
        have HNX := Lib.hid hnx
        have HOW := Lib.hid hown
        have HBW := Lib.hid hbw
        have hlw := hbw.size
        obtain ⟨i0, hi0, hy0, hy1, hy2⟩ := info_parts attr23_info
        have HLW := Lib.hid hlw
        clear hnx hpf hS hd hown hbw hb4w hdl hkL hlw
        go_wp2_with (first | (go_at_call 51; refine HDG.out.mono ?_; clear HDG; rintro e w7 ⟨rfl, hb7⟩; have HOW7 := Lib.hid (owns_below HOW.out hb7); have HBW7 := Lib.hid (HBW.out.trans (hb7.mono HBW.out.size)); have HL7 := Lib.hid hb7.size; clear hb7) | (at_builtin; refine wpList_app (.tmp 33) (.tmp 40) 47 rfl rfl w6.heap.size 91 i0 (.agg #[.string ⟨#[]⟩, .string ⟨#[]⟩]) 2 32 Tryz.underlying47 hi0 hy0 hy1 hy2 rfl (by decide) _ _ _ rfl (owns_below HOW7.out (below_alloc1 _ _)) _ _ _ [.string (bs S), .string (bs d)] rfl rfl (rd_at _ #[_, _] _ _ _ rfl) (by simp [Value.oneCell']) (by have := HXL.out; unfold maxLen; omega) (by have := HXL.out; omega) (by have := HLW.out; have := HL7.out; simp; omega) ?_))
        have hlw := HLW.out
        intro v9 w9 ho9 hg9
        obtain ⟨p9, c9, rfl, _, _, _⟩ := owns_rd ho9
        have HO9 := Lib.hid ho9
        have HB9 := Lib.hid ((HBW7.out.alloc HBW7.out.size (.cells #[.string (bs S), .string (bs d)] 91)).grown hg9 (by have := HL7.out; rw [World.size_alloc]; omega) (fun b hb => (HOW7.out.lt b hb).1))
        clear ho9 hg9
        go_wp2_with fail
        go_roundw
        case rel => exact ⟨k + 1, p9, c9, by omega, by rw [wrap_small k (by have := HXL.out; omega)]; rfl, rfl, by rw [HNX.out, acells_snoc]; exact HO9.out, HB9.out⟩
        case measure =>
          have hm : L.length - (k + 1) < L.length - k := by omega
          have h := wrap_small k (by have := HXL.out; omega)
          have HM := Lib.hid hm
          clear hm
          rw [h]
          exact HM.out
      · obtain rfl : k = L.length := by omega
        rw [List.take_of_length_le (by rw [declOf_len]; exact Nat.le_refl _)] at hown
        have hlw := hbw.size
        have hbo := HB6.out.below hbw HB6.out.lt
        have s1 := (hbo.cell 1).trans rfl
        have HOW := Lib.hid hown
        have HBW := Lib.hid hbw
        have HBO := Lib.hid hbo
        have HB5w : RowKit.Hid (Below w5.heap.size w5 wr) := Lib.hid (HB56.out.trans (hbw.mono HB56.out.size))
        obtain ⟨i0, hi0, hy0, hy1, hy2⟩ := info_parts attr23_info
        clear hown hbw hbo hb4w
        go_wp2_with (at_builtin; refine wpList_app (.tmp 43) (.tmp 45) 47 rfl rfl w6.heap.size 91 i0 (.agg #[.string ⟨#[]⟩, .string ⟨#[]⟩]) 2 32 Tryz.underlying47 hi0 hy0 hy1 hy2 rfl (by decide) _ _ _ rfl HOW.out _ _ _ (acells xa) rfl (acells_len2 HXA.out) (HA5.out.keep (Below.keeps HB5w.out)) (acells_one _) (by have := HXL.out; unfold maxLen; omega) (by have := HXL.out; omega) (by omega) ?_)
        intro v9 w9 ho9 hg9
        obtain ⟨p9, c9, rfl, hc9, hm9, _⟩ := owns_rd ho9
        have hbo9 := grown_blk2 hg9 HBO.out (fun e => by have := (HOW.out.lt _ e).1; have := HS6.out; omega)
        have f1 := hbo9.frozen 1
        have k1 := (hbo9.cell 1).trans rfl
        have HB9 := Lib.hid (HBW.out.grown hg9 (by omega) (fun b hb => (HOW.out.lt b hb).1))
        have HO9 := Lib.hid ho9
        have HBO9 := Lib.hid hbo9
        clear s1 ho9 hg9 hbo9
        have HSET := Lib.hid (HBO9.out.set_ 1 (.slice p9 (L.length + xa.length) c9))
        have HOZ := Lib.hid ((Only.refl w5.heap.size w9).set_ 1 (.slice p9 (L.length + xa.length) c9))
        have z0 := (HSET.out.cell 0).trans rfl
        have z1 := (HSET.out.cell 1).trans rfl
        have z2 := (HSET.out.cell 2).trans rfl
        have z3 := (HSET.out.cell 3).trans rfl
        have HLT6 := Lib.hid (show w5.heap.size < w6.heap.size from by have := HS6.out; omega)
        have HTW : RowKit.Hid (TrC (w9.setCell ⟨w5.heap.size, 1, none⟩ (.slice p9 (L.length + xa.length) c9)) (Bt w4.heap.size (w9.setCell ⟨w5.heap.size, 1, none⟩ (.slice p9 (L.length + xa.length) c9)).heap.size none) (withDecl L (.node [x0] xa xk xt)) [.string (bs x0), .slice p9 (L.length + xa.length) c9, .slice qk xk.length dk, .string (bs xt)]) := Lib.hid (by
          have hz : (w9.setCell ⟨w5.heap.size, 1, none⟩ (.slice p9 (L.length + xa.length) c9)).heap.size = w9.heap.size := HOZ.out.size
          have h56 := HLT6.out
          have h59 : Below w5.heap.size w5 (w9.setCell ⟨w5.heap.size, 1, none⟩ (.slice p9 (L.length + xa.length) c9)) := (HB56.out.trans (HB9.out.mono HB56.out.size)).trans (HOZ.out.below (Nat.le_refl _))
          have hs45 : w4.heap.size ≤ w5.heap.size := hs5
          have hs69 := HB9.out.size
          obtain ⟨K3, K4, KL⟩ := HK5.out
          have ho := HOZ.out.owns2 HO9.out h56
          rw [← acells_app] at ho
          obtain ⟨pp, cc, he, ho1, ho2, ho3, ho4⟩ := owns_rdP ho
          cases he
          unfold withDecl TrC
          rw [List.length_append, declOf_len]
          refine ⟨p9, c9, qk, dk, cks, rfl, ⟨ho1, ho2, ho3, fun a ha => ⟨by have := (ho4 a ha).1; omega, (ho4 a ha).2, by simp⟩⟩, ⟨HK12.out.1, HK12.out.2, K3.keep (Below.keeps h59), fun a ha => ⟨(K4 a ha).1, by have := (K4 a ha).2.1; omega, by simp⟩⟩, (KL.below h59).imp fun b hb => ⟨hb.1, by have := hb.2.1; omega, by simp⟩⟩)
        have HBZ := Lib.hid ((HB46.out.trans (HB9.out.mono HB46.out.size)).trans (HOZ.out.below (by omega : w4.heap.size ≤ w5.heap.size)))
        have HWZ := Lib.hid (HBW4.out.trans (HBZ.out.mono HBW4.out.size))
        obtain ⟨wz, hwz⟩ : ∃ wz, wz = w9.setCell ⟨w5.heap.size, 1, none⟩ (.slice p9 (L.length + xa.length) c9) := ⟨_, rfl⟩
        rw [← hwz] at HSET HTW HBZ HWZ z0 z1 z2 z3
        have hsety : Blk wz w5.heap.size 50 #[.string (bs x0), .slice p9 (L.length + xa.length) c9, .slice qk xk.length dk, .string (bs xt)] := HSET.out
        have HSETY := Lib.hid hsety
        clear hsety
        have h46 := (HNO6.out).lt
        have HRESZ := Lib.hid ((HRES6.out.below HB9.out HRES6.out.lt))
        have HBXZ := Lib.hid (HBX6.out.below HB9.out HBX6.out.lt)
        have HNOZ := Lib.hid (HNO6.out.below HB9.out HNO6.out.lt)
        have h2lt := HRES6.out.lt
        have h3lt6 := HNO6.out.lt
        have hg5 : w.heap.size + 1 + 1 < w5.heap.size := by omega
        have HRESY : RowKit.Hid (Blk wz (w.heap.size + 1) 50 #[.string ⟨#[]⟩, .slice none 0 0, .slice none 0 0, .string ⟨#[]⟩]) := Lib.hid (by rw [hwz]; exact HOZ.out.blk HRESZ.out (by omega))
        have HNOY : RowKit.Hid (Blk wz (w.heap.size + 1 + 1) 50 #[.string ⟨#[]⟩, .slice none 0 0, .slice none 0 0, .string ⟨#[]⟩]) := Lib.hid (by rw [hwz]; exact HOZ.out.blk HNOZ.out (by omega))
        have HBXY : RowKit.Hid (Blk wz w.heap.size 44 #[c0, c1, c2, c3, c4]) := Lib.hid (by rw [hwz]; exact HOZ.out.blk HBXZ.out (by omega))
        have HRSV := Lib.hid (rResolve_any (withDecl L (.node [x0] xa xk xt)) _ _ wz HFIT.out.1 HFIT.out.2.1 HFIT.out.2.2.1 HFIT.out.2.2.2.1 HFIT.out.2.2.2.2 HTW.out)
        have hrok := fun (b : Tr) (h : resolveF (withDecl L (.node [x0] xa xk xt)) = some b) => (resolve_ok HFIT.out.2.2.1 h).1
        have HROK := Lib.hid hrok
        generalize withDecl L (.node [x0] xa xk xt) = Y at *
        generalize resolveF Y = O at *
        rw [hwz] at z0 z1 z2 z3 HRSV
        have HWZE := Lib.hid hwz
        clear hwz hrok hg5 h2lt h3lt6 h46
        cases O with
        | none =>
          obtain rfl : R = none := HXR.out.symm
          have HRN := Lib.hid (HRSV.out.mono (R' := fun e w' => e = .returned (.tuple #[.agg #[.string ⟨#[]⟩, .string ⟨#[]⟩, .slice none 0 0, .slice none 0 0, .string ⟨#[]⟩], .int .i64 4]) ∧ Below _ _ w') fun e w' h => h.2.elim (fun ⟨_, _, _, _, _, _, h1, _⟩ => by cases h1) fun h2 => ⟨h2.2, h.1⟩)
          clear HRSV HSM
          go_wp2_with (first | (go_at_call 14; refine HRN.out.mono ?_; clear HRN; rintro e wa ⟨rfl, hba⟩; rw [← HWZE.out] at hba; have hba2 := hba.trans ((below_alloc1 wa (.cells #[.string ⟨#[]⟩, .string ⟨#[]⟩, .slice none 0 0, .slice none 0 0, .string ⟨#[]⟩] 44)).mono hba.size); have hno := HNOY.out.below hba2 HNOY.out.lt; have t0 := (hno.cell 0).trans rfl; have t1 := (hno.cell 1).trans rfl; have t2 := (hno.cell 2).trans rfl; have t3 := (hno.cell 3).trans rfl; have HRES := Lib.hid (HRESY.out.below hba2 HRESY.out.lt); have HBA := Lib.hid (HWZ.out.trans (hba2.mono HWZ.out.size)); clear hno hba hba2 z0 z1 z2 z3) | (with_reducible refine at_sto 2 61 ?_; refine wpList_store (.tmp 2) (.tmp 61) 50 rfl rfl (w.heap.size + 1) 0 _ _ #[.string ⟨#[]⟩, .slice none 0 0, .slice none 0 0, .string ⟨#[]⟩] rfl rfl HRES.out (by kernel_rfl) (by simp [Value.oneCell']) (by simp) ?_))
          intro w8 hb8 ho8
          have hb8 : Blk w8 (w.heap.size + 1) 50 #[.string ⟨#[]⟩, .slice none 0 0, .slice none 0 0, .string ⟨#[]⟩] := hb8
          have z0 := (hb8.cell 0).trans rfl
          have z1 := (hb8.cell 1).trans rfl
          have z2 := (hb8.cell 2).trans rfl
          have z3 := (hb8.cell 3).trans rfl
          have HO8 := Lib.hid ho8
          clear hb8 ho8
          go_wp2_with fail
          refine bodyPost_ret (v := .tuple #[.agg #[.string ⟨#[]⟩, .slice none 0 0, .slice none 0 0, .string ⟨#[]⟩], .int .i64 4]) (by simp [results, Tryz.results21, go_sem, z0, z1, z2, z3]) rfl ?_
          exact ⟨HBA.out.trans (HO8.out.below (by omega)), .inr ⟨rfl, rfl⟩⟩
        | some b =>
          have hb2 := HROK.out b rfl
          have hXR2 : (if b.eqb x = true then some Y else none) = R := HXR.out
          have HRN := Lib.hid (HRSV.out.mono (R' := fun e w' => ∃ g0 g1 g2 g3 g4, e = .returned (.tuple #[.agg #[g0, g1, g2, g3, g4], .int .i64 0]) ∧ TrC w' (fun q => 0 ≤ q ∧ q < w'.heap.size) b [g0, g1, g2, g3, g4] ∧ Below _ _ w') fun e w' h => h.2.elim (fun ⟨y, g0, g1, g2, g3, g4, h1, h2, h3⟩ => by
            cases h1
            exact ⟨g0, g1, g2, g3, g4, h2, h3.imp fun _ hq => ⟨Nat.zero_le _, hq.2.1⟩, h.1⟩) fun h2 => by cases h2.1)
          clear HRSV
          go_wp2_with (first | (go_at_call 14; refine HRN.out.mono ?_; clear HRN; rintro e wa ⟨g0, g1, g2, g3, g4, rfl, hTb, hba⟩; rw [← HWZE.out] at hba; have hone := hTb.one; have u0 := hone g0 (by simp); have u1 := hone g1 (by simp); have u2 := hone g2 (by simp); have u3 := hone g3 (by simp); have u4 := hone g4 (by simp); have HNA := Lib.hid (Blk.new wa 44 #[.string ⟨#[]⟩, .string ⟨#[]⟩, .slice none 0 0, .slice none 0 0, .string ⟨#[]⟩]); clear hone) | (with_reducible refine at_sto 11 51 ?_; refine wpList_store (.tmp 11) (.tmp 51) 44 rfl rfl wa.heap.size 0 _ _ #[g0, g1, g2, g3, g4] rfl rfl HNA.out (by kernel_rfl) (by simp; exact ⟨u0, u1, u2, u3, u4⟩) (by simp) ?_))
          intro wb hbB hoB
          have hbB : Blk wb wa.heap.size 44 #[g0, g1, g2, g3, g4] := hbB
          have hba2 := hba.trans ((below_alloc1 wa (.cells #[.string ⟨#[]⟩, .string ⟨#[]⟩, .slice none 0 0, .slice none 0 0, .string ⟨#[]⟩] 44)).mono hba.size)
          have hsz := hba.size
          have hbz : Below wz.heap.size wz wb := hba2.trans (hoB.below hsz)
          have hwb := HWZ.out.trans (hbz.mono HWZ.out.size)
          have y0 := (hbB.cell 0).trans rfl
          have y1 := (hbB.cell 1).trans rfl
          have y2 := (hbB.cell 2).trans rfl
          have y3 := (hbB.cell 3).trans rfl
          have y4 := (hbB.cell 4).trans rfl
          have hbx := HBXY.out.below hbz HBXY.out.lt
          have d0 := (hbx.cell 0).trans rfl
          have d1 := (hbx.cell 1).trans rfl
          have d2 := (hbx.cell 2).trans rfl
          have d3 := (hbx.cell 3).trans rfl
          have d4 := (hbx.cell 4).trans rfl
          have HS := Lib.hid (HSM.out b _ [g0, g1, g2, g3, g4] wb hb2 hwb ((hTb.below (below_alloc1 wa (.cells #[.string ⟨#[]⟩, .string ⟨#[]⟩, .slice none 0 0, .slice none 0 0, .string ⟨#[]⟩] 44))).only hoB (fun q hq => by have := hq.2; omega)))
          have HSETB := Lib.hid (HSETY.out.below hbz HSETY.out.lt)
          have HNOB := Lib.hid (HNOY.out.below hbz HNOY.out.lt)
          have HRESB := Lib.hid (HRESY.out.below hbz HRESY.out.lt)
          have HTB := Lib.hid (HTW.out.below hbz)
          have HWB := Lib.hid hwb
          have HB4B := Lib.hid (HBZ.out.size)
          have HZB := Lib.hid hbz.size
          clear hbB hoB hba hba2 hbz hwb hbx hTb z0 z1 z2 z3
          obtain ⟨q, hq⟩ : ∃ q, b.eqb x = q := ⟨_, rfl⟩
          rw [hq] at HS hXR2
          clear hq
          cases q
          · obtain rfl : none = R := hXR2
            go_wp2_with (first | (go_at_call 16; refine HS.out.mono ?_; clear HS; rintro e wc ⟨rfl, hbc⟩; have HWC := Lib.hid (HWB.out.trans (hbc.mono HWB.out.size)); have hn := HNOB.out.below hbc HNOB.out.lt; have t0 := (hn.cell 0).trans rfl; have t1 := (hn.cell 1).trans rfl; have t2 := (hn.cell 2).trans rfl; have t3 := (hn.cell 3).trans rfl; have HRES := Lib.hid (HRESB.out.below hbc HRESB.out.lt); clear hn; clear hbc) | (with_reducible refine at_sto 2 61 ?_; refine wpList_store (.tmp 2) (.tmp 61) 50 rfl rfl (w.heap.size + 1) 0 _ _ #[.string ⟨#[]⟩, .slice none 0 0, .slice none 0 0, .string ⟨#[]⟩] rfl rfl HRES.out (by kernel_rfl) (by simp [Value.oneCell']) (by simp) ?_))
            intro w8 hb8 ho8
            have hb8 : Blk w8 (w.heap.size + 1) 50 #[.string ⟨#[]⟩, .slice none 0 0, .slice none 0 0, .string ⟨#[]⟩] := hb8
            have z0 := (hb8.cell 0).trans rfl
            have z1 := (hb8.cell 1).trans rfl
            have z2 := (hb8.cell 2).trans rfl
            have z3 := (hb8.cell 3).trans rfl
            have HO8 := Lib.hid ho8
            clear hb8 ho8
            go_wp2_with fail
            refine bodyPost_ret (v := .tuple #[.agg #[.string ⟨#[]⟩, .slice none 0 0, .slice none 0 0, .string ⟨#[]⟩], .int .i64 4]) (by simp [results, Tryz.results21, go_sem, z0, z1, z2, z3]) rfl ?_
            exact ⟨HWC.out.trans (HO8.out.below (by omega)), .inr ⟨rfl, rfl⟩⟩
          · obtain rfl : some Y = R := hXR2
            go_wp2_with (first | (go_at_call 16; refine HS.out.mono ?_; clear HS; rintro e wc ⟨rfl, hbc⟩; have HWC := Lib.hid (HWB.out.trans (hbc.mono HWB.out.size)); have hn := HSETB.out.below hbc HSETB.out.lt; have t0 := (hn.cell 0).trans rfl; have t1 := (hn.cell 1).trans rfl; have t2 := (hn.cell 2).trans rfl; have t3 := (hn.cell 3).trans rfl; have HRES := Lib.hid (HRESB.out.below hbc HRESB.out.lt); have HTC := Lib.hid (HTB.out.below hbc); have hcs := hbc.size; clear hn; clear hbc) | (with_reducible refine at_sto 2 62 ?_; refine wpList_store (.tmp 2) (.tmp 62) 50 rfl rfl (w.heap.size + 1) 0 _ _ #[.string (bs x0), .slice p9 (L.length + xa.length) c9, .slice qk xk.length dk, .string (bs xt)] rfl rfl HRES.out (by kernel_rfl) (by simp [Value.oneCell']) (by simp) ?_))
            intro w8 hb8 ho8
            have hb8 : Blk w8 (w.heap.size + 1) 50 #[.string (bs x0), .slice p9 (L.length + xa.length) c9, .slice qk xk.length dk, .string (bs xt)] := hb8
            have z0 := (hb8.cell 0).trans rfl
            have z1 := (hb8.cell 1).trans rfl
            have z2 := (hb8.cell 2).trans rfl
            have z3 := (hb8.cell 3).trans rfl
            have HO8 := Lib.hid ho8
            clear hb8 ho8
            go_wp2_with fail
            refine bodyPost_ret (v := .tuple #[.agg #[.string (bs x0), .slice p9 (L.length + xa.length) c9, .slice qk xk.length dk, .string (bs xt)], .int .i64 0]) (by simp [results, Tryz.results21, go_sem, z0, z1, z2, z3]) rfl ?_
            exact ⟨HWC.out.trans (HO8.out.below (by omega)), .inl ⟨Y, _, _, _, _, rfl, rfl, (HTC.out.only HO8.out (fun q hq => by have := hq.1; have := HBW4.out.size; omega)).imp fun q hq => ⟨by have := hq.1; have := HBW4.out.size; omega, by have := hq.2.1; have := HO8.out.size; have := HZB.out; omega, by simp⟩⟩⟩
end Go.Proofs.YtkghpmpmcafhkaaGreatDoor
namespace Go.Proofs.YtkghpmpmcafhkaaGreatDoor
set_option maxHeartbeats 600000
set_option maxRecDepth 20000
open Go.RowKit
mutual
theorem ssz_le {L M : Nat} (h : L ≤ M) : ∀ x : Tr, x.ssz L → x.ssz M
  | .node nm ats ks t, hx => by
    unfold Tr.ssz at hx ⊢
    exact ⟨fun s hs => Nat.le_trans (hx.1 s hs) h, fun a ha s hs => Nat.le_trans (hx.2.1 a ha s hs) h, Nat.le_trans hx.2.2.1 h, sszL_le h ks hx.2.2.2⟩
theorem sszL_le {L M : Nat} (h : L ≤ M) : ∀ ks : List Tr, Tr.sszL L ks → Tr.sszL M ks
  | [], _ => by unfold Tr.sszL; trivial
  | k :: ks, hx => by
    unfold Tr.sszL at hx ⊢
    exact ⟨ssz_le h k hx.1, sszL_le h ks hx.2⟩
end
theorem fits_of {x y : Tr} (hx : x.ok 2) (hc : x.cap 20 200) (hs : x.sz ≤ 30) (h : x.wri (x.meet []) = some y) : Fits (withDecl (x.meet []) y) := by
  have hn := cap_nms x hc
  have hn2 : x.sz * (20 + 1) ≤ 30 * 21 := Nat.mul_le_mul_right _ hs
  have hl : (x.meet []).length ≤ 630 := by
    rw [meet_nms x [] hx]
    have := met_len x.nms []
    simp only [List.length_nil] at this
    omega
  have hm : ∀ s ∈ x.meet [], s.length ≤ 206 := by
    rw [meet_nms x [] hx]
    exact met_small x.nms [] (by simp) fun n hn s hs => Nat.le_trans (ssz_nms x (cap_ssz x hc) n hn s hs) (by omega)
  obtain ⟨h1, h2, h3⟩ := wri_cap (by omega) x y h hc
  obtain ⟨g1, g2, g3⟩ := with_cap (B := 630) (by omega) (by omega) hl hm h1 h3
  have := cap_all g1 (N := 30) (by omega) (by omega) (by omega) (by omega) (by omega)
  exact ⟨g2, this.2.1, this.2.2.1, this.2.2.2.2.1, this.2.2.2.2.2.2⟩
end Go.Proofs.YtkghpmpmcafhkaaGreatDoor
