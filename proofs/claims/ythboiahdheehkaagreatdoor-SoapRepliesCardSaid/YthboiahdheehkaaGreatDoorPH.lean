/- PhiXB -/
import Derived.Test.YthboiahdheehkaaGreatDoorBB
import Derived.Test.YthboiahdheehkaaGreatDoorPG
import Derived.Test.YthboiahdheehkaaGreatDoorPD
open List renaming setIfInBounds_toArray → lA, set_cons_succ → lB, set_cons_zero → lC, cons_append → lD, nil_append → lE, length_append → lF, take_append_drop → lJ, take_succ_cons → lK, drop_succ_cons → lL, take_of_length_le → lQ
open Go.Lib renaming hid → hI
open Exists renaming intro → xI
open Nat renaming le_refl → nR
open Go.Proofs.Tryz renaming prog → pG
open Go.Value renaming string → S
open Go.Obj renaming cells → B
namespace Go.Proofs.YthboiahdheehkaaGreatDoor
section
set_option maxHeartbeats 8000000
set_option maxRecDepth 20000
open Go.RowKit
attribute [local go_sem] bs_toList
theorem eqNm (a0 a1 b0 b1 : List UInt8) (w : World) : (binOp .eql 41 (.agg #[S (bs a0), S (bs a1)]) (.agg #[S (bs b0), S (bs b1)])).run pG w = .ok (.bool ((a0 == b0) && (a1 == b1))) w := by
 cases h0 : (a0 == b0)
 ·go_simp
 ·skip
  cases h1 : (a1 == b1) <;> go_simp
theorem sclo_any (x y z n0 n1 : List UInt8) (b : Nat) (w : World) (hc : w.cell? ⟨b, 0, none⟩ = some (S (bs n0))) (hd : w.cell? ⟨b, 1, none⟩ = some (S (bs n1))) :
  Calls pG 194 #[.agg #[S (bs x), S (bs y), S (bs z)], .pointer (some ⟨b, 0, none⟩)] w (Gives w (.bool (x == n0 && y == n1))) := by
 have HB := hI (below_alloc1 w (B #[S (bs x), S (bs y), S (bs z)] 87))
 have hN := Blk.new w 87 #[S (bs x), S (bs y), S (bs z)]
 obtain ⟨c0, c1, -⟩ := hN.cc
 have hc1 := Below.keeps (below_alloc1 w (B #[S (bs x), S (bs y), S (bs z)] 87)) _ _ hc
 have hd1 := Below.keeps (below_alloc1 w (B #[S (bs x), S (bs y), S (bs z)] 87)) _ _ hd
 have pe := fun w => eqNm x y n0 n1 w
 clear hN hc hd
 unfold Gives
 obtain ⟨R, hR⟩ : ∃ R, (x == n0 && y == n1) = R := ⟨_, rfl⟩
 rw [hR]
 simp only [hR] at pe
 clear hR
 go_enter Tryz.func194, Tryz.ntmps194
 go_wp2_with fail
 go_ret
 exact ⟨rfl, HB.out⟩
def hasN (ats : List (List (List UInt8))) (n0 n1 : List UInt8) : Bool := ats.any fun a => a.getD 0 [] == n0 && a.getD 1 [] == n1
theorem sidx_any (pa : Option Addr) (ca n b : Nat) (ats : List (List (List UInt8))) (n0 n1 : List UInt8) (w : World) (hk : ∀ a ∈ ats, a.length = 2 + 1) (hn : n ≤ ats.length) (hA : Rd w pa (acells ats)) (hca : ca ≤ maxLen) (hnc : n ≤ ca) (hc : w.cell? ⟨b, 0, none⟩ = some (S (bs n0))) (hd : w.cell? ⟨b, 1, none⟩ = some (S (bs n1))) :
  Calls pG 186 #[.slice pa n ca, .func (.func 194) #[] #[.pointer (some ⟨b, 0, none⟩)]] w fun e w' => ∃ z : Int, e = .returned (.int .i64 z) ∧ decide (0 ≤ z) = hasN (ats.take n) n0 n1 ∧ Below w.heap.size w w' := by
 have HA := hI hA
 have HK := hI hk
 have HC := hI hc
 have HD := hI hd
 unfold maxLen at hca
 clear hA hk hc hd
 go_enter Tryz.func186, Tryz.ntmps186
 go_wp2_with fail
 go_loopw [8] (fun i wr => ∃ j : Nat, j ≤ n ∧ i = .int .i64 j ∧ hasN (ats.take j) n0 n1 = false ∧ Below w.heap.size w wr) (fun i _ => n - (intOf i).toNat)
 case atStart => exact ⟨0, by omega, rfl, rfl, Below.refl _ _⟩
 case round =>
  obtain ⟨j, hj, rfl, hno, hbw⟩ := hrel
  by_cases hlt : j < n
  ·obtain ⟨e1, o1, x0, x1, x2, rfl, hgx, hx0, hx1, hx2⟩ := at_2 HA.out HK.out (show j < ats.length by omega)
   have hx0 := Below.keeps hbw _ _ hx0
   have hx1 := Below.keeps hbw _ _ hx1
   have hx2 := Below.keeps hbw _ _ hx2
   have HCL := hI (sclo_any x0 x1 x2 n0 n1 b wr (Below.keeps hbw _ _ HC.out) (Below.keeps hbw _ _ HD.out))
   have hlt' : (j : Int) < (n : Int) := by omega
   have hst : hasN (ats.take (j + 1)) n0 n1 = (x0 == n0 && x1 == n1) := by
    unfold hasN at hno ⊢
    rw [List.take_succ_eq_append_getElem (show j < ats.length by omega), List.any_append, hno, hgx]
    simp
   have HST := hI hst
   clear hst hno
   have hcf := fun xs w => (show (callFunc 194 xs).run pG w = .ok (.enter 194 xs) w from by kernel_rfl)
   cases hE : (x0 == n0 && x1 == n1)
   all_goals
    rw [hE] at HCL HST
    go_wp2_with (go_at_call 194; refine HCL.out.mono ?_; rintro e w2 ⟨rfl, hb⟩)
   ·have hb2 := hbw.trans (hb.mono hbw.size)
    go_roundw
    case rel => exact ⟨j + 1, by omega, by go_num, HST.out, hb2⟩
    case measure => simp [intOf]; omega
   ·have hb2 := hbw.trans (hb.mono hbw.size)
    have hfin : hasN (ats.take n) n0 n1 = true := by
     have h := HST.out
     unfold hasN at h ⊢
     rw [List.any_eq_true] at h ⊢
     obtain ⟨z, h1, h2⟩ := h
     exact ⟨z, List.take_subset_take_left _ (by omega) h1, h2⟩
    go_ret
    exact ⟨(j : Int), rfl, by rw [hfin]; simp, hb2⟩
  ·obtain rfl : j = n := by omega
   go_wp2_with fail
   go_ret
   exact ⟨-1, rfl, by rw [hno]; rfl, hbw⟩
theorem scont_any (pa : Option Addr) (ca n b : Nat) (ats : List (List (List UInt8))) (n0 n1 : List UInt8) (w : World) (hk : ∀ a ∈ ats, a.length = 2 + 1) (hn : n ≤ ats.length) (hA : Rd w pa (acells ats)) (hca : ca ≤ maxLen) (hnc : n ≤ ca) (hc : w.cell? ⟨b, 0, none⟩ = some (S (bs n0))) (hd : w.cell? ⟨b, 1, none⟩ = some (S (bs n1))) :
  Calls pG 193 #[.slice pa n ca, .func (.func 194) #[] #[.pointer (some ⟨b, 0, none⟩)]] w (Gives w (.bool (hasN (ats.take n) n0 n1))) := by
 have HI := hI (sidx_any pa ca n b ats n0 n1 w hk hn hA hca hnc hc hd)
 clear hk hA hc hd
 unfold Gives
 obtain ⟨R, hR⟩ : ∃ R, hasN (ats.take n) n0 n1 = R := ⟨_, rfl⟩
 rw [hR] at HI ⊢
 clear hR
 go_enter Tryz.func193, Tryz.ntmps193
 go_wp2_with (go_at_call 186; refine HI.out.mono ?_; rintro e w2 ⟨z, rfl, hz, hb⟩)
 go_ret
 exact ⟨rfl, hb⟩
end
section
set_option maxHeartbeats 8000000
set_option maxRecDepth 20000
open Go.RowKit
attribute [local go_sem] bs_toList
theorem atSp_eq (ds : Decls) (n v : List UInt8) : atSp ds [n, v] = match declF [n, v] with
  | none => none
  | some (some _) => some none
  | some none => if ((splitF n).1 == [] || !((splitF n).2 == [120, 109, 108, 110, 115])) = true then (nameSp ds n true).map fun m => some (m ++ [v]) else none := by
 unfold atSp
 cases declF [n, v] with
 | none => rfl
 | some d =>
  cases d with
  | some p => rfl
  | none =>
   show (if (splitF n).1 ≠ [] ∧ (splitF n).2 = xmlnsL then none else (nameSp ds n true).map fun m => some (m ++ [v])) = _
   unfold xmlnsL
   by_cases h1 : (splitF n).1 = []
   ·rw [if_neg (fun h => h.1 h1), if_pos (by rw [h1]; rfl)]
   ·by_cases h2 : (splitF n).2 = [120, 109, 108, 110, 115]
    ·rw [if_pos ⟨h1, h2⟩, if_neg (by rw [h2]; simp [h1])]
    ·rw [if_neg (fun h => h2 h.2), if_pos (by simp [h2])]
theorem atsSp_drop {ds : Decls} {out ats : List (List (List UInt8))} {i : Nat} (h : i < ats.length) : atsSp ds out (ats.drop i) = match atSp ds ats[i] with
  | none => none
  | some none => atsSp ds out (ats.drop (i + 1))
  | some (some x) => if out.any (fun b => b.take 2 == x.take 2) then none else atsSp ds (out ++ [x]) (ats.drop (i + 1)) := by
 rw [List.drop_eq_getElem_cons h]
 conv => lhs; unfold atsSp
 rfl
theorem any_hasN {out : List (List (List UInt8))} (h : ∀ a ∈ out, a.length = 2 + 1) (n0 n1 x : List UInt8) : out.any (fun b => b.take 2 == [n0, n1, x].take 2) = hasN out n0 n1 := by
 unfold hasN
 induction out with
 | nil => rfl
 | cons a l ih =>
  rw [List.any_cons, List.any_cons, ih (fun b hb => h b (by simp [hb]))]
  obtain ⟨a0, a1, a2, rfl⟩ := three_of (h a (by simp))
  congr 1
  rw [Bool.eq_iff_iff]
  simp
theorem nameSp_two {ds : Decls} {s : List UInt8} {attr : Bool} : nameSp ds s attr = none ∨ ∃ a b, nameSp ds s attr = some [a, b] := by
 rw [nameSp_eq]
 repeat' split
 ·exact .inl rfl
 ·exact .inr ⟨_, _, rfl⟩
 ·exact .inr ⟨_, _, rfl⟩
 ·exact .inl rfl
theorem owns_only {g base size n : Nat} {e : TypeId} {v : Value} {xs : List Value} {w w' : World} (k : Only g w w') (ho : w.ownsRow base e size v n xs) (hg : ∀ b, v.ownBlock = some b → b ≠ g) : w'.ownsRow base e size v n xs :=
 ho.kept (row := some g) ⟨k.os, k.tape, k.output, by rw [k.size]; exact nR _, fun i hi hn => k.block i (fun e => hn (by rw [e]))⟩ (by
  cases hv : v.ownBlock with
  | none => exact .inl rfl
  | some b =>
   right
   intro e
   cases e
   exact hg _ hv rfl)
def PNm (O : Option (List (List UInt8))) (sp q : List UInt8) : Part := ⟨fun v => v = .agg #[S (bs sp), S (bs q)], fun _ _ => O ≠ none⟩
theorem attr2_info : (pG.info? 87).map (fun i => (i.zero, i.size, i.bytes)) = some (some (.agg #[S ⟨#[]⟩, S ⟨#[]⟩, S ⟨#[]⟩]), 3, 48) := by kernel_rfl
theorem sattrs_any (E : Nat → Addr) (ls : List Decls) (v : Value) (pa : Option Addr) (ca : Nat) (ats : List (List (List UInt8))) (w : World) (hsc : ScC w v ls) (hk : ∀ a ∈ ats, a.length = 1 + 1) (hs : ∀ a ∈ ats, ∀ s ∈ a, shS s) (hA : Rd w pa (acells ats)) (hca : ca ≤ maxLen) (hnc : ats.length ≤ ca) (hna : ats.length ≤ 100000) (hg : LibG w) (hE : Errs w E) :
  Calls pG 143 #[v, .slice pa ats.length ca] w fun e w' => Below w.heap.size w w' ∧ ((∃ out v', atsSp (allD ls) [] ats = some out ∧ e = .returned v' ∧ (∀ a ∈ out, a.length = 2 + 1) ∧ out.length ≤ ats.length ∧ w'.ownsRow w.heap.size 87 3 v' out.length (acells out)) ∨ (atsSp (allD ls) [] ats = none ∧ e = .panicked (panE E 3))) := by
 have HA := hI hA
 have HK := hI hk
 have HG := hI hg
 have HE := hI hE
 have HS := hI hs
 have HSC := hI hsc
 have hca' := hca
 unfold maxLen at hca'
 obtain ⟨va, rfl⟩ := hsc.one
 obtain ⟨R, hR⟩ : ∃ R, atsSp (allD ls) [] ats = R := ⟨_, rfl⟩
 rw [hR]
 have HR := hI hR
 clear hA hk hg hs hE hsc hR
 go_enter Tryz.func143, Tryz.ntmps143
 go_wp2_with fail
 go_loopw [5, 15] (fun o i wr => ∃ (j : Nat) (out : List (List (List UInt8))), j ≤ ats.length ∧ i = .int .i64 j ∧ atsSp (allD ls) out (ats.drop j) = R ∧ (∀ a ∈ out, a.length = 2 + 1) ∧ out.length ≤ j ∧ wr.ownsRow w.heap.size 87 3 o out.length (acells out) ∧ Below w.heap.size w wr) (fun _ i _ => ats.length - (intOf i).toNat)
 case atStart => exact ⟨0, [], by omega, rfl, HR.out, by simp, nR _, World.ownsRow_nil _ _ _ _, Below.refl _ _⟩
 case round =>
  obtain ⟨j, out, hj, rfl, hat, hol, hoj, hown, hbw⟩ := hrel
  by_cases hlt : j < ats.length
  ·obtain ⟨e1, o1, x0, x1, rfl, hgx, hx0, hx1⟩ := at_1 HA.out HK.out hlt
   have hx0 := Below.keeps hbw _ _ hx0
   have hx1 := Below.keeps hbw _ _ hx1
   have hlt' : (j : Int) < (ats.length : Int) := by omega
   have hx0s : shS x0 := HS.out _ (List.getElem_mem hlt) x0 (by rw [hgx]; simp)
   rw [atsSp_drop hlt, hgx, atSp_eq] at hat
   have hbA := hbw.alloc hbw.size (B #[S (bs x0), S (bs x1)] 186)
   have HD := hI (decl_any E x0 x1 hx0s _ (HG.out.below hbA) (HE.out.below hbA))
   have HNA := hI (Blk.new wr 186 #[S (bs x0), S (bs x1)])
   have HOW := hI (owns_below hown (below_alloc1 wr (B #[S (bs x0), S (bs x1)] 186)))
   have HBA := hI hbA
   have HOL := hI hol
   obtain ⟨c0, c1, -⟩ := HNA.out.cc
   have hown1 := hown
   obtain ⟨po, co, rfl, ho1, ho2, -⟩ := owns_rd hown1
   have HHO := hI (fun b hb => (hown.lt b hb).2)
   clear hgx hown hown1 hbw hbA hol
   cases hO : declF [x0, x1] with
   | none =>
    rw [hO] at HD hat
    have HR0 : RowKit.Hid (R = none) := hI hat.symm
    clear hat
    go_wp2_with (go_at_call 189; refine (HD.out.mono fun _ _ h => h.no).mono ?_; rintro e w2 ⟨rfl, hb2⟩)
    exact ⟨rfl, HBA.out.trans (hb2.mono HBA.out.size), .inr ⟨HR0.out, rfl⟩⟩
   | some d =>
    rw [hO] at HD hat
    clear hO
    cases d with
    | some q =>
     have HAT := hI hat
     have HD2 := hI (HD.out.mono (R' := fun e w' => e = .returned (.tuple #[S (bs q), .bool true]) ∧ Below (wr.alloc (B #[S (bs x0), S (bs x1)] 186)).heap.size (wr.alloc (B #[S (bs x0), S (bs x1)] 186)) w') fun _ _ h => h.ok)
     clear hat
     go_wp2_with (go_at_call 189; refine HD2.out.mono ?_; rintro e w2 ⟨rfl, hb2⟩)
     go_roundw
     case rel => exact ⟨j + 1, out, by omega, by go_num, HAT.out, HOL.out, by omega, owns_below HOW.out hb2, HBA.out.trans (hb2.mono HBA.out.size)⟩
     case measure => simp [intOf]; omega
    | none =>
     have HD2 := hI (HD.out.mono (R' := fun e w' => e = .returned (.tuple #[S ⟨#[]⟩, .bool false]) ∧ Below (wr.alloc (B #[S (bs x0), S (bs x1)] 186)).heap.size (wr.alloc (B #[S (bs x0), S (bs x1)] 186)) w') fun _ _ h => h.ok)
     dsimp only at hat
     have HSP := hI (fun w2 (hb2 : Below (wr.alloc (B #[S (bs x0), S (bs x1)] 186)).heap.size (wr.alloc (B #[S (bs x0), S (bs x1)] 186)) w2) => split_any x0 hx0s w2 (HG.out.below (HBA.out.trans (hb2.mono HBA.out.size))))
     have HFN := hI (fun w2 (hb2 : Below (wr.alloc (B #[S (bs x0), S (bs x1)] 186)).heap.size (wr.alloc (B #[S (bs x0), S (bs x1)] 186)) w2) => sfail_n w2 E (HE.out.below (HBA.out.trans (hb2.mono HBA.out.size))))
     have HNM := hI (fun w2 (hb2 : Below w.heap.size w w2) => sname_any E ls (.pointer va) x0 hx0s true w2 (HSC.out.below hb2) (HG.out.below hb2) (HE.out.below hb2))
     have hO2 := nameSp_two (ds := allD ls) (s := x0) (attr := true)
     generalize nameSp (allD ls) x0 true = O at *
     generalize (splitF x0).1 = p at *
     generalize (splitF x0).2 = q at *
     have hp0 : p.isEmpty = (p == []) := by cases p <;> rfl
     have hp1 : (bs p).toList.isEmpty = (p == []) := isE_bs p
     obtain ⟨cd, hcd⟩ : ∃ cd, (p == [] || !(q == [120, 109, 108, 110, 115])) = cd := ⟨_, rfl⟩
     rw [hcd] at hat
     have HAT := hI hat
     clear hat
     obtain ⟨b1, hb1⟩ : ∃ b1, (p == []) = b1 := ⟨_, rfl⟩
     obtain ⟨b2, hb2⟩ : ∃ b2, (q == [120, 109, 108, 110, 115]) = b2 := ⟨_, rfl⟩
     rw [hb1] at hcd hp0 hp1
     rw [hb2] at hcd
     clear hb1
     cases cd with
     | false =>
      have HR0 : RowKit.Hid (R = none) := hI HAT.out.symm
      obtain ⟨rfl, rfl⟩ : b1 = false ∧ b2 = true := by revert hcd; cases b1 <;> cases b2 <;> decide
      clear hcd
      go_wp2_with (first | (go_at_call 189; refine HD2.out.mono ?_; rintro e w2 ⟨rfl, hb2⟩; have d0 := ((HNA.out.below hb2 HNA.out.lt).cell 0).trans rfl) | (go_at_call 190; refine (HSP.out _ hb2).mono ?_; rintro e w3 ⟨rfl, hb3⟩) | (go_at_call 84; refine (HFN.out _ (hb2.trans (hb3.mono hb2.size))).mono ?_; rintro e w4 ⟨rfl, rfl⟩))
      exact ⟨rfl, HBA.out.trans ((hb2.trans (hb3.mono hb2.size)).mono HBA.out.size), .inr ⟨HR0.out, rfl⟩⟩
     | true =>
      have HAT := hI (show (match O.map fun m => some (m ++ [x1]) with | none => none | some none => atsSp (allD ls) out (ats.drop (j + 1)) | some (some x) => if out.any (fun b => b.take 2 == x.take 2) then none else atsSp (allD ls) (out ++ [x]) (ats.drop (j + 1))) = R from HAT.out)
      have hbs : b1 = true ∨ (b1 = false ∧ b2 = false) := by revert hcd; cases b1 <;> cases b2 <;> decide
      have hkey : ∀ w3, Below (wr.alloc (B #[S (bs x0), S (bs x1)] 186)).heap.size (wr.alloc (B #[S (bs x0), S (bs x1)] 186)) w3 → True := fun _ _ => trivial
      clear hcd hkey
      rcases hbs with rfl | ⟨rfl, rfl⟩
      ·go_wp2_with (first | (go_at_call 189; refine HD2.out.mono ?_; rintro e w2 ⟨rfl, hb2⟩; have d0 := ((HNA.out.below hb2 HNA.out.lt).cell 0).trans rfl) | (go_at_call 190; refine (HSP.out _ hb2).mono ?_; rintro e w3 ⟨rfl, hb3⟩) | (go_at_call 84; refine (sfail_y _).mono ?_; rintro e w4 ⟨rfl, rfl⟩))
       have hbA3 := hb2.trans (hb3.mono hb2.size)
       have HN3 := hI (HNA.out.below hbA3 HNA.out.lt)
       have HO3 := hI (owns_below HOW.out hbA3)
       have HB3 := hI (HBA.out.trans (hbA3.mono HBA.out.size))
       have hsz3 := HN3.out.lt
       obtain ⟨d0, d1, -⟩ := HN3.out.cc
       obtain ⟨sp, lq, hO⟩ : ∃ sp lq, O = none ∨ O = some [sp, lq] := by
        rcases hO2 with h | ⟨a, b, h⟩
        ·exact ⟨[], [], .inl h⟩
        ·exact ⟨a, b, .inr h⟩
       have HOO := hI hO
       clear hO hO2 hb2 hb3 hbA3 c0 c1 hx0 hx1 hp0 hp1 HD HD2 HSP
       go_wp2_with fail
       refine PX.wp_phi_tail (List.take 8 _) (List.drop 8 _) (lJ 8 _).symm (fun ch w' => ch = panE E 3 ∧ Below w.heap.size w w' ∧ O = none) ?_ (fun w' => Below w.heap.size w w' ∧ Below w4.heap.size w4 w' ∧ w'.cell? ⟨wr.heap.size, 0, none⟩ = some (S (bs x0)) ∧ w'.cell? ⟨wr.heap.size, 0 + 1, none⟩ = some (S (bs x1))) [(3, PNm O sp lq), (7, PNew w4.heap.size 87 #[S ⟨#[]⟩, S ⟨#[]⟩, S ⟨#[]⟩])] [] (by kernel_rfl) (by kernel_rfl) ?_ ?_ ⟨HB3.out.drew, (Below.refl _ w4).drew, d0, d1⟩ ?_
       ·rintro ch a w' hd ⟨rfl, hb, ho⟩
        have HR0 : R = none := by
         have h := HAT.out
         rw [ho] at h
         exact h.symm
        simp only [Exit.then, Exit.inBlock, bodyPost]
        exact ⟨hd, hb, .inr ⟨HR0, rfl⟩⟩
       ·rintro w1' w2' ⟨h1, h2, h3, h4⟩ hb
        exact ⟨h1.trans (hb.mono h1.size), h2.trans (hb.mono h2.size), Below.keeps hb _ _ h3, Below.keeps hb _ _ h4⟩
       ·simp only [List.mem_cons, List.not_mem_nil, or_false, forall_eq_or_imp, forall_eq]
        exact ⟨fun _ _ _ _ _ h => h, fun _ _ _ _ hb h => PNew_stays hb h⟩
       simp only [lK, List.take_zero, lL, List.drop_zero]
       repeat ((first | refine PX.phi_skipK rfl (fun K hK => ?_) | (refine PX.phi_pureK rfl rfl (fun K hK => ?_); apply xI; constructor; (focus (rintro w' ⟨h1, h2, h3, h4⟩; (clear h1 h2); first | (go_simp; done) | (go_simp; (try go_bits); (try go_simp); rfl) | go_simp)))); simp only [Act.put, lA, lB, lC, lD, lE]; apply hK; clear hK K)
       refine PX.phi_partK (PNm O sp lq) rfl rfl ⟨_, rfl⟩ ?_ (fun K hK v hv => ?_)
       ·rintro w' ⟨h1, h2, h3, h4⟩ _
        have HC := hI (HNM.out w' h1)
        have HH := hI h1
        clear h1 h2 h3 h4
        unfold PX.gives
        go_simp
        refine HC.out.mono ?_
        rintro e w'' ⟨hb, ⟨m, hm, rfl⟩ | ⟨hm, rfl⟩⟩
        ·refine .inl ⟨_, rfl, ?_, ?_, hb⟩
         ·rcases HOO.out with h | h
          ·rw [hm] at h; cases h
          ·rw [hm] at h; cases h; rfl
         ·show O ≠ none
          rw [hm]; simp
        ·exact .inr ⟨_, rfl, rfl, HH.out.trans (hb.mono HH.out.size), hm⟩
       obtain rfl : v = _ := hv
       simp only [Act.put, lA, lB, lC, lD, lE]
       apply hK
       clear hK K
       repeat ((first | refine PX.phi_skipK rfl (fun K hK => ?_) | (refine PX.phi_pureK rfl rfl (fun K hK => ?_); apply xI; constructor; (focus (rintro w' ⟨h1, h2, h3, h4⟩; (clear h1 h2); first | (go_simp; done) | (go_simp; (try go_bits); (try go_simp); rfl) | go_simp)))); simp only [Act.put, lA, lB, lC, lD, lE]; apply hK; clear hK K)
       refine PX.phi_partK (PNew w4.heap.size 87 #[S ⟨#[]⟩, S ⟨#[]⟩, S ⟨#[]⟩]) rfl rfl ⟨_, 0, rfl⟩ ?_ (fun K hK v hv => ?_)
       ·rintro w' ⟨h1, h2, h3, h4⟩ _
        have HH := hI h2.size
        clear h1 h2 h3 h4
        unfold PX.gives
        go_simp
        exact ⟨⟨_, rfl⟩, fun g hg => by
         obtain rfl : w'.heap.size = g := by simpa using hg
         exact ⟨HH.out, Blk.new _ _ _⟩, below_alloc1 _ _⟩
       obtain ⟨g7, rfl⟩ := hv
       simp only [Act.put, lA, lB, lC, lD, lE]
       apply hK
       clear hK K
       refine PX.phi_done ?_
       rintro w5 ⟨h1, h2, h3, h4⟩ hk
       have e1 : O ≠ none := hk (3, fun w => (PNm O sp lq).fact w (.agg #[S (bs sp), S (bs lq)])) (by simp)
       obtain ⟨hg7, hB7⟩ := hk (7, fun w1 => (PNew w4.heap.size 87 #[S ⟨#[]⟩, S ⟨#[]⟩, S ⟨#[]⟩]).fact w1 (.pointer (some ⟨g7, 0, none⟩))) (by simp) g7 rfl
       have hO := HOO.out.resolve_left e1
       have HAT2 : RowKit.Hid ((if hasN out sp lq = true then none else atsSp (allD ls) (out ++ [[sp, lq, x1]]) (ats.drop (j + 1))) = R) := hI (by
        have h := HAT.out
        rw [hO] at h
        have h2 : (if (out.any fun b => b.take 2 == [sp, lq, x1].take 2) = true then none else atsSp (allD ls) (out ++ [[sp, lq, x1]]) (ats.drop (j + 1))) = R := h
        rw [any_hasN HOL.out] at h2
        exact h2)
       have hO5 := owns_below HO3.out h2
       have H1 := hI h1
       have H2 := hI h2
       have HB7 := hI hB7
       have hs5 := h1.size
       have hs3 := HB3.out.size
       have hgl := hB7.lt
       clear hk hO e1 HAT h1 h2 h3 h4 d0 d1 hB7
       refine wpList_store (.tmp 12) (.tmp 44) 87 rfl rfl g7 0 _ _ #[S (bs sp), S (bs lq), S (bs x1)] rfl rfl HB7.out (by kernel_rfl) (by simp [Value.oneCell']) (by simp) ?_
       intro w6 hb6 ho6
       rw [putCells_all #[S ⟨#[]⟩, S ⟨#[]⟩, S ⟨#[]⟩] #[S (bs sp), S (bs lq), S (bs x1)] rfl] at hb6
       have hO6 := owns_only ho6 hO5 fun b hb => by (have := HHO.out b hb; omega)
       have HB6 := hI hb6
       have HO6 := hI hO6
       have HW6 := hI (H1.out.trans (ho6.below (by omega : w.heap.size ≤ g7)))
       obtain ⟨p9, c9, he9, ho1', ho2', hrd⟩ := owns_rd hO6
       cases he9
       have HCT := hI (scont_any po co out.length g7 out sp lq w6 HOL.out (nR _) hrd ho2' ho1' ((hb6.cell 0).trans rfl) ((hb6.cell 1).trans rfl))
       rw [lQ (nR _)] at HCT
       have hcf := fun xs w => (show (callFunc 143 xs).run pG w = .ok (.enter 143 xs) w from by kernel_rfl)
       have hmf := @run_makeFunc pG
       clear hb6 hO6 hO5 hrd ho6
       cases hh : hasN out sp lq <;> rw [hh] at HCT HAT2
       rotate_left 1
       ·have HR0 : RowKit.Hid (R = none) := hI HAT2.out.symm
        have HFN2 := hI (fun w2 (hb2 : Below w6.heap.size w6 w2) => sfail_n w2 E (HE.out.below (HW6.out.trans (hb2.mono HW6.out.size))))
        go_wp2_with (first | (go_at_call 193; refine HCT.out.mono ?_; rintro e w7 ⟨rfl, hb7⟩) | (go_at_call 84; refine (HFN2.out _ hb7).mono ?_; rintro e w8 ⟨rfl, rfl⟩))
        exact ⟨rfl, HW6.out.trans (hb7.mono HW6.out.size), .inr ⟨HR0.out, rfl⟩⟩
       have HAT3 := hI (HAT2.out.symm.trans (if_neg (by decide))).symm
       clear HAT2
       obtain ⟨i0, hi0, hz0, hz1, hz2⟩ := info_parts attr2_info
       go_wp2_with (first | (go_at_call 193; refine HCT.out.mono ?_; rintro e w7 ⟨rfl, hb7⟩; have q0 := ((HB6.out.below hb7 HB6.out.lt).cell 0).trans rfl; have q1 := ((HB6.out.below hb7 HB6.out.lt).cell 1).trans rfl; have q2 := ((HB6.out.below hb7 HB6.out.lt).cell 2).trans rfl) | (go_at_call 84; refine (sfail_y _).mono ?_; rintro e w8 ⟨rfl, rfl⟩) | (at_builtin; refine wpList_app (.tmp 50) (.tmp 52) 42 rfl rfl w.heap.size 87 i0 (.agg #[S ⟨#[]⟩, S ⟨#[]⟩, S ⟨#[]⟩]) 3 48 Tryz.underlying42 hi0 hz0 hz1 hz2 rfl (by decide) _ _ _ rfl (owns_below (owns_below HO6.out hb7) (below_alloc1 _ _)) _ _ _ [S (bs sp), S (bs lq), S (bs x1)] rfl rfl (rd_at _ #[_, _, _] _ _ _ rfl) ?b1 ?b2 ?b3 ?b4 ?_))
       case b1 => simp [Value.oneCell']
       case b2 => unfold maxLen; omega
       case b3 => omega
       case b4 => have h1 := HW6.out.size; have h2 := hb7.size; simp; omega
       intro v1 w9 ho9 hg9
       obtain ⟨p1, cp1, rfl, _, _, _⟩ := owns_rd ho9
       have hlo : ∀ g, (Value.slice po out.length co).ownBlock = some g → w.heap.size ≤ g := fun g hg => (HO6.out.lt g hg).1
       have hW7 := HW6.out.trans (hb7.mono HW6.out.size)
       have HR9 := hI ((hW7.alloc hW7.size (B #[S (bs sp), S (bs lq), S (bs x1)] 87)).grown hg9 (by have := hW7.size; simp; omega) fun g hg => hlo g hg)
       have HO9 := hI (show w9.ownsRow w.heap.size 87 3 (.slice p1 (out.length + 1) cp1) (out ++ [[sp, lq, x1]]).length (acells (out ++ [[sp, lq, x1]])) from by rw [acells_snoc, lF]; exact ho9)
       clear hlo hW7 ho9 hg9 q0 q1 q2 hb7
       go_wp2_with fail
       go_roundw
       case rel =>
        refine ⟨j + 1, out ++ [[sp, lq, x1]], by omega, by go_num, HAT3.out, ?_, by simp; omega, HO9.out, HR9.out⟩
        intro a ha
        rcases List.mem_append.1 ha with ha | ha
        ·exact HOL.out a ha
        ·rw [List.mem_singleton] at ha; subst ha; rfl
       case measure => simp [intOf]; omega
      ·go_wp2_with (first | (go_at_call 189; refine HD2.out.mono ?_; rintro e w2 ⟨rfl, hb2⟩; have d0 := ((HNA.out.below hb2 HNA.out.lt).cell 0).trans rfl) | (go_at_call 190; refine (HSP.out _ hb2).mono ?_; rintro e w3 ⟨rfl, hb3⟩) | (go_at_call 84; refine (sfail_y _).mono ?_; rintro e w4 ⟨rfl, rfl⟩))
       have hbA3 := hb2.trans (hb3.mono hb2.size)
       have HN3 := hI (HNA.out.below hbA3 HNA.out.lt)
       have HO3 := hI (owns_below HOW.out hbA3)
       have HB3 := hI (HBA.out.trans (hbA3.mono HBA.out.size))
       have hsz3 := HN3.out.lt
       obtain ⟨d0, d1, -⟩ := HN3.out.cc
       obtain ⟨sp, lq, hO⟩ : ∃ sp lq, O = none ∨ O = some [sp, lq] := by
        rcases hO2 with h | ⟨a, b, h⟩
        ·exact ⟨[], [], .inl h⟩
        ·exact ⟨a, b, .inr h⟩
       have HOO := hI hO
       clear hO hO2 hb2 hb3 hbA3 c0 c1 hx0 hx1 hp0 hp1 HD HD2 HSP
       go_wp2_with fail
       refine PX.wp_phi_tail (List.take 8 _) (List.drop 8 _) (lJ 8 _).symm (fun ch w' => ch = panE E 3 ∧ Below w.heap.size w w' ∧ O = none) ?_ (fun w' => Below w.heap.size w w' ∧ Below w4.heap.size w4 w' ∧ w'.cell? ⟨wr.heap.size, 0, none⟩ = some (S (bs x0)) ∧ w'.cell? ⟨wr.heap.size, 0 + 1, none⟩ = some (S (bs x1))) [(3, PNm O sp lq), (7, PNew w4.heap.size 87 #[S ⟨#[]⟩, S ⟨#[]⟩, S ⟨#[]⟩])] [] (by kernel_rfl) (by kernel_rfl) ?_ ?_ ⟨HB3.out.drew, (Below.refl _ w4).drew, d0, d1⟩ ?_
       ·rintro ch a w' hd ⟨rfl, hb, ho⟩
        have HR0 : R = none := by
         have h := HAT.out
         rw [ho] at h
         exact h.symm
        simp only [Exit.then, Exit.inBlock, bodyPost]
        exact ⟨hd, hb, .inr ⟨HR0, rfl⟩⟩
       ·rintro w1' w2' ⟨h1, h2, h3, h4⟩ hb
        exact ⟨h1.trans (hb.mono h1.size), h2.trans (hb.mono h2.size), Below.keeps hb _ _ h3, Below.keeps hb _ _ h4⟩
       ·simp only [List.mem_cons, List.not_mem_nil, or_false, forall_eq_or_imp, forall_eq]
        exact ⟨fun _ _ _ _ _ h => h, fun _ _ _ _ hb h => PNew_stays hb h⟩
       simp only [lK, List.take_zero, lL, List.drop_zero]
       repeat ((first | refine PX.phi_skipK rfl (fun K hK => ?_) | (refine PX.phi_pureK rfl rfl (fun K hK => ?_); apply xI; constructor; (focus (rintro w' ⟨h1, h2, h3, h4⟩; (clear h1 h2); first | (go_simp; done) | (go_simp; (try go_bits); (try go_simp); rfl) | go_simp)))); simp only [Act.put, lA, lB, lC, lD, lE]; apply hK; clear hK K)
       refine PX.phi_partK (PNm O sp lq) rfl rfl ⟨_, rfl⟩ ?_ (fun K hK v hv => ?_)
       ·rintro w' ⟨h1, h2, h3, h4⟩ _
        have HC := hI (HNM.out w' h1)
        have HH := hI h1
        clear h1 h2 h3 h4
        unfold PX.gives
        go_simp
        refine HC.out.mono ?_
        rintro e w'' ⟨hb, ⟨m, hm, rfl⟩ | ⟨hm, rfl⟩⟩
        ·refine .inl ⟨_, rfl, ?_, ?_, hb⟩
         ·rcases HOO.out with h | h
          ·rw [hm] at h; cases h
          ·rw [hm] at h; cases h; rfl
         ·show O ≠ none
          rw [hm]; simp
        ·exact .inr ⟨_, rfl, rfl, HH.out.trans (hb.mono HH.out.size), hm⟩
       obtain rfl : v = _ := hv
       simp only [Act.put, lA, lB, lC, lD, lE]
       apply hK
       clear hK K
       repeat ((first | refine PX.phi_skipK rfl (fun K hK => ?_) | (refine PX.phi_pureK rfl rfl (fun K hK => ?_); apply xI; constructor; (focus (rintro w' ⟨h1, h2, h3, h4⟩; (clear h1 h2); first | (go_simp; done) | (go_simp; (try go_bits); (try go_simp); rfl) | go_simp)))); simp only [Act.put, lA, lB, lC, lD, lE]; apply hK; clear hK K)
       refine PX.phi_partK (PNew w4.heap.size 87 #[S ⟨#[]⟩, S ⟨#[]⟩, S ⟨#[]⟩]) rfl rfl ⟨_, 0, rfl⟩ ?_ (fun K hK v hv => ?_)
       ·rintro w' ⟨h1, h2, h3, h4⟩ _
        have HH := hI h2.size
        clear h1 h2 h3 h4
        unfold PX.gives
        go_simp
        exact ⟨⟨_, rfl⟩, fun g hg => by
         obtain rfl : w'.heap.size = g := by simpa using hg
         exact ⟨HH.out, Blk.new _ _ _⟩, below_alloc1 _ _⟩
       obtain ⟨g7, rfl⟩ := hv
       simp only [Act.put, lA, lB, lC, lD, lE]
       apply hK
       clear hK K
       refine PX.phi_done ?_
       rintro w5 ⟨h1, h2, h3, h4⟩ hk
       have e1 : O ≠ none := hk (3, fun w => (PNm O sp lq).fact w (.agg #[S (bs sp), S (bs lq)])) (by simp)
       obtain ⟨hg7, hB7⟩ := hk (7, fun w1 => (PNew w4.heap.size 87 #[S ⟨#[]⟩, S ⟨#[]⟩, S ⟨#[]⟩]).fact w1 (.pointer (some ⟨g7, 0, none⟩))) (by simp) g7 rfl
       have hO := HOO.out.resolve_left e1
       have HAT2 : RowKit.Hid ((if hasN out sp lq = true then none else atsSp (allD ls) (out ++ [[sp, lq, x1]]) (ats.drop (j + 1))) = R) := hI (by
        have h := HAT.out
        rw [hO] at h
        have h2 : (if (out.any fun b => b.take 2 == [sp, lq, x1].take 2) = true then none else atsSp (allD ls) (out ++ [[sp, lq, x1]]) (ats.drop (j + 1))) = R := h
        rw [any_hasN HOL.out] at h2
        exact h2)
       have hO5 := owns_below HO3.out h2
       have H1 := hI h1
       have H2 := hI h2
       have HB7 := hI hB7
       have hs5 := h1.size
       have hs3 := HB3.out.size
       have hgl := hB7.lt
       clear hk hO e1 HAT h1 h2 h3 h4 d0 d1 hB7
       refine wpList_store (.tmp 12) (.tmp 44) 87 rfl rfl g7 0 _ _ #[S (bs sp), S (bs lq), S (bs x1)] rfl rfl HB7.out (by kernel_rfl) (by simp [Value.oneCell']) (by simp) ?_
       intro w6 hb6 ho6
       rw [putCells_all #[S ⟨#[]⟩, S ⟨#[]⟩, S ⟨#[]⟩] #[S (bs sp), S (bs lq), S (bs x1)] rfl] at hb6
       have hO6 := owns_only ho6 hO5 fun b hb => by (have := HHO.out b hb; omega)
       have HB6 := hI hb6
       have HO6 := hI hO6
       have HW6 := hI (H1.out.trans (ho6.below (by omega : w.heap.size ≤ g7)))
       obtain ⟨p9, c9, he9, ho1', ho2', hrd⟩ := owns_rd hO6
       cases he9
       have HCT := hI (scont_any po co out.length g7 out sp lq w6 HOL.out (nR _) hrd ho2' ho1' ((hb6.cell 0).trans rfl) ((hb6.cell 1).trans rfl))
       rw [lQ (nR _)] at HCT
       have hcf := fun xs w => (show (callFunc 143 xs).run pG w = .ok (.enter 143 xs) w from by kernel_rfl)
       have hmf := @run_makeFunc pG
       clear hb6 hO6 hO5 hrd ho6
       cases hh : hasN out sp lq <;> rw [hh] at HCT HAT2
       rotate_left 1
       ·have HR0 : RowKit.Hid (R = none) := hI HAT2.out.symm
        have HFN2 := hI (fun w2 (hb2 : Below w6.heap.size w6 w2) => sfail_n w2 E (HE.out.below (HW6.out.trans (hb2.mono HW6.out.size))))
        go_wp2_with (first | (go_at_call 193; refine HCT.out.mono ?_; rintro e w7 ⟨rfl, hb7⟩) | (go_at_call 84; refine (HFN2.out _ hb7).mono ?_; rintro e w8 ⟨rfl, rfl⟩))
        exact ⟨rfl, HW6.out.trans (hb7.mono HW6.out.size), .inr ⟨HR0.out, rfl⟩⟩
       have HAT3 := hI (HAT2.out.symm.trans (if_neg (by decide))).symm
       clear HAT2
       obtain ⟨i0, hi0, hz0, hz1, hz2⟩ := info_parts attr2_info
       go_wp2_with (first | (go_at_call 193; refine HCT.out.mono ?_; rintro e w7 ⟨rfl, hb7⟩; have q0 := ((HB6.out.below hb7 HB6.out.lt).cell 0).trans rfl; have q1 := ((HB6.out.below hb7 HB6.out.lt).cell 1).trans rfl; have q2 := ((HB6.out.below hb7 HB6.out.lt).cell 2).trans rfl) | (go_at_call 84; refine (sfail_y _).mono ?_; rintro e w8 ⟨rfl, rfl⟩) | (at_builtin; refine wpList_app (.tmp 50) (.tmp 52) 42 rfl rfl w.heap.size 87 i0 (.agg #[S ⟨#[]⟩, S ⟨#[]⟩, S ⟨#[]⟩]) 3 48 Tryz.underlying42 hi0 hz0 hz1 hz2 rfl (by decide) _ _ _ rfl (owns_below (owns_below HO6.out hb7) (below_alloc1 _ _)) _ _ _ [S (bs sp), S (bs lq), S (bs x1)] rfl rfl (rd_at _ #[_, _, _] _ _ _ rfl) ?b1 ?b2 ?b3 ?b4 ?_))
       case b1 => simp [Value.oneCell']
       case b2 => unfold maxLen; omega
       case b3 => omega
       case b4 => have h1 := HW6.out.size; have h2 := hb7.size; simp; omega
       intro v1 w9 ho9 hg9
       obtain ⟨p1, cp1, rfl, _, _, _⟩ := owns_rd ho9
       have hlo : ∀ g, (Value.slice po out.length co).ownBlock = some g → w.heap.size ≤ g := fun g hg => (HO6.out.lt g hg).1
       have hW7 := HW6.out.trans (hb7.mono HW6.out.size)
       have HR9 := hI ((hW7.alloc hW7.size (B #[S (bs sp), S (bs lq), S (bs x1)] 87)).grown hg9 (by have := hW7.size; simp; omega) fun g hg => hlo g hg)
       have HO9 := hI (show w9.ownsRow w.heap.size 87 3 (.slice p1 (out.length + 1) cp1) (out ++ [[sp, lq, x1]]).length (acells (out ++ [[sp, lq, x1]])) from by rw [acells_snoc, lF]; exact ho9)
       clear hlo hW7 ho9 hg9 q0 q1 q2 hb7
       go_wp2_with fail
       go_roundw
       case rel =>
        refine ⟨j + 1, out ++ [[sp, lq, x1]], by omega, by go_num, HAT3.out, ?_, by simp; omega, HO9.out, HR9.out⟩
        intro a ha
        rcases List.mem_append.1 ha with ha | ha
        ·exact HOL.out a ha
        ·rw [List.mem_singleton] at ha; subst ha; rfl
       case measure => simp [intOf]; omega
  ·obtain rfl : j = ats.length := by omega
   rw [List.drop_of_length_le (nR _)] at hat
   have HR0 : RowKit.Hid (R = some out) := hI hat.symm
   have HF := hI hown
   have HB := hI hbw
   have HOL := hI hol
   obtain ⟨po, co, rfl, -⟩ := owns_rd hown
   clear hat hown hbw hol
   go_wp2_with fail
   go_ret
   exact ⟨HB.out, .inl ⟨out, _, HR0.out, rfl, HOL.out, hoj, HF.out⟩⟩
end
end Go.Proofs.YthboiahdheehkaaGreatDoor
