/- XmlW7 -/
import Derived.Test.YthboiahdheehkaaGreatDoorPC
import Derived.Test.YthboiahdheehkaaGreatDoorPD
open List renaming length_append → lF, contains_iff_mem → lO, take_succ_eq_append_getElem → lR
open Nat renaming le_refl → nR
open Go.Proofs.Tryz renaming prog → pG
open Go.Value renaming string → S
open Go.Value renaming slice → C
open Go.Obj renaming cells → F
namespace Go.Proofs.YthboiahdheehkaaGreatDoor
section
set_option maxHeartbeats 4000000
set_option maxRecDepth 100000
open Go.RowKit
attribute [local go_sem] bs_toList
theorem clo_any (x y nm : List UInt8) (b : Nat) (w : World) (hc : w.cell? ⟨b, 0, none⟩ = some (S (bs nm))) :
  Calls pG 171 #[.agg #[S (bs x), S (bs y)], .pointer (some ⟨b, 0, none⟩)] w (Gives w (.bool (x == nm))) := by
 have HB := Lib.hid (below_alloc1 w (F #[S (bs x), S (bs y)] 186))
 have hN := Blk.new w 186 #[S (bs x), S (bs y)]
 obtain ⟨c0, c1, -⟩ := hN.cc
 have hc1 := Below.keeps (below_alloc1 w (F #[S (bs x), S (bs y)] 186)) _ _ hc
 clear hN hc
 unfold Gives
 cases he : (x == nm)
 all_goals
  go_enter Tryz.func171, Tryz.ntmps171
  go_wp2_with fail
  go_ret
  exact ⟨rfl, HB.out⟩
theorem has_snoc {l : List (List UInt8)} {x nm : List UInt8} (h : l.contains nm = false) : (l ++ [x]).contains nm = (x == nm) := by
 have hn : nm ∉ l := fun hm => by rw [lO.2 hm] at h; cases h
 rw [Bool.eq_iff_iff, lO, List.mem_append, List.mem_singleton, beq_iff_eq]
 exact ⟨fun h => (h.resolve_left hn).symm, fun h => .inr h.symm⟩
def namesA (ats : List (List (List UInt8))) : List (List UInt8) := ats.map fun a => a.getD 0 []
theorem idx_any (pa : Option Addr) (ca n b : Nat) (ats : List (List (List UInt8))) (nm : List UInt8) (w : World) (hk : ∀ a ∈ ats, a.length = 1 + 1) (hn : n ≤ ats.length) (hA : Rd w pa (acells ats)) (hca : ca ≤ maxLen) (hnc : n ≤ ca) (hc : w.cell? ⟨b, 0, none⟩ = some (S (bs nm))) :
  Calls pG 218 #[C pa n ca, .func (.func 171) #[] #[.pointer (some ⟨b, 0, none⟩)]] w fun e w' => ∃ z : Int, e = .returned (.int .i64 z) ∧ decide (0 ≤ z) = (namesA (ats.take n)).contains nm ∧ Below w.heap.size w w' := by
 have HA := Lib.hid hA
 have HK := Lib.hid hk
 have HC := Lib.hid hc
 unfold maxLen at hca
 clear hA hk hc
 go_enter Tryz.func218, Tryz.ntmps218
 go_wp2_with fail
 go_loopw [8] (fun i wr => ∃ j : Nat, j ≤ n ∧ i = .int .i64 j ∧ (namesA (ats.take j)).contains nm = false ∧ Below w.heap.size w wr) (fun i _ => n - (intOf i).toNat)
 case atStart => exact ⟨0, by omega, rfl, rfl, Below.refl _ _⟩
 case round =>
  obtain ⟨j, hj, rfl, hno, hbw⟩ := hrel
  by_cases hlt : j < n
  ·obtain ⟨e1, o1, x0, x1, rfl, hgx, hx0, hx1⟩ := at_1 HA.out HK.out (show j < ats.length by omega)
   have hx0 := Below.keeps hbw _ _ hx0
   have hx1 := Below.keeps hbw _ _ hx1
   have HCL := Lib.hid (clo_any x0 x1 nm b wr (Below.keeps hbw _ _ HC.out))
   have hlt' : (j : Int) < (n : Int) := by omega
   have hst : (namesA (ats.take (j + 1))).contains nm = (x0 == nm) := by
    unfold namesA at hno ⊢
    rw [lR (show j < ats.length by omega), List.map_append, hgx]
    exact has_snoc hno
   have HST := Lib.hid hst
   clear hst hno
   have hcf := fun xs w => (show (callFunc 171 xs).run pG w = .ok (.enter 171 xs) w from by kernel_rfl)
   cases hE : (x0 == nm)
   all_goals
    rw [hE] at HCL HST
    go_wp2_with (go_at_call 171; refine HCL.out.mono ?_; rintro e w2 ⟨rfl, hb⟩)
   ·have hb2 := hbw.trans (hb.mono hbw.size)
    go_roundw
    case rel => exact ⟨j + 1, by omega, by go_num, HST.out, hb2⟩
    case measure => simp [intOf]; omega
   ·have hb2 := hbw.trans (hb.mono hbw.size)
    have hfin : (namesA (ats.take n)).contains nm = true := by
     have h := HST.out
     rw [lO] at h ⊢
     unfold namesA at h ⊢
     rw [List.map_take] at h ⊢
     exact List.take_subset_take_left _ (by omega) h
    go_ret
    exact ⟨(j : Int), rfl, by rw [hfin]; simp, hb2⟩
  ·obtain rfl : j = n := by omega
   go_wp2_with fail
   go_ret
   exact ⟨-1, rfl, by rw [hno]; rfl, hbw⟩
theorem cont_any (pa : Option Addr) (ca n b : Nat) (ats : List (List (List UInt8))) (nm : List UInt8) (w : World) (hk : ∀ a ∈ ats, a.length = 1 + 1) (hn : n ≤ ats.length) (hA : Rd w pa (acells ats)) (hca : ca ≤ maxLen) (hnc : n ≤ ca) (hc : w.cell? ⟨b, 0, none⟩ = some (S (bs nm))) :
  Calls pG 170 #[C pa n ca, .func (.func 171) #[] #[.pointer (some ⟨b, 0, none⟩)]] w (Gives w (.bool ((namesA (ats.take n)).contains nm))) := by
 have HI := Lib.hid (idx_any pa ca n b ats nm w hk hn hA hca hnc hc)
 clear hk hA hc
 unfold Gives
 obtain ⟨R, hR⟩ : ∃ R, (namesA (ats.take n)).contains nm = R := ⟨_, rfl⟩
 rw [hR] at HI ⊢
 clear hR
 go_enter Tryz.func170, Tryz.ntmps170
 go_wp2_with (go_at_call 218; refine HI.out.mono ?_; rintro e w2 ⟨z, rfl, hz, hb⟩)
 go_ret
 exact ⟨rfl, hb⟩
abbrev shS (s : List UInt8) : Prop := s.length ≤ 1000000
theorem attrs_any (pa : Option Addr) (ca : Nat) (ats : List (List (List UInt8))) (w : World) (hk : ∀ a ∈ ats, a.length = 1 + 1) (hs : ∀ a ∈ ats, ∀ s ∈ a, shS s) (hA : Rd w pa (acells ats)) (hca : ca ≤ maxLen) (hnc : ats.length ≤ ca) (hg : LibG w) :
  Calls pG 123 #[C pa ats.length ca] w (Gives w (.bool (atsB [] ats && decide (ats.length ≤ 12)))) := by
 have HA := Lib.hid hA
 have HK := Lib.hid hk
 have HG := Lib.hid hg
 have HS := Lib.hid hs
 have hca' := hca
 unfold maxLen at hca'
 clear hA hk hg hs
 unfold Gives
 obtain ⟨R, hR⟩ : ∃ R, (atsB [] ats && decide (ats.length ≤ 12)) = R := ⟨_, rfl⟩
 rw [hR]
 have HR := Lib.hid hR
 clear hR
 go_enter Tryz.func123, Tryz.ntmps123
 go_wp2_with fail
 go_loopw [7] (fun i wr => ∃ j : Nat, j ≤ ats.length ∧ i = .int .i64 j ∧ atsB [] ats = atsB (namesA (ats.take j)) (ats.drop j) ∧ Below w.heap.size w wr) (fun i _ => ats.length - (intOf i).toNat)
 case atStart => exact ⟨0, by omega, rfl, rfl, Below.refl _ _⟩
 case round =>
  obtain ⟨j, hj, rfl, hno, hbw⟩ := hrel
  by_cases hlt : j < ats.length
  ·obtain ⟨e1, o1, x0, x1, rfl, hgx, hx0, hx1⟩ := at_1 HA.out HK.out hlt
   have hx0 := Below.keeps hbw _ _ hx0
   have hx1 := Below.keeps hbw _ _ hx1
   have hlt' : (j : Int) < (ats.length : Int) := by omega
   have hst := atsB_drop hlt
   rw [hgx] at hst
   have HST := Lib.hid (hno.trans hst)
   clear hst hno
   have hx0s : shS x0 := HS.out _ (List.getElem_mem hlt) x0 (by rw [hgx]; simp)
   have hx1s : shS x1 := HS.out _ (List.getElem_mem hlt) x1 (by rw [hgx]; simp)
   have hbA := hbw.alloc hbw.size (F #[S (bs x0), S (bs x1)] 186)
   have hNB := Blk.new wr 186 #[S (bs x0), S (bs x1)]
   obtain ⟨c0, c1, -⟩ := hNB.cc
   have HN := Lib.hid (name_any x0 hx0s _ (HG.out.below hbA))
   have HNB := Lib.hid hNB
   have HBA := Lib.hid hbA
   have hfin : ∀ b, (nameB x0 && sigB x1 && !(namesA (ats.take j)).contains x0) = b → b = false → R = false := fun b h1 h2 => by
    rw [← HR.out, HST.out]
    show ((nameB x0 && sigB x1 && !(namesA (ats.take j)).contains x0 && _) && _) = false
    rw [h1, h2]
    rfl
   have HF := Lib.hid hfin
   have HB0 := Lib.hid hbw
   clear hNB hbA hgx hbw hfin
   cases hn : nameB x0 <;> rw [hn] at HN HF
   ·have hR0 := HF.out false rfl rfl
    go_wp2_with (go_at_call 122; refine HN.out.mono ?_; rintro e w2 ⟨rfl, hb⟩)
    go_ret
    exact ⟨by rw [hR0]; rfl, HBA.out.trans (hb.mono HBA.out.size)⟩
   ·have HSG := Lib.hid (fun w2 (hb : Below (wr.alloc (F #[S (bs x0), S (bs x1)] 186)).heap.size (wr.alloc (F #[S (bs x0), S (bs x1)] 186)) w2) => signs_any x1 hx1s w2 (HG.out.below (HBA.out.trans (hb.mono HBA.out.size))))
    cases hsg : sigB x1 <;> rw [hsg] at HSG HF
    ·have hR0 := HF.out false rfl rfl
     go_wp2_with (first | (go_at_call 122; refine HN.out.mono ?_; rintro e w2 ⟨rfl, hb⟩; have d1 := (HNB.out.below hb (HNB.out.lt)).cell 1) | (go_at_call 124; refine (HSG.out _ hb).mono ?_; rintro e w3 ⟨rfl, hb3⟩))
     go_ret
     exact ⟨by rw [hR0]; rfl, HBA.out.trans ((hb.trans (hb3.mono hb.size)).mono HBA.out.size)⟩
    ·have HCT := Lib.hid (fun w3 (hb : Below wr.heap.size wr w3) (h0 : w3.cell? ⟨wr.heap.size, 0, none⟩ = some (S (bs x0))) => cont_any (some ⟨e1, o1, none⟩) ca j wr.heap.size ats x0 w3 HK.out hj (HA.out.keep (Below.keeps (HB0.out.trans (hb.mono HB0.out.size)))) hca (by omega) h0)
     have hjn : (j : Int) ≤ (ats.length : Int) := by omega
     cases hct : (namesA (ats.take j)).contains x0 <;> rw [hct] at HCT HF
     ·go_wp2_with (first | (go_at_call 122; refine HN.out.mono ?_; rintro e w2 ⟨rfl, hb⟩; have d1 := (HNB.out.below hb (HNB.out.lt)).cell 1) | (go_at_call 124; refine (HSG.out _ hb).mono ?_; rintro e w3 ⟨rfl, hb3⟩; have hb23 := hb.trans (hb3.mono hb.size); have k0 := ((HNB.out.below hb23 HNB.out.lt).cell 0).trans rfl; have hbw3 := (below_alloc1 wr (F #[S (bs x0), S (bs x1)] 186)).trans (hb23.mono (by simp))) | (go_at_call 170; refine (HCT.out _ hbw3 k0).mono ?_; rintro e w4 ⟨rfl, hb4⟩))
      have hb5 := HB0.out.trans ((hbw3.trans (hb4.mono hbw3.size)).mono HB0.out.size)
      go_roundw
      case rel =>
       refine ⟨j + 1, by omega, by go_num, ?_, hb5⟩
       rw [HST.out]
       have h1 : (namesA (ats.take j)).contains x0 = false := hct
       have h2 : nameB x0 = true := hn
       have h3 : sigB x1 = true := hsg
       show (nameB x0 && sigB x1 && !(namesA (ats.take j)).contains x0 && _) = _
       rw [h1, h2, h3]
       rfl
      case measure => simp [intOf]; omega
     ·have hR0 := HF.out false rfl rfl
      go_wp2_with (first | (go_at_call 122; refine HN.out.mono ?_; rintro e w2 ⟨rfl, hb⟩; have d1 := (HNB.out.below hb (HNB.out.lt)).cell 1) | (go_at_call 124; refine (HSG.out _ hb).mono ?_; rintro e w3 ⟨rfl, hb3⟩; have hb23 := hb.trans (hb3.mono hb.size); have k0 := ((HNB.out.below hb23 HNB.out.lt).cell 0).trans rfl; have hbw3 := (below_alloc1 wr (F #[S (bs x0), S (bs x1)] 186)).trans (hb23.mono (by simp))) | (go_at_call 170; refine (HCT.out _ hbw3 k0).mono ?_; rintro e w4 ⟨rfl, hb4⟩))
      have hb5 := HB0.out.trans ((hbw3.trans (hb4.mono hbw3.size)).mono HB0.out.size)
      go_ret
      exact ⟨by rw [hR0]; rfl, hb5⟩
  ·obtain rfl : j = ats.length := by omega
   have hno' : atsB [] ats = true := by
    rw [hno, List.drop_of_length_le (nR _)]
    unfold atsB
    rfl
   clear hno
   by_cases h12 : ats.length ≤ 12
   ·have h12' : decide ((ats.length : Int) ≤ 12) = true := decide_eq_true (by omega)
    go_wp2_with fail
    go_ret
    exact ⟨by rw [← HR.out, hno', decide_eq_true h12]; rfl, hbw⟩
   ·have h12' : decide ((ats.length : Int) ≤ 12) = false := decide_eq_false (by omega)
    go_wp2_with fail
    go_ret
    exact ⟨by rw [← HR.out, hno', decide_eq_false h12]; rfl, hbw⟩
end
section
set_option maxHeartbeats 4000000
set_option maxRecDepth 100000
open Go.RowKit
attribute [local go_sem] bs_toList
mutual
def Tr.shr : Tr → Prop
 | .node nm ats ks t => (∀ s ∈ nm, shS s) ∧ (∀ a ∈ ats, ∀ s ∈ a, shS s) ∧ shS t ∧ Tr.shrL ks
def Tr.shrL : List Tr → Prop
 | [] => True
 | x :: xs => x.shr ∧ Tr.shrL xs
end
theorem shrL_get : ∀ (xs : List Tr), Tr.shrL xs → ∀ (i : Nat) (hi : i < xs.length), (xs[i]).shr
 | [], _, i, hi => by simp at hi
 | x :: xs, h, i, hi => by
  unfold Tr.shrL at h
  cases i with
  | zero => exact h.1
  | succ i => exact shrL_get xs h.2 i (by simpa using hi)
def prevB (ks : List Tr) : Nat → Bool
 | 0 => false
 | i + 1 => (ks[i]?).any fun k => k.name == []
theorem prevB_succ {ks : List Tr} {i : Nat} (h : i < ks.length) : prevB ks (i + 1) = (ks[i].name == []) := by
 show (ks[i]?).any (fun k => k.name == []) = _
 rw [List.getElem?_eq_getElem h]
 rfl
theorem rgtL_at {ks : List Tr} {j d : Nat} (h : j < ks.length) : Tr.rgtL d (prevB ks j) (ks.drop j) = if (ks[j].name == []) = false then Tr.rgt (d + 1) ks[j] && Tr.rgtL d (prevB ks (j + 1)) (ks.drop (j + 1)) else txtB (prevB ks j) ks[j] && Tr.rgtL d (prevB ks (j + 1)) (ks.drop (j + 1)) := by
 rw [rgtL_drop h, prevB_succ h]
 split
 ·rename_i h1; rw [h1]
 ·rename_i h1; rw [Bool.not_eq_false] at h1; rw [h1]
theorem isE_bs (l : List UInt8) : (bs l).toList.isEmpty = (l == []) := by
 rw [bs_toList]
 cases l <;> rfl
theorem rgt_eq (d : Nat) (a0 : List UInt8) (ax : List (List (List UInt8))) (kx : List Tr) (tx : List UInt8) : Tr.rgt d (.node [a0] ax kx tx) = (decide (d ≤ 12) && nameB a0 && (tx == []) && (atsB [] ax && decide (ax.length ≤ 12)) && Tr.rgtL d false kx) := by
 conv => lhs; unfold Tr.rgt
 rw [← Bool.and_assoc]
 rfl
theorem xrgt_any : ∀ (n : Nat) (x : Tr) (d : Nat) (P : Nat → Prop) (cx : List Value) (w : World), x.sz ≤ n → x.ok 1 → x.shr → d ≤ 13 → TrC w P x cx → LibG w →
  Calls pG 68 #[.agg cx.toArray, .int .i64 d] w (Gives w (.bool (x.rgt d))) := by
 intro n
 induction n with
 | zero => intro x d P cx w hs; have := x.sz_pos; omega
 | succ n ih =>
  intro x d P cx w hs hx hsh hd hcx hg
  obtain ⟨nx, ax, kx, tx⟩ := x
  unfold TrC at hcx
  unfold Tr.ok at hx
  unfold Tr.shr at hsh
  obtain ⟨hx1, hx2, hx3⟩ := hx
  obtain ⟨hs1, hs2, hs3, hs4⟩ := hsh
  obtain ⟨a0, rfl⟩ := one_of hx1
  obtain ⟨pa, ca, pk, ck, css, rfl, ⟨A1, A2, A3, -⟩, ⟨K1, K2, K3, -⟩, hL⟩ := hcx
  show Calls pG 68 #[.agg #[S (bs a0), C pa ax.length ca, C pk kx.length ck, S (bs tx)], .int .i64 d] w _
  obtain ⟨R, hR⟩ : ∃ R, Tr.rgt d (.node [a0] ax kx tx) = R := ⟨_, rfl⟩
  unfold Gives
  rw [hR]
  have HR : RowKit.Hid ((decide (d ≤ 12) && nameB a0 && (tx == []) && (atsB [] ax && decide (ax.length ≤ 12)) && Tr.rgtL d false kx) = R) := Lib.hid ((rgt_eq d a0 ax kx tx).symm.trans hR)
  clear hR
  by_cases hd12 : d ≤ 12
  rotate_left 1
  ·have hdz : decide ((12 : Int) < (d : Int)) = true := decide_eq_true (by omega)
   have hR0 : R = false := by rw [← HR.out, decide_eq_false hd12]; rfl
   have HB := Lib.hid (below_alloc1 w (F #[S (bs a0), C pa ax.length ca, C pk kx.length ck, S (bs tx)] 96))
   clear A3 K3 hL hs1 hs2 hs4 hx2 hx3 ih hg
   go_enter Tryz.func68, Tryz.ntmps68
   go_wp2_with fail
   go_ret
   exact ⟨by rw [hR0]; rfl, HB.out⟩
  have hdz : decide ((12 : Int) < (d : Int)) = false := decide_eq_false (by omega)
  rw [decide_eq_true hd12, Bool.true_and] at HR
  have HNB := Lib.hid (Blk.new w 96 #[S (bs a0), C pa ax.length ca, C pk kx.length ck, S (bs tx)])
  have HB := Lib.hid (below_alloc1 w (F #[S (bs a0), C pa ax.length ca, C pk kx.length ck, S (bs tx)] 96))
  have HG := Lib.hid hg
  have HN := Lib.hid (name_any a0 (hs1 a0 (by simp)) _ (hg.below HB.out))
  have HAT := Lib.hid (fun w2 (hb : Below w.heap.size w w2) => attrs_any pa ca ax w2 hx2 hs2 (A3.keep (Below.keeps hb)) A2 A1 (hg.below hb))
  have c0 := (HNB.out.cell 0).trans rfl
  clear A3 hs1 hs2 hx2 hg
  go_enter Tryz.func68, Tryz.ntmps68
  cases hn : nameB a0 <;> rw [hn] at HN HR
  ·have hR0 : R = false := HR.out.symm
   go_wp2_with (go_at_call 122; refine HN.out.mono ?_; rintro e w2 ⟨rfl, hb⟩)
   go_ret
   exact ⟨by rw [hR0]; rfl, HB.out.trans (hb.mono HB.out.size)⟩
  rw [Bool.true_and] at HR
  have hi0 : tx.isEmpty = (tx == []) := by cases tx <;> rfl
  have hi1 : (bs tx).toList.isEmpty = (tx == []) := isE_bs tx
  cases ht : (tx == []) <;> rw [ht] at HR hi0 hi1
  ·have hR0 : R = false := HR.out.symm
   go_wp2_with (go_at_call 122; refine HN.out.mono ?_; rintro e w2 ⟨rfl, hb⟩; have k3 := ((HNB.out.below hb HNB.out.lt).cell 3).trans rfl)
   go_ret
   exact ⟨by rw [hR0]; rfl, HB.out.trans (hb.mono HB.out.size)⟩
  rw [Bool.true_and] at HR
  clear ht
  cases ha : (atsB [] ax && decide (ax.length ≤ 12)) <;> rw [ha] at HAT HR
  ·have hR0 : R = false := HR.out.symm
   go_wp2_with (first | (go_at_call 122; refine HN.out.mono ?_; rintro e w2 ⟨rfl, hb⟩; have hb2 := HB.out.trans (hb.mono HB.out.size); have k1 := ((HNB.out.below hb HNB.out.lt).cell 1).trans rfl; have k3 := ((HNB.out.below hb HNB.out.lt).cell 3).trans rfl) | (go_at_call 123; refine (HAT.out _ hb2).mono ?_; rintro e w3 ⟨rfl, hb3⟩))
   go_ret
   exact ⟨by rw [hR0]; rfl, hb2.trans (hb3.mono hb2.size)⟩
  rw [Bool.true_and] at HR
  clear ha
  go_wp2_with (first | (go_at_call 122; refine HN.out.mono ?_; rintro e w2 ⟨rfl, hb⟩; have hb2 := HB.out.trans (hb.mono HB.out.size); have k1 := ((HNB.out.below hb HNB.out.lt).cell 1).trans rfl; have k3 := ((HNB.out.below hb HNB.out.lt).cell 3).trans rfl) | (go_at_call 123; refine (HAT.out _ hb2).mono ?_; rintro e w3 ⟨rfl, hb3⟩; have k2 := ((HNB.out.below (hb.trans (hb3.mono hb.size)) HNB.out.lt).cell 2).trans rfl))
  have hb3' := hb2.trans (hb3.mono hb2.size)
  have HN3 := Lib.hid (HNB.out.below (hb.trans (hb3.mono hb.size)) HNB.out.lt)
  have HK := Lib.hid K3
  have HL := Lib.hid hL
  have HX3 := Lib.hid hx3
  have HS4 := Lib.hid hs4
  have HIH := Lib.hid ih
  have HB3 := Lib.hid hb3'
  have hks : ∀ i (hi : i < kx.length), kx[i].sz ≤ n := fun i hi => by
   have := Tr.sz_kid (.node [a0] ax kx tx) i hi
   have h2 : (Tr.node [a0] ax kx tx).ks[i] = kx[i] := rfl
   rw [h2] at this
   omega
  have HKS := Lib.hid hks
  clear k1 k3 c0 K3 hL hx3 hs4 ih hks hb hb2 hb3 hb3' hi0 hi1
  unfold maxLen at K2
  go_loopw [30] (fun i wr => ∃ j : Nat, j ≤ kx.length ∧ i = .int .i64 j ∧ Tr.rgtL d (prevB kx j) (kx.drop j) = R ∧ Blk wr w.heap.size 96 #[S (bs a0), C pa ax.length ca, C pk kx.length ck, S (bs tx)] ∧ Below w.heap.size w wr) (fun i _ => kx.length - (intOf i).toNat)
  case atStart => exact ⟨0, by omega, rfl, HR.out, HN3.out, HB3.out⟩
  case round =>
   obtain ⟨j, hj, rfl, hno, hblk, hbw⟩ := hrel
   clear k2
   by_cases hlt : j < kx.length
   ·obtain ⟨e1, o1, m0, u1, u2, u3, u4, u5, u6, u7, rfl, hgx, hT1, hk0, hk1, hk2, hk3⟩ := kid_1 HK.out HL.out HX3.out hlt
    have hk0 := Below.keeps hbw _ _ hk0
    have hk1 := Below.keeps hbw _ _ hk1
    have hk2 := Below.keeps hbw _ _ hk2
    have hk3 := Below.keeps hbw _ _ hk3
    have hlt' : (j : Int) < (kx.length : Int) := by omega
    have hst := rgtL_at (d := d) hlt
    have hsk := shrL_get kx HS4.out j hlt
    have hok := okL_get 1 kx HX3.out j hlt
    have hsz := HKS.out j hlt
    have hbK := hbw.alloc hbw.size (F #[S (bs m0), C u4 u1.length u5, C u6 u2.length u7, S (bs u3)] 96)
    have hNK := Blk.new wr 96 #[S (bs m0), C u4 u1.length u5, C u6 u2.length u7, S (bs u3)]
    have hNE := hblk.alloc (F #[S (bs m0), C u4 u1.length u5, C u6 u2.length u7, S (bs u3)] 96)
    have hTK := hT1.below hbK
    have hIH := HIH.out kx[j] (d + 1) P _ _ hsz hok hsk (by omega) hTK (HG.out.below hbK)
    rw [hgx] at hst hIH hsk
    have hnm : (Tr.node [m0] u1 u2 u3).name = m0 := rfl
    rw [hnm] at hst
    have HIC : RowKit.Hid (Calls pG 68 #[.agg #[S (bs m0), C u4 u1.length u5, C u6 u2.length u7, S (bs u3)], .int .i64 ((d : Int) + 1)] (wr.alloc (F #[S (bs m0), C u4 u1.length u5, C u6 u2.length u7, S (bs u3)] 96)) (Gives (wr.alloc (F #[S (bs m0), C u4 u1.length u5, C u6 u2.length u7, S (bs u3)] 96)) (.bool ((Tr.node [m0] u1 u2 u3).rgt (d + 1))))) := Lib.hid hIH
    have hs3 : shS u3 := by unfold Tr.shr at hsk; exact hsk.2.2.1
    have HSG := Lib.hid (signs_any u3 hs3 _ (HG.out.below hbK))
    rw [hno] at hst
    obtain ⟨c0, c1, c2, c3, -⟩ := hNK.cc; have e2 := (hNE.cell 2).trans rfl
    have HST := Lib.hid hst
    have HNE := Lib.hid hNE
    have im0 : m0.isEmpty = (m0 == []) := by cases m0 <;> rfl
    have im1 : (bs m0).toList.isEmpty = (m0 == []) := isE_bs m0
    have it0 : u3.isEmpty = (u3 == []) := by cases u3 <;> rfl
    have it1 : (bs u3).toList.isEmpty = (u3 == []) := isE_bs u3
    clear hno hst hsk hok hsz hNK hNE hTK hIH hnm hs3 hT1 hblk
    generalize hRn : Tr.rgtL d (prevB kx (j + 1)) (kx.drop (j + 1)) = Rn at HST
    have HRN := Lib.hid hRn
    clear hRn
    cases hm : (m0 == []) <;> rw [hm] at HST im0 im1
    ·rw [if_pos rfl] at HST
     clear HSG it0 it1 hgx
     generalize hb1 : (Tr.node [m0] u1 u2 u3).rgt (d + 1) = b1 at HST HIC
     clear hb1
     have HBK := Lib.hid hbK
     cases b1
     ·have hR0 : R = false := HST.out
      go_wp2_with (go_at_call 68; refine HIC.out.mono ?_; rintro e w5 ⟨rfl, hb5⟩)
      go_ret
      exact ⟨by rw [hR0]; rfl, hbK.trans (hb5.mono hbK.size)⟩
     ·rw [Bool.true_and] at HST
      go_wp2_with (go_at_call 68; refine HIC.out.mono ?_; rintro e w5 ⟨rfl, hb5⟩)
      go_roundw
      case rel => exact ⟨j + 1, by omega, by go_num, HRN.out.trans HST.out.symm, HNE.out.below hb5 HNE.out.lt, hbK.trans (hb5.mono hbK.size)⟩
      case measure => simp [intOf]; omega
    ·rw [if_neg (by decide)] at HST
     have HBK := Lib.hid hbK
     clear HIC
     clear hgx
     have HST : RowKit.Hid (R = (!(u3 == []) && !prevB kx j && decide (u1.length = 0) && decide (u2.length = 0) && sigB u3 && Rn)) := Lib.hid HST.out
     generalize u1.length = na at *
     generalize u2.length = nk at *
     cases j with
     | zero =>
      have HST : RowKit.Hid (R = (!(u3 == []) && !false && decide (na = 0) && decide (nk = 0) && sigB u3 && Rn)) := Lib.hid HST.out
      simp only [Nat.zero_mul, Nat.add_zero] at hk0 hk1 hk2 hk3
      cases hT : (u3 == []) <;> rw [hT] at HST it0 it1
      rotate_left 1
      ·have hR0 : R = false := HST.out
       go_wp2_with fail
       go_ret
       exact ⟨by first | (rw [hR0]; rfl) | rfl, HBK.out⟩
      rcases Nat.eq_zero_or_pos na with rfl | hA
      rotate_left 1
      ·have hR0 : R = false := by rw [HST.out, decide_eq_false (by omega : ¬ na = 0)]; rfl
       have hAz : decide ((0 : Int) < (na : Int)) = true := decide_eq_true (by omega)
       go_wp2_with fail
       go_ret
       exact ⟨by first | (rw [hR0]; rfl) | rfl, HBK.out⟩
      rcases Nat.eq_zero_or_pos nk with rfl | hK
      rotate_left 1
      ·have hR0 : R = false := by rw [HST.out, decide_eq_false (by omega : ¬ nk = 0)]; rfl
       have hKz : decide ((0 : Int) < (nk : Int)) = true := decide_eq_true (by omega)
       go_wp2_with fail
       go_ret
       exact ⟨by first | (rw [hR0]; rfl) | rfl, HBK.out⟩
      cases hS : sigB u3 <;> rw [hS] at HST HSG
      ·have hR0 : R = false := HST.out
       go_wp2_with (go_at_call 124; refine HSG.out.mono ?_; rintro e w5 ⟨rfl, hb5⟩)
       go_ret
       exact ⟨by first | (rw [hR0]; rfl) | rfl, HBK.out.trans (hb5.mono HBK.out.size)⟩
      ·have hRR : R = Rn := HST.out
       go_wp2_with (go_at_call 124; refine HSG.out.mono ?_; rintro e w5 ⟨rfl, hb5⟩)
       go_roundw
       case rel => exact ⟨1, by omega, by go_num, HRN.out.trans hRR.symm, HNE.out.below hb5 HNE.out.lt, HBK.out.trans (hb5.mono HBK.out.size)⟩
       case measure => simp [intOf]; omega
     | succ i =>
      obtain ⟨f1, p1, q0, q1, q2, q3, q4, q5, q6, q7, hq, hgq, -, hq0, -⟩ := kid_1 HK.out HL.out HX3.out (show i < kx.length by omega)
      obtain ⟨rfl, rfl⟩ : e1 = f1 ∧ o1 = p1 := by cases hq; exact ⟨rfl, rfl⟩
      have hq0 := Below.keeps hbw _ _ hq0
      have hq1 := Below.keeps (below_alloc1 wr (F #[S (bs m0), C u4 na u5, C u6 nk u7, S (bs u3)] 96)) _ _ hq0
      have hpv : prevB kx (i + 1) = (q0 == []) := by rw [prevB_succ (show i < kx.length by omega), hgq]; rfl
      rw [hpv] at HST
      have iq0 : q0.isEmpty = (q0 == []) := by cases q0 <;> rfl
      have iq1 : (bs q0).toList.isEmpty = (q0 == []) := isE_bs q0
      have hiz : (i : Int) < (kx.length : Int) := by omega
      have HST : RowKit.Hid (R = (!(u3 == []) && !(q0 == []) && decide (na = 0) && decide (nk = 0) && sigB u3 && Rn)) := Lib.hid HST.out
      clear hq hgq hpv hq0
      cases hQ : (q0 == []) <;> rw [hQ] at HST iq0 iq1
      rotate_left 1
      ·have hR0 : R = false := by rw [HST.out]; cases (u3 == []) <;> rfl
       cases hT : (u3 == []) <;> rw [hT] at it0 it1
       all_goals
        go_wp2_with fail
        go_ret
        exact ⟨by first | (rw [hR0]; rfl) | rfl, HBK.out⟩
      cases hT : (u3 == []) <;> rw [hT] at HST it0 it1
      rotate_left 1
      ·have hR0 : R = false := HST.out
       go_wp2_with fail
       go_ret
       exact ⟨by first | (rw [hR0]; rfl) | rfl, HBK.out⟩
      rcases Nat.eq_zero_or_pos na with rfl | hA
      rotate_left 1
      ·have hR0 : R = false := by rw [HST.out, decide_eq_false (by omega : ¬ na = 0)]; rfl
       have hAz : decide ((0 : Int) < (na : Int)) = true := decide_eq_true (by omega)
       go_wp2_with fail
       go_ret
       exact ⟨by first | (rw [hR0]; rfl) | rfl, HBK.out⟩
      rcases Nat.eq_zero_or_pos nk with rfl | hK
      rotate_left 1
      ·have hR0 : R = false := by rw [HST.out, decide_eq_false (by omega : ¬ nk = 0)]; rfl
       have hKz : decide ((0 : Int) < (nk : Int)) = true := decide_eq_true (by omega)
       go_wp2_with fail
       go_ret
       exact ⟨by first | (rw [hR0]; rfl) | rfl, HBK.out⟩
      cases hS : sigB u3 <;> rw [hS] at HST HSG
      ·have hR0 : R = false := HST.out
       go_wp2_with (go_at_call 124; refine HSG.out.mono ?_; rintro e w5 ⟨rfl, hb5⟩)
       go_ret
       exact ⟨by first | (rw [hR0]; rfl) | rfl, HBK.out.trans (hb5.mono HBK.out.size)⟩
      ·have hRR : R = Rn := HST.out
       go_wp2_with (go_at_call 124; refine HSG.out.mono ?_; rintro e w5 ⟨rfl, hb5⟩)
       go_roundw
       case rel => exact ⟨i + 1 + 1, by omega, by go_num, HRN.out.trans hRR.symm, HNE.out.below hb5 HNE.out.lt, HBK.out.trans (hb5.mono HBK.out.size)⟩
       case measure => simp [intOf]; omega
   ·obtain rfl : j = kx.length := by omega
    have hR0 : R = true := by
     rw [← hno, List.drop_of_length_le (nR _)]
     unfold Tr.rgtL
     rfl
    clear hno
    go_wp2_with fail
    go_ret
    exact ⟨by rw [hR0]; rfl, hbw⟩
end
section
set_option maxHeartbeats 4000000
set_option maxRecDepth 100000
open Go.RowKit
theorem bty_wr : BTy 132 := ⟨by kernel_rfl, by decide⟩
def WrR (E : Nat → Addr) (B b : Nat) (l m : List UInt8) (w0 w : World) (e : Ending) (w' : World) : Prop :=
 Below B w0 w' ∧ ((l.length + m.length ≤ 20000 ∧ e = .returned (.tuple #[]) ∧ IsB 132 B b (l ++ m) w' ∧ Lib.OthersKept 5 (some b) w w') ∨ (20000 < l.length + m.length ∧ e = .panicked (panE E 2)))
theorem Blk.kept {b : Option Nat} {w w' : World} {g : Nat} {t : TypeId} {cs : Array Value} (h : Blk w g t cs) (hk : Lib.OthersKept 5 b w w') (hb : some g ≠ b) (ht : t ≠ 5) : Blk w' g t cs :=
 hk g _ h hb fun c fz e => by injection e with _ h2 _; exact ht h2
theorem kept_below {b : Option Nat} {e : TypeId} {w w' : World} (h : Below w.heap.size w w') : Lib.OthersKept e b w w' := fun k o hk _ _ => (h.block k (Array.getElem?_eq_some_iff.1 hk).1).trans hk
theorem Errs.long {w : World} {E : Nat → Addr} (h : Errs w E) : w.cell? ⟨3, 0, none⟩ = some (.iface 313 (.pointer (some (E 2)))) := by
 have cE := h.cell 2 (by omega)
 simp only [errVar, errAt, List.getD_cons_zero, List.getD_cons_succ] at cE
 exact cE
theorem flat_take {xs : List (List UInt8)} {i : Nat} (h : i < xs.length) : (xs.take (i + 1)).flatten = (xs.take i).flatten ++ xs[i] := by
 rw [lR h, List.flatten_append]
 simp only [List.flatten_cons, List.flatten_nil, List.append_nil]
theorem flat_le {xs : List (List UInt8)} {i : Nat} : (xs.take i).flatten.length ≤ xs.flatten.length := by
 conv => rhs; rw [← List.take_append_drop i xs, List.flatten_append, lF]
 omega
theorem put_any (E : Nat → Addr) (b r : Nat) (l : List UInt8) (ms : List (List UInt8)) (w0 w : World) (hE : Errs w0 E) (hI : IsB 132 w0.heap.size b l w) (hl : l.length ≤ 20000) (hbw : Below w0.heap.size w0 w) (hr : Blk w r 9 (strs ms).toArray) (hrb : r ≠ b) (hms : ms.length ≤ 1000) (hsz : ∀ s ∈ ms, s.length ≤ 100000000) :
  Calls pG 125 #[.pointer (some ⟨b, 0, none⟩), C (some ⟨r, 0, none⟩) ms.length ms.length] w (WrR E w0.heap.size b l ms.flatten w0 w) := by
 have HE := Lib.hid hE
 have HI := Lib.hid hI
 have HB := Lib.hid hbw
 have HR := Lib.hid hr
 have HS := Lib.hid hsz
 clear hE hI hbw hr hsz
 go_enter Tryz.func125, Tryz.ntmps125
 go_wp2_with fail
 go_loopw [8] (fun i wr => ∃ j : Nat, j ≤ ms.length ∧ i = .int .i64 j ∧ IsB 132 w0.heap.size b (l ++ (ms.take j).flatten) wr ∧ (l ++ (ms.take j).flatten).length ≤ 20000 ∧ Lib.OthersKept 5 (some b) w wr ∧ Below w0.heap.size w0 wr) (fun i _ => ms.length - (intOf i).toNat)
 case atStart => exact ⟨0, by omega, rfl, by simpa using HI.out, by simpa using hl, Lib.OthersKept.refl _ _ _, HB.out⟩
 case round =>
  obtain ⟨j, hj, rfl, hIr, hlr, hkr, hbr⟩ := hrel
  by_cases hlt : j < ms.length
  ·have hlt' : (j : Int) < (ms.length : Int) := by omega
   have hrr := HR.out.kept hkr (by simpa using hrb) (by decide)
   have hcr := (hrr.cell j).trans (show (strs ms).toArray[j]? = some (S (bs ms[j])) by simp [strs, hlt])
   have hln := blen_any w0.heap.size b (l ++ (ms.take j).flatten) wr hIr
   have hEr := (HE.out.below hbr).long
   have hsj := HS.out _ (List.getElem_mem hlt)
   have hfl := flat_take hlt
   have hle := flat_le (xs := ms) (i := j + 1)
   obtain ⟨s, hs⟩ : ∃ s, ms[j] = s := ⟨_, rfl⟩
   rw [hs] at hcr hsj hfl
   rw [hfl, lF] at hle
   clear hs hrr
   have hfin : (l ++ (ms.take (j + 1)).flatten) = (l ++ (ms.take j).flatten) ++ s := by rw [hfl, List.append_assoc]
   have hle2 : (l ++ (ms.take j).flatten).length + s.length ≤ l.length + ms.flatten.length := by rw [lF]; omega
   have HFL := Lib.hid hfin
   clear hfl hle hfin
   generalize l ++ (ms.take j).flatten = acc at *
   have hwr : wrap64 (20000 - (acc.length : Int)) = 20000 - (acc.length : Int) := by unfold wrap64; omega
   have HLN := Lib.hid hln
   have HBR := Lib.hid hbr
   have HKR := Lib.hid hkr
   have hbsz := bs_size s
   have hb9 := hbr.size
   clear hln hbr hkr
   by_cases htoo : 20000 < acc.length + s.length
   ·have hz : decide ((20000 : Int) - (acc.length : Int) < (s.length : Int)) = true := decide_eq_true (by omega)
    have htot : 20000 < l.length + ms.flatten.length := by omega
    clear hIr
    go_wp2_with (go_at_call 174; refine HLN.out.mono ?_; rintro e w2 ⟨rfl, rfl⟩)
    exact ⟨rfl, HBR.out, .inr ⟨htot, rfl⟩⟩
   ·have hz : decide ((20000 : Int) - (acc.length : Int) < (s.length : Int)) = false := decide_eq_false (by omega)
    have HW := Lib.hid (bwrite_any bty_wr w0.heap.size b acc s wr hIr (by omega) (by omega))
    clear hIr
    go_wp2_with (first | (go_at_call 174; refine HLN.out.mono ?_; rintro e w2 ⟨rfl, rfl⟩) | (go_at_call 175; refine HW.out.mono ?_; rintro e w4 ⟨rfl, g1, g2, g3⟩))
    go_roundw
    case rel => exact ⟨j + 1, by omega, by go_num, by rw [HFL.out]; exact g1, by rw [HFL.out, lF]; omega, HKR.out.trans g3, HBR.out.trans g2⟩
    case measure => simp [intOf]; omega
  ·obtain rfl : j = ms.length := by omega
   rw [List.take_of_length_le (nR _)] at hIr hlr
   go_wp2_with fail
   go_end0
   exact ⟨hbr, .inl ⟨by rw [lF] at hlr; exact hlr, rfl, hIr, hkr⟩⟩
end
end Go.Proofs.YthboiahdheehkaaGreatDoor
