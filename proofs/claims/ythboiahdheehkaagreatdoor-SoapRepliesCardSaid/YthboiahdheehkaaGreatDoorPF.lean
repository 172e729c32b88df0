/- XmlWA -/
import Derived.Test.YthboiahdheehkaaGreatDoorPE
import Derived.Test.YthboiahdheehkaaGreatDoorPD
import Derived.Test.YthboiahdheehkaaGreatDoorBB
open List renaming setIfInBounds_toArray → lA, set_cons_succ → lB, set_cons_zero → lC, cons_append → lD, nil_append → lE, length_append → lF, not_mem_nil → lG, mem_cons → lI, take_append_drop → lJ, take_of_length_le → lQ
open Exists renaming intro → xI
open Nat renaming le_refl → nR
open Go.Proofs.Tryz renaming prog → pG
open Go.Value renaming string → V
open Go.Value renaming slice → C
open Go.Value renaming pointer → A
open Go.Obj renaming cells → F
namespace Go.Proofs.YthboiahdheehkaaGreatDoor
section
set_option maxHeartbeats 8000000
set_option maxRecDepth 20000
open Go.RowKit
attribute [local go_sem] bs_toList
section
variable {E : Nat → Addr} {B b : Nat} {l m : List UInt8} {w0 w w' w'' : World} {e : Ending}
theorem WrR.ok (h : WrR E B b l m w0 w e w') (hl : l.length + m.length ≤ 20000) : e = .returned (.tuple #[]) ∧ IsB 132 B b (l ++ m) w' ∧ Lib.OthersKept 5 (some b) w w' ∧ Below B w0 w' := by
 rcases h.2 with ⟨_, h1, h2, h3⟩ | ⟨h1, _⟩
 ·exact ⟨h1, h2, h3, h.1⟩
 ·omega
theorem WrR.no (h : WrR E B b l m w0 w e w') (hl : 20000 < l.length + m.length) : e = .panicked (panE E 2) ∧ Below B w0 w' := by
 rcases h.2 with ⟨h1, _⟩ | ⟨_, h1⟩
 ·omega
 ·exact ⟨h1, h.1⟩
end
def attS (x0 x1 : List UInt8) : List (List UInt8) := [[32], x0, [61, 34], escF true x1, [34]]
theorem attS_flat (x0 x1 : List UInt8) : (attS x0 x1).flatten = atT [x0, x1] := by
 unfold attS atT
 simp
theorem atT_le {xs : List (List (List UInt8))} {i : Nat} : ((xs.take i).flatMap atT).length ≤ (xs.flatMap atT).length := by
 conv => rhs; rw [← lJ i xs, List.flatMap_append, lF]
 omega
theorem wrt_el {a0 : List UInt8} (h : a0 ≠ []) (ax : List (List (List UInt8))) (kx : List Tr) (tx : List UInt8) : (Tr.node [a0] ax kx tx).wrt = [60] ++ a0 ++ ax.flatMap atT ++ (if kx.length = 0 then [47, 62] else [62] ++ Tr.wrtL kx ++ ([60, 47] ++ a0 ++ [62])) := by
 rw [Tr.wrt]
 exact if_neg (show ¬ [a0].getD 0 [] = [] from h)
theorem wrt_tx (ax : List (List (List UInt8))) (kx : List Tr) (tx : List UInt8) : (Tr.node [[]] ax kx tx).wrt = escF false tx := by
 rw [Tr.wrt]
 exact if_pos (show ([[]] : List (List UInt8)).getD 0 [] = [] from rfl)
theorem put_at (E : Nat → Addr) (b : Nat) (l : List UInt8) (ms : List (List UInt8)) (w0 w : World) (hE : Errs w0 E) (hI : IsB 132 w0.heap.size b l w) (hl : l.length ≤ 20000) (hbw : Below w0.heap.size w0 w) (hms : ms.length ≤ 1000) (hsz : ∀ s ∈ ms, s.length ≤ 100000000) :
  Calls pG 125 #[A (some ⟨b, 0, none⟩), C (some ⟨w.heap.size, 0, none⟩) ms.length ms.length] (w.alloc (.cells (strs ms).toArray 9)) (WrR E w0.heap.size b l ms.flatten w0 w) := by
 refine (put_any E b w.heap.size l ms w0 _ hE (Lib.IsBuilderF.alloc hI _) hl (hbw.alloc hbw.size _) (Blk.new w _ _) (by have := IsB.lt hI; omega) hms hsz).mono ?_
 rintro e w' ⟨h1, h2⟩
 refine ⟨h1, h2.imp (fun ⟨a, c, d, f⟩ => ⟨a, c, d, (kept_below (below_alloc1 w _)).trans f⟩) id⟩
theorem element_any (E : Nat → Addr) (b : Nat) (w0 : World) (hg : LibG w0) (hE : Errs w0 E) : ∀ (n : Nat) (x : Tr) (P : Nat → Prop) (cx : List Value) (l : List UInt8) (w : World), x.sz ≤ n → x.ok 1 → x.shr → TrC w0 P x cx → IsB 132 w0.heap.size b l w → l.length ≤ 20000 → Below w0.heap.size w0 w →
  Calls pG 70 #[A (some ⟨b, 0, none⟩), .agg cx.toArray] w (WrR E w0.heap.size b l x.wrt w0 w) := by
 have HG := Lib.hid hg
 have HE := Lib.hid hE
 clear hg hE
 intro n
 induction n with
 | zero => intro x P cx l w hs; have := x.sz_pos; omega
 | succ n ih =>
  intro x P cx l w hs hx hsh hcx hI hl hbw
  obtain ⟨nx, ax, kx, tx⟩ := x
  unfold TrC at hcx
  unfold Tr.ok at hx
  unfold Tr.shr at hsh
  obtain ⟨hx1, hx2, hx3⟩ := hx
  obtain ⟨hs1, hs2, hs3, hs4⟩ := hsh
  obtain ⟨a0, rfl⟩ := one_of hx1
  obtain ⟨pa, ca, pk, ck, css, rfl, ⟨A1, A2, A3, -⟩, ⟨K1, K2, K3, -⟩, hL⟩ := hcx
  show Calls pG 70 #[A (some ⟨b, 0, none⟩), .agg #[V (bs a0), C pa ax.length ca, C pk kx.length ck, V (bs tx)]] w _
  have HI := Lib.hid hI
  have hbl := IsB.lt hI
  have HNB := Lib.hid (Blk.new w 96 #[V (bs a0), C pa ax.length ca, C pk kx.length ck, V (bs tx)])
  have HBA := Lib.hid (below_alloc1 w (F #[V (bs a0), C pa ax.length ca, C pk kx.length ck, V (bs tx)] 96))
  have hb1 := hbw.alloc hbw.size (F #[V (bs a0), C pa ax.length ca, C pk kx.length ck, V (bs tx)] 96)
  have HB1 := Lib.hid hb1
  have HA := Lib.hid A3
  have HK := Lib.hid K3
  have HL := Lib.hid hL
  have HX2 := Lib.hid hx2
  have HX3 := Lib.hid hx3
  have HS2 := Lib.hid hs2
  have HS4 := Lib.hid hs4
  have HIH := Lib.hid ih
  have hszw := hbw.size
  have has0 : shS a0 := hs1 a0 (by simp)
  clear hI A3 K3 hL hx2 hx3 hs2 hs4 ih hs1 hb1 hbw
  unfold maxLen at A2 K2
  by_cases h0 : a0 = []
  ·subst h0
   rw [wrt_tx]
   have HES := Lib.hid (escape_any tx false hs3 _ (HG.out.below HB1.out))
   have hel := escF_len false tx.length tx (nR _)
   obtain ⟨k0, -, -, k3, -⟩ := HNB.out.cc
   have k0' : (w.alloc (F #[V (bs []), C pa ax.length ca, C pk kx.length ck, V (bs tx)] 96)).cell? ⟨w.heap.size, 0, none⟩ = some (V ⟨#[]⟩) := k0
   clear k0
   go_enter Tryz.func70, Tryz.ntmps70
   go_wp2_with (go_at_call 126; refine HES.out.mono ?_; rintro e w2 ⟨rfl, hb2⟩)
   have hI2 := IsB.below (Lib.IsBuilderF.alloc HI.out (F #[V (bs []), C pa ax.length ca, C pk kx.length ck, V (bs tx)] 96)) hb2
   have hb20 := HB1.out.trans (hb2.mono HB1.out.size)
   have HP := Lib.hid (put_at E b l [escF false tx] w0 w2 HE.out hI2 hl hb20 (by simp) (by intro s hs; rw [List.mem_singleton] at hs; subst hs; have := hs3; omega))
   rw [show [escF false tx].flatten = escF false tx from by simp] at HP
   have HK2 := Lib.hid ((kept_below (e := 5) (b := some b) HBA.out).trans (kept_below hb2))
   clear hI2 hb20 k0' k3
   by_cases htoo : 20000 < l.length + (escF false tx).length
   ·have htot := htoo
    go_wp2_with (go_at_call 125; refine (HP.out.mono fun _ _ h => h.no htoo).mono ?_; rintro e w4 ⟨rfl, hb4⟩)
    exact ⟨rfl, hb4, .inr ⟨htot, rfl⟩⟩
   ·have hfit : l.length + (escF false tx).length ≤ 20000 := by omega
    go_wp2_with (go_at_call 125; refine (HP.out.mono fun _ _ h => h.ok hfit).mono ?_; rintro e w4 ⟨rfl, hI4, hk4, hb4⟩)
    go_end0
    exact ⟨hb4, .inl ⟨hfit, rfl, hI4, HK2.out.trans hk4⟩⟩
  ·have hM := wrt_el h0 ax kx tx
   obtain ⟨M, hMM⟩ : ∃ M, (Tr.node [a0] ax kx tx).wrt = M := ⟨_, rfl⟩
   rw [hMM] at hM ⊢
   obtain ⟨T, hT⟩ : ∃ T, (if kx.length = 0 then [47, 62] else [62] ++ Tr.wrtL kx ++ ([60, 47] ++ a0 ++ [62])) = T := ⟨_, rfl⟩
   rw [hT] at hM
   have hML : M.length = 1 + a0.length + (ax.flatMap atT).length + T.length := by rw [hM]; simp; omega
   have HM := Lib.hid hM
   have HT := Lib.hid hT
   have hi0 : a0.isEmpty = false := by cases a0 with
    | nil => exact absurd rfl h0
    | cons c t => rfl
   have hi1 : (bs a0).toList.isEmpty = false := by rw [bs_toList]; exact hi0
   have k0 := (HNB.out.cell 0).trans rfl
   have HP := Lib.hid (put_at E b l [[60], a0] w0 _ HE.out (Lib.IsBuilderF.alloc HI.out (F #[V (bs a0), C pa ax.length ca, C pk kx.length ck, V (bs tx)] 96)) hl HB1.out (by simp) (by intro s hs; simp only [lI, lG, or_false] at hs; rcases hs with rfl | rfl; exact (by decide); have := has0; omega))
   rw [show [[60], a0].flatten = 60 :: a0 from by simp, World.size_alloc] at HP
   have hks : ∀ i (hi : i < kx.length), kx[i].sz ≤ n := fun i hi => by
    have := Tr.sz_kid (.node [a0] ax kx tx) i hi
    have h2 : (Tr.node [a0] ax kx tx).ks[i] = kx[i] := rfl
    rw [h2] at this
    omega
   have HKS := Lib.hid hks
   have HML := Lib.hid hML
   have HKB : RowKit.Hid ((some w.heap.size) ≠ (some b)) := Lib.hid (by intro h; cases h; omega)
   clear hM hT hMM hks h0 hML
   go_enter Tryz.func70, Tryz.ntmps70
   by_cases htoo : 20000 < l.length + (60 :: a0).length
   ·have HTOT : RowKit.Hid (20000 < l.length + M.length) := Lib.hid (by have hML := HML.out; rw [List.length_cons] at htoo; omega)
    have HTOO := Lib.hid htoo
    clear htoo
    go_wp2_with (go_at_call 125; refine (HP.out.mono fun _ _ h => h.no HTOO.out).mono ?_; rintro e w4 ⟨rfl, hb4⟩)
    exact ⟨rfl, hb4, .inr ⟨HTOT.out, rfl⟩⟩
   have hfit : l.length + (60 :: a0).length ≤ 20000 := by omega
   have HFIT := Lib.hid hfit
   clear htoo hfit
   go_wp2_with (go_at_call 125; refine (HP.out.mono fun _ _ h => h.ok HFIT.out).mono ?_; clear HP; rintro e w4 ⟨rfl, hI4, hk4, hb4⟩; have HN4 := Lib.hid (HNB.out.kept hk4 HKB.out (by decide)); have k1 := (HN4.out.cell 1).trans rfl)
   have HI4 := Lib.hid hI4
   have HK4 := Lib.hid hk4
   have HB4 := Lib.hid hb4
   clear hI4 hk4 hb4 k0 k1 hi0 hi1
   go_loopw [25] (fun i wr => ∃ (j : Nat) (acc : List UInt8), j ≤ ax.length ∧ i = .int .i64 j ∧ acc = l ++ (60 :: a0 ++ (ax.take j).flatMap atT) ∧ IsB 132 w0.heap.size b acc wr ∧ acc.length ≤ 20000 ∧ Lib.OthersKept 5 (some b) (w.alloc (F #[V (bs a0), C pa ax.length ca, C pk kx.length ck, V (bs tx)] 96)) wr ∧ Below w0.heap.size w0 wr) (fun i _ => ax.length - (intOf i).toNat)
   case atStart => exact ⟨0, l ++ 60 :: a0, by omega, rfl, by simp, HI4.out, by rw [lF]; exact HFIT.out, HK4.out, HB4.out⟩
   case round =>
    clear HI4 HK4 HB4 HN4
    obtain ⟨j, acc, hj, rfl, hacc, hIr, hlr, hkr, hbr⟩ := hrel
    by_cases hlt : j < ax.length
    ·obtain ⟨e1, o1, x0, x1, rfl, hgx, hx0, hx1⟩ := at_1 HA.out HX2.out hlt
     have hx0 := Below.keeps hbr _ _ hx0
     have hx1 := Below.keeps hbr _ _ hx1
     have hlt' : (j : Int) < (ax.length : Int) := by omega
     have hx0s : shS x0 := HS2.out _ (List.getElem_mem hlt) x0 (by rw [hgx]; simp)
     have hx1s : shS x1 := HS2.out _ (List.getElem_mem hlt) x1 (by rw [hgx]; simp)
     have hel := escF_len true x1.length x1 (nR _)
     have hnx : l ++ (60 :: a0 ++ (ax.take (j + 1)).flatMap atT) = acc ++ atT [x0, x1] := by
      rw [atT_take hlt, hgx, hacc]; simp
     have hle : acc.length + (atT [x0, x1]).length ≤ l.length + M.length := by
      have h1 := congrArg List.length hnx
      have h2 := atT_le (xs := ax) (i := j + 1)
      have h3 := HML.out
      simp only [lF, List.length_cons] at h1
      omega
     have hNA := Blk.new wr 186 #[V (bs x0), V (bs x1)]
     have hbA := hbr.alloc hbr.size (F #[V (bs x0), V (bs x1)] 186)
     have hIA : IsB 132 w0.heap.size b acc (wr.alloc (F #[V (bs x0), V (bs x1)] 186)) := Lib.IsBuilderF.alloc hIr _
     have hkA := hkr.trans (kept_below (below_alloc1 wr (F #[V (bs x0), V (bs x1)] 186)))
     have HNX := Lib.hid hnx
     clear hgx hnx hIr hkr hbr hacc
     go_wp2_with fail
     generalize wr.alloc (F #[V (bs x0), V (bs x1)] 186) = wa at *
     obtain ⟨c0, c1, -⟩ := hNA.cc
     have HBA2 := Lib.hid hbA
     have HIA := Lib.hid hIA
     have HKA := Lib.hid hkA
     clear hNA hbA hIA hkA hx0 hx1
     refine wp_phi_tail (List.take 7 _) (List.drop 7 _) (lJ 7 _).symm (fun w' => (w'.cell? ⟨wr.heap.size, 0, none⟩ = some (V (bs x0))) ∧ (w'.cell? ⟨wr.heap.size, 0 + 1, none⟩ = some (V (bs x1))) ∧ Below wa.heap.size wa w') [(5, PVal (V (bs (escF true x1)))), (6, PBlk wa.heap.size 9 #[V ⟨#[32]⟩, V (bs x0), V ⟨#[61, 34]⟩, V (bs (escF true x1)), V ⟨#[34]⟩] 5)] [] (by kernel_rfl) (by kernel_rfl) ?_ ?_ ⟨c0, c1, ((Below.refl _ wa)).drew⟩ ?_
     ·rintro w1' w2' ⟨g0, g1, hIB⟩ hb
      exact ⟨Below.keeps hb _ _ g0, Below.keeps hb _ _ g1, hIB.trans (hb.mono hIB.size)⟩
     ·simp only [lI, lG, or_false, forall_eq_or_imp, forall_eq]
      exact ⟨fun _ _ _ _ h' h => PVal_stays _ _ _ _ h' h, fun _ _ _ _ h' h => PBlk_stays h' h⟩
     simp only [List.take_succ_cons, List.take_zero, List.drop_succ_cons, List.drop_zero]
     repeat ((first | refine phi_skipK rfl (fun K hK => ?_) | (refine phi_pureK rfl rfl (fun K hK => ?_); apply xI; constructor; (focus (rintro w' ⟨g0, g1, hIB⟩; skip; first | (go_simp; done) | (go_simp; (try go_bits); (try go_simp); rfl) | go_simp)))); simp only [Act.put, lA, lB, lC, lD, lE]; apply hK; clear hK K)
     refine phi_partK (PVal (V (bs (escF true x1)))) rfl rfl ⟨_, rfl⟩ ?_ (fun K hK v hv => ?_)
     ·rintro w' ⟨g0, g1, hIB⟩ hf
      unfold gives
      clear hf
      go_simp
      refine (escape_any x1 true hx1s w' (HG.out.below (HBA2.out.trans (hIB.mono HBA2.out.size)))).mono ?_
      rintro e w'' ⟨rfl, hb⟩
      exact ⟨_, rfl, rfl, trivial, hb⟩
     obtain rfl : v = _ := hv
     simp only [Act.put, lA, lB, lC, lD, lE]
     apply hK
     clear hK K
     repeat ((first | refine phi_skipK rfl (fun K hK => ?_) | (refine phi_pureK rfl rfl (fun K hK => ?_); apply xI; constructor; (focus (rintro w' ⟨g0, g1, hIB⟩; skip; first | (go_simp; done) | (go_simp; (try go_bits); (try go_simp); rfl) | go_simp)))); simp only [Act.put, lA, lB, lC, lD, lE]; apply hK; clear hK K)
     refine phi_partK (PBlk wa.heap.size 9 #[V ⟨#[32]⟩, V (bs x0), V ⟨#[61, 34]⟩, V (bs (escF true x1)), V ⟨#[34]⟩] 5) rfl rfl ⟨_, 0, rfl⟩ ?_ (fun K hK v hv => ?_)
     ·rintro w' ⟨g0, g1, hIB⟩ hf
      have HGS := Lib.hid hIB.size
      clear hf g0 g1 hIB
      unfold gives
      go_simp
      refine ⟨⟨_, rfl⟩, fun g hg => ?_, below_alloc1 _ _⟩
      obtain rfl : w'.heap.size = g := by simpa using hg
      exact ⟨HGS.out, Blk.new _ _ _⟩
     obtain ⟨g_6, rfl⟩ := hv
     simp only [Act.put, lA, lB, lC, lD, lE]
     apply hK
     clear hK K
     repeat ((first | refine phi_skipK rfl (fun K hK => ?_) | (refine phi_pureK rfl rfl (fun K hK => ?_); apply xI; constructor; (focus (rintro w' ⟨g0, g1, hIB⟩; skip; first | (go_simp; done) | (go_simp; (try go_bits); (try go_simp); rfl) | go_simp)))); simp only [Act.put, lA, lB, lC, lD, lE]; apply hK; clear hK K)
     refine phi_done ?_
     rintro w2 ⟨g0, g1, hb2⟩ hk9
     have hb_6 := hk9 (6, fun w1 => (PBlk wa.heap.size 9 #[V ⟨#[32]⟩, V (bs x0), V ⟨#[61, 34]⟩, V (bs (escF true x1)), V ⟨#[34]⟩] 5).fact w1 (C (some ⟨g_6, 0, none⟩) 5 5)) (by simp) g_6 rfl
     clear hk9
     have hI2 := IsB.below HIA.out hb2
     have hb20 := HBA2.out.trans (hb2.mono HBA2.out.size)
     have HK2 := Lib.hid (HKA.out.trans (kept_below hb2))
     have hbr9 : g_6 ≠ b := by (have h1 := IsB.lt HIA.out; have h2 := hb_6.1; omega)
     have HP := Lib.hid (put_any E b g_6 acc (attS x0 x1) w0 w2 HE.out hI2 hlr hb20 hb_6.2 hbr9 (by simp [attS]) (by intro s hs; unfold attS at hs; simp only [lI, lG, or_false] at hs; rcases hs with rfl | rfl | rfl | rfl | rfl; exact (by decide); (have := hx0s; omega); exact (by decide); (have := hx1s; omega); exact (by decide)))
     rw [attS_flat] at HP
     unfold attS at HP
     clear hI2 hb20 hb2 c0 c1 g0 g1 hb_6 hbr9
     by_cases htoo : 20000 < acc.length + (atT [x0, x1]).length
     ·have HTOT : RowKit.Hid (20000 < l.length + M.length) := Lib.hid (by omega)
      have HTOO := Lib.hid htoo
      clear htoo hle
      go_wp2_with (go_at_call 125; refine (HP.out.mono fun _ _ h => h.no HTOO.out).mono ?_; rintro e w4 ⟨rfl, hb4⟩)
      exact ⟨rfl, hb4, .inr ⟨HTOT.out, rfl⟩⟩
     ·have HFIT : RowKit.Hid (acc.length + (atT [x0, x1]).length ≤ 20000) := Lib.hid (by omega)
      clear htoo hle
      go_wp2_with (go_at_call 125; refine (HP.out.mono fun _ _ h => h.ok HFIT.out).mono ?_; rintro e w4 ⟨rfl, hI4, hk4, hb4⟩)
      go_roundw
      case rel => exact ⟨j + 1, acc ++ atT [x0, x1], by omega, by go_num, HNX.out.symm, hI4, by rw [lF]; exact HFIT.out, HK2.out.trans hk4, hb4⟩
      case measure => simp [intOf]; omega
    ·obtain rfl : j = ax.length := by omega
     rw [lQ (nR _)] at hacc
     have hacl : acc.length = l.length + (1 + a0.length + (ax.flatMap atT).length) := by rw [hacc]; simp; omega
     have HACC := Lib.hid hacc
     have HACL := Lib.hid hacl
     have hNB := HNB.out.kept hkr HKB.out (by decide)
     have k2 := (hNB.cell 2).trans rfl
     have HKR := Lib.hid hkr
     have HBR := Lib.hid hbr
     have HIR := Lib.hid hIr
     have HNR := Lib.hid hNB
     clear hacc hacl hkr hbr hIr hNB
     by_cases hk0 : kx.length = 0
     ·have hT := HT.out
      rw [if_pos hk0] at hT
      have hkz : ((kx.length : Int) == 0) = true := by rw [hk0]; rfl
      have HP := Lib.hid (put_at E b acc [[47, 62]] w0 wr HE.out HIR.out hlr HBR.out (by simp) (by intro s hs; rw [List.mem_singleton] at hs; subst hs; exact (by decide)))
      rw [show ([[47, 62]] : List (List UInt8)).flatten = [47, 62] from by simp] at HP
      have HFM : RowKit.Hid (l ++ M = acc ++ [47, 62] ∧ l.length + M.length = acc.length + [47, 62].length) := Lib.hid ⟨by rw [HM.out, HACC.out, ← hT]; simp, by rw [HML.out, HACL.out, ← hT]; omega⟩
      clear hT hk0
      by_cases htoo : 20000 < acc.length + ([47, 62] : List UInt8).length
      ·have HTOT : RowKit.Hid (20000 < l.length + M.length) := Lib.hid (by rw [HFM.out.2]; exact htoo)
       have HTOO := Lib.hid htoo
       clear htoo
       go_wp2_with (go_at_call 125; refine (HP.out.mono fun _ _ h => h.no HTOO.out).mono ?_; rintro e w4 ⟨rfl, hb4⟩)
       exact ⟨rfl, hb4, .inr ⟨HTOT.out, rfl⟩⟩
      ·have HFIT : RowKit.Hid (acc.length + ([47, 62] : List UInt8).length ≤ 20000) := Lib.hid (by omega)
       clear htoo
       go_wp2_with (go_at_call 125; refine (HP.out.mono fun _ _ h => h.ok HFIT.out).mono ?_; rintro e w4 ⟨rfl, hI4, hk4, hb4⟩)
       go_end0
       exact ⟨hb4, .inl ⟨by rw [HFM.out.2]; exact HFIT.out, rfl, by rw [HFM.out.1]; exact hI4, ((kept_below HBA.out).trans HKR.out).trans hk4⟩⟩
     ·have hT := HT.out
      rw [if_neg hk0] at hT
      have hkz : ((kx.length : Int) == 0) = false := beq_eq_false_iff_ne.2 (by omega)
      have HP := Lib.hid (put_at E b acc [[62]] w0 wr HE.out HIR.out hlr HBR.out (by simp) (by intro s hs; rw [List.mem_singleton] at hs; subst hs; exact (by decide)))
      rw [show ([[62]] : List (List UInt8)).flatten = [62] from by simp] at HP
      have htl : T.length = 1 + (Tr.wrtL kx).length + (3 + a0.length) := by rw [← hT]; simp; omega
      have HTL := Lib.hid htl
      have HFM : RowKit.Hid (l ++ M = acc ++ [62] ++ Tr.wrtL kx ++ ([60, 47] ++ a0 ++ [62])) := Lib.hid (by rw [HM.out, HACC.out, ← hT]; simp)
      clear hT htl hk0
      by_cases htoo : 20000 < acc.length + ([62] : List UInt8).length
      ·have HTOT : RowKit.Hid (20000 < l.length + M.length) := Lib.hid (by rw [HML.out, HTL.out]; have := HACL.out; simp at htoo; omega)
       have HTOO := Lib.hid htoo
       clear htoo
       go_wp2_with (go_at_call 125; refine (HP.out.mono fun _ _ h => h.no HTOO.out).mono ?_; rintro e w4 ⟨rfl, hb4⟩)
       exact ⟨rfl, hb4, .inr ⟨HTOT.out, rfl⟩⟩
      have HFIT : RowKit.Hid (acc.length + ([62] : List UInt8).length ≤ 20000) := Lib.hid (by omega)
      clear htoo
      go_wp2_with (go_at_call 125; refine (HP.out.mono fun _ _ h => h.ok HFIT.out).mono ?_; rintro e w4 ⟨rfl, hI4, hk4, hb4⟩; have k2' := ((HNR.out.kept hk4 HKB.out (by decide)).cell 2).trans rfl)
      have HI4 := Lib.hid hI4
      have HK4 := Lib.hid (HKR.out.trans hk4)
      have HB4 := Lib.hid hb4
      clear hI4 hk4 hb4 k2 k2' hkz
      go_loopw [51] (fun i wr => ∃ (j : Nat) (bcc : List UInt8), j ≤ kx.length ∧ i = .int .i64 j ∧ bcc = acc ++ [62] ++ Tr.wrtL (kx.take j) ∧ IsB 132 w0.heap.size b bcc wr ∧ bcc.length ≤ 20000 ∧ Lib.OthersKept 5 (some b) (w.alloc (F #[V (bs a0), C pa ax.length ca, C pk kx.length ck, V (bs tx)] 96)) wr ∧ Below w0.heap.size w0 wr) (fun i _ => kx.length - (intOf i).toNat)
      case atStart => exact ⟨0, acc ++ [62], by omega, rfl, by rw [List.take_zero, wrtL_nil, List.append_nil], HI4.out, by rw [lF]; exact HFIT.out, HK4.out, HB4.out⟩
      case round =>
       clear HI4 HK4 HB4 HP HIR HKR HBR HNR
       obtain ⟨j, bcc, hj, rfl, hbcc, hIr, hlb, hkr, hbr⟩ := hrel
       by_cases hlt : j < kx.length
       ·obtain ⟨e1, o1, m0, u1, u2, u3, u4, u5, u6, u7, rfl, hgx, hT1, hk0, hk1, hk2, hk3⟩ := kid_1 HK.out HL.out HX3.out hlt
        have hk0 := Below.keeps hbr _ _ hk0
        have hk1 := Below.keeps hbr _ _ hk1
        have hk2 := Below.keeps hbr _ _ hk2
        have hk3 := Below.keeps hbr _ _ hk3
        have hlt' : (j : Int) < (kx.length : Int) := by omega
        have hsk := shrL_get kx HS4.out j hlt
        have hok := okL_get 1 kx HX3.out j hlt
        have hsz := HKS.out j hlt
        have hnx : acc ++ [62] ++ Tr.wrtL (kx.take (j + 1)) = bcc ++ kx[j].wrt := by rw [wrtL_take hlt, hbcc]; simp
        have hle : bcc.length + kx[j].wrt.length ≤ l.length + M.length := by
         have h1 := congrArg List.length hnx
         have h2 := congrArg List.length HFM.out
         have h3 := wrtL_le (xs := kx) (i := j + 1)
         simp only [lF] at h1 h2
         omega
        have hIH := Lib.hid (HIH.out kx[j] P _ bcc (wr.alloc (F #[V (bs m0), C u4 u1.length u5, C u6 u2.length u7, V (bs u3)] 96)) hsz hok hsk hT1 (Lib.IsBuilderF.alloc hIr _) hlb (hbr.alloc hbr.size _))
        have HK5 := Lib.hid (hkr.trans (kept_below (below_alloc1 wr (F #[V (bs m0), C u4 u1.length u5, C u6 u2.length u7, V (bs u3)] 96))))
        have HNX := Lib.hid hnx
        have hNK := Blk.new wr 96 #[V (bs m0), C u4 u1.length u5, C u6 u2.length u7, V (bs u3)]
        obtain ⟨c0, c1, c2, c3, -⟩ := hNK.cc
        have hbcl := hbcc
        clear hbcl hbcc hsk hok hsz hgx hT1 hIr hkr hbr hnx hNK
        generalize kx[j].wrt = kw at *
        by_cases htoo : 20000 < bcc.length + kw.length
        ·have HTOT : RowKit.Hid (20000 < l.length + M.length) := Lib.hid (by omega)
         have HTOO := Lib.hid htoo
         clear htoo hle
         go_wp2_with (go_at_call 70; refine (hIH.out.mono fun _ _ h => h.no HTOO.out).mono ?_; rintro e w4 ⟨rfl, hb4⟩)
         exact ⟨rfl, hb4, .inr ⟨HTOT.out, rfl⟩⟩
        ·have HFIT2 : RowKit.Hid (bcc.length + kw.length ≤ 20000) := Lib.hid (by omega)
         clear htoo hle
         go_wp2_with (go_at_call 70; refine (hIH.out.mono fun _ _ h => h.ok HFIT2.out).mono ?_; rintro e w4 ⟨rfl, hI4, hk4, hb4⟩)
         go_roundw
         case rel => exact ⟨j + 1, bcc ++ kw, by omega, by go_num, HNX.out.symm, hI4, by rw [lF]; exact HFIT2.out, HK5.out.trans hk4, hb4⟩
         case measure => simp [intOf]; omega
       ·obtain rfl : j = kx.length := by omega
        rw [lQ (nR _)] at hbcc
        have HBC := Lib.hid hbcc
        have hNB := HNB.out.kept hkr HKB.out (by decide)
        have k0 := (hNB.cell 0).trans rfl
        have HKR := Lib.hid hkr
        have HP := Lib.hid (put_at E b bcc [[60, 47], a0, [62]] w0 wr HE.out hIr hlb hbr (by simp) (by intro s hs; simp only [lI, lG, or_false] at hs; rcases hs with rfl | rfl | rfl; exact (by decide); (have := has0; omega); exact (by decide)))
        rw [show [[60, 47], a0, [62]].flatten = [60, 47] ++ a0 ++ [62] from by simp] at HP
        have HFN : RowKit.Hid (l ++ M = bcc ++ ([60, 47] ++ a0 ++ [62]) ∧ l.length + M.length = bcc.length + ([60, 47] ++ a0 ++ [62]).length) := Lib.hid ⟨by rw [HFM.out, HBC.out], by rw [← lF, HFM.out, ← HBC.out, lF]⟩
        clear hbcc hIr hkr hbr hNB
        generalize [60, 47] ++ a0 ++ [62] = en at *
        by_cases htoo : 20000 < bcc.length + en.length
        ·have HTOT : RowKit.Hid (20000 < l.length + M.length) := Lib.hid (by rw [HFN.out.2]; exact htoo)
         have HTOO := Lib.hid htoo
         clear htoo
         go_wp2_with (go_at_call 125; refine (HP.out.mono fun _ _ h => h.no HTOO.out).mono ?_; rintro e w4 ⟨rfl, hb4⟩)
         exact ⟨rfl, hb4, .inr ⟨HTOT.out, rfl⟩⟩
        ·have HFIT : RowKit.Hid (bcc.length + en.length ≤ 20000) := Lib.hid (by omega)
         clear htoo
         go_wp2_with (go_at_call 125; refine (HP.out.mono fun _ _ h => h.ok HFIT.out).mono ?_; rintro e w4 ⟨rfl, hI4, hk4, hb4⟩)
         go_end0
         exact ⟨hb4, .inl ⟨by rw [HFN.out.2]; exact HFIT.out, rfl, by rw [HFN.out.1]; exact hI4, ((kept_below HBA.out).trans HKR.out).trans hk4⟩⟩
end
section
set_option maxHeartbeats 8000000
set_option maxRecDepth 20000
open Go.RowKit
theorem text1_any (E : Nat → Addr) (k : Nat) (x : Tr) (P : Nat → Prop) (c0 c1 c2 c3 : Value) (w : World) (hg : LibG w) (hE : Errs w E) (hok : x.ok 1) (hsh : x.shr) (hT : TrC w P x [c0, c1, c2, c3]) (hk : Blk w k 96 #[c0, c1, c2, c3]) :
  Calls pG 69 #[A (some ⟨k, 0, none⟩)] w fun e w' => Below w.heap.size w w' ∧ ((x.wrt.length ≤ 20000 ∧ e = .returned (V (bs x.wrt))) ∨ (20000 < x.wrt.length ∧ e = .panicked (panE E 2))) := by
 have hI0 : IsB 132 w.heap.size w.heap.size [] (w.alloc (F #[.pointer none, C none 0 0] 132)) := Lib.IsBuilderF.of (Lib.fresh_isBuilder 132 5 w)
 have HEL := Lib.hid (element_any E w.heap.size w hg hE x.sz x P [c0, c1, c2, c3] [] _ (nR _) hok hsh hT hI0 (by simp) (below_alloc1 w _))
 have hk2 := hk.below (below_alloc1 w (F #[.pointer none, C none 0 0] 132)) hk.lt
 obtain ⟨d0, d1, d2, d3, -⟩ := hk2.cc
 clear hk hk2 hT hI0 hg hE hok hsh
 generalize x.wrt = m at *
 by_cases htoo : 20000 < m.length
 ·have HTOO : RowKit.Hid (20000 < ([] : List UInt8).length + m.length) := Lib.hid (by simpa using htoo)
  have HT2 := Lib.hid htoo
  clear htoo
  go_enter Tryz.func69, Tryz.ntmps69
  go_wp2_with (go_at_call 70; refine (HEL.out.mono fun _ _ h => h.no HTOO.out).mono ?_; rintro e w4 ⟨rfl, hb4⟩)
  exact ⟨rfl, hb4, .inr ⟨HT2.out, rfl⟩⟩
 ·have HFIT : RowKit.Hid (([] : List UInt8).length + m.length ≤ 20000) := Lib.hid (by simpa using htoo)
  have HT2 : RowKit.Hid (m.length ≤ 20000) := Lib.hid (by omega)
  clear htoo
  go_enter Tryz.func69, Tryz.ntmps69
  go_wp2_with (go_at_call 70; refine (HEL.out.mono fun _ _ h => h.ok HFIT.out).mono ?_; rintro e w4 ⟨rfl, hI4, hk4, hb4⟩)
  have HS := Lib.hid (bstring_any w.heap.size w.heap.size m w4 (by rw [← lE m]; exact hI4) hb4.size)
  go_wp2_with (go_at_call 71; refine HS.out.mono ?_; rintro e W1 ⟨rfl, b1⟩)
  go_ret
  exact ⟨hb4.trans b1, .inl ⟨HT2.out, rfl⟩⟩
end
section
set_option maxHeartbeats 8000000
set_option maxRecDepth 20000
open Go.RowKit
attribute [local go_sem] bs_toList
theorem try_text1 (w : World) (E : Nat → Addr) (f : FuncId) (caps : Array Value) (m : List UInt8) (he : Errs w E) (hcf : ∀ w, (callFunc f caps).run pG w = .ok (.enter f caps) w)
  (hdo : ∀ w1, Below w.heap.size w w1 → Calls pG f caps w1 fun e w' => Below w1.heap.size w1 w' ∧ ((m.length ≤ 20000 ∧ e = .returned (V (bs m))) ∨ (20000 < m.length ∧ e = .panicked (panE E 2)))) :
  Calls pG 27 #[.func (.func f) #[] caps] w fun e w' => e = .returned (.tuple #[V (bs (if 20000 < m.length then [] else m)), errV E (if 20000 < m.length then 3 else 0)]) ∧ Below w.heap.size w w' := by
 refine (tryStr_any w E f caps [] (fun _ v _ => m.length ≤ 20000 ∧ v = V (bs m)) (fun n _ _ => n = 2 ∧ 20000 < m.length) (by simp) (fun w' h => he.below h.nil_below) (fun _ v _ h => ⟨_, h.2⟩) hcf (fun w1 hb _ => (hdo w1 hb).mono ?_)).mono ?_
 ·rintro e w2 ⟨h1, h2⟩
  refine PanR.may (R := fun v _ => m.length ≤ 20000 ∧ v = V (bs m)) (Q := fun n => n = 2 ∧ 20000 < m.length) ⟨h1, ?_⟩
  rcases h2 with ⟨ho, rfl⟩ | ⟨ho, rfl⟩
  ·exact .inl ⟨_, rfl, ho, rfl⟩
  ·exact .inr ⟨2, by omega, ⟨rfl, ho⟩, rfl⟩
 ·intro e w' h
  obtain ⟨h1, h2⟩ := TryG.v (R := fun v _ => m.length ≤ 20000 ∧ v = V (bs m)) (Q := fun n => n = 2 ∧ 20000 < m.length) (fun _ _ _ _ h => h) h
  rcases h2 with ⟨v, rfl, hl, rfl⟩ | ⟨n, _, ⟨rfl, hl⟩, rfl⟩
  ·rw [if_neg (by omega), if_neg (by omega)]
   exact ⟨rfl, h1⟩
  ·rw [if_pos hl, if_pos hl]
   exact ⟨rfl, h1⟩
theorem text_f {x : Tr} (h : x.rgt 1 = false) : textE x = 4 ∧ textS x = [] := by
 unfold textS textE
 rw [if_pos h]
 exact ⟨rfl, rfl⟩
theorem text_t {x : Tr} (h : x.rgt 1 = true) : textE x = (if 20000 < x.wrt.length then 3 else 0) ∧ textS x = (if 20000 < x.wrt.length then [] else x.wrt) := by
 unfold textS textE
 rw [if_neg (by rw [h]; decide)]
 refine ⟨rfl, ?_⟩
 by_cases hl : 20000 < x.wrt.length
 ·rw [if_pos hl, if_pos hl]; rfl
 ·rw [if_neg hl, if_neg hl]; rfl
theorem Errs.form {w : World} {E : Nat → Addr} (h : Errs w E) : w.cell? ⟨0, 0, none⟩ = some (.iface 313 (A (some (E 3)))) := by
 have cE := h.cell 3 (by omega)
 simp only [errVar, errAt, List.getD_cons_zero, List.getD_cons_succ] at cE
 exact cE
theorem text_any (E : Nat → Addr) (x : Tr) (P : Nat → Prop) (cx : List Value) (w : World) (hg : LibG w) (hE : Errs w E) (hok : x.ok 1) (hsh : x.shr) (hT : TrC w P x cx) :
  Calls pG 38 #[.agg cx.toArray] w fun e w' => e = .returned (.tuple #[V (bs (textS x)), errV E (textE x)]) ∧ Below w.heap.size w w' := by
 have hlen := hT.len
 obtain ⟨c0, c1, c2, c3, rfl⟩ : ∃ c0 c1 c2 c3, cx = [c0, c1, c2, c3] := by
  obtain ⟨nm, ats, ks, t⟩ := x
  unfold Tr.ok at hok
  rw [show (Tr.node nm ats ks t).nm.length = 1 from hok.1] at hlen
  match cx, hlen with
  | [a, b, c, d], _ => exact ⟨a, b, c, d, rfl⟩
 show Calls pG 38 #[.agg #[c0, c1, c2, c3]] w _
 have HBA := Lib.hid (below_alloc1 w (F #[c0, c1, c2, c3] 96))
 have HNB := Lib.hid (Blk.new w 96 #[c0, c1, c2, c3])
 have HR := Lib.hid (xrgt_any x.sz x 1 P [c0, c1, c2, c3] _ (nR _) hok hsh (by omega) (hT.below HBA.out) (hg.below HBA.out))
 obtain ⟨d0, d1, d2, d3, -⟩ := HNB.out.cc
 have HTr := Lib.hid (fun w1 (hb : Below w.heap.size w w1) (hk : Blk w1 w.heap.size 96 #[c0, c1, c2, c3]) => text1_any E w.heap.size x P c0 c1 c2 c3 w1 (hg.below hb) (hE.below hb) hok hsh (hT.below hb) hk)
 have HE := Lib.hid hE
 have hcf := fun xs w => (show (callFunc 69 xs).run pG w = .ok (.enter 69 xs) w from by kernel_rfl)
 have hone : c0.oneCell' = true ∧ c1.oneCell' = true ∧ c2.oneCell' = true ∧ c3.oneCell' = true := by
  have h := hT.one
  exact ⟨h _ (by simp), h _ (by simp), h _ (by simp), h _ (by simp)⟩
 clear hg hE hok hsh hT hlen
 cases hr : x.rgt 1 <;> rw [hr] at HR
 ·obtain ⟨t1, t2⟩ := text_f hr
  rw [t1, t2]
  clear t1 t2 hr
  have HF := Lib.hid (fun w2 (hb : Below w.heap.size w w2) => (HE.out.below hb).form)
  go_enter Tryz.func38, Tryz.ntmps38
  go_wp2_with (go_at_call 68; refine HR.out.mono ?_; rintro e w2 ⟨rfl, hb2⟩; have cE := HF.out w2 (HBA.out.trans (hb2.mono HBA.out.size)))
  have hbw2 := HBA.out.trans (hb2.mono HBA.out.size)
  refine wp_phi (fun w' => (w'.cell? ⟨0, 0, none⟩ = some (.iface 313 (A (some (E 3))))) ∧ Below w2.heap.size w2 w') [] [] (by kernel_rfl) (by kernel_rfl) ?_ ?_ ⟨cE, ((Below.refl _ w2)).drew⟩ ?_
  ·rintro w1' w2' ⟨gE, hIB⟩ hb
   exact ⟨Below.keeps hb _ _ gE, hIB.trans (hb.mono hIB.size)⟩
  ·intro p hp; cases hp
  repeat ((first | refine phi_skipK rfl (fun K hK => ?_) | (refine phi_pureK rfl rfl (fun K hK => ?_); apply xI; constructor; (focus (rintro w' ⟨gE, hIB⟩; skip; first | (go_simp; done) | (go_simp; (try go_bits); (try go_simp); rfl) | go_simp)))); simp only [Act.put, lA, lB, lC, lD, lE]; apply hK; clear hK K)
  refine phi_done ?_
  rintro w5 ⟨gE, hb5⟩ _
  refine wpList_nil ?_
  go_wp2_with fail
  go_ret2
  exact ⟨rfl, hbw2.trans (hb5.mono hbw2.size)⟩
 ·obtain ⟨t1, t2⟩ := text_t hr
  rw [t1, t2]
  clear t1 t2 hr
  have HTY := Lib.hid (fun w2 (hb2 : Below (w.alloc (F #[c0, c1, c2, c3] 96)).heap.size (w.alloc (F #[c0, c1, c2, c3] 96)) w2) => try_text1 w2 E 69 #[A (some ⟨w.heap.size, 0, none⟩)] x.wrt (HE.out.below (HBA.out.trans (hb2.mono HBA.out.size))) (hcf _)
   (fun w1 hb => HTr.out w1 (HBA.out.trans ((hb2.trans (hb.mono hb2.size)).mono HBA.out.size)) (HNB.out.below (hb2.trans (hb.mono hb2.size)) HNB.out.lt)))
  generalize (if 20000 < x.wrt.length then [] else x.wrt) = S at *
  generalize hn : (if 20000 < x.wrt.length then 3 else 0) = N at *
  have hev : errV E N = .nilIface ∨ ∃ T v, errV E N = .iface T v := by
   cases N with
   | zero => exact .inl rfl
   | succ n => exact .inr ⟨_, _, rfl⟩
  have hmf := @run_makeFunc pG
  clear hn
  go_enter Tryz.func38, Tryz.ntmps38
  go_wp2_with (first | (go_at_call 68; refine HR.out.mono ?_; rintro e w2 ⟨rfl, hb2⟩) | (go_at_call 27; refine (HTY.out _ hb2).mono ?_; rintro e w3 ⟨rfl, hb3⟩))
  have hbw2 := HBA.out.trans (hb2.mono HBA.out.size)
  go_ret2
  exact ⟨rfl, hbw2.trans (hb3.mono hbw2.size)⟩
end
end Go.Proofs.YthboiahdheehkaaGreatDoor
