/- SoapT -/
import Derived.Test.YthboiahdheehkaaGreatDoorSW
import Derived.Test.YthboiahdheehkaaGreatDoorPD
import Derived.Deep.Cut
open List renaming setIfInBounds_toArray → lA, set_cons_succ → lB, set_cons_zero → lC, cons_append → lD, nil_append → lE, length_append → lF, not_mem_nil → lG, mem_cons → lI, take_append_drop → lJ, take_succ_cons → lK, drop_succ_cons → lL, take_zero → lM, drop_zero → lN, contains_iff_mem → lO
open Exists renaming intro → xI
open Nat renaming le_refl → nR, le_trans → nT
open Go.Value renaming string → S
open Go.Value renaming slice → C
open Go.Value renaming agg → D
open Go.Obj renaming cells → OO
namespace Go.Proofs.YthboiahdheehkaaGreatDoor
set_option maxHeartbeats 16000000
set_option maxRecDepth 20000
open Go.RowKit Go.Extern.Stop Go.Stop Go.Extern
attribute [local go_sem] bs_toList bs_size
attribute [local irreducible] wpPhi wpPhiU
def TreeR (e : Env) (w : World) (en : Ending) (w' : World) : Prop :=
 ∃ g, en = .returned (D #[S (bs soapL), S (bs cEnvelope), C none 0 0, C (some ⟨g, 0, none⟩) 2 2, S ⟨#[]⟩]) ∧ TrC w' (fun _ => True) e.tree [S (bs soapL), S (bs cEnvelope), C none 0 0, C (some ⟨g, 0, none⟩) 2 2, S ⟨#[]⟩] ∧ Below w.heap.size w w'
def HdW (w : World) (g3 : Nat) (ec : Array Value) (K : Nat) (xs : List Tr) (wr : World) : Prop := ∃ (n : Nat) (pR : Option Addr) (cR : Nat) (css : List (List Value)), n ≤ K ∧ xs.length = n ∧ Blk wr w.heap.size 46 ec ∧ Blk wr g3 44 #[S (bs soapL), S (bs cHeader), C none 0 0, C pR n cR, S ⟨#[]⟩] ∧ Blk wr (w.heap.size + 1) 44 #[S ⟨#[]⟩, S ⟨#[]⟩, C none 0 0, C none 0 0, S ⟨#[]⟩] ∧ wr.ownsRow (g3 + 1) 44 5 (C pR n cR) n css.flatten ∧ TrXL wr (BtL w.heap.size (g3 + 1) wr.heap.size (C pR n cR).ownBlock) xs css ∧ Below w.heap.size w wr ∧ g3 + 1 ≤ wr.heap.size
theorem HdW.up {w wr : World} {g3 : Nat} {ec : Array Value} {K : Nat} {xs : List Tr} (h : HdW w g3 ec K xs wr) : HdW w g3 ec (K + 1) (xs ++ []) wr := by
 obtain ⟨n, p, c, css, h1, h2, h⟩ := h
 rw [List.append_nil]
 exact ⟨n, p, c, css, by omega, h2, h⟩
theorem tree25_all (act tt ii frm rel : List UInt8) (hds : List Tr) (bdy : Tr) (ph : Option Addr) (ch : Nat) (cssH : List (List Value)) (v0 v1 v2 v3 v4 : Value) (w : World) (hnv : v1 ≠ S ⟨#[]⟩) (hl : hds.length ≤ 1000000) (hok : ∀ x ∈ hds, x.nm.length = 2) (hrd : Rd w ph cssH.flatten) (hH : TrXL w (fun b => b < w.heap.size) hds cssH) (hB : TrX w (fun b => b < w.heap.size) bdy [v0, v1, v2, v3, v4]) :
  Calls Tryz.prog 76 #[D #[S (bs act), S (bs tt), S (bs ii), S (bs frm), S (bs rel), C ph hds.length ch, v0, v1, v2, v3, v4]] w (TreeR ⟨act, tt, ii, frm, rel, hds, bdy⟩ w) := by
 obtain ⟨i9, hi9, hy0, hy1, hy2⟩ := info_parts elem25_info
 have HNV := Lib.hid hnv; have HL := Lib.hid hl; have HOK := Lib.hid hok; have HRD := Lib.hid hrd; have HH := Lib.hid hH; have HB := Lib.hid hB
 have hba := below_alloc (below_alloc1 w (OO #[S (bs act), S (bs tt), S (bs ii), S (bs frm), S (bs rel), C ph hds.length ch, v0, v1, v2, v3, v4] 46)) (OO #[S ⟨#[]⟩, S ⟨#[]⟩, C none 0 0, C none 0 0, S ⟨#[]⟩] 44)
 have hn1 := (Blk.new w 46 #[S (bs act), S (bs tt), S (bs ii), S (bs frm), S (bs rel), C ph hds.length ch, v0, v1, v2, v3, v4]).alloc (OO #[S ⟨#[]⟩, S ⟨#[]⟩, C none 0 0, C none 0 0, S ⟨#[]⟩] 44)
 have hn2 := Blk.new (w.alloc (OO #[S (bs act), S (bs tt), S (bs ii), S (bs frm), S (bs rel), C ph hds.length ch, v0, v1, v2, v3, v4] 46)) 44 #[S ⟨#[]⟩, S ⟨#[]⟩, C none 0 0, C none 0 0, S ⟨#[]⟩]
 rw [World.size_alloc] at hn2
 have HBA := Lib.hid hba; have HN1 := Lib.hid hn1; have HN2 := Lib.hid hn2
 clear hnv hba hn1 hn2 hl hok hrd hH hB
 go_enter Tryz.func76, Tryz.ntmps76
 go_wp2_with fail
 generalize (w.alloc (OO #[S (bs act), S (bs tt), S (bs ii), S (bs frm), S (bs rel), C ph hds.length ch, v0, v1, v2, v3, v4] 46)).alloc (OO #[S ⟨#[]⟩, S ⟨#[]⟩, C none 0 0, C none 0 0, S ⟨#[]⟩] 44) = wa at *
 refine (soown_any cHeader wa).mono ?_
 rintro e w1 ⟨rfl, hb1⟩
 unfold snmV
 have hs1 := HN2.out.lt
 have hz1 := hb1.size
 have hal := below_alloc1 w1 (OO #[S (bs soapL), S (bs cHeader), C none 0 0, C none 0 0, S ⟨#[]⟩] 44)
 have HBW := Lib.hid (HBA.out.trans ((hb1.mono HBA.out.size).trans (hal.mono (by have := HBA.out.size; omega))))
 have G1 := Lib.hid ((HN1.out.below hb1 (by omega)).alloc (OO #[S (bs soapL), S (bs cHeader), C none 0 0, C none 0 0, S ⟨#[]⟩] 44))
 have G4 := Lib.hid ((HN2.out.below hb1 (by omega)).alloc (OO #[S (bs soapL), S (bs cHeader), C none 0 0, C none 0 0, S ⟨#[]⟩] 44))
 have G2 := Lib.hid (Blk.new w1 44 #[S (bs soapL), S (bs cHeader), C none 0 0, C none 0 0, S ⟨#[]⟩])
 have HSZ := Lib.hid (show w.heap.size + 1 < w1.heap.size by omega)
 clear hb1 hs1 hz1 hal HN1 HN2 HBA
 go_wp2_with fail
 generalize hg3 : w1.heap.size = g3 at *
 have HS3 := Lib.hid (show g3 + 1 ≤ (w1.alloc (OO #[S (bs soapL), S (bs cHeader), C none 0 0, C none 0 0, S ⟨#[]⟩] 44)).heap.size by rw [World.size_alloc]; omega)
 generalize w1.alloc (OO #[S (bs soapL), S (bs cHeader), C none 0 0, C none 0 0, S ⟨#[]⟩] 44) = wr at *
 have G8 := HBW
 have hsz := HSZ.out; have hs3 := HS3.out
 refine wp_phiU_tail (List.take 16 _) (List.drop 16 _) (lJ 16 _).symm (rT 15 (g3 + 1) 5 44 (C none 0 0) (0)) (fun w' => Blk w' w.heap.size 46 #[S (bs act), S (bs tt), S (bs ii), S (bs frm), S (bs rel), C ph hds.length ch, v0, v1, v2, v3, v4] ∧ Blk w' g3 44 #[S (bs soapL), S (bs cHeader), C none 0 0, C none 0 0, S ⟨#[]⟩] ∧ Blk w' (w.heap.size + 1) 44 #[S ⟨#[]⟩, S ⟨#[]⟩, C none 0 0, C none 0 0, S ⟨#[]⟩] ∧ Below w.heap.size w w' ∧ wr.heap.size ≤ w'.heap.size) [(2, PVal (D #[S (bs addrL), S (bs cAction)])), (5, PKidL (fun v => ∃ g, v = D #[S (bs addrL), S (bs cAction), C none 0 0, C (some ⟨g, 0, none⟩) 1 1, S ⟨#[]⟩]) w.heap.size wr.heap.size (simpT addrL cAction act)), (6, PVal (D #[S (bs addrL), S (bs cTo)])), (9, PKidL (fun v => ∃ g, v = D #[S (bs addrL), S (bs cTo), C none 0 0, C (some ⟨g, 0, none⟩) 1 1, S ⟨#[]⟩]) w.heap.size wr.heap.size (simpT addrL cTo tt)), (10, PVal (D #[S (bs addrL), S (bs cMessageID)])), (13, PKidL (fun v => ∃ g, v = D #[S (bs addrL), S (bs cMessageID), C none 0 0, C (some ⟨g, 0, none⟩) 1 1, S ⟨#[]⟩]) w.heap.size wr.heap.size (simpT addrL cMessageID ii)), (14, PSl w.heap.size wr.heap.size 44 3 [simpT addrL cAction act, simpT addrL cTo tt, simpT addrL cMessageID ii]), (15, PRowG w.heap.size (g3 + 1) 5 44 3 ([] ++ [simpT addrL cAction act, simpT addrL cTo tt, simpT addrL cMessageID ii]))] [(14, [5, 9, 13]), (15, [2, 5, 6, 9, 10, 13, 14])] [] [] (by kernel_rfl) (by kernel_rfl) ?_ ?_ ?_ ?_ ?_ ?_
 ·rintro p _ w1' w2' ⟨g1, g2, g4, g7, g8⟩ hR
  exact ⟨rT_blklo hR g1 (by omega), rT_blklo hR g2 (by omega), rT_blklo hR g4 (by omega), rT_below hR g7 (by omega) (by omega), nT g8 (rT_size hR)⟩
 ·intro p hp p' hp' hne hks hns w1' w2' v hI hR hf
  have hv : ∀ g, (C none 0 0).ownBlock = some g → w.heap.size ≤ g ∧ g < wr.heap.size := fun g hg => by cases hg
  simp only [lI, lG, or_false] at hp hp'
  rcases hp with rfl | rfl | rfl | rfl | rfl | rfl | rfl | rfl
  ·trivial
  ·exact PKidL_stays hR hv hf
  ·trivial
  ·exact PKidL_stays hR hv hf
  ·trivial
  ·exact PKidL_stays hR hv hf
  ·exact PSl_stays hR hv hf
  ·rcases hp' with rfl | rfl | rfl | rfl | rfl | rfl | rfl | rfl
   ·exact absurd (show (2 : Nat) ∈ needs [(14, [5, 9, 13]), (15, [2, 5, 6, 9, 10, 13, 14])] 15 by decide) hns
   ·exact absurd (show (5 : Nat) ∈ needs [(14, [5, 9, 13]), (15, [2, 5, 6, 9, 10, 13, 14])] 15 by decide) hns
   ·exact absurd (show (6 : Nat) ∈ needs [(14, [5, 9, 13]), (15, [2, 5, 6, 9, 10, 13, 14])] 15 by decide) hns
   ·exact absurd (show (9 : Nat) ∈ needs [(14, [5, 9, 13]), (15, [2, 5, 6, 9, 10, 13, 14])] 15 by decide) hns
   ·exact absurd (show (10 : Nat) ∈ needs [(14, [5, 9, 13]), (15, [2, 5, 6, 9, 10, 13, 14])] 15 by decide) hns
   ·exact absurd (show (13 : Nat) ∈ needs [(14, [5, 9, 13]), (15, [2, 5, 6, 9, 10, 13, 14])] 15 by decide) hns
   ·exact absurd (show (14 : Nat) ∈ needs [(14, [5, 9, 13]), (15, [2, 5, 6, 9, 10, 13, 14])] 15 by decide) hns
   ·exact absurd rfl hne
 ·intro p hp u hu hne w1' w2' hI hR hf
  cases hu
 ·intro u hu
  cases hu
 ·exact ⟨G1.out, G2.out, G4.out, G8.out.drew, nR _⟩
 simp only [lK, lM, lL, lN]
 clear G1 G2 G4 G8
 repeat ((first | refine phiU_skipK rfl (fun K hK => ?_) | (refine phiU_pureK rfl rfl (fun K hK => ?_); apply xI; constructor; (focus (rintro w' ⟨g1, g2, g4, g7, g8⟩; obtain ⟨e0, e1, e2, -⟩ := g1.cc; have k3 := (g2.cell 3).trans rfl; clear g1 g2 g4 g7 g8; first | (go_simp; done) | (go_simp; (try go_bits); (try go_simp); rfl) | go_simp)))); simp only [Act.put, lA, lB, lC, lD, lE]; apply hK; clear hK K)
 refine phiU_partK (PVal (D #[S (bs addrL), S (bs cAction)])) rfl rfl ⟨_, rfl⟩ ?_ (fun K hK v hv => ?_)
 ·rintro w' ⟨g1, g2, g4, g7, g8⟩ hf hu
  clear hf hu g1 g2 g4 g7 g8
  unfold gives
  go_simp
  refine (saddr_any cAction w').mono ?_
  rintro e w'' ⟨rfl, hb⟩
  exact ⟨_, rfl, rfl, trivial, by rw [rT_o (by decide)]; exact hb⟩
 obtain rfl : v = _ := hv
 simp only [Act.put, lA, lB, lC, lD, lE]
 apply hK
 clear hK K
 repeat ((first | refine phiU_skipK rfl (fun K hK => ?_) | (refine phiU_pureK rfl rfl (fun K hK => ?_); apply xI; constructor; (focus (rintro w' ⟨g1, g2, g4, g7, g8⟩; obtain ⟨e0, e1, e2, -⟩ := g1.cc; have k3 := (g2.cell 3).trans rfl; clear g1 g2 g4 g7 g8; first | (go_simp; done) | (go_simp; (try go_bits); (try go_simp); rfl) | go_simp)))); simp only [Act.put, lA, lB, lC, lD, lE]; apply hK; clear hK K)
 refine phiU_partK (PKidL (fun v => ∃ g, v = D #[S (bs addrL), S (bs cAction), C none 0 0, C (some ⟨g, 0, none⟩) 1 1, S ⟨#[]⟩]) w.heap.size wr.heap.size (simpT addrL cAction act)) rfl rfl ⟨_, 0, rfl⟩ ?_ (fun K hK v hv => ?_)
 ·rintro w' ⟨g1, g2, g4, g7, g8⟩ hf hu
  have HG := Lib.hid g8
  clear hf hu g1 g2 g4 g7 g8
  unfold gives
  go_simp
  refine (simple_any addrL cAction act w').mono ?_
  rintro e w'' ⟨g, rfl, hg, hlt, hk, hb⟩
  exact ⟨_, rfl, ⟨g, rfl⟩, ⟨_, w''.heap.size, rfl, simp_trx (by have := HG.out; omega) hk, nR _⟩, by rw [rT_o (by decide)]; exact hb⟩
 obtain ⟨q5, rfl⟩ := hv
 simp only [Act.put, lA, lB, lC, lD, lE]
 apply hK
 clear hK K
 repeat ((first | refine phiU_skipK rfl (fun K hK => ?_) | (refine phiU_pureK rfl rfl (fun K hK => ?_); apply xI; constructor; (focus (rintro w' ⟨g1, g2, g4, g7, g8⟩; obtain ⟨e0, e1, e2, -⟩ := g1.cc; have k3 := (g2.cell 3).trans rfl; clear g1 g2 g4 g7 g8; first | (go_simp; done) | (go_simp; (try go_bits); (try go_simp); rfl) | go_simp)))); simp only [Act.put, lA, lB, lC, lD, lE]; apply hK; clear hK K)
 refine phiU_partK (PVal (D #[S (bs addrL), S (bs cTo)])) rfl rfl ⟨_, rfl⟩ ?_ (fun K hK v hv => ?_)
 ·rintro w' ⟨g1, g2, g4, g7, g8⟩ hf hu
  clear hf hu g1 g2 g4 g7 g8
  unfold gives
  go_simp
  refine (saddr_any cTo w').mono ?_
  rintro e w'' ⟨rfl, hb⟩
  exact ⟨_, rfl, rfl, trivial, by rw [rT_o (by decide)]; exact hb⟩
 obtain rfl : v = _ := hv
 simp only [Act.put, lA, lB, lC, lD, lE]
 apply hK
 clear hK K
 repeat ((first | refine phiU_skipK rfl (fun K hK => ?_) | (refine phiU_pureK rfl rfl (fun K hK => ?_); apply xI; constructor; (focus (rintro w' ⟨g1, g2, g4, g7, g8⟩; obtain ⟨e0, e1, e2, -⟩ := g1.cc; have k3 := (g2.cell 3).trans rfl; clear g1 g2 g4 g7 g8; first | (go_simp; done) | (go_simp; (try go_bits); (try go_simp); rfl) | go_simp)))); simp only [Act.put, lA, lB, lC, lD, lE]; apply hK; clear hK K)
 refine phiU_partK (PKidL (fun v => ∃ g, v = D #[S (bs addrL), S (bs cTo), C none 0 0, C (some ⟨g, 0, none⟩) 1 1, S ⟨#[]⟩]) w.heap.size wr.heap.size (simpT addrL cTo tt)) rfl rfl ⟨_, 0, rfl⟩ ?_ (fun K hK v hv => ?_)
 ·rintro w' ⟨g1, g2, g4, g7, g8⟩ hf hu
  have HG := Lib.hid g8
  clear hf hu g1 g2 g4 g7 g8
  unfold gives
  go_simp
  refine (simple_any addrL cTo tt w').mono ?_
  rintro e w'' ⟨g, rfl, hg, hlt, hk, hb⟩
  exact ⟨_, rfl, ⟨g, rfl⟩, ⟨_, w''.heap.size, rfl, simp_trx (by have := HG.out; omega) hk, nR _⟩, by rw [rT_o (by decide)]; exact hb⟩
 obtain ⟨q9, rfl⟩ := hv
 simp only [Act.put, lA, lB, lC, lD, lE]
 apply hK
 clear hK K
 repeat ((first | refine phiU_skipK rfl (fun K hK => ?_) | (refine phiU_pureK rfl rfl (fun K hK => ?_); apply xI; constructor; (focus (rintro w' ⟨g1, g2, g4, g7, g8⟩; obtain ⟨e0, e1, e2, -⟩ := g1.cc; have k3 := (g2.cell 3).trans rfl; clear g1 g2 g4 g7 g8; first | (go_simp; done) | (go_simp; (try go_bits); (try go_simp); rfl) | go_simp)))); simp only [Act.put, lA, lB, lC, lD, lE]; apply hK; clear hK K)
 refine phiU_partK (PVal (D #[S (bs addrL), S (bs cMessageID)])) rfl rfl ⟨_, rfl⟩ ?_ (fun K hK v hv => ?_)
 ·rintro w' ⟨g1, g2, g4, g7, g8⟩ hf hu
  clear hf hu g1 g2 g4 g7 g8
  unfold gives
  go_simp
  refine (saddr_any cMessageID w').mono ?_
  rintro e w'' ⟨rfl, hb⟩
  exact ⟨_, rfl, rfl, trivial, by rw [rT_o (by decide)]; exact hb⟩
 obtain rfl : v = _ := hv
 simp only [Act.put, lA, lB, lC, lD, lE]
 apply hK
 clear hK K
 repeat ((first | refine phiU_skipK rfl (fun K hK => ?_) | (refine phiU_pureK rfl rfl (fun K hK => ?_); apply xI; constructor; (focus (rintro w' ⟨g1, g2, g4, g7, g8⟩; obtain ⟨e0, e1, e2, -⟩ := g1.cc; have k3 := (g2.cell 3).trans rfl; clear g1 g2 g4 g7 g8; first | (go_simp; done) | (go_simp; (try go_bits); (try go_simp); rfl) | go_simp)))); simp only [Act.put, lA, lB, lC, lD, lE]; apply hK; clear hK K)
 refine phiU_partK (PKidL (fun v => ∃ g, v = D #[S (bs addrL), S (bs cMessageID), C none 0 0, C (some ⟨g, 0, none⟩) 1 1, S ⟨#[]⟩]) w.heap.size wr.heap.size (simpT addrL cMessageID ii)) rfl rfl ⟨_, 0, rfl⟩ ?_ (fun K hK v hv => ?_)
 ·rintro w' ⟨g1, g2, g4, g7, g8⟩ hf hu
  have HG := Lib.hid g8
  clear hf hu g1 g2 g4 g7 g8
  unfold gives
  go_simp
  refine (simple_any addrL cMessageID ii w').mono ?_
  rintro e w'' ⟨g, rfl, hg, hlt, hk, hb⟩
  exact ⟨_, rfl, ⟨g, rfl⟩, ⟨_, w''.heap.size, rfl, simp_trx (by have := HG.out; omega) hk, nR _⟩, by rw [rT_o (by decide)]; exact hb⟩
 obtain ⟨q13, rfl⟩ := hv
 simp only [Act.put, lA, lB, lC, lD, lE]
 apply hK
 clear hK K
 repeat ((first | refine phiU_skipK rfl (fun K hK => ?_) | (refine phiU_pureK rfl rfl (fun K hK => ?_); apply xI; constructor; (focus (rintro w' ⟨g1, g2, g4, g7, g8⟩; obtain ⟨e0, e1, e2, -⟩ := g1.cc; have k3 := (g2.cell 3).trans rfl; clear g1 g2 g4 g7 g8; first | (go_simp; done) | (go_simp; (try go_bits); (try go_simp); rfl) | go_simp)))); simp only [Act.put, lA, lB, lC, lD, lE]; apply hK; clear hK K)
 refine phiU_partK (PSl w.heap.size wr.heap.size 44 3 [simpT addrL cAction act, simpT addrL cTo tt, simpT addrL cMessageID ii]) rfl rfl ⟨_, 0, rfl⟩ ?_ (fun K hK v hv => ?_)
 ·rintro w' ⟨g1, g2, g4, g7, g8⟩ hf hu
  have f5 := hf (5, fun w1 => (PKidL (fun v => ∃ g, v = D #[S (bs addrL), S (bs cAction), C none 0 0, C (some ⟨g, 0, none⟩) 1 1, S ⟨#[]⟩]) w.heap.size wr.heap.size (simpT addrL cAction act)).fact w1 (D #[S (bs addrL), S (bs cAction), C none 0 0, C (some ⟨q5, 0, none⟩) 1 1, S ⟨#[]⟩])) (by simp) (lO.1 rfl) rfl
  have f9 := hf (9, fun w1 => (PKidL (fun v => ∃ g, v = D #[S (bs addrL), S (bs cTo), C none 0 0, C (some ⟨g, 0, none⟩) 1 1, S ⟨#[]⟩]) w.heap.size wr.heap.size (simpT addrL cTo tt)).fact w1 (D #[S (bs addrL), S (bs cTo), C none 0 0, C (some ⟨q9, 0, none⟩) 1 1, S ⟨#[]⟩])) (by simp) (lO.1 rfl) rfl
  have f13 := hf (13, fun w1 => (PKidL (fun v => ∃ g, v = D #[S (bs addrL), S (bs cMessageID), C none 0 0, C (some ⟨g, 0, none⟩) 1 1, S ⟨#[]⟩]) w.heap.size wr.heap.size (simpT addrL cMessageID ii)).fact w1 (D #[S (bs addrL), S (bs cMessageID), C none 0 0, C (some ⟨q13, 0, none⟩) 1 1, S ⟨#[]⟩])) (by simp) (lO.1 rfl) rfl
  have F5 := Lib.hid f5
  have F9 := Lib.hid f9
  have F13 := Lib.hid f13
  have HG := Lib.hid g8
  clear hf hu f5 f9 f13 g1 g2 g4 g7 g8
  unfold gives
  go_simp
  refine ⟨⟨_, rfl⟩, fun g hg => ?_, by rw [rT_o (by decide)]; exact below_alloc1 _ _⟩
  obtain rfl : w'.heap.size = g := by simpa using hg
  obtain ⟨c5, B5, e5, t5, b5⟩ := F5.out
  injection e5 with e5
  have e5 := congrArg Array.toList e5
  dsimp only at e5
  subst e5
  obtain ⟨c9, B9, e9, t9, b9⟩ := F9.out
  injection e9 with e9
  have e9 := congrArg Array.toList e9
  dsimp only at e9
  subst e9
  obtain ⟨c13, B13, e13, t13, b13⟩ := F13.out
  injection e13 with e13
  have e13 := congrArg Array.toList e13
  dsimp only at e13
  subst e13
  refine ⟨HG.out, [[S (bs addrL), S (bs cAction), C none 0 0, C (some ⟨q5, 0, none⟩) 1 1, S ⟨#[]⟩], [S (bs addrL), S (bs cTo), C none 0 0, C (some ⟨q9, 0, none⟩) 1 1, S ⟨#[]⟩], [S (bs addrL), S (bs cMessageID), C none 0 0, C (some ⟨q13, 0, none⟩) 1 1, S ⟨#[]⟩]], _, Blk.new _ _ _, ?_, nR _⟩
  exact ⟨_, _, rfl, t5.high (below_alloc1 _ _) b5, ⟨_, _, rfl, t9.high (below_alloc1 _ _) b9, ⟨_, _, rfl, t13.high (below_alloc1 _ _) b13, rfl⟩⟩⟩
 obtain ⟨y14, rfl⟩ := hv
 simp only [Act.put, lA, lB, lC, lD, lE]
 apply hK
 clear hK K
 refine phiU_partK (PRowG w.heap.size (g3 + 1) 5 44 (3) ([] ++ [simpT addrL cAction act, simpT addrL cTo tt, simpT addrL cMessageID ii])) rfl rfl ⟨_, none, 0, rfl⟩ ?_ (fun K hK v hv => ?_)
 ·rintro w' ⟨g1, g2, g4, g7, g8⟩ hf hu
  have f4 := hf (14, fun w1 => (PSl w.heap.size wr.heap.size 44 3 [simpT addrL cAction act, simpT addrL cTo tt, simpT addrL cMessageID ii]).fact w1 (C (some ⟨y14, 0, none⟩) 3 3)) (by simp) (lO.1 rfl) rfl y14 rfl
  obtain ⟨h4b, css9, B, b4, t4, l4⟩ := f4
  have hu8 : w'.ownsRow (g3 + 1) 44 5 (C none 0 0) 0 [] := ⟨rfl, .inl ⟨rfl, rfl⟩⟩
  clear hf hu
  refine gives_appAt (.tmp 8) (.tmp 21) 39 rfl (g3 + 1) 44 i9 (D #[S ⟨#[]⟩, S ⟨#[]⟩, C none 0 0, C none 0 0, S ⟨#[]⟩]) 5 96 Tryz.underlying39 hi9 hy0 hy1 hy2 rfl (by decide) _ _ _ rfl hu8 _ _ _ css9.flatten rfl (by rw [trxl_flen _ _ (k := 2) (by simp [simpT, fromT, Tr.nm]) t4]; rfl) (rd_blk b4) (trxl_ones _ _ t4) (by unfold maxLen; omega) (by omega) (by omega) ?_
  intro v2 w2 ho2 hg2 hat2
  obtain ⟨p2, c2, rfl, _, _, _⟩ := owns_rd ho2
  refine ⟨⟨p2, c2, rfl⟩, prow_stepG (css := []) hg2 hat2 (fun g hg => by cases hg) (B0 := wr.heap.size) (by omega) (by omega) (by omega) rfl t4 l4 (by rw [List.flatten_append]; exact ho2), ?_⟩
  rw [rT_at]
  exact ⟨⟨_, hu8⟩, hg2⟩
 obtain ⟨p15, c15, rfl⟩ := hv
 simp only [Act.put, lA, lB, lC, lD, lE]
 apply hK
 clear hK K
 repeat ((first | refine phiU_skipK rfl (fun K hK => ?_) | (refine phiU_pureK rfl rfl (fun K hK => ?_); apply xI; constructor; (focus (rintro w' ⟨g1, g2, g4, g7, g8⟩; obtain ⟨e0, e1, e2, -⟩ := g1.cc; have k3 := (g2.cell 3).trans rfl; clear g1 g2 g4 g7 g8; first | (go_simp; done) | (go_simp; (try go_bits); (try go_simp); rfl) | go_simp)))); simp only [Act.put, lA, lB, lC, lD, lE]; apply hK; clear hK K)
 refine phiU_done ?_
 rintro w9 ⟨g1, g2, g4, g7, g8⟩ hf
 obtain ⟨css9, ho9, hk9⟩ := hf (15, fun w1 => (PRowG w.heap.size (g3 + 1) 5 44 (3) ([] ++ [simpT addrL cAction act, simpT addrL cTo tt, simpT addrL cMessageID ii])).fact w1 (C p15 (3) c15)) (by simp) rfl
 have f3 := g2.frozen 3
 have k3 := (g2.cell 3).trans rfl
 have O9 := ((Only.refl g3 w9).set_ 3 (C p15 (3) c15))
 have R1 := Lib.hid (O9.blk g1 (by omega))
 have R4 := Lib.hid (O9.blk g4 (by omega))
 have R2 := Lib.hid (show Blk (w9.setCell ⟨g3, 3, none⟩ (C p15 (3) c15)) g3 44 #[S (bs soapL), S (bs cHeader), C none 0 0, C p15 (3) c15, S ⟨#[]⟩] from g2.set_ 3 _)
 have R8 := Lib.hid (g7.setCell (p := ⟨g3, 3, none⟩) (show w.heap.size ≤ g3 by omega) (C p15 (3) c15))
 have R6 := Lib.hid (O9.owns2 ho9 (by omega))
 have R7 := Lib.hid (hk9.only O9 (fun b hb => by rcases hb with hb | hb; omega; (have := hb.1; omega)))
 rw [show w9.heap.size = (w9.setCell ⟨g3, 3, none⟩ (C p15 (3) c15)).heap.size from O9.size.symm] at R7
 have HO9S := Lib.hid O9.size
 have S9 := Lib.hid (show wr.heap.size ≤ (w9.setCell ⟨g3, 3, none⟩ (C p15 (3) c15)).heap.size by rw [O9.size]; exact g8)
 obtain ⟨-, -, -, e3, e4, e5, -⟩ := R1.out.cc
 clear hf g1 g2 g4 g7 g8 O9 ho9 hk9
 go_upto_if 26 with fail
 clear f3 k3 e3 e4 e5
 generalize w9.setCell ⟨g3, 3, none⟩ (C p15 (3) c15) = wN at *
 have HD := Lib.hid (show HdW w g3 #[S (bs act), S (bs tt), S (bs ii), S (bs frm), S (bs rel), C ph hds.length ch, v0, v1, v2, v3, v4] 3 [simpT addrL cAction act, simpT addrL cTo tt, simpT addrL cMessageID ii] wN from ⟨3, p15, c15, css9, by omega, rfl, R1.out, R2.out, R4.out, R6.out, R7.out, R8.out, by have := S9.out; omega⟩)
 clear R1 R2 R4 R6 R7 R8 S9 HO9S HS3 hs3 HBW
 clear wr css9 w9
 go_cut [] from 5 (fun wc => HdW w g3 #[S (bs act), S (bs tt), S (bs ii), S (bs frm), S (bs rel), C ph hds.length ch, v0, v1, v2, v3, v4] 4 ([simpT addrL cAction act, simpT addrL cTo tt, simpT addrL cMessageID ii] ++ (if frm = [] then [] else [fromT frm])) wc)
 case first =>
  rcases frm with _ | ⟨f0, fl⟩
  ·go_wp2_with fail
   go_meet
   case rel => (try simp only [if_true]); (try rw [if_pos rfl]); exact HD.out.up
  ·go_wp2_with fail
   obtain ⟨wr, rfl⟩ : ∃ wr, wr = wN := ⟨_, rfl⟩
   obtain ⟨n, pR, cR, css, hn, hx, k1, k2, k4, k6, k7, k8, hs3⟩ := HD.out
   have G1 := Lib.hid k1; have G2 := Lib.hid k2; have G4 := Lib.hid k4; have G6 := Lib.hid k6; have G7 := Lib.hid k7; have G8 := Lib.hid k8; have HXL := Lib.hid hx; have HS3 := Lib.hid hs3
   clear k1 k2 k4 k6 k7 k8 hx
   have HVL := Lib.hid (show ∀ g, (C pR n cR).ownBlock = some g → w.heap.size ≤ g ∧ g < wr.heap.size from fun g hg => ⟨by have := (G6.out.lt g hg).1; omega, (G6.out.lt g hg).2⟩)
   clear HD
   generalize [simpT addrL cAction act, simpT addrL cTo tt, simpT addrL cMessageID ii] = X at *
   refine wp_phiU_tail (List.take 11 _) (List.drop 11 _) (lJ 11 _).symm (rT 10 (g3 + 1) 5 44 (C pR n cR) (n)) (fun w' => Blk w' w.heap.size 46 #[S (bs act), S (bs tt), S (bs ii), S (bs (f0 :: fl)), S (bs rel), C ph hds.length ch, v0, v1, v2, v3, v4] ∧ Blk w' g3 44 #[S (bs soapL), S (bs cHeader), C none 0 0, C pR n cR, S ⟨#[]⟩] ∧ Blk w' (w.heap.size + 1) 44 #[S ⟨#[]⟩, S ⟨#[]⟩, C none 0 0, C none 0 0, S ⟨#[]⟩] ∧ TrXL w' (BtL w.heap.size (g3 + 1) wr.heap.size (C pR n cR).ownBlock) (X) css ∧ Below w.heap.size w w' ∧ wr.heap.size ≤ w'.heap.size) [(2, PVal (D #[S (bs addrL), S (bs cFrom)])), (3, PVal (D #[S (bs addrL), S (bs cAddress)])), (6, PKidL (fun v => ∃ g, v = D #[S (bs addrL), S (bs cAddress), C none 0 0, C (some ⟨g, 0, none⟩) 1 1, S ⟨#[]⟩]) w.heap.size wr.heap.size (simpT addrL cAddress (f0 :: fl))), (7, PSl w.heap.size wr.heap.size 44 1 [simpT addrL cAddress (f0 :: fl)]), (9, PSl w.heap.size wr.heap.size 44 1 [fromT (f0 :: fl)]), (10, PRowG w.heap.size (g3 + 1) 5 44 (n + 1) (X ++ [fromT (f0 :: fl)]))] [(7, [6]), (9, [7]), (10, [2, 3, 6, 7, 9])] [(10, fun w' => w'.ownsRow (g3 + 1) 44 5 (C pR n cR) (n) css.flatten)] [] (by kernel_rfl) (by kernel_rfl) ?_ ?_ ?_ ?_ ?_ ?_
   ·rintro p _ w1' w2' ⟨g1, g2, g4, g6, g7, g8⟩ hR
    exact ⟨rT_blklo hR g1 (by omega), rT_blklo hR g2 (by omega), rT_blklo hR g4 (by omega), rT_trxl hR g6 (fun b hb e => by rcases hb with hb | hb; (have := (HVL.out _ e).1; omega); exact hb.2.2 e), rT_below hR g7 (by omega) (by omega), nT g8 (rT_size hR)⟩
   ·intro p hp p' hp' hne hks hns w1' w2' v hI hR hf
    have hv : ∀ g, (C pR n cR).ownBlock = some g → w.heap.size ≤ g ∧ g < wr.heap.size := HVL.out
    simp only [lI, lG, or_false] at hp hp'
    rcases hp with rfl | rfl | rfl | rfl | rfl | rfl
    ·trivial
    ·trivial
    ·exact PKidL_stays hR hv hf
    ·exact PSl_stays hR hv hf
    ·exact PSl_stays hR hv hf
    ·rcases hp' with rfl | rfl | rfl | rfl | rfl | rfl
     ·exact absurd (show (2 : Nat) ∈ needs [(7, [6]), (9, [7]), (10, [2, 3, 6, 7, 9])] 10 by decide) hns
     ·exact absurd (show (3 : Nat) ∈ needs [(7, [6]), (9, [7]), (10, [2, 3, 6, 7, 9])] 10 by decide) hns
     ·exact absurd (show (6 : Nat) ∈ needs [(7, [6]), (9, [7]), (10, [2, 3, 6, 7, 9])] 10 by decide) hns
     ·exact absurd (show (7 : Nat) ∈ needs [(7, [6]), (9, [7]), (10, [2, 3, 6, 7, 9])] 10 by decide) hns
     ·exact absurd (show (9 : Nat) ∈ needs [(7, [6]), (9, [7]), (10, [2, 3, 6, 7, 9])] 10 by decide) hns
     ·exact absurd rfl hne
   ·intro p hp u hu hne w1' w2' hI hR hf
    simp only [lI, lG, or_false] at hp hu
    subst hu
    rcases hp with rfl | rfl | rfl | rfl | rfl | rfl
    ·have hR := rT_o (show (2 : Nat) ≠ 10 by decide) ▸ hR
     exact owns_below hf hR
    ·have hR := rT_o (show (3 : Nat) ≠ 10 by decide) ▸ hR
     exact owns_below hf hR
    ·have hR := rT_o (show (6 : Nat) ≠ 10 by decide) ▸ hR
     exact owns_below hf hR
    ·have hR := rT_o (show (7 : Nat) ≠ 10 by decide) ▸ hR
     exact owns_below hf hR
    ·have hR := rT_o (show (9 : Nat) ≠ 10 by decide) ▸ hR
     exact owns_below hf hR
    ·exact absurd rfl hne
   ·intro u hu
    simp only [lI, lG, or_false] at hu
    subst hu
    exact owns_below G6.out (Below.refl _ _).drew
   ·exact ⟨G1.out, G2.out, G4.out, G7.out.below (Below.refl _ _).drew, G8.out.drew, nR _⟩
   simp only [lK, lM, lL, lN]
   clear G1 G2 G4 G6 G7 G8
   repeat ((first | refine phiU_skipK rfl (fun K hK => ?_) | (refine phiU_pureK rfl rfl (fun K hK => ?_); apply xI; constructor; (focus (rintro w' ⟨g1, g2, g4, g6, g7, g8⟩; have e3 := (g1.cell 3).trans rfl; have k3 := (g2.cell 3).trans rfl; clear g1 g2 g4 g6 g7 g8; first | (go_simp; done) | (go_simp; (try go_bits); (try go_simp); rfl) | go_simp)))); simp only [Act.put, lA, lB, lC, lD, lE]; apply hK; clear hK K)
   refine phiU_partK (PVal (D #[S (bs addrL), S (bs cFrom)])) rfl rfl ⟨_, rfl⟩ ?_ (fun K hK v hv => ?_)
   ·rintro w' ⟨g1, g2, g4, g6, g7, g8⟩ hf hu
    clear hf hu g1 g2 g4 g6 g7 g8
    unfold gives
    go_simp
    refine (saddr_any cFrom w').mono ?_
    rintro e w'' ⟨rfl, hb⟩
    exact ⟨_, rfl, rfl, trivial, by rw [rT_o (by decide)]; exact hb⟩
   obtain rfl : v = _ := hv
   simp only [Act.put, lA, lB, lC, lD, lE]
   apply hK
   clear hK K
   refine phiU_partK (PVal (D #[S (bs addrL), S (bs cAddress)])) rfl rfl ⟨_, rfl⟩ ?_ (fun K hK v hv => ?_)
   ·rintro w' ⟨g1, g2, g4, g6, g7, g8⟩ hf hu
    clear hf hu g1 g2 g4 g6 g7 g8
    unfold gives
    go_simp
    refine (saddr_any cAddress w').mono ?_
    rintro e w'' ⟨rfl, hb⟩
    exact ⟨_, rfl, rfl, trivial, by rw [rT_o (by decide)]; exact hb⟩
   obtain rfl : v = _ := hv
   simp only [Act.put, lA, lB, lC, lD, lE]
   apply hK
   clear hK K
   repeat ((first | refine phiU_skipK rfl (fun K hK => ?_) | (refine phiU_pureK rfl rfl (fun K hK => ?_); apply xI; constructor; (focus (rintro w' ⟨g1, g2, g4, g6, g7, g8⟩; have e3 := (g1.cell 3).trans rfl; have k3 := (g2.cell 3).trans rfl; clear g1 g2 g4 g6 g7 g8; first | (go_simp; done) | (go_simp; (try go_bits); (try go_simp); rfl) | go_simp)))); simp only [Act.put, lA, lB, lC, lD, lE]; apply hK; clear hK K)
   refine phiU_partK (PKidL (fun v => ∃ g, v = D #[S (bs addrL), S (bs cAddress), C none 0 0, C (some ⟨g, 0, none⟩) 1 1, S ⟨#[]⟩]) w.heap.size wr.heap.size (simpT addrL cAddress (f0 :: fl))) rfl rfl ⟨_, 0, rfl⟩ ?_ (fun K hK v hv => ?_)
   ·rintro w' ⟨g1, g2, g4, g6, g7, g8⟩ hf hu
    have HG := Lib.hid g8
    clear hf hu g1 g2 g4 g6 g7 g8
    unfold gives
    go_simp
    refine (simple_any addrL cAddress (f0 :: fl) w').mono ?_
    rintro e w'' ⟨g, rfl, hg, hlt, hk, hb⟩
    exact ⟨_, rfl, ⟨g, rfl⟩, ⟨_, w''.heap.size, rfl, simp_trx (by have := HG.out; omega) hk, nR _⟩, by rw [rT_o (by decide)]; exact hb⟩
   obtain ⟨q6, rfl⟩ := hv
   simp only [Act.put, lA, lB, lC, lD, lE]
   apply hK
   clear hK K
   refine phiU_partK (PSl w.heap.size wr.heap.size 44 1 [simpT addrL cAddress (f0 :: fl)]) rfl rfl ⟨_, 0, rfl⟩ ?_ (fun K hK v hv => ?_)
   ·rintro w' ⟨g1, g2, g4, g6, g7, g8⟩ hf hu
    have f6 := hf (6, fun w1 => (PKidL (fun v => ∃ g, v = D #[S (bs addrL), S (bs cAddress), C none 0 0, C (some ⟨g, 0, none⟩) 1 1, S ⟨#[]⟩]) w.heap.size wr.heap.size (simpT addrL cAddress (f0 :: fl))).fact w1 (D #[S (bs addrL), S (bs cAddress), C none 0 0, C (some ⟨q6, 0, none⟩) 1 1, S ⟨#[]⟩])) (by simp) (lO.1 rfl) rfl
    have F6 := Lib.hid f6
    have HG := Lib.hid g8
    clear hf hu f6 g1 g2 g4 g6 g7 g8
    unfold gives
    go_simp
    refine ⟨⟨_, rfl⟩, fun g hg => ?_, by rw [rT_o (by decide)]; exact below_alloc1 _ _⟩
    obtain rfl : w'.heap.size = g := by simpa using hg
    obtain ⟨c6, B6, e6, t6, b6⟩ := F6.out
    injection e6 with e6
    have e6 := congrArg Array.toList e6
    dsimp only at e6
    subst e6
    refine ⟨HG.out, [[S (bs addrL), S (bs cAddress), C none 0 0, C (some ⟨q6, 0, none⟩) 1 1, S ⟨#[]⟩]], _, Blk.new _ _ _, ?_, nR _⟩
    exact ⟨_, _, rfl, t6.high (below_alloc1 _ _) b6, rfl⟩
   obtain ⟨y7, rfl⟩ := hv
   simp only [Act.put, lA, lB, lC, lD, lE]
   apply hK
   clear hK K
   repeat ((first | refine phiU_skipK rfl (fun K hK => ?_) | (refine phiU_pureK rfl rfl (fun K hK => ?_); apply xI; constructor; (focus (rintro w' ⟨g1, g2, g4, g6, g7, g8⟩; have e3 := (g1.cell 3).trans rfl; have k3 := (g2.cell 3).trans rfl; clear g1 g2 g4 g6 g7 g8; first | (go_simp; done) | (go_simp; (try go_bits); (try go_simp); rfl) | go_simp)))); simp only [Act.put, lA, lB, lC, lD, lE]; apply hK; clear hK K)
   refine phiU_partK (PSl w.heap.size wr.heap.size 44 1 [fromT (f0 :: fl)]) rfl rfl ⟨_, 0, rfl⟩ ?_ (fun K hK v hv => ?_)
   ·rintro w' ⟨g1, g2, g4, g6, g7, g8⟩ hf hu
    have f7 := hf (7, fun w1 => (PSl w.heap.size wr.heap.size 44 1 [simpT addrL cAddress (f0 :: fl)]).fact w1 (C (some ⟨y7, 0, none⟩) 1 1)) (by simp) (lO.1 rfl) rfl y7 rfl
    have F := Lib.hid f7
    have HG := Lib.hid g8
    clear hf hu f7 g1 g2 g4 g6 g7 g8
    unfold gives
    go_simp
    refine ⟨⟨_, rfl⟩, fun g hg => ?_, by rw [rT_o (by decide)]; exact below_alloc1 _ _⟩
    obtain rfl : w'.heap.size = g := by simpa using hg
    obtain ⟨h1, css, B, b4, t4, l4⟩ := F.out
    refine ⟨HG.out, [[S (bs addrL), S (bs cFrom), C none 0 0, C (some ⟨y7, 0, none⟩) 1 1, S ⟨#[]⟩]], _, Blk.new _ _ _, TrXL.one ?_, nR _⟩
    exact node_trx (nm := [addrL, cFrom]) (tx := []) h1 (b4.below (below_alloc1 _ _) b4.lt) (t4.high (below_alloc1 _ _) l4) rfl (by decide)
   obtain ⟨y9, rfl⟩ := hv
   simp only [Act.put, lA, lB, lC, lD, lE]
   apply hK
   clear hK K
   refine phiU_partK (PRowG w.heap.size (g3 + 1) 5 44 (n + 1) (X ++ [fromT (f0 :: fl)])) rfl rfl ⟨_, none, 0, rfl⟩ ?_ (fun K hK v hv => ?_)
   ·rintro w' ⟨g1, g2, g4, g6, g7, g8⟩ hf hu
    have f4 := hf (9, fun w1 => (PSl w.heap.size wr.heap.size 44 1 [fromT (f0 :: fl)]).fact w1 (C (some ⟨y9, 0, none⟩) 1 1)) (by simp) (lO.1 rfl) rfl y9 rfl
    obtain ⟨h4b, css9, B, b4, t4, l4⟩ := f4
    have hu8 : w'.ownsRow (g3 + 1) 44 5 (C pR n cR) (n) css.flatten := hu (10, fun w' => w'.ownsRow (g3 + 1) 44 5 (C pR n cR) (n) css.flatten) (by simp) rfl
    clear hf hu
    refine gives_appAt (.tmp 28) (.tmp 36) 39 rfl (g3 + 1) 44 i9 (D #[S ⟨#[]⟩, S ⟨#[]⟩, C none 0 0, C none 0 0, S ⟨#[]⟩]) 5 96 Tryz.underlying39 hi9 hy0 hy1 hy2 rfl (by decide) _ _ _ rfl hu8 _ _ _ css9.flatten rfl (by rw [trxl_flen _ _ (k := 2) (by simp [simpT, fromT, Tr.nm]) t4]; rfl) (rd_blk b4) (trxl_ones _ _ t4) (by unfold maxLen; omega) (by omega) (by omega) ?_
    intro v2 w2 ho2 hg2 hat2
    obtain ⟨p2, c2, rfl, _, _, _⟩ := owns_rd ho2
    refine ⟨⟨p2, c2, rfl⟩, prow_stepG (css := css) hg2 hat2 HVL.out (B0 := wr.heap.size) (by omega) (by omega) (by omega) g6 t4 l4 (by rw [List.flatten_append]; exact ho2), ?_⟩
    rw [rT_at]
    exact ⟨⟨_, hu8⟩, hg2⟩
   obtain ⟨p10, c10, rfl⟩ := hv
   simp only [Act.put, lA, lB, lC, lD, lE]
   apply hK
   clear hK K
   repeat ((first | refine phiU_skipK rfl (fun K hK => ?_) | (refine phiU_pureK rfl rfl (fun K hK => ?_); apply xI; constructor; (focus (rintro w' ⟨g1, g2, g4, g6, g7, g8⟩; have e3 := (g1.cell 3).trans rfl; have k3 := (g2.cell 3).trans rfl; clear g1 g2 g4 g6 g7 g8; first | (go_simp; done) | (go_simp; (try go_bits); (try go_simp); rfl) | go_simp)))); simp only [Act.put, lA, lB, lC, lD, lE]; apply hK; clear hK K)
   refine phiU_done ?_
   rintro w9 ⟨g1, g2, g4, g6, g7, g8⟩ hf
   obtain ⟨css9, ho9, hk9⟩ := hf (10, fun w1 => (PRowG w.heap.size (g3 + 1) 5 44 (n + 1) (X ++ [fromT (f0 :: fl)])).fact w1 (C p10 (n + 1) c10)) (by simp) rfl
   have f3 := g2.frozen 3
   have k3 := (g2.cell 3).trans rfl
   have O9 := ((Only.refl g3 w9).set_ 3 (C p10 (n + 1) c10))
   have R1 := Lib.hid (O9.blk g1 (by omega))
   have R4 := Lib.hid (O9.blk g4 (by omega))
   have R2 := Lib.hid (show Blk (w9.setCell ⟨g3, 3, none⟩ (C p10 (n + 1) c10)) g3 44 #[S (bs soapL), S (bs cHeader), C none 0 0, C p10 (n + 1) c10, S ⟨#[]⟩] from g2.set_ 3 _)
   have R8 := Lib.hid (g7.setCell (p := ⟨g3, 3, none⟩) (show w.heap.size ≤ g3 by omega) (C p10 (n + 1) c10))
   have R6 := Lib.hid (O9.owns2 ho9 (by omega))
   have R7 := Lib.hid (hk9.only O9 (fun b hb => by rcases hb with hb | hb; omega; (have := hb.1; omega)))
   rw [show w9.heap.size = (w9.setCell ⟨g3, 3, none⟩ (C p10 (n + 1) c10)).heap.size from O9.size.symm] at R7
   have HO9S := Lib.hid O9.size
   have S9 := Lib.hid (show wr.heap.size ≤ (w9.setCell ⟨g3, 3, none⟩ (C p10 (n + 1) c10)).heap.size by rw [O9.size]; exact g8)
   obtain ⟨-, -, -, e3, e4, e5, -⟩ := R1.out.cc
   clear hf g1 g2 g4 g6 g7 g8 O9 ho9 hk9 HVL
   clear e3 e4 e5
   go_wp2_with fail
   go_meet
   case rel =>
    (try simp only [if_false]); (try rw [if_neg (List.cons_ne_nil _ _)])
    exact ⟨n + 1, p10, c10, css9, by omega, by rw [lF, HXL.out]; rfl, R1.out, R2.out, R4.out, R6.out, R7.out, R8.out, by have := S9.out; omega⟩
 case rest =>
  clear HD
  clear wN
  obtain ⟨wN, rfl⟩ : ∃ wN, wN = wc := ⟨_, rfl⟩
  have HD := Lib.hid hcut
  have e4 : wN.cell? ⟨w.heap.size, 4, none⟩ = some (S (bs rel)) := by
   obtain ⟨n, pR, cR, css, hn, hx, k1, _⟩ := hcut
   exact (k1.cell 4).trans rfl
  clear hcut
  generalize hY : [simpT addrL cAction act, simpT addrL cTo tt, simpT addrL cMessageID ii] ++ (if frm = [] then [] else [fromT frm]) = Y at *
  have HY := Lib.hid hY
  clear hY
  go_upto_if 41 with fail
  clear e4
  go_cut [] from 5 (fun wc => HdW w g3 #[S (bs act), S (bs tt), S (bs ii), S (bs frm), S (bs rel), C ph hds.length ch, v0, v1, v2, v3, v4] 5 (Y ++ (if rel = [] then [] else [simpT addrL cRelatesTo rel])) wc)
  case first =>
   rcases rel with _ | ⟨r0, rl⟩
   ·go_wp2_with fail
    go_meet
    case rel => (try simp only [if_true]); (try rw [if_pos rfl]); exact HD.out.up
   ·go_wp2_with fail
    obtain ⟨wr, rfl⟩ : ∃ wr, wr = wN := ⟨_, rfl⟩
    obtain ⟨n, pR, cR, css, hn, hx, k1, k2, k4, k6, k7, k8, hs3⟩ := HD.out
    have G1 := Lib.hid k1; have G2 := Lib.hid k2; have G4 := Lib.hid k4; have G6 := Lib.hid k6; have G7 := Lib.hid k7; have G8 := Lib.hid k8; have HXL := Lib.hid hx; have HS3 := Lib.hid hs3
    clear k1 k2 k4 k6 k7 k8 hx
    have HVL := Lib.hid (show ∀ g, (C pR n cR).ownBlock = some g → w.heap.size ≤ g ∧ g < wr.heap.size from fun g hg => ⟨by have := (G6.out.lt g hg).1; omega, (G6.out.lt g hg).2⟩)
    clear HD
    refine wp_phiU_tail (List.take 8 _) (List.drop 8 _) (lJ 8 _).symm (rT 7 (g3 + 1) 5 44 (C pR n cR) (n)) (fun w' => Blk w' w.heap.size 46 #[S (bs act), S (bs tt), S (bs ii), S (bs frm), S (bs (r0 :: rl)), C ph hds.length ch, v0, v1, v2, v3, v4] ∧ Blk w' g3 44 #[S (bs soapL), S (bs cHeader), C none 0 0, C pR n cR, S ⟨#[]⟩] ∧ Blk w' (w.heap.size + 1) 44 #[S ⟨#[]⟩, S ⟨#[]⟩, C none 0 0, C none 0 0, S ⟨#[]⟩] ∧ TrXL w' (BtL w.heap.size (g3 + 1) wr.heap.size (C pR n cR).ownBlock) (Y) css ∧ Below w.heap.size w w' ∧ wr.heap.size ≤ w'.heap.size) [(2, PVal (D #[S (bs addrL), S (bs cRelatesTo)])), (5, PKidL (fun v => ∃ g, v = D #[S (bs addrL), S (bs cRelatesTo), C none 0 0, C (some ⟨g, 0, none⟩) 1 1, S ⟨#[]⟩]) w.heap.size wr.heap.size (simpT addrL cRelatesTo (r0 :: rl))), (6, PSl w.heap.size wr.heap.size 44 1 [simpT addrL cRelatesTo (r0 :: rl)]), (7, PRowG w.heap.size (g3 + 1) 5 44 (n + 1) (Y ++ [simpT addrL cRelatesTo (r0 :: rl)]))] [(6, [5]), (7, [2, 5, 6])] [(7, fun w' => w'.ownsRow (g3 + 1) 44 5 (C pR n cR) (n) css.flatten)] [] (by kernel_rfl) (by kernel_rfl) ?_ ?_ ?_ ?_ ?_ ?_
    ·rintro p _ w1' w2' ⟨g1, g2, g4, g6, g7, g8⟩ hR
     exact ⟨rT_blklo hR g1 (by omega), rT_blklo hR g2 (by omega), rT_blklo hR g4 (by omega), rT_trxl hR g6 (fun b hb e => by rcases hb with hb | hb; (have := (HVL.out _ e).1; omega); exact hb.2.2 e), rT_below hR g7 (by omega) (by omega), nT g8 (rT_size hR)⟩
    ·intro p hp p' hp' hne hks hns w1' w2' v hI hR hf
     have hv : ∀ g, (C pR n cR).ownBlock = some g → w.heap.size ≤ g ∧ g < wr.heap.size := HVL.out
     simp only [lI, lG, or_false] at hp hp'
     rcases hp with rfl | rfl | rfl | rfl
     ·trivial
     ·exact PKidL_stays hR hv hf
     ·exact PSl_stays hR hv hf
     ·rcases hp' with rfl | rfl | rfl | rfl
      ·exact absurd (show (2 : Nat) ∈ needs [(6, [5]), (7, [2, 5, 6])] 7 by decide) hns
      ·exact absurd (show (5 : Nat) ∈ needs [(6, [5]), (7, [2, 5, 6])] 7 by decide) hns
      ·exact absurd (show (6 : Nat) ∈ needs [(6, [5]), (7, [2, 5, 6])] 7 by decide) hns
      ·exact absurd rfl hne
    ·intro p hp u hu hne w1' w2' hI hR hf
     simp only [lI, lG, or_false] at hp hu
     subst hu
     rcases hp with rfl | rfl | rfl | rfl
     ·have hR := rT_o (show (2 : Nat) ≠ 7 by decide) ▸ hR
      exact owns_below hf hR
     ·have hR := rT_o (show (5 : Nat) ≠ 7 by decide) ▸ hR
      exact owns_below hf hR
     ·have hR := rT_o (show (6 : Nat) ≠ 7 by decide) ▸ hR
      exact owns_below hf hR
     ·exact absurd rfl hne
    ·intro u hu
     simp only [lI, lG, or_false] at hu
     subst hu
     exact owns_below G6.out (Below.refl _ _).drew
    ·exact ⟨G1.out, G2.out, G4.out, G7.out.below (Below.refl _ _).drew, G8.out.drew, nR _⟩
    simp only [lK, lM, lL, lN]
    clear G1 G2 G4 G6 G7 G8
    repeat ((first | refine phiU_skipK rfl (fun K hK => ?_) | (refine phiU_pureK rfl rfl (fun K hK => ?_); apply xI; constructor; (focus (rintro w' ⟨g1, g2, g4, g6, g7, g8⟩; have e4 := (g1.cell 4).trans rfl; have k3 := (g2.cell 3).trans rfl; clear g1 g2 g4 g6 g7 g8; first | (go_simp; done) | (go_simp; (try go_bits); (try go_simp); rfl) | go_simp)))); simp only [Act.put, lA, lB, lC, lD, lE]; apply hK; clear hK K)
    refine phiU_partK (PVal (D #[S (bs addrL), S (bs cRelatesTo)])) rfl rfl ⟨_, rfl⟩ ?_ (fun K hK v hv => ?_)
    ·rintro w' ⟨g1, g2, g4, g6, g7, g8⟩ hf hu
     clear hf hu g1 g2 g4 g6 g7 g8
     unfold gives
     go_simp
     refine (saddr_any cRelatesTo w').mono ?_
     rintro e w'' ⟨rfl, hb⟩
     exact ⟨_, rfl, rfl, trivial, by rw [rT_o (by decide)]; exact hb⟩
    obtain rfl : v = _ := hv
    simp only [Act.put, lA, lB, lC, lD, lE]
    apply hK
    clear hK K
    repeat ((first | refine phiU_skipK rfl (fun K hK => ?_) | (refine phiU_pureK rfl rfl (fun K hK => ?_); apply xI; constructor; (focus (rintro w' ⟨g1, g2, g4, g6, g7, g8⟩; have e4 := (g1.cell 4).trans rfl; have k3 := (g2.cell 3).trans rfl; clear g1 g2 g4 g6 g7 g8; first | (go_simp; done) | (go_simp; (try go_bits); (try go_simp); rfl) | go_simp)))); simp only [Act.put, lA, lB, lC, lD, lE]; apply hK; clear hK K)
    refine phiU_partK (PKidL (fun v => ∃ g, v = D #[S (bs addrL), S (bs cRelatesTo), C none 0 0, C (some ⟨g, 0, none⟩) 1 1, S ⟨#[]⟩]) w.heap.size wr.heap.size (simpT addrL cRelatesTo (r0 :: rl))) rfl rfl ⟨_, 0, rfl⟩ ?_ (fun K hK v hv => ?_)
    ·rintro w' ⟨g1, g2, g4, g6, g7, g8⟩ hf hu
     have HG := Lib.hid g8
     clear hf hu g1 g2 g4 g6 g7 g8
     unfold gives
     go_simp
     refine (simple_any addrL cRelatesTo (r0 :: rl) w').mono ?_
     rintro e w'' ⟨g, rfl, hg, hlt, hk, hb⟩
     exact ⟨_, rfl, ⟨g, rfl⟩, ⟨_, w''.heap.size, rfl, simp_trx (by have := HG.out; omega) hk, nR _⟩, by rw [rT_o (by decide)]; exact hb⟩
    obtain ⟨q5, rfl⟩ := hv
    simp only [Act.put, lA, lB, lC, lD, lE]
    apply hK
    clear hK K
    refine phiU_partK (PSl w.heap.size wr.heap.size 44 1 [simpT addrL cRelatesTo (r0 :: rl)]) rfl rfl ⟨_, 0, rfl⟩ ?_ (fun K hK v hv => ?_)
    ·rintro w' ⟨g1, g2, g4, g6, g7, g8⟩ hf hu
     have f5 := hf (5, fun w1 => (PKidL (fun v => ∃ g, v = D #[S (bs addrL), S (bs cRelatesTo), C none 0 0, C (some ⟨g, 0, none⟩) 1 1, S ⟨#[]⟩]) w.heap.size wr.heap.size (simpT addrL cRelatesTo (r0 :: rl))).fact w1 (D #[S (bs addrL), S (bs cRelatesTo), C none 0 0, C (some ⟨q5, 0, none⟩) 1 1, S ⟨#[]⟩])) (by simp) (lO.1 rfl) rfl
     have F5 := Lib.hid f5
     have HG := Lib.hid g8
     clear hf hu f5 g1 g2 g4 g6 g7 g8
     unfold gives
     go_simp
     refine ⟨⟨_, rfl⟩, fun g hg => ?_, by rw [rT_o (by decide)]; exact below_alloc1 _ _⟩
     obtain rfl : w'.heap.size = g := by simpa using hg
     obtain ⟨c5, B5, e5, t5, b5⟩ := F5.out
     injection e5 with e5
     have e5 := congrArg Array.toList e5
     dsimp only at e5
     subst e5
     refine ⟨HG.out, [[S (bs addrL), S (bs cRelatesTo), C none 0 0, C (some ⟨q5, 0, none⟩) 1 1, S ⟨#[]⟩]], _, Blk.new _ _ _, ?_, nR _⟩
     exact ⟨_, _, rfl, t5.high (below_alloc1 _ _) b5, rfl⟩
    obtain ⟨y6, rfl⟩ := hv
    simp only [Act.put, lA, lB, lC, lD, lE]
    apply hK
    clear hK K
    refine phiU_partK (PRowG w.heap.size (g3 + 1) 5 44 (n + 1) (Y ++ [simpT addrL cRelatesTo (r0 :: rl)])) rfl rfl ⟨_, none, 0, rfl⟩ ?_ (fun K hK v hv => ?_)
    ·rintro w' ⟨g1, g2, g4, g6, g7, g8⟩ hf hu
     have f4 := hf (6, fun w1 => (PSl w.heap.size wr.heap.size 44 1 [simpT addrL cRelatesTo (r0 :: rl)]).fact w1 (C (some ⟨y6, 0, none⟩) 1 1)) (by simp) (lO.1 rfl) rfl y6 rfl
     obtain ⟨h4b, css9, B, b4, t4, l4⟩ := f4
     have hu8 : w'.ownsRow (g3 + 1) 44 5 (C pR n cR) (n) css.flatten := hu (7, fun w' => w'.ownsRow (g3 + 1) 44 5 (C pR n cR) (n) css.flatten) (by simp) rfl
     clear hf hu
     refine gives_appAt (.tmp 43) (.tmp 48) 39 rfl (g3 + 1) 44 i9 (D #[S ⟨#[]⟩, S ⟨#[]⟩, C none 0 0, C none 0 0, S ⟨#[]⟩]) 5 96 Tryz.underlying39 hi9 hy0 hy1 hy2 rfl (by decide) _ _ _ rfl hu8 _ _ _ css9.flatten rfl (by rw [trxl_flen _ _ (k := 2) (by simp [simpT, fromT, Tr.nm]) t4]; rfl) (rd_blk b4) (trxl_ones _ _ t4) (by unfold maxLen; omega) (by omega) (by omega) ?_
     intro v2 w2 ho2 hg2 hat2
     obtain ⟨p2, c2, rfl, _, _, _⟩ := owns_rd ho2
     refine ⟨⟨p2, c2, rfl⟩, prow_stepG (css := css) hg2 hat2 HVL.out (B0 := wr.heap.size) (by omega) (by omega) (by omega) g6 t4 l4 (by rw [List.flatten_append]; exact ho2), ?_⟩
     rw [rT_at]
     exact ⟨⟨_, hu8⟩, hg2⟩
    obtain ⟨p7, c7, rfl⟩ := hv
    simp only [Act.put, lA, lB, lC, lD, lE]
    apply hK
    clear hK K
    repeat ((first | refine phiU_skipK rfl (fun K hK => ?_) | (refine phiU_pureK rfl rfl (fun K hK => ?_); apply xI; constructor; (focus (rintro w' ⟨g1, g2, g4, g6, g7, g8⟩; have e4 := (g1.cell 4).trans rfl; have k3 := (g2.cell 3).trans rfl; clear g1 g2 g4 g6 g7 g8; first | (go_simp; done) | (go_simp; (try go_bits); (try go_simp); rfl) | go_simp)))); simp only [Act.put, lA, lB, lC, lD, lE]; apply hK; clear hK K)
    refine phiU_done ?_
    rintro w9 ⟨g1, g2, g4, g6, g7, g8⟩ hf
    obtain ⟨css9, ho9, hk9⟩ := hf (7, fun w1 => (PRowG w.heap.size (g3 + 1) 5 44 (n + 1) (Y ++ [simpT addrL cRelatesTo (r0 :: rl)])).fact w1 (C p7 (n + 1) c7)) (by simp) rfl
    have f3 := g2.frozen 3
    have k3 := (g2.cell 3).trans rfl
    have O9 := ((Only.refl g3 w9).set_ 3 (C p7 (n + 1) c7))
    have R1 := Lib.hid (O9.blk g1 (by omega))
    have R4 := Lib.hid (O9.blk g4 (by omega))
    have R2 := Lib.hid (show Blk (w9.setCell ⟨g3, 3, none⟩ (C p7 (n + 1) c7)) g3 44 #[S (bs soapL), S (bs cHeader), C none 0 0, C p7 (n + 1) c7, S ⟨#[]⟩] from g2.set_ 3 _)
    have R8 := Lib.hid (g7.setCell (p := ⟨g3, 3, none⟩) (show w.heap.size ≤ g3 by omega) (C p7 (n + 1) c7))
    have R6 := Lib.hid (O9.owns2 ho9 (by omega))
    have R7 := Lib.hid (hk9.only O9 (fun b hb => by rcases hb with hb | hb; omega; (have := hb.1; omega)))
    rw [show w9.heap.size = (w9.setCell ⟨g3, 3, none⟩ (C p7 (n + 1) c7)).heap.size from O9.size.symm] at R7
    have HO9S := Lib.hid O9.size
    have S9 := Lib.hid (show wr.heap.size ≤ (w9.setCell ⟨g3, 3, none⟩ (C p7 (n + 1) c7)).heap.size by rw [O9.size]; exact g8)
    obtain ⟨-, -, -, e3, e4, e5, -⟩ := R1.out.cc
    clear hf g1 g2 g4 g6 g7 g8 O9 ho9 hk9 HVL
    clear e3 e4 e5
    go_wp2_with fail
    go_meet
    case rel =>
     (try simp only [if_false]); (try rw [if_neg (List.cons_ne_nil _ _)])
     exact ⟨n + 1, p7, c7, css9, by omega, by rw [lF, HXL.out]; rfl, R1.out, R2.out, R4.out, R6.out, R7.out, R8.out, by have := S9.out; omega⟩
  case rest =>
   clear HD
   clear wN
   obtain ⟨wr, rfl⟩ : ∃ wr, wr = wc := ⟨_, rfl⟩
   have HHD := Lib.hid (show Env.hdrs ⟨act, tt, ii, frm, rel, hds, bdy⟩ = (Y ++ (if rel = [] then [] else [simpT addrL cRelatesTo rel])) ++ hds by rw [← HY.out]; simp [Env.hdrs])
   generalize Y ++ (if rel = [] then [] else [simpT addrL cRelatesTo rel]) = X at *
   clear HY
   obtain ⟨n, pR, cR, css, hn, hx, k1, k2, k4, k6, k7, k8, hs3⟩ := hcut
   have G1 := Lib.hid k1; have G2 := Lib.hid k2; have G4 := Lib.hid k4; have G6 := Lib.hid k6; have G7 := Lib.hid k7; have G8 := Lib.hid k8; have HXL := Lib.hid hx; have HS3 := Lib.hid hs3
   clear k1 k2 k4 k6 k7 k8 hx
   have HVL := Lib.hid (show ∀ g, (C pR n cR).ownBlock = some g → w.heap.size ≤ g ∧ g < wr.heap.size from fun g hg => ⟨by have := (G6.out.lt g hg).1; omega, (G6.out.lt g hg).2⟩)
   have k3 := (G2.out.cell 3).trans rfl; have e5 := (G1.out.cell 5).trans rfl
   have HRW := Lib.hid (HRD.out.keep (Below.keeps G8.out))
   have HHW := Lib.hid (TrXL.keepP (fun a v _ hv => Below.keeps G8.out a v hv) _ _ HH.out)
   have HFL := Lib.hid (show cssH.flatten.length = hds.length * 5 from trxl_flen _ _ HOK.out HH.out)
   have HON := Lib.hid (trxl_ones _ _ HH.out)
   have HVL := Lib.hid (show ∀ g, (C pR n cR).ownBlock = some g → w.heap.size ≤ g ∧ g < wr.heap.size from fun g hg => ⟨by have := (G6.out.lt g hg).1; omega, (G6.out.lt g hg).2⟩)
   have hlm := HL.out
   go_wp2_with (at_builtin; refine wpList_appAt (.tmp 52) (.tmp 54) 39 rfl rfl (g3 + 1) 44 i9 (D #[S ⟨#[]⟩, S ⟨#[]⟩, C none 0 0, C none 0 0, S ⟨#[]⟩]) 5 96 Tryz.underlying39 hi9 hy0 hy1 hy2 rfl (by decide) _ _ _ rfl G6.out _ _ _ cssH.flatten rfl HFL.out HRW.out HON.out (by unfold maxLen; omega) (by omega) (by omega) ?_)
   intro v7 w7 ho7 hg7 hat7
   clear k3 e5
   have hR7 : rT 0 (g3 + 1) 5 44 (C pR n cR) n 0 wr w7 := by rw [rT_at]; exact ⟨⟨_, G6.out⟩, hg7⟩
   obtain ⟨cssA, hoA, hkA⟩ : (PRowG w.heap.size (g3 + 1) 5 44 (n + hds.length) (X ++ hds)).fact w7 v7 := prow_stepG (css := css) (dss := cssH) (B := wr.heap.size) hg7 hat7 HVL.out (B0 := wr.heap.size) (by omega) (nR _) (by omega) G7.out (TrXL.imp (fun b hb => .inl hb) _ _ HHW.out) (nR _) (by rw [List.flatten_append]; exact ho7)
   obtain ⟨pN, cN, rfl, _, _, _⟩ := owns_rd hoA
   have g1 := rT_blklo hR7 G1.out (by omega)
   have g2 := rT_blklo hR7 G2.out (by omega)
   have g4 := rT_blklo hR7 G4.out (by omega)
   have g7 := rT_below hR7 G8.out (by omega) (by omega)
   have g8 := rT_size hR7
   have f3 := g2.frozen 3
   have k3 := (g2.cell 3).trans rfl
   have O9 := ((Only.refl g3 w7).set_ 3 (C pN (n + hds.length) cN))
   have W1 := Lib.hid (O9.blk g1 (by omega))
   have W4 := Lib.hid (O9.blk g4 (by omega))
   have W2 := Lib.hid (show Blk (w7.setCell ⟨g3, 3, none⟩ (C pN (n + hds.length) cN)) g3 44 #[S (bs soapL), S (bs cHeader), C none 0 0, C pN (n + hds.length) cN, S ⟨#[]⟩] from g2.set_ 3 _)
   have W8 := Lib.hid (g7.setCell (p := ⟨g3, 3, none⟩) (show w.heap.size ≤ g3 by omega) (C pN (n + hds.length) cN))
   have WT := Lib.hid (hdr_trx (nm := [soapL, cHeader]) hoA hkA (by rw [lF, HXL.out]) (by omega) O9)
   have WZ := Lib.hid (show g3 < (w7.setCell ⟨g3, 3, none⟩ (C pN (n + hds.length) cN)).heap.size from W2.out.lt)
   clear ho7 hg7 hat7 hR7 hoA hkA g1 g2 g4 g7 g8 O9 G1 G2 G4 G6 G7 G8 HRW HHW HFL HON HVL HH HRD HOK hs3 HS3 hi9 hy0 hy1 hy2 hlm HL
   go_wp2_with fail
   clear f3 k3
   generalize w7.setCell ⟨g3, 3, none⟩ (C pN (n + hds.length) cN) = wA at *
   refine wp_phi_tail (List.take 6 _) (List.drop 6 _) (lJ 6 _).symm (fun w' => (Blk w' w.heap.size 46 #[S (bs act), S (bs tt), S (bs ii), S (bs frm), S (bs rel), C ph hds.length ch, v0, v1, v2, v3, v4]) ∧ Below wA.heap.size wA w') [(0, PVal (D #[S (bs soapL), S (bs cBody)])), (3, PBlk wA.heap.size 44 #[v0, v1, v2, v3, v4] 1), (5, PNew (wA.heap.size) 44 #[S ⟨#[]⟩, S ⟨#[]⟩, C none 0 0, C none 0 0, S ⟨#[]⟩])] [] (by kernel_rfl) (by kernel_rfl) ?_ ?_ ⟨W1.out, ((Below.refl _ wA)).drew⟩ ?_
   ·rintro w1' w2' ⟨f1, hIB⟩ hb
    exact ⟨f1.below hb f1.lt, hIB.trans (hb.mono hIB.size)⟩
   ·simp only [lI, lG, or_false, forall_eq_or_imp, forall_eq]
    exact ⟨fun _ _ _ _ h' h => PVal_stays _ _ _ _ h' h, fun _ _ _ _ h' h => PBlk_stays h' h, fun _ _ _ _ h' h => PNew_stays h' h⟩
   simp only [lK, lM, lL, lN]
   repeat ((first | refine phi_skipK rfl (fun K hK => ?_) | (refine phi_pureK rfl rfl (fun K hK => ?_); apply xI; constructor; (focus (rintro w' ⟨f1, hIB⟩; obtain ⟨-, -, -, -, -, -, q6, q7, q8, q9, q10⟩ := f1.cc; clear f1 hIB; first | (go_simp; done) | (go_simp; (try go_bits); (try go_simp); rfl) | go_simp)))); simp only [Act.put, lA, lB, lC, lD, lE]; apply hK; clear hK K)
   refine phi_partK (PVal (D #[S (bs soapL), S (bs cBody)])) rfl rfl ⟨_, rfl⟩ ?_ (fun K hK v hv => ?_)
   ·rintro w' ⟨f1, hIB⟩ hf
    unfold gives
    clear hf
    go_simp
    refine (soown_any cBody _).mono ?_
    rintro e w'' ⟨rfl, hb⟩
    exact ⟨_, rfl, rfl, trivial, hb⟩
   obtain rfl : v = _ := hv
   simp only [Act.put, lA, lB, lC, lD, lE]
   apply hK
   clear hK K
   repeat ((first | refine phi_skipK rfl (fun K hK => ?_) | (refine phi_pureK rfl rfl (fun K hK => ?_); apply xI; constructor; (focus (rintro w' ⟨f1, hIB⟩; obtain ⟨-, -, -, -, -, -, q6, q7, q8, q9, q10⟩ := f1.cc; clear f1 hIB; first | (go_simp; done) | (go_simp; (try go_bits); (try go_simp); rfl) | go_simp)))); simp only [Act.put, lA, lB, lC, lD, lE]; apply hK; clear hK K)
   refine phi_partK (PBlk wA.heap.size 44 #[v0, v1, v2, v3, v4] 1) rfl rfl ⟨_, 0, rfl⟩ ?_ (fun K hK v hv => ?_)
   ·rintro w' ⟨f1, hIB⟩ hf
    have HGS := Lib.hid hIB.size
    clear hf f1 hIB
    unfold gives
    go_simp
    refine ⟨⟨_, rfl⟩, fun g hg => ?_, below_alloc1 _ _⟩
    obtain rfl : w'.heap.size = g := by simpa using hg
    exact ⟨HGS.out, Blk.new _ _ _⟩
   obtain ⟨g_3, rfl⟩ := hv
   simp only [Act.put, lA, lB, lC, lD, lE]
   apply hK
   clear hK K
   repeat ((first | refine phi_skipK rfl (fun K hK => ?_) | (refine phi_pureK rfl rfl (fun K hK => ?_); apply xI; constructor; (focus (rintro w' ⟨f1, hIB⟩; obtain ⟨-, -, -, -, -, -, q6, q7, q8, q9, q10⟩ := f1.cc; clear f1 hIB; first | (go_simp; done) | (go_simp; (try go_bits); (try go_simp); rfl) | go_simp)))); simp only [Act.put, lA, lB, lC, lD, lE]; apply hK; clear hK K)
   refine phi_partK (PNew (wA.heap.size) 44 #[S ⟨#[]⟩, S ⟨#[]⟩, C none 0 0, C none 0 0, S ⟨#[]⟩]) rfl rfl ⟨_, 0, rfl⟩ ?_ (fun K hK v hv => ?_)
   ·rintro w' ⟨f1, hIB⟩ hf
    have HGS := Lib.hid hIB.size
    clear hf f1 hIB
    unfold gives
    go_simp
    refine ⟨⟨_, rfl⟩, fun g hg => ?_, below_alloc1 _ _⟩
    obtain rfl : w'.heap.size = g := by simpa using hg
    exact ⟨HGS.out, Blk.new _ _ _⟩
   obtain ⟨g_5, rfl⟩ := hv
   simp only [Act.put, lA, lB, lC, lD, lE]
   apply hK
   clear hK K
   repeat ((first | refine phi_skipK rfl (fun K hK => ?_) | (refine phi_pureK rfl rfl (fun K hK => ?_); apply xI; constructor; (focus (rintro w' ⟨f1, hIB⟩; obtain ⟨-, -, -, -, -, -, q6, q7, q8, q9, q10⟩ := f1.cc; clear f1 hIB; first | (go_simp; done) | (go_simp; (try go_bits); (try go_simp); rfl) | go_simp)))); simp only [Act.put, lA, lB, lC, lD, lE]; apply hK; clear hK K)
   refine phi_done ?_
   rintro w5 ⟨f1, hb5⟩ hk9
   have hb_3 := hk9 (3, fun w1 => (PBlk wA.heap.size 44 #[v0, v1, v2, v3, v4] 1).fact w1 (C (some ⟨g_3, 0, none⟩) 1 1)) (by simp) g_3 rfl
   have hb_5 := hk9 (5, fun w1 => (PNew (wA.heap.size) 44 #[S ⟨#[]⟩, S ⟨#[]⟩, C none 0 0, C none 0 0, S ⟨#[]⟩]).fact w1 (.pointer (some ⟨g_5, 0, none⟩))) (by simp) g_5 rfl
   clear hk9
   obtain ⟨hg6, hk6⟩ := hb_3
   obtain ⟨hg5, hk5⟩ := hb_5
   have hz5 := hb5.size
   have hz3 := WZ.out
   have hne : g_3 ≠ g_5 := fun e => by
    unfold Blk at hk6 hk5
    rw [e, hk5] at hk6
    simp at hk6
    exact HNV.out hk6.2.1.symm
   generalize g_3 = gK at *
   generalize g_5 = gB at *
   refine wpList_store (.tmp 4) (.tmp 61) 44 rfl rfl gB 0 _ _ #[S (bs soapL), S (bs cBody), C none 0 0, C (some ⟨gK, 0, none⟩) 1 1, S ⟨#[]⟩] rfl rfl hk5 (by kernel_rfl) (by simp [Value.oneCell']) (by simp) ?_
   intro w6 hb6 ho6
   rw [putCells_all #[S ⟨#[]⟩, S ⟨#[]⟩, C none 0 0, C none 0 0, S ⟨#[]⟩] #[S (bs soapL), S (bs cBody), C none 0 0, C (some ⟨gK, 0, none⟩) 1 1, S ⟨#[]⟩] rfl] at hb6
   have X2 := Lib.hid (ho6.blk (W2.out.below hb5 (by omega)) (by omega))
   have X4 := Lib.hid (ho6.blk (W4.out.below hb5 (by omega)) (by omega))
   have X3 := Lib.hid (ho6.blk hk6 hne)
   have X5 := Lib.hid hb6
   have XT := Lib.hid (TrX.only (TrX.below WT.out hb5) ho6 (fun b hb => by rcases hb with hb | hb; omega; (have := hb.2.1; omega)))
   have X8 := Lib.hid (W8.out.trans ((hb5.mono (by omega)).trans (ho6.below (by omega))))
   have XZ := Lib.hid (show g3 < w6.heap.size ∧ gB < w6.heap.size ∧ gB ≠ w.heap.size + 1 ∧ gK ≠ w.heap.size + 1 from by have := ho6.size; have := hk5.lt; omega)
   clear f1 hb5 hg5 hk5 hg6 hk6 hz5 hz3 hne hb6 ho6 W1 W2 W4 W8 WT WZ
   go_wp2_with fail
   refine wp_phi_tail (List.take 5 _) (List.drop 5 _) (lJ 5 _).symm (fun w' => (Blk w' g3 44 #[S (bs soapL), S (bs cHeader), C none 0 0, C pN (n + hds.length) cN, S ⟨#[]⟩]) ∧ (Blk w' gB 44 #[S (bs soapL), S (bs cBody), C none 0 0, C (some ⟨gK, 0, none⟩) 1 1, S ⟨#[]⟩]) ∧ Below w6.heap.size w6 w') [(0, PVal (D #[S (bs soapL), S (bs cEnvelope)])), (3, PBlk w6.heap.size 44 #[S (bs soapL), S (bs cHeader), C none 0 0, C pN (n + hds.length) cN, S ⟨#[]⟩, S (bs soapL), S (bs cBody), C none 0 0, C (some ⟨gK, 0, none⟩) 1 1, S ⟨#[]⟩] 2)] [] (by kernel_rfl) (by kernel_rfl) ?_ ?_ ⟨X2.out, X5.out, ((Below.refl _ w6)).drew⟩ ?_
   ·rintro w1' w2' ⟨f1, f2, hIB⟩ hb
    exact ⟨f1.below hb f1.lt, f2.below hb f2.lt, hIB.trans (hb.mono hIB.size)⟩
   ·simp only [lI, lG, or_false, forall_eq_or_imp, forall_eq]
    exact ⟨fun _ _ _ _ h' h => PVal_stays _ _ _ _ h' h, fun _ _ _ _ h' h => PBlk_stays h' h⟩
   simp only [lK, lM, lL, lN]
   repeat ((first | refine phi_skipK rfl (fun K hK => ?_) | (refine phi_pureK rfl rfl (fun K hK => ?_); apply xI; constructor; (focus (rintro w' ⟨f1, f2, hIB⟩; obtain ⟨q0, q1, q2, q3, q4, -⟩ := f1.cc; obtain ⟨s0, s1, s2, s3, s4, -⟩ := f2.cc; clear f1 f2 hIB; first | (go_simp; done) | (go_simp; (try go_bits); (try go_simp); rfl) | go_simp)))); simp only [Act.put, lA, lB, lC, lD, lE]; apply hK; clear hK K)
   refine phi_partK (PVal (D #[S (bs soapL), S (bs cEnvelope)])) rfl rfl ⟨_, rfl⟩ ?_ (fun K hK v hv => ?_)
   ·rintro w' ⟨f1, f2, hIB⟩ hf
    unfold gives
    clear hf
    go_simp
    refine (soown_any cEnvelope _).mono ?_
    rintro e w'' ⟨rfl, hb⟩
    exact ⟨_, rfl, rfl, trivial, hb⟩
   obtain rfl : v = _ := hv
   simp only [Act.put, lA, lB, lC, lD, lE]
   apply hK
   clear hK K
   repeat ((first | refine phi_skipK rfl (fun K hK => ?_) | (refine phi_pureK rfl rfl (fun K hK => ?_); apply xI; constructor; (focus (rintro w' ⟨f1, f2, hIB⟩; obtain ⟨q0, q1, q2, q3, q4, -⟩ := f1.cc; obtain ⟨s0, s1, s2, s3, s4, -⟩ := f2.cc; clear f1 f2 hIB; first | (go_simp; done) | (go_simp; (try go_bits); (try go_simp); rfl) | go_simp)))); simp only [Act.put, lA, lB, lC, lD, lE]; apply hK; clear hK K)
   refine phi_partK (PBlk w6.heap.size 44 #[S (bs soapL), S (bs cHeader), C none 0 0, C pN (n + hds.length) cN, S ⟨#[]⟩, S (bs soapL), S (bs cBody), C none 0 0, C (some ⟨gK, 0, none⟩) 1 1, S ⟨#[]⟩] 2) rfl rfl ⟨_, 0, rfl⟩ ?_ (fun K hK v hv => ?_)
   ·rintro w' ⟨f1, f2, hIB⟩ hf
    have HGS := Lib.hid hIB.size
    clear hf f1 f2 hIB
    unfold gives
    go_simp
    refine ⟨⟨_, rfl⟩, fun g hg => ?_, below_alloc1 _ _⟩
    obtain rfl : w'.heap.size = g := by simpa using hg
    exact ⟨HGS.out, Blk.new _ _ _⟩
   obtain ⟨g_3, rfl⟩ := hv
   simp only [Act.put, lA, lB, lC, lD, lE]
   apply hK
   clear hK K
   repeat ((first | refine phi_skipK rfl (fun K hK => ?_) | (refine phi_pureK rfl rfl (fun K hK => ?_); apply xI; constructor; (focus (rintro w' ⟨f1, f2, hIB⟩; obtain ⟨q0, q1, q2, q3, q4, -⟩ := f1.cc; obtain ⟨s0, s1, s2, s3, s4, -⟩ := f2.cc; clear f1 f2 hIB; first | (go_simp; done) | (go_simp; (try go_bits); (try go_simp); rfl) | go_simp)))); simp only [Act.put, lA, lB, lC, lD, lE]; apply hK; clear hK K)
   refine phi_done ?_
   rintro wB ⟨f1, f2, hbB⟩ hk9
   have hb_3 := hk9 (3, fun w1 => (PBlk w6.heap.size 44 #[S (bs soapL), S (bs cHeader), C none 0 0, C pN (n + hds.length) cN, S ⟨#[]⟩, S (bs soapL), S (bs cBody), C none 0 0, C (some ⟨gK, 0, none⟩) 1 1, S ⟨#[]⟩] 2).fact w1 (C (some ⟨g_3, 0, none⟩) 2 2)) (by simp) g_3 rfl
   clear hk9
   obtain ⟨hgT, hkT⟩ := hb_3
   generalize g_3 = gT at *
   have XB := X4.out.below hbB (by have := XZ.out; omega)
   refine wpList_store (.tmp 2) (.tmp 66) 44 rfl rfl (w.heap.size + 1) 0 _ _ #[S (bs soapL), S (bs cEnvelope), C none 0 0, C (some ⟨gT, 0, none⟩) 2 2, S ⟨#[]⟩] rfl rfl XB (by kernel_rfl) (by simp [Value.oneCell']) (by simp) ?_
   intro w8 hb8 ho8
   rw [putCells_all #[S ⟨#[]⟩, S ⟨#[]⟩, C none 0 0, C none 0 0, S ⟨#[]⟩] #[S (bs soapL), S (bs cEnvelope), C none 0 0, C (some ⟨gT, 0, none⟩) 2 2, S ⟨#[]⟩] rfl] at hb8
   have hxz := XZ.out
   have hzB := hbB.size
   have HEAD := Lib.hid (TrX.imp (fun _ _ => trivial) _ _ (TrX.only (TrX.below XT.out hbB) ho8 (fun b hb => by rcases hb with hb | hb; omega; (have := hb.1; omega))) : TrX w8 (fun _ => True) _ _)
   have BROW := Lib.hid (ho8.blk (X3.out.below hbB X3.out.lt) (by omega))
   have TROW := Lib.hid (ho8.blk hkT (by omega))
   have BEL := Lib.hid (X8.out.trans ((hbB.mono (by have := X8.out.size; omega)).trans (ho8.below (by omega))))
   have BDY := Lib.hid (TrX.imp (fun _ _ => trivial) _ _ (TrX.keepP (fun a v _ hv => Below.keeps BEL.out a v hv) _ _ HB.out) : TrX w8 (fun _ => True) bdy [v0, v1, v2, v3, v4])
   obtain ⟨z0, z1, z2, z3, z4, -⟩ := hb8.cc
   clear hb8 ho8 hxz hzB XB hkT hgT f1 f2 hbB X2 X3 X4 X5 X8 XT XZ HB
   go_wp2_with fail
   refine bodyPost_ret (v := D #[S (bs soapL), S (bs cEnvelope), C none 0 0, C (some ⟨gT, 0, none⟩) 2 2, S ⟨#[]⟩]) (by simp [results, Tryz.results76, go_sem, z0, z1, z2, z3, z4]) rfl ?_
   refine ⟨gT, rfl, TrX.plain (P := fun _ => True) _ _ ?_, BEL.out⟩
   rw [show Env.tree ⟨act, tt, ii, frm, rel, hds, bdy⟩ = .node [soapL, cEnvelope] [] [.node [soapL, cHeader] [] (X ++ hds) [], .node [soapL, cBody] [] [bdy] []] [] by unfold Env.tree; rw [HHD.out]]; exact node_trxP (P := fun _ => True) (nm := [soapL, cEnvelope]) (tx := []) (css := [_, _]) trivial TROW.out ⟨_, _, rfl, HEAD.out, _, _, rfl, node_trxP (P := fun _ => True) (nm := [soapL, cBody]) (tx := []) (css := [[v0, v1, v2, v3, v4]]) (n := 1) trivial BROW.out (TrXL.one BDY.out) rfl (by decide), rfl⟩ rfl (by decide)
end Go.Proofs.YthboiahdheehkaaGreatDoor
