/- SoapJ -/
import Derived.Test.YthboiahdheehkaaGreatDoorSHI
import Derived.Test.YthboiahdheehkaaGreatDoorXC
import Derived.Test.YthboiahdheehkaaGreatDoorPN
open List renaming length_append → lF, length_cons → lH, length_nil → lP
open Go.Lib renaming hid → hI
open Option renaming bind_eq_some_iff → oA, map_eq_some_iff → oB
open Nat renaming le_refl → nR
open Go.Proofs.Tryz renaming prog → pG
open Go.Value renaming string → S
open Go.Value renaming slice → C
open Go.Obj renaming cells → F
namespace Go.Proofs.YthboiahdheehkaaGreatDoor
section
set_option maxHeartbeats 4000000
set_option maxRecDepth 20000
open Go.RowKit Go.Extern.Stop Go.Stop Go.Extern
attribute [local go_sem] bs_toList
theorem writeF_few {x y : Tr} (hx : x.ok 2) (hc : x.cap 20 300) (hs : x.sz ≤ 30) (h : writeF x = some y) : y.few := by
 have hn := cap_nms x hc
 have hn2 : x.sz * (20 + 1) ≤ 30 * 21 := Nat.mul_le_mul_right _ hs
 have hl : (x.meet []).length ≤ 630 := by
  rw [meet_nms x [] hx]
  have := met_len x.nms []
  simp only [lP] at this
  omega
 have hm : ∀ s ∈ x.meet [], s.length ≤ 306 := by
  rw [meet_nms x [] hx]
  exact met_small x.nms [] (by simp) fun n hn s hs => Nat.le_trans (ssz_nms x (cap_ssz x hc) n hn s hs) (by omega)
 unfold writeF at h
 obtain ⟨z, hz, h⟩ := oA.1 h
 obtain ⟨b, _, h⟩ := oA.1 h
 split at h
 ·cases h
  obtain ⟨h1, h2, h3⟩ := wri_cap (by omega) x z hz hc
  obtain ⟨g1, g2, g3⟩ := with_cap (B := 630) (by omega) (by omega) hl hm h1 h3
  exact (cap_all g1 (N := 30) (by omega) (by omega) (by omega) (by omega) (by omega)).2.2.1
 ·cases h
theorem formed_write {e : Env} {x : Tr} (h : e.formed = some x) : writeF e.tree = some x := by
 unfold Env.formed at h
 split at h
 ·exact h
 ·cases h
theorem read1_any (E : Nat → Addr) (e : Env) (x : Tr) (gb : Nat) (w : World) (hg : LibG w) (hE : Errs w E) (hs : e.small) (ho : e.formed = some x) (hh : e.hds = []) (ht : textE x = 0) (hk : Blk w gb 9 #[S (bs x.wrt)]) :
  Calls pG 43 #[.pointer (some ⟨gb, 0, none⟩)] w (EnvR (w.heap.size + 1) e w) := by
 have hx := hs.fits x ho
 have hfw := writeF_few hs.tree.1 hs.tree.2.1 hs.tree.2.2 (formed_write ho)
 have hres := write_back (formed_write ho)
 have hlen : x.wrt.length ≤ maxLen := by
  unfold textE at ht
  unfold maxLen
  split at ht
  ·omega
  ·split at ht <;> omega
 have hba := below_alloc1 w (F #[S ⟨#[]⟩, S ⟨#[]⟩, S ⟨#[]⟩, S ⟨#[]⟩, S ⟨#[]⟩, C none 0 0, S ⟨#[]⟩, S ⟨#[]⟩, C none 0 0, C none 0 0, S ⟨#[]⟩] 46)
 have hp := parse_any E x.wrt (w.alloc (F #[S ⟨#[]⟩, S ⟨#[]⟩, S ⟨#[]⟩, S ⟨#[]⟩, S ⟨#[]⟩, C none 0 0, S ⟨#[]⟩, S ⟨#[]⟩, C none 0 0, C none 0 0, S ⟨#[]⟩] 46)) (hg.below hba) (hE.below hba) hlen
 rw [parse_wrt hx.1 ht] at hp
 have HP := hI hp
 have HRS := hI (fun P cx w' (hb : Below w.heap.size w w') (hT : TrC w' P x cx) => resolve_any E x P cx w' (hg.below hb) (hE.below hb) hx.1 hx.2 hfw hT)
 rw [hres] at HRS
 have HRD := hI (fun P cx w' (hb : Below w.heap.size w w') (hP : ∀ b, P b → w.heap.size + 1 ≤ b ∧ b < w'.heap.size) (hT : TrC w' P e.tree cx) => read_any E (w.heap.size + 1) e x P cx w' (hg.below hb) (hE.below hb) hs ho hh hP hT)
 have hN := Blk.new w 46 #[S ⟨#[]⟩, S ⟨#[]⟩, S ⟨#[]⟩, S ⟨#[]⟩, S ⟨#[]⟩, C none 0 0, S ⟨#[]⟩, S ⟨#[]⟩, C none 0 0, C none 0 0, S ⟨#[]⟩]
 have HN := hI hN
 have HBA := hI hba
 have hkk := hk.below hba hk.lt
 have z0 := (hkk.cell 0).trans rfl
 clear hba hN hkk hk hp hres hlen hx hfw hg hE ht
 go_enter Tryz.func43, Tryz.ntmps43
 go_wp2_with fail
 refine HP.out.mono ?_
 rintro en w1 ⟨hb1, s0, p1, n1, c1, p2, n2, c2, s3, rfl, hT1⟩
 have HT1 := hI (show TrC w1 (fun _ => True) x [.string s0, C p1 n1 c1, C p2 n2 c2, .string s3] from hT1.imp fun _ _ => trivial)
 have HB1 := hI (HBA.out.trans (hb1.mono HBA.out.size))
 have HN1 := hI (HN.out.below hb1 HN.out.lt)
 clear hb1 hT1 z0
 rw [show errV E (exN (.ok x)) = .nilIface from rfl]
 go_wp2_with (go_at_call 47; refine (mustX_ok (.string s0) (C p1 n1 c1) (C p2 n2 c2) (.string s3) rfl rfl rfl rfl _).mono ?_; rintro en w2 ⟨rfl, hb2⟩)
 have HB2 := hI (HB1.out.trans (hb2.mono HB1.out.size))
 have HN2 := hI (HN1.out.below hb2 HN1.out.lt)
 have HR2 := hI (HRS.out _ _ w2 HB2.out (HT1.out.below hb2))
 clear hb2
 refine HR2.out.mono ?_
 rintro en w3 ⟨hb3, ⟨y, c0, c1', c2', c3, c4, hy, rfl, hT3⟩ | ⟨hy, _⟩⟩
 rotate_left 1
 ·cases hy
 cases hy
 have hone := hT3.one
 have o0 := hone c0 (by simp); have o1 := hone c1' (by simp); have o2 := hone c2' (by simp); have o3 := hone c3 (by simp); have o4 := hone c4 (by simp)
 have HB3 := hI (HB2.out.trans (hb3.mono HB2.out.size))
 have HN3 := hI (HN2.out.below hb3 HN2.out.lt)
 have HT3 := hI hT3
 clear hone hb3 hT3
 go_wp2_with (go_at_call 45; refine (must_ok c0 c1' c2' c3 c4 o0 o1 o2 o3 o4 _).mono ?_; rintro en w4 ⟨rfl, hb4⟩)
 have HB4 := hI (HB3.out.trans (hb4.mono HB3.out.size))
 have HN4 := hI (HN3.out.below hb4 HN3.out.lt)
 have HR4 := hI (HRD.out _ _ w4 HB4.out (fun b hb => by have := hb.1; have := hb.2.1; have := hb4.size; have := HN2.out.lt; omega) (HT3.out.below hb4))
 clear hb4
 refine HR4.out.mono ?_
 rintro en w5 ⟨cs, rfl, hc5, hb5⟩
 have HB5 := hI (HB4.out.trans (hb5.mono HB4.out.size))
 have HN5 := hI (HN4.out.below hb5 HN4.out.lt)
 have HC5 := hI hc5
 have h11 : cs.size = 11 := by
  obtain ⟨_, b0, b1, bt, pa, na, ca, pk, nk, ck, rfl, _⟩ := hc5
  rfl
 have hon : ∀ v ∈ cs.toList, v.oneCell' = true := by
  obtain ⟨_, b0, b1, bt, pa, na, ca, pk, nk, ck, rfl, _⟩ := hc5
  simp [Value.oneCell']
 clear hb5 hc5
 go_wp2_with (refine wpList_store (.tmp 1) (.tmp 11) 46 rfl rfl w.heap.size 0 _ _ cs rfl rfl HN5.out (by rw [h11]; kernel_rfl) hon (by rw [h11]; simp) ?_)
 intro w8 hb8 ho8
 rw [putCells_all #[S ⟨#[]⟩, S ⟨#[]⟩, S ⟨#[]⟩, S ⟨#[]⟩, S ⟨#[]⟩, C none 0 0, S ⟨#[]⟩, S ⟨#[]⟩, C none 0 0, C none 0 0, S ⟨#[]⟩] cs (by rw [h11]; rfl)] at hb8
 have HBF := hI (HB5.out.trans (ho8.below (nR _)))
 have HCF := hI (HC5.out.only ho8 (by omega))
 have hcf := HCF.out
 obtain ⟨_, b0, b1, bt, pa, na, ca, pk, nk, ck, rfl, _⟩ := hcf
 obtain ⟨u0, u1, u2, u3, u4, u5, u6, u7, u8, u9, u10⟩ := hb8.cc
 clear hb8 ho8 h11 hon
 go_wp2_with fail
 refine bodyPost_ret (v := .agg #[S (bs e.act), S (bs e.to), S (bs e.id), S (bs e.frm), S (bs e.rel), C none 0 0, S (bs b0), S (bs b1), C pa na ca, C pk nk ck, S (bs bt)]) (by simp [results, Tryz.results43, go_sem, u0, u1, u2, u3, u4, u5, u6, u7, u8, u9, u10]) rfl ?_
 exact ⟨_, rfl, HCF.out, HBF.out⟩
end
section
set_option maxHeartbeats 4000000
set_option maxRecDepth 20000
open Go.RowKit
mutual
def Tr.bare : Tr → Prop
 | .node _ ats ks _ => ats = [] ∧ Tr.bareL ks
def Tr.bareL : List Tr → Prop
 | [] => True
 | k :: ks => k.bare ∧ Tr.bareL ks
end
mutual
def Tr.wgt : Tr → Nat
 | .node nm _ ks t => 2 * (nm.getD 1 []).length + 24 + 6 * t.length + Tr.wgtL ks
def Tr.wgtL : List Tr → Nat
 | [] => 0
 | k :: ks => k.wgt + Tr.wgtL ks
end
theorem prefixed_len {l : List (List UInt8)} {n : List (List UInt8)} (hl : l.length < 9000) : (prefixedF l n).length ≤ (n.getD 1 []).length + 6 := by
 unfold prefixedF
 split
 ·have := pref_five (i := l.idxOf (n.getD 0 [])) (by omega)
  rw [lF, lH]
  omega
 ·omega
mutual
theorem bare_wrt {l : List (List UInt8)} (hl : l.length < 9000) : ∀ (x y : Tr), x.wri l = some y → x.bare → y.wrt.length ≤ x.wgt
 | .node nm ats ks t, y, h, hb => by
  unfold Tr.bare at hb
  obtain ⟨rfl, hk⟩ := hb
  have h6 := escF_len false _ t (nR _)
  unfold Tr.wri at h
  unfold Tr.wgt
  split at h
  ·split at h
   ·cases h
    unfold Tr.wrt
    rw [if_pos (show ([[]] : List (List UInt8)).getD 0 [] = [] from rfl)]
    omega
   ·cases h
  ·split at h
   ·cases h
   ·obtain ⟨bts, hb, h⟩ := oA.1 h
    obtain ⟨xs, hx, rfl⟩ := oB.1 h
    have h2 := bareL_wrt hl ks xs hx hk
    have h3 := prefixed_len (n := nm) hl
    obtain rfl : bts = [] := by
     unfold wriAts at hb
     cases hb
     rfl
    unfold Tr.wrt
    simp only [List.getD_cons_zero, List.flatMap_nil, List.append_nil]
    split
    ·omega
    ·split <;> simp only [lF, lH, lP] <;> omega
theorem bareL_wrt {l : List (List UInt8)} (hl : l.length < 9000) : ∀ (ks xs : List Tr), Tr.wriL l ks = some xs → Tr.bareL ks → (Tr.wrtL xs).length ≤ Tr.wgtL ks
 | [], xs, h, _ => by
  unfold Tr.wriL at h
  cases h
  unfold Tr.wrtL
  simp
 | k :: ks, xs, h, hb => by
  unfold Tr.bareL at hb
  unfold Tr.wriL at h
  obtain ⟨x, hx, h⟩ := oA.1 h
  obtain ⟨ys, hy, rfl⟩ := oB.1 h
  have h1 := bare_wrt hl k x hx hb.1
  have h2 := bareL_wrt hl ks ys hy hb.2
  unfold Tr.wrtL Tr.wgtL
  rw [lF]
  omega
end
theorem with_wrt (l : List (List UInt8)) (y : Tr) : (withDecl l y).wrt.length ≤ y.wrt.length + ((declOf l).flatMap atT).length := by
 obtain ⟨nm, ats, ks, t⟩ := y
 unfold withDecl Tr.wrt
 split
 ·omega
 ·simp only [List.flatMap_append]
  split <;> simp only [lF, lH, lP] <;> omega
def bodyT : Tr := .node [[117], [98]] [] [] []
structure Env.rep (e : Env) : Prop where
 act : e.act.length ≤ 300
 tto : e.to.length ≤ 300
 iid : e.id.length ≤ 300
 frm : e.frm.length ≤ 300
 rel : e.rel.length ≤ 300
 hds : e.hds = []
 bdy : e.bdy = bodyT
theorem Env.rep.small {e : Env} (h : e.rep) : e.small := by
 refine ⟨h.act, h.tto, h.iid, h.frm, h.rel, ?_, ?_, ?_, ?_, ?_⟩
 ·rw [h.hds]; trivial
 ·rw [h.bdy]; exact ⟨by simp, by simp, by simp, by simp, trivial⟩
 ·rw [h.hds]; trivial
 ·rw [h.bdy]; exact ⟨rfl, by simp, trivial⟩
 ·rw [h.hds, h.bdy]; decide
theorem rep_meet {e : Env} (h : e.rep) : e.tree.meet [] = [soapL, addrL, [117]] := by
 unfold Env.tree Env.hdrs
 rw [h.hds, h.bdy]
 split <;> split <;> kernel_rfl
theorem rep_wgt {e : Env} (h : e.rep) : e.tree.bare ∧ e.tree.wgt ≤ 11000 := by
 have h0 := h.act; have h1 := h.tto; have h2 := h.iid; have h3 := h.frm; have h4 := h.rel
 have n1 : cEnvelope.length ≤ 12 := by decide
 have n2 : cHeader.length ≤ 12 := by decide
 have n3 : cBody.length ≤ 12 := by decide
 have n4 : cAction.length ≤ 12 := by decide
 have n5 : cTo.length ≤ 12 := by decide
 have n6 : cMessageID.length ≤ 12 := by decide
 have n7 : cFrom.length ≤ 12 := by decide
 have n8 : cAddress.length ≤ 12 := by decide
 have n9 : cRelatesTo.length ≤ 12 := by decide
 unfold Env.tree Env.hdrs
 rw [h.hds, h.bdy]
 split <;> split <;> simp [Tr.bare, Tr.bareL, Tr.wgt, Tr.wgtL, simpT, fromT, bodyT] <;> omega
theorem rep_textE {e : Env} {x : Tr} (h : e.rep) (ho : e.formed = some x) : textE x = 0 := by
 have hw := formed_write ho
 unfold writeF at hw
 obtain ⟨z, hz, hw⟩ := oA.1 hw
 obtain ⟨b, hb, hw⟩ := oA.1 hw
 split at hw
 ·cases hw
  have h1 := rep_wgt h
  rw [rep_meet h] at hz hb ⊢
  have h2 := bare_wrt (by simp) _ z hz h1.1
  have h3 := with_wrt [soapL, addrL, [117]] z
  have h4 := atT_cap (L := 50) (declOf [soapL, addrL, [117]]) (by
   intro a ha
   exact (decl_cap (L := 50) (by omega) (by simp) (by
    intro s hs
    simp only [List.mem_cons, List.not_mem_nil, or_false] at hs
    rcases hs with rfl | rfl | rfl <;> decide) a ha).2)
  have h5 : (declOf [soapL, addrL, [117]]).length = 3 := by unfold declOf; simp
  have hr : (withDecl [soapL, addrL, [117]] z).rgt 1 = true := by
   unfold resolveF at hb
   split at hb
   ·assumption
   ·cases hb
  unfold textE
  rw [hr, if_neg (by simp), if_neg (by omega)]
 ·cases hw
def aliveE : Env := ⟨[97], [116], [109], [], [], [], bodyT⟩
theorem aliveE_rep : aliveE.rep := ⟨by decide, by decide, by decide, by decide, by decide, rfl, rfl⟩
theorem aliveE_formed : ∃ x, aliveE.formed = some x := by
 have h : aliveE.formed.isSome = true := by decide +kernel
 exact Option.isSome_iff_exists.1 h
end
section
set_option maxHeartbeats 4000000
set_option maxRecDepth 20000
open Go.RowKit Go.Extern.Stop Go.Stop Go.Extern
attribute [local go_sem] bs_toList
theorem envB_parts {B : Nat} {w : World} {e : Env} {cs : Array Value} (h : EnvB B w e cs) : ∃ v0 v1 v2 v3 v4 v5 v6 v7 v8 v9 v10 : Value, cs = #[v0, v1, v2, v3, v4, v5, v6, v7, v8, v9, v10] ∧ v0.oneCell' = true ∧ v1.oneCell' = true ∧ v2.oneCell' = true ∧ v3.oneCell' = true ∧ v4.oneCell' = true ∧ v5.oneCell' = true ∧ v6.oneCell' = true ∧ v7.oneCell' = true ∧ v8.oneCell' = true ∧ v9.oneCell' = true ∧ v10.oneCell' = true := by
 obtain ⟨_, b0, b1, bt, pa, na, ca, pk, nk, ck, rfl, _⟩ := h
 exact ⟨_, _, _, _, _, _, _, _, _, _, _, rfl, rfl, rfl, rfl, rfl, rfl, rfl, rfl, rfl, rfl, rfl, rfl⟩
theorem try_env (w : World) (E : Nat → Addr) (f : FuncId) (caps : Array Value) (e : Env) (he : Errs w E) (hcf : ∀ w, (callFunc f caps).run pG w = .ok (.enter f caps) w)
  (hdo : ∀ w1, Below w.heap.size w w1 → Calls pG f caps w1 (EnvR (w1.heap.size + 1) e w1)) :
  Calls pG 42 #[.func (.func f) #[] caps] w fun en w' => ∃ cs, en = .returned (.tuple #[.agg cs, .nilIface]) ∧ EnvB (w.heap.size + 1) w' e cs ∧ Below w.heap.size w w' := by
 refine (tryEnv_any w E f caps [] (fun w1 v w2 => ∃ cs, v = .agg cs ∧ EnvB (w1.heap.size + 1) w2 e cs) (fun _ _ _ => False) (by simp) (fun w' h => he.below h.nil_below) ?_ hcf (fun w1 hb _ => (hdo w1 hb).mono ?_)).mono ?_
 ·rintro w1 v w2 ⟨cs, rfl, hc⟩
  obtain ⟨v0, v1, v2, v3, v4, v5, v6, v7, v8, v9, v10, rfl, h⟩ := envB_parts hc
  exact ⟨v0, v1, v2, v3, v4, v5, v6, v7, v8, v9, v10, rfl, h⟩
 ·rintro en w2 ⟨cs, rfl, hc, hb⟩
  exact ⟨.inl ⟨_, rfl, cs, rfl, hc⟩, But.of_below hb⟩
 ·rintro en w' ⟨h1, w1, w2, hs, hb1, hb2, hb3, hor⟩
  rcases hor with ⟨v, rfl, cs, rfl, hc⟩ | ⟨n, _, h, _⟩
  ·refine ⟨cs, rfl, ?_, h1.nil_below⟩
   have h := hc.keep (w' := w') hb3.size fun a u hp hlt hc => (World.cell?_of_block (hb3.block a.block hlt (by
    simp only [List.contains_eq_any_beq, List.any_cons, List.any_nil, Bool.or_false, Bool.or_eq_false_iff, beq_eq_false_iff_ne]
    omega))).trans hc
   obtain ⟨hh, b0, b1, bt, pa, na, ca, pk, nk, ck, h1, h2, h3⟩ := h
   exact ⟨hh, b0, b1, bt, pa, na, ca, pk, nk, ck, h1, h2, TrX.imp (fun b hb => ⟨by have := hb.1; omega, hb.2.1, hb.2.2⟩) _ _ h3⟩
  ·exact h.elim
theorem soread_any (E : Nat → Addr) (e : Env) (x : Tr) (w : World) (hg : LibG w) (hE : Errs w E) (hs : e.small) (ho : e.formed = some x) (hh : e.hds = []) (ht : textE x = 0) :
  Calls pG 21 #[S (bs x.wrt)] w fun en w' => ∃ cs, en = .returned (.tuple #[.agg cs, .nilIface]) ∧ EnvC w' e cs ∧ Below w.heap.size w w' := by
 obtain ⟨w2, hw2⟩ : ∃ w2, (w.alloc (F #[S (bs x.wrt)] 9)).alloc (F #[S ⟨#[]⟩, S ⟨#[]⟩, S ⟨#[]⟩, S ⟨#[]⟩, S ⟨#[]⟩, C none 0 0, S ⟨#[]⟩, S ⟨#[]⟩, C none 0 0, C none 0 0, S ⟨#[]⟩] 46) = w2 := ⟨_, rfl⟩
 have hb2 : Below w.heap.size w w2 := by rw [← hw2]; exact below_alloc (below_alloc1 w _) _
 have hn : Blk w2 w.heap.size 9 #[S (bs x.wrt)] := by rw [← hw2]; exact (Blk.new w _ _).alloc _
 have hm : Blk w2 (w.heap.size + 1) 46 #[S ⟨#[]⟩, S ⟨#[]⟩, S ⟨#[]⟩, S ⟨#[]⟩, S ⟨#[]⟩, C none 0 0, S ⟨#[]⟩, S ⟨#[]⟩, C none 0 0, C none 0 0, S ⟨#[]⟩] := by
  rw [← hw2]
  have := Blk.new (w.alloc (F #[S (bs x.wrt)] 9)) 46 #[S ⟨#[]⟩, S ⟨#[]⟩, S ⟨#[]⟩, S ⟨#[]⟩, S ⟨#[]⟩, C none 0 0, S ⟨#[]⟩, S ⟨#[]⟩, C none 0 0, C none 0 0, S ⟨#[]⟩]
  rwa [World.size_alloc] at this
 have hcf := fun xs w => (show (callFunc 43 xs).run pG w = .ok (.enter 43 xs) w from by kernel_rfl)
 have HT := hI (try_env w2 E 43 #[.pointer (some ⟨w.heap.size, 0, none⟩)] e (hE.below hb2) (hcf _) fun w3 hb3 => read1_any E e x w.heap.size w3 ((hg.below hb2).below hb3) ((hE.below hb2).below hb3) hs ho hh ht (hn.below hb3 hn.lt))
 have hmf := @run_makeFunc pG
 have HB2 := hI hb2
 have HM := hI hm
 have HW2 := hI hw2
 clear hb2 hn hm hcf hg hE hw2
 go_enter Tryz.func21, Tryz.ntmps21
 go_wp2_with fail
 rw [HW2.out]
 refine HT.out.mono ?_
 rintro en w3 ⟨cs, rfl, hc, hb3⟩
 have h11 : cs.size = 11 := by
  obtain ⟨_, b0, b1, bt, pa, na, ca, pk, nk, ck, rfl, _⟩ := hc
  rfl
 have hon : ∀ v ∈ cs.toList, v.oneCell' = true := by
  obtain ⟨_, b0, b1, bt, pa, na, ca, pk, nk, ck, rfl, _⟩ := hc
  simp [Value.oneCell']
 have HM3 := hI (HM.out.below hb3 HM.out.lt)
 have HB3 := hI (HB2.out.trans (hb3.mono HB2.out.size))
 have HC := hI hc
 clear hc hb3
 go_wp2_with (refine wpList_store (.tmp 2) (.tmp 6) 46 rfl rfl (w.heap.size + 1) 0 _ _ cs rfl rfl HM3.out (by rw [h11]; kernel_rfl) hon (by rw [h11]; simp) ?_)
 intro w8 hb8 ho8
 rw [putCells_all #[S ⟨#[]⟩, S ⟨#[]⟩, S ⟨#[]⟩, S ⟨#[]⟩, S ⟨#[]⟩, C none 0 0, S ⟨#[]⟩, S ⟨#[]⟩, C none 0 0, C none 0 0, S ⟨#[]⟩] cs (by rw [h11]; rfl)] at hb8
 have HBF := hI (HB3.out.trans (ho8.below (by omega : w.heap.size ≤ w.heap.size + 1)))
 have HCF := hI ((HC.out.only ho8 (by have := HM.out.lt; omega)).env)
 have hc2 := HC.out
 obtain ⟨_, b0, b1, bt, pa, na, ca, pk, nk, ck, rfl, _⟩ := hc2
 obtain ⟨u0, u1, u2, u3, u4, u5, u6, u7, u8, u9, u10⟩ := hb8.cc
 clear hb8 ho8 h11 hon
 go_wp2_with fail
 refine bodyPost_ret (v := .tuple #[.agg #[S (bs e.act), S (bs e.to), S (bs e.id), S (bs e.frm), S (bs e.rel), C none 0 0, S (bs b0), S (bs b1), C pa na ca, C pk nk ck, S (bs bt)], .nilIface]) (by simp [results, Tryz.results21, go_sem, u0, u1, u2, u3, u4, u5, u6, u7, u8, u9, u10]) rfl ?_
 exact ⟨_, rfl, HCF.out, HBF.out⟩
theorem sowrite_any (E : Nat → Addr) (e : Env) (cs : Array Value) (w : World) (hg : LibG w) (hE : Errs w E) (hs : e.small) (hc : EnvC w e cs) :
  Calls pG 19 #[.agg cs] w (Gives w (.tuple #[S (bs (if foN e.formed = 0 then foS e.formed else [])), errV E (foN e.formed)])) := by
 have hc' := hc
 obtain ⟨ph, ch, cssH, b0, b1, bt, pa, na, ca, pk, nk, ck, he, _⟩ := hc'
 subst he
 refine swrite_of E _ _ _ _ _ _ _ _ _ _ _ e.formed w hg hE hs.fits fun w1 hb => ?_
 exact hs.formed_any _ w1 (hg.below hb) (hE.below hb) (hc.below hb)
end
section
set_option maxHeartbeats 4000000
set_option maxRecDepth 20000
open Go.RowKit Go.Extern.Stop Go.Stop Go.Extern
attribute [local go_sem] bs_toList
theorem right0_any (E : Nat → Addr) (e : Env) (gb : Nat) (cs : Array Value) (w : World) (hg : LibG w) (hE : Errs w E) (hs : e.small) (ho : e.formed = none) (hc : EnvC w e cs) (hk : Blk w gb 46 cs) :
  Calls pG 41 #[.pointer (some ⟨gb, 0, none⟩)] w fun en w' => Below w.heap.size w w' ∧ en = .panicked (panE E 3) := by
 have hba := below_alloc1 w (F #[S ⟨#[]⟩, C none 0 0, C none 0 0, S ⟨#[]⟩] 96)
 have HF := hI (hs.formed_any (E := E) cs (w.alloc (F #[S ⟨#[]⟩, C none 0 0, C none 0 0, S ⟨#[]⟩] 96)) (hg.below hba) (hE.below hba) (hc.below hba))
 rw [ho] at HF
 obtain ⟨ph, ch, cssH, b0, b1, bt, pa, na, ca, pk, nk, ck, rfl, _⟩ := hc
 have hkk := hk.below hba hk.lt
 obtain ⟨z0, z1, z2, z3, z4, z5, z6, z7, z8, z9, z10⟩ := hkk.cc
 have HBA := hI hba
 clear hba hkk hk hg hE ho
 go_enter Tryz.func41, Tryz.ntmps41
 go_wp2_with fail
 refine HF.out.mono ?_
 rintro en w1 ⟨hb1, ⟨y, s0, p1, n1, c1, p2, n2, c2, s3, h, _⟩ | ⟨_, rfl⟩⟩
 ·cases h
 ·have HB1 := hI (HBA.out.trans (hb1.mono HBA.out.size))
  clear hb1 z0 z1 z2 z3 z4 z5 z6 z7 z8 z9 z10
  go_wp2_with fail
  exact ⟨rfl, HB1.out, rfl⟩
theorem try_wrong (w : World) (E : Nat → Addr) (f : FuncId) (caps : Array Value) (he : Errs w E) (hcf : ∀ w, (callFunc f caps).run pG w = .ok (.enter f caps) w)
  (hdo : ∀ w1, Below w.heap.size w w1 → Calls pG f caps w1 fun en w' => Below w1.heap.size w1 w' ∧ en = .panicked (panE E 3)) :
  Calls pG 40 #[.func (.func f) #[] caps] w (Gives w (.tuple #[.agg #[S ⟨#[]⟩, C none 0 0, C none 0 0, S ⟨#[]⟩], errAt (E 3)])) := by
 refine (tryX_any w E f caps [] (fun _ _ _ => False) (fun k _ _ => k = 3) (by simp) (fun w' h => he.below h.nil_below) (fun _ _ _ h => h.elim) hcf (fun w1 hb _ => (hdo w1 hb).mono ?_)).mono ?_
 ·rintro en w2 ⟨h1, rfl⟩
  exact PanR.may (R := fun _ _ => False) (Q := fun k => k = 3) ⟨h1, .inr ⟨3, by omega, rfl, rfl⟩⟩
 ·rintro en w' ⟨h1, w1, w2, hs, hb1, hb2, hb3, hor⟩
  rcases hor with ⟨_, _, h⟩ | ⟨n, _, rfl, rfl⟩
  ·exact h.elim
  ·exact ⟨rfl, h1.nil_below⟩
theorem sowrong_any (E : Nat → Addr) (e : Env) (cs : Array Value) (w : World) (hg : LibG w) (hE : Errs w E) (hs : e.small) (ho : e.formed = none) (hc : EnvC w e cs) :
  Calls pG 20 #[.agg cs] w (Gives w (.bool false)) := by
 have hba := below_alloc1 w (.cells cs 46)
 have hn := Blk.new w 46 cs
 have hcf := fun xs w => (show (callFunc 41 xs).run pG w = .ok (.enter 41 xs) w from by kernel_rfl)
 have HT0 := try_wrong (w.alloc (.cells cs 46)) E 41 #[.pointer (some ⟨w.heap.size, 0, none⟩)] (hE.below hba) (hcf _) fun w1 hb => right0_any E e w.heap.size cs w1 ((hg.below hba).below hb) ((hE.below hba).below hb) hs ho ((hc.below hba).below hb) (hn.below hb hn.lt)
 unfold errAt at HT0
 have HT := hI HT0
 have hmf := @run_makeFunc pG
 have HBA := hI hba
 obtain ⟨ph, ch, cssH, b0, b1, bt, pa, na, ca, pk, nk, ck, rfl, _⟩ := hc
 clear hba hn hcf hg hE ho HT0
 go_enter Tryz.func20, Tryz.ntmps20
 go_wp2_with (go_at_call 40; refine HT.out.mono ?_; rintro en w1 ⟨rfl, hb1⟩)
 go_ret
 exact ⟨rfl, (HBA.out.trans (hb1.mono HBA.out.size)).trans ((below_alloc1 w1 _).mono (by have := HBA.out.size; have := hb1.size; omega))⟩
def Env.eqb (a b : Env) : Bool := (a.act == b.act) && ((a.to == b.to) && ((a.id == b.id) && ((a.frm == b.frm) && ((a.rel == b.rel) && (Tr.eqbL a.hds b.hds && a.bdy.eqb b.bdy)))))
theorem Env.eqb_refl (a : Env) : a.eqb a = true := by simp [Env.eqb, Tr.eqb_refl, Tr.eqbL_refl]
theorem sosame_any (a b : Env) (ca cb : Array Value) (w : World) (ha : EnvC w a ca) (hb : EnvC w b cb) (oa : Tr.okL 2 a.hds ∧ a.bdy.ok 2) (ob : Tr.okL 2 b.hds ∧ b.bdy.ok 2) :
  Calls pG 13 #[.agg ca, .agg cb] w (Gives w (.bool (a.eqb b))) := by
 obtain ⟨act, tt, ii, frm, rel, hds, bdy⟩ := a
 obtain ⟨act', tt', ii', frm', rel', hds', bdy'⟩ := b
 obtain ⟨ph, ch, cssH, b0, b1, bt, pa, na, ca, pk, nk, ck, rfl, hbn, hch, hcm, hrd, hH, hB⟩ := ha
 obtain ⟨qh, dh, dssH, d0, d1, dt, qa, ma, da, qk, mk, dk, rfl, hbn', hdh, hdm, hrd', hH', hB'⟩ := hb
 simp only at hbn hch hrd hH hB hbn' hdh hrd' hH' hB' oa ob ⊢
 have HEF := hI (fun (w' : World) (hb : Below w.heap.size w w') => equalfunc_any ph qh ch dh hds hds' (fun _ => True) (fun _ => True) cssH dssH w' oa.1 ob.1 hch hcm (hrd.keep (Below.keeps hb)) hdh hdm (hrd'.keep (Below.keeps hb)) (TrXL.plain _ _ (hH.below hb)) (TrXL.plain _ _ (hH'.below hb))
  (fun i hi hi' w2 cx cy h1 h2 => same_any _ hds[i] hds'[i] _ _ cx cy w2 (nR _) (okL_get 2 hds oa.1 i hi) (okL_get 2 hds' ob.1 i hi') h1 h2))
 have HSB := hI (fun (w' : World) (hb : Below w.heap.size w w') => (same_any _ bdy bdy' (fun _ => True) (fun _ => True) [S (bs b0), S (bs b1), C pa na ca, C pk nk ck, S (bs bt)] [S (bs d0), S (bs d1), C qa ma da, C qk mk dk, S (bs dt)] w' (nR _) oa.2 ob.2 (TrX.plain _ _ (hB.below hb)) (TrX.plain _ _ (hB'.below hb)) :
  Calls pG 22 #[.agg #[S (bs b0), S (bs b1), C pa na ca, C pk nk ck, S (bs bt)], .agg #[S (bs d0), S (bs d1), C qa ma da, C qk mk dk, S (bs dt)]] w' (Gives w' (.bool (bdy.eqb bdy')))))
 clear hbn hch hcm hrd hH hB hbn' hdh hdm hrd' hH' hB' oa ob
 generalize hds.length = nh at *
 generalize hds'.length = mh at *
 have HB := hI (below_alloc (below_alloc1 w (F #[S (bs act), S (bs tt), S (bs ii), S (bs frm), S (bs rel), C ph nh ch, S (bs b0), S (bs b1), C pa na ca, C pk nk ck, S (bs bt)] 46)) (F #[S (bs act'), S (bs tt'), S (bs ii'), S (bs frm'), S (bs rel'), C qh mh dh, S (bs d0), S (bs d1), C qa ma da, C qk mk dk, S (bs dt)] 46))
 have hN := (Blk.new w 46 #[S (bs act), S (bs tt), S (bs ii), S (bs frm), S (bs rel), C ph nh ch, S (bs b0), S (bs b1), C pa na ca, C pk nk ck, S (bs bt)]).alloc (F #[S (bs act'), S (bs tt'), S (bs ii'), S (bs frm'), S (bs rel'), C qh mh dh, S (bs d0), S (bs d1), C qa ma da, C qk mk dk, S (bs dt)] 46)
 have hM := Blk.new (w.alloc (F #[S (bs act), S (bs tt), S (bs ii), S (bs frm), S (bs rel), C ph nh ch, S (bs b0), S (bs b1), C pa na ca, C pk nk ck, S (bs bt)] 46)) 46 #[S (bs act'), S (bs tt'), S (bs ii'), S (bs frm'), S (bs rel'), C qh mh dh, S (bs d0), S (bs d1), C qa ma da, C qk mk dk, S (bs dt)]
 rw [World.size_alloc] at hM
 have HN := hI hN
 have HM := hI hM
 obtain ⟨z0, z1, z2, z3, z4, z5, -⟩ := hN.cc; obtain ⟨y0, y1, y2, y3, y4, y5, -⟩ := hM.cc
 clear hN hM
 cases h0 : (act == act')
 ·have HR := hI (show Env.eqb ⟨act, tt, ii, frm, rel, hds, bdy⟩ ⟨act', tt', ii', frm', rel', hds', bdy'⟩ = false by unfold Env.eqb; rw [h0]; rfl)
  go_enter Tryz.func13, Tryz.ntmps13
  go_wp2_with fail
  go_ret
  exact ⟨by rw [HR.out]; rfl, HB.out⟩
 cases h1 : (tt == tt')
 ·have HR := hI (show Env.eqb ⟨act, tt, ii, frm, rel, hds, bdy⟩ ⟨act', tt', ii', frm', rel', hds', bdy'⟩ = false by unfold Env.eqb; rw [h0, h1]; rfl)
  go_enter Tryz.func13, Tryz.ntmps13
  go_wp2_with fail
  go_ret
  exact ⟨by rw [HR.out]; rfl, HB.out⟩
 cases h2 : (ii == ii')
 ·have HR := hI (show Env.eqb ⟨act, tt, ii, frm, rel, hds, bdy⟩ ⟨act', tt', ii', frm', rel', hds', bdy'⟩ = false by unfold Env.eqb; rw [h0, h1, h2]; rfl)
  go_enter Tryz.func13, Tryz.ntmps13
  go_wp2_with fail
  go_ret
  exact ⟨by rw [HR.out]; rfl, HB.out⟩
 cases h3 : (frm == frm')
 ·have HR := hI (show Env.eqb ⟨act, tt, ii, frm, rel, hds, bdy⟩ ⟨act', tt', ii', frm', rel', hds', bdy'⟩ = false by unfold Env.eqb; rw [h0, h1, h2, h3]; rfl)
  go_enter Tryz.func13, Tryz.ntmps13
  go_wp2_with fail
  go_ret
  exact ⟨by rw [HR.out]; rfl, HB.out⟩
 cases h4 : (rel == rel')
 ·have HR := hI (show Env.eqb ⟨act, tt, ii, frm, rel, hds, bdy⟩ ⟨act', tt', ii', frm', rel', hds', bdy'⟩ = false by unfold Env.eqb; rw [h0, h1, h2, h3, h4]; rfl)
  go_enter Tryz.func13, Tryz.ntmps13
  go_wp2_with fail
  go_ret
  exact ⟨by rw [HR.out]; rfl, HB.out⟩
 have HR := hI (show Env.eqb ⟨act, tt, ii, frm, rel, hds, bdy⟩ ⟨act', tt', ii', frm', rel', hds', bdy'⟩ = (Tr.eqbL hds hds' && bdy.eqb bdy') by unfold Env.eqb; rw [h0, h1, h2, h3, h4]; rfl)
 go_enter Tryz.func13, Tryz.ntmps13
 go_wp2_with fail
 refine (HEF.out _ HB.out).mono ?_
 rintro e w1 ⟨rfl, hb1⟩
 have hN1 := HN.out.below hb1 HN.out.lt
 have hM1 := HM.out.below hb1 HM.out.lt
 have HB1 := hI (HB.out.trans (hb1.mono HB.out.size))
 clear z0 z1 z2 z3 z4 z5 y0 y1 y2 y3 y4 y5 hb1 h0 h1 h2 h3 h4
 cases hA : Tr.eqbL hds hds'
 ·go_wp2_with fail
  go_ret
  exact ⟨by rw [HR.out, hA]; rfl, HB1.out⟩
 obtain ⟨-, -, -, -, -, -, z6, z7, z8, z9, z10⟩ := hN1.cc; obtain ⟨-, -, -, -, -, -, y6, y7, y8, y9, y10⟩ := hM1.cc
 have HA := hI hA
 clear hA hN1 hM1
 go_wp2_with fail
 refine (HSB.out _ HB1.out).mono ?_
 rintro e w2 ⟨rfl, hb2⟩
 have HB2 := hI (HB1.out.trans (hb2.mono HB1.out.size))
 clear z6 z7 z8 z9 z10 y6 y7 y8 y9 y10 hb2
 go_wp2_with fail
 go_ret
 exact ⟨by rw [HR.out, HA.out]; rfl, HB2.out⟩
def bodyV : Value := .agg #[S ⟨#[117]⟩, S ⟨#[98]⟩, C none 0 0, C none 0 0, S ⟨#[]⟩]
theorem body_any (w : World) : Calls pG 17 #[] w (Gives w bodyV) := by
 unfold bodyV
 go_enter Tryz.func17, Tryz.ntmps17
 go_wp2_with fail
 have n := Blk.new w 44 #[S ⟨#[117]⟩, S ⟨#[98]⟩, C none 0 0, C none 0 0, S ⟨#[]⟩]
 obtain ⟨z0, z1, z2, z3, z4, -⟩ := n.cc
 refine bodyPost_ret (v := .agg #[S ⟨#[117]⟩, S ⟨#[98]⟩, C none 0 0, C none 0 0, S ⟨#[]⟩]) (by simp [results, Tryz.results17, go_sem, z0, z1, z2, z3, z4]) rfl ?_
 exact ⟨rfl, below_alloc1 w _⟩
theorem body_trx (w : World) (P : Nat → Prop) : TrX w P bodyT [S ⟨#[117]⟩, S ⟨#[98]⟩, C none 0 0, C none 0 0, S ⟨#[]⟩] :=
 ⟨none, 0, none, 0, [], rfl, ⟨by simp, by decide, .inl rfl, fun h => absurd rfl h⟩, ⟨by simp, by decide, .inl rfl, fun a h => by cases h⟩, rfl⟩
theorem rep_envC (w : World) (a b c d f : List UInt8) : EnvC w ⟨a, b, c, d, f, [], bodyT⟩ #[S (bs a), S (bs b), S (bs c), S (bs d), S (bs f), C none 0 0, S ⟨#[117]⟩, S ⟨#[98]⟩, C none 0 0, C none 0 0, S ⟨#[]⟩] :=
 ⟨none, 0, [], [117], [98], [], none, 0, 0, none, 0, 0, rfl, rfl, nR _, by decide, .inl rfl, rfl, body_trx _ _⟩
theorem reply_any (act id a0 tt ii frm rel b0 b1 bt : List UInt8) (ph pa pk : Option Addr) (nh ch na ca nk ck : Nat) (w : World) :
  Calls pG 16 #[.agg #[S (bs a0), S (bs tt), S (bs ii), S (bs frm), S (bs rel), C ph nh ch, S (bs b0), S (bs b1), C pa na ca, C pk nk ck, S (bs bt)], S (bs act), S (bs id), bodyV] w (Gives w (.agg #[S (bs act), S (bs frm), S (bs id), S (bs tt), S (bs ii), C none 0 0, S ⟨#[117]⟩, S ⟨#[98]⟩, C none 0 0, C none 0 0, S ⟨#[]⟩])) := by
 unfold bodyV
 go_enter Tryz.func16, Tryz.ntmps16
 go_wp2_with fail
 have n := Blk.new ((w.alloc (F #[S (bs a0), S (bs tt), S (bs ii), S (bs frm), S (bs rel), C ph nh ch, S (bs b0), S (bs b1), C pa na ca, C pk nk ck, S (bs bt)] 46)).alloc (F #[S ⟨#[117]⟩, S ⟨#[98]⟩, C none 0 0, C none 0 0, S ⟨#[]⟩] 44)) 46 #[S (bs act), S (bs frm), S (bs id), S (bs tt), S (bs ii), C none 0 0, S ⟨#[117]⟩, S ⟨#[98]⟩, C none 0 0, C none 0 0, S ⟨#[]⟩]
 rw [World.size_alloc, World.size_alloc] at n
 obtain ⟨z0, z1, z2, z3, z4, z5, z6, z7, z8, z9, z10⟩ := n.cc
 refine bodyPost_ret (v := .agg #[S (bs act), S (bs frm), S (bs id), S (bs tt), S (bs ii), C none 0 0, S ⟨#[117]⟩, S ⟨#[98]⟩, C none 0 0, C none 0 0, S ⟨#[]⟩]) (by simp [results, Tryz.results16, go_sem, z0, z1, z2, z3, z4, z5, z6, z7, z8, z9, z10]) rfl ?_
 exact ⟨rfl, below_alloc (below_alloc (below_alloc1 w _) _) _⟩
theorem rep_write (E : Nat → Addr) (e : Env) (x : Tr) (cs : Array Value) (w : World) (hr : e.rep) (ho : e.formed = some x) (hg : LibG w) (hE : Errs w E) (hc : EnvC w e cs) :
  Calls pG 19 #[.agg cs] w (Gives w (.tuple #[S (bs x.wrt), .nilIface])) := by
 have h := sowrite_any E e cs w hg hE hr.small hc
 have ht := rep_textE hr ho
 rw [ho, show foN (some x) = textE x from rfl, ht, if_pos rfl, show foS (some x) = textS x from rfl] at h
 unfold textS at h
 rw [if_pos ht] at h
 exact h
theorem rep_unwritten (E : Nat → Addr) (e : Env) (cs : Array Value) (w : World) (hr : e.rep) (ho : e.formed = none) (hg : LibG w) (hE : Errs w E) (hc : EnvC w e cs) :
  Calls pG 19 #[.agg cs] w (Gives w (.tuple #[S ⟨#[]⟩, errAt (E 3)])) := by
 have h := sowrite_any E e cs w hg hE hr.small hc
 rw [ho] at h
 exact h
theorem rep_read (E : Nat → Addr) (e : Env) (x : Tr) (w : World) (hr : e.rep) (ho : e.formed = some x) (hg : LibG w) (hE : Errs w E) :
  Calls pG 21 #[S (bs x.wrt)] w fun en w' => ∃ (b0 b1 bt : List UInt8) (pa : Option Addr) (na ca : Nat) (pk : Option Addr) (nk ck : Nat) (ph : Option Addr) (ch : Nat),
   en = .returned (.tuple #[.agg #[S (bs e.act), S (bs e.to), S (bs e.id), S (bs e.frm), S (bs e.rel), C ph 0 ch, S (bs b0), S (bs b1), C pa na ca, C pk nk ck, S (bs bt)], .nilIface]) ∧
   EnvC w' e #[S (bs e.act), S (bs e.to), S (bs e.id), S (bs e.frm), S (bs e.rel), C ph 0 ch, S (bs b0), S (bs b1), C pa na ca, C pk nk ck, S (bs bt)] ∧
   TrX w' (fun b => b < w'.heap.size) bodyT [S (bs b0), S (bs b1), C pa na ca, C pk nk ck, S (bs bt)] ∧ Below w.heap.size w w' := by
 refine (soread_any E e x w hg hE hr.small ho hr.hds (rep_textE hr ho)).mono ?_
 rintro en w' ⟨cs, rfl, hc, hb⟩
 have hc' := hc
 obtain ⟨ph, ch, cssH, b0, b1, bt, pa, na, ca, pk, nk, ck, he, _, _, _, _, _, hB⟩ := hc'
 rw [hr.hds, lP] at he
 rw [hr.bdy] at hB
 subst he
 exact ⟨b0, b1, bt, pa, na, ca, pk, nk, ck, ph, ch, rfl, hc, hB, hb⟩
end
end Go.Proofs.YthboiahdheehkaaGreatDoor
