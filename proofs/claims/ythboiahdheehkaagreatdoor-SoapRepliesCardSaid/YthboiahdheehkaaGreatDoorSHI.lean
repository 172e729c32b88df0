/- SoapH -/
import Derived.Test.YthboiahdheehkaaGreatDoorSC
import Derived.Test.YthboiahdheehkaaGreatDoorBA
open List renaming setIfInBounds_toArray → lA, set_cons_succ → lB, set_cons_zero → lC, cons_append → lD, nil_append → lE, not_mem_nil → lG, mem_cons → lI
open Go.Lib renaming hid → hI
open Exists renaming intro → xI
open Nat renaming le_refl → nR
open Go.Proofs.Tryz renaming prog → pG
open Go.Value renaming string → V
open Go.Value renaming slice → C
open Go.Value renaming pointer → A
open Go.Value renaming agg → D
open Go.Ending renaming returned → EE
open Go.Obj renaming cells → F
namespace Go.Proofs.YthboiahdheehkaaGreatDoor
section
set_option maxHeartbeats 8000000
set_option maxRecDepth 20000
open Go.RowKit Go.Extern.Stop Go.Stop Go.Extern
attribute [local go_sem] bs_toList
theorem right1_any (E : Nat → Addr) (e : Env) (x : Tr) (gb : Nat) (cs : Array Value) (w : World) (hg : LibG w) (hE : Errs w E) (hs : e.small) (ho : e.formed = some x) (hc : EnvC w e cs) (hk : Blk w gb 46 cs) :
  Calls pG 41 #[A (some ⟨gb, 0, none⟩)] w fun en w' => Below w.heap.size w w' ∧ ∃ s0 p1 n1 c1 p2 n2 c2 s3, en = EE (D #[.string s0, C p1 n1 c1, C p2 n2 c2, .string s3]) := by
 have hba := below_alloc1 w (F #[V ⟨#[]⟩, C none 0 0, C none 0 0, V ⟨#[]⟩] 96)
 have HF := hI (hs.formed_any (E := E) cs (w.alloc (F #[V ⟨#[]⟩, C none 0 0, C none 0 0, V ⟨#[]⟩] 96)) (hg.below hba) (hE.below hba) (hc.below hba))
 rw [ho] at HF
 obtain ⟨ph, ch, cssH, b0, b1, bt, pa, na, ca, pk, nk, ck, rfl, _⟩ := hc
 have hkk := hk.below hba hk.lt
 obtain ⟨z0, z1, z2, z3, z4, z5, z6, z7, z8, z9, z10⟩ := hkk.cc
 have HN := hI (Blk.new w 96 #[V ⟨#[]⟩, C none 0 0, C none 0 0, V ⟨#[]⟩])
 have HBA := hI hba
 clear hba hkk hk hg hE ho
 go_enter Tryz.func41, Tryz.ntmps41
 go_wp2_with fail
 refine HF.out.mono ?_
 rintro en w1 ⟨hb1, ⟨y, s0, p1, n1, c1, p2, n2, c2, s3, _, rfl, _⟩ | ⟨h, _⟩⟩
 ·have hn := HN.out.below hb1 HN.out.lt
  have HN1 := hI hn
  have HB1 := hI (HBA.out.trans (hb1.mono HBA.out.size))
  clear hb1 hn z0 z1 z2 z3 z4 z5 z6 z7 z8 z9 z10
  go_wp2_with (refine wpList_store (.tmp 1) (.tmp 3) 96 rfl rfl w.heap.size 0 _ _ #[.string s0, C p1 n1 c1, C p2 n2 c2, .string s3] rfl rfl HN1.out (by kernel_rfl) (by simp [Value.oneCell']) (by simp) ?_)
  intro w8 hb8 ho8
  rw [putCells_all #[V ⟨#[]⟩, C none 0 0, C none 0 0, V ⟨#[]⟩] #[.string s0, C p1 n1 c1, C p2 n2 c2, .string s3] rfl] at hb8
  obtain ⟨z0, z1, z2, z3, -⟩ := hb8.cc
  have HBF := hI (HB1.out.trans (ho8.below (nR _)))
  clear hb8 ho8
  go_wp2_with fail
  refine bodyPost_ret (v := D #[.string s0, C p1 n1 c1, C p2 n2 c2, .string s3]) (by simp [results, Tryz.results41, go_sem, z0, z1, z2, z3]) rfl ?_
  exact ⟨HBF.out, _, _, _, _, _, _, _, _, rfl⟩
 ·cases h
theorem try_right (w : World) (E : Nat → Addr) (f : FuncId) (caps : Array Value) (he : Errs w E) (hcf : ∀ w, (callFunc f caps).run pG w = .ok (.enter f caps) w)
  (hdo : ∀ w1, Below w.heap.size w w1 → Calls pG f caps w1 fun en w' => Below w1.heap.size w1 w' ∧ ∃ s0 p1 n1 c1 p2 n2 c2 s3, en = EE (D #[.string s0, C p1 n1 c1, C p2 n2 c2, .string s3])) :
  Calls pG 40 #[.func (.func f) #[] caps] w fun en w' => Below w.heap.size w w' ∧ ∃ s0 p1 n1 c1 p2 n2 c2 s3, en = EE (.tuple #[D #[.string s0, C p1 n1 c1, C p2 n2 c2, .string s3], .nilIface]) := by
 refine (tryX_any w E f caps [] (fun _ v _ => ∃ s0 p1 n1 c1 p2 n2 c2 s3, v = D #[.string s0, C p1 n1 c1, C p2 n2 c2, .string s3]) (fun _ _ _ => False) (by simp) (fun w' h => he.below h.nil_below) ?_ hcf (fun w1 hb _ => (hdo w1 hb).mono ?_)).mono ?_
 ·rintro w1 v w2 ⟨s0, p1, n1, c1, p2, n2, c2, s3, rfl⟩
  exact ⟨_, _, _, _, rfl, rfl, rfl, rfl, rfl⟩
 ·rintro en w2 ⟨h1, s0, p1, n1, c1, p2, n2, c2, s3, rfl⟩
  exact ⟨.inl ⟨_, rfl, s0, p1, n1, c1, p2, n2, c2, s3, rfl⟩, But.of_below h1⟩
 ·rintro en w' ⟨h1, w1, w2, hs, hb1, hb2, hb3, hor⟩
  refine ⟨h1.nil_below, ?_⟩
  rcases hor with ⟨v, rfl, s0, p1, n1, c1, p2, n2, c2, s3, rfl⟩ | ⟨n, _, h, _⟩
  ·exact ⟨s0, p1, n1, c1, p2, n2, c2, s3, rfl⟩
  ·exact h.elim
theorem soright_any (E : Nat → Addr) (e : Env) (x : Tr) (cs : Array Value) (w : World) (hg : LibG w) (hE : Errs w E) (hs : e.small) (ho : e.formed = some x) (hc : EnvC w e cs) :
  Calls pG 20 #[.agg cs] w (Gives w (.bool true)) := by
 have hba := below_alloc1 w (.cells cs 46)
 have hn := Blk.new w 46 cs
 have hcf := fun xs w => (show (callFunc 41 xs).run pG w = .ok (.enter 41 xs) w from by kernel_rfl)
 have HT := hI (try_right (w.alloc (.cells cs 46)) E 41 #[A (some ⟨w.heap.size, 0, none⟩)] (hE.below hba) (hcf _) fun w1 hb => right1_any E e x w.heap.size cs w1 ((hg.below hba).below hb) ((hE.below hba).below hb) hs ho ((hc.below hba).below hb) (hn.below hb hn.lt))
 have hmf := @run_makeFunc pG
 have HBA := hI hba
 obtain ⟨ph, ch, cssH, b0, b1, bt, pa, na, ca, pk, nk, ck, rfl, _⟩ := hc
 clear hba hn hcf hg hE ho
 go_enter Tryz.func20, Tryz.ntmps20
 go_wp2_with (go_at_call 40; refine HT.out.mono ?_; rintro en w1 ⟨hb1, s0, p1, n1, c1, p2, n2, c2, s3, rfl⟩)
 go_ret
 exact ⟨rfl, (HBA.out.trans (hb1.mono HBA.out.size)).trans ((below_alloc1 w1 _).mono (by have := HBA.out.size; have := hb1.size; omega))⟩
def hnm (j : Nat) : List UInt8 := if j = 0 then cAction else if j = 1 then cTo else if j = 2 then cMessageID else cRelatesTo
def hT (p : Nat × List UInt8) : Tr := if p.1 = 3 then fromT p.2 else simpT addrL (hnm p.1) p.2
def Env.hl (e : Env) : List (Nat × List UInt8) := (0, e.act) :: (1, e.to) :: (2, e.id) :: ((if e.frm = [] then [] else [(3, e.frm)]) ++ (if e.rel = [] then [] else [(4, e.rel)]))
def fv (l : List (Nat × List UInt8)) (j : Nat) : List UInt8 := (l.lookup j).getD []
theorem hl_map {e : Env} (h : e.hds = []) : e.hl.map hT = e.hdrs := by
 unfold Env.hl Env.hdrs
 rw [h]
 split <;> split <;> rfl
theorem hl_keys (e : Env) : e.hl.Pairwise fun a b => a.1 ≠ b.1 := by
 unfold Env.hl
 split <;> split <;> simp
theorem hl_ok {e : Env} (h0 : e.act ≠ []) (h1 : e.to ≠ []) (h2 : e.id ≠ []) : ∀ p ∈ e.hl, p.1 < 5 ∧ p.2 ≠ [] := by
 unfold Env.hl
 split <;> split <;> simp_all
theorem hl_len (e : Env) : e.hl.length ≤ 5 := by
 unfold Env.hl
 split <;> split <;> simp
theorem hl_fv (e : Env) : fv e.hl 0 = e.act ∧ fv e.hl 1 = e.to ∧ fv e.hl 2 = e.id ∧ fv e.hl 3 = e.frm ∧ fv e.hl 4 = e.rel := by
 unfold Env.hl fv
 split <;> split <;> simp_all [List.lookup]
theorem lookup_none {l : List (Nat × List UInt8)} {j : Nat} (h : ∀ p ∈ l, p.1 ≠ j) : l.lookup j = none := by
 induction l with
 | nil => rfl
 | cons p l ih =>
  obtain ⟨i, s⟩ := p
  have h1 : (j == i) = false := by
   have := h (i, s) (by simp)
   simp only [ne_eq] at this
   exact beq_eq_false_iff_ne.2 fun e => this e.symm
  rw [List.lookup_cons, h1]
  exact ih fun p hp => h p (by simp [hp])
theorem lookup_snoc (l : List (Nat × List UInt8)) (j i : Nat) (s : List UInt8) : (l ++ [(j, s)]).lookup i = (l.lookup i).or (if i = j then some s else none) := by
 induction l with
 | nil =>
  rw [lE, List.lookup_cons, List.lookup_nil]
  by_cases h : i = j
  ·subst h; simp
  ·rw [beq_eq_false_iff_ne.2 h, if_neg h]; rfl
 | cons p l ih =>
  obtain ⟨a, t⟩ := p
  rw [lD, List.lookup_cons, List.lookup_cons]
  cases h : (i == a)
  ·exact ih
  ·rfl
theorem fv_snoc {l : List (Nat × List UInt8)} {j : Nat} {s : List UInt8} (h : ∀ p ∈ l, p.1 ≠ j) (i : Nat) : fv (l ++ [(j, s)]) i = if i = j then s else fv l i := by
 unfold fv
 rw [lookup_snoc]
 by_cases hij : i = j
 ·subst hij
  rw [lookup_none h, if_pos rfl, if_pos rfl]
  rfl
 ·rw [if_neg hij, if_neg hij]
  cases l.lookup i <;> rfl
theorem fv_none {l : List (Nat × List UInt8)} {j : Nat} (h : ∀ p ∈ l, p.1 ≠ j) : fv l j = [] := by
 unfold fv
 rw [lookup_none h]
 rfl
def evA (l : List (Nat × List UInt8)) : Array Value := #[V (bs (fv l 0)), V (bs (fv l 1)), V (bs (fv l 2)), V (bs (fv l 3)), V (bs (fv l 4)), C none 0 0, V (bs []), V (bs []), C none 0 0, C none 0 0, V (bs [])]
theorem evA_set {l : List (Nat × List UInt8)} {j : Nat} {s : List UInt8} (h : ∀ p ∈ l, p.1 ≠ j) (hj : j < 5) : (evA l).setIfInBounds j (V (bs s)) = evA (l ++ [(j, s)]) := by
 unfold evA
 simp only [fv_snoc h]
 match j, hj with
 | 0, _ => rfl
 | 1, _ => rfl
 | 2, _ => rfl
 | 3, _ => rfl
 | 4, _ => rfl
theorem evA_get {l : List (Nat × List UInt8)} {j : Nat} (h : ∀ p ∈ l, p.1 ≠ j) (hj : j < 5) : (evA l)[j]? = some (V (bs [])) := by
 have := fv_none h
 unfold evA
 match j, hj with
 | 0, _ => simp [this]
 | 1, _ => simp [this]
 | 2, _ => simp [this]
 | 3, _ => simp [this]
 | 4, _ => simp [this]
theorem header_any (g j : Nat) (s : List UInt8) (hj : j < 5) (hs : s ≠ []) (htx : s.length ≤ 9223372036854775807) (P : Nat → Prop) (cs : List Value) (ev : Array Value) (w : World) (hT' : TrC w P (hT (j, s)) cs) (hb : Blk w g 46 ev) (he : ev[j]? = some (V (bs []))) :
  Calls pG 81 #[A (some ⟨g, 0, none⟩), .agg cs.toArray] w fun e w' => ∃ wm, Below w.heap.size w wm ∧ e = EE (.bool false) ∧ w' = wm.setCell ⟨g, j, none⟩ (V (bs s)) := by
 obtain ⟨c, l, rfl⟩ := List.exists_cons_of_ne_nil hs
 have h5 : j = 0 ∨ j = 1 ∨ j = 2 ∨ j = 3 ∨ j = 4 := by omega
 rcases h5 with rfl | rfl | rfl | rfl | rfl
 ·exact header_0 g c l htx P cs ev w (show TrC w P (simpT addrL cAction (c :: l)) cs from hT') hb he
 ·exact header_1 g c l htx P cs ev w (show TrC w P (simpT addrL cTo (c :: l)) cs from hT') hb he
 ·exact header_2 g c l htx P cs ev w (show TrC w P (simpT addrL cMessageID (c :: l)) cs from hT') hb he
 ·exact header_3 g c l htx P cs ev w (show TrC w P (fromT (c :: l)) cs from hT') hb he
 ·exact header_4 g c l htx P cs ev w (show TrC w P (simpT addrL cRelatesTo (c :: l)) cs from hT') hb he
mutual
theorem trc_trx {w : World} {P : Nat → Prop} : ∀ (x : Tr) (cs : List Value), TrC w P x cs → TrX w P x cs
 | .node nm ats ks t, cs, h => by
  unfold TrC at h
  unfold TrX
  obtain ⟨pa, ca, pk, ck, css, h0, ⟨a1, a2, a3, a4⟩, hk, hl⟩ := h
  exact ⟨pa, ca, pk, ck, css, h0, ⟨a1, a2, a3, fun _ => a4⟩, hk, trl_trx ks css hl⟩
theorem trl_trx {w : World} {P : Nat → Prop} : ∀ (xs : List Tr) (css : List (List Value)), TrL w P xs css → TrXL w P xs css
 | [], css, h => by
  unfold TrL at h
  unfold TrXL
  exact h
 | x :: xs, css, h => by
  unfold TrL at h
  unfold TrXL
  obtain ⟨c, cs, h0, h1, h2⟩ := h
  exact ⟨c, cs, h0, trc_trx x c h1, trl_trx xs cs h2⟩
end
end
section
set_option maxHeartbeats 8000000
set_option maxRecDepth 20000
open Go.RowKit Go.Extern.Stop Go.Stop Go.Extern
attribute [local go_sem] bs_toList
attribute [local irreducible] wpPhi
def EnvB (B : Nat) (w : World) (e : Env) (cs : Array Value) : Prop :=
 e.hds = [] ∧ ∃ (b0 b1 bt : List UInt8) (pa : Option Addr) (na ca : Nat) (pk : Option Addr) (nk ck : Nat),
  cs = #[V (bs e.act), V (bs e.to), V (bs e.id), V (bs e.frm), V (bs e.rel), C none 0 0, V (bs b0), V (bs b1), C pa na ca, C pk nk ck, V (bs bt)] ∧
  e.bdy.nm = [b0, b1] ∧ TrX w (Bt B w.heap.size none) e.bdy [V (bs b0), V (bs b1), C pa na ca, C pk nk ck, V (bs bt)]
theorem EnvB.env {B : Nat} {w : World} {e : Env} {cs : Array Value} (h : EnvB B w e cs) : EnvC w e cs := by
 obtain ⟨hh, b0, b1, bt, pa, na, ca, pk, nk, ck, h1, h2, h3⟩ := h
 refine ⟨none, 0, [], b0, b1, bt, pa, na, ca, pk, nk, ck, by rw [hh]; exact h1, h2, by rw [hh]; exact nR _, by decide, .inl rfl, by rw [hh]; rfl, ?_⟩
 exact TrX.imp (fun b hb => hb.2.1) _ _ h3
theorem EnvB.keep {B : Nat} {w w' : World} {e : Env} {cs : Array Value} (h : EnvB B w e cs) (hs : w.heap.size ≤ w'.heap.size) (hk : ∀ a v, B ≤ a.block → a.block < w.heap.size → w.cell? a = some v → w'.cell? a = some v) : EnvB B w' e cs := by
 obtain ⟨hh, b0, b1, bt, pa, na, ca, pk, nk, ck, h1, h2, h3⟩ := h
 refine ⟨hh, b0, b1, bt, pa, na, ca, pk, nk, ck, h1, h2, TrX.imp (fun b hb => ?_) _ _ (TrX.keepP (fun a v hp hc => hk a v hp.1 hp.2.1 hc) _ _ h3)⟩
 exact ⟨hb.1, by have := hb.2.1; omega, by simp⟩
theorem EnvB.only {B g : Nat} {w w' : World} {e : Env} {cs : Array Value} (h : EnvB B w e cs) (k : Only g w w') (hg : g < B) : EnvB B w' e cs :=
 h.keep (by rw [k.size]; exact nR _) fun a v hB _ hc => (World.cell?_of_block (k.block a.block (by omega))).trans hc
def EnvR (B : Nat) (e : Env) (w : World) (en : Ending) (w' : World) : Prop := ∃ cs, en = EE (.agg cs) ∧ EnvB B w' e cs ∧ Below w.heap.size w w'
theorem top_cells {w : World} {P : Nat → Prop} {e : Env} {cs : List Value} (h : TrC w P e.tree cs) : ∃ pa ca pk ck css, cs = [V (bs soapL), V (bs cEnvelope), C pa 0 ca, C pk 2 ck, V (bs [])] ∧ Rd w pk css.flatten ∧
  TrL w P [.node [soapL, cHeader] [] e.hdrs [], .node [soapL, cBody] [] [e.bdy] []] css := by
 unfold Env.tree TrC at h
 obtain ⟨pa, ca, pk, ck, css, rfl, _, ⟨_, _, K3, _⟩, hL⟩ := h
 exact ⟨pa, ca, pk, ck, css, rfl, K3, hL⟩
theorem part_cells {w : World} {P : Nat → Prop} {nm : List (List UInt8)} {ks : List Tr} {cs : List Value} (h : TrC w P (.node nm [] ks []) cs) : ∃ pa ca pk ck css, cs = strs nm ++ [C pa 0 ca, C pk ks.length ck, V (bs [])] ∧ Rd w pk css.flatten ∧ TrL w P ks css := by
 unfold TrC at h
 obtain ⟨pa, ca, pk, ck, css, rfl, _, ⟨_, _, K3, _⟩, hL⟩ := h
 exact ⟨pa, ca, pk, ck, css, rfl, K3, hL⟩
theorem hdrs_ok {e : Env} (h : e.hds = []) : Tr.okL 2 e.hdrs := by
 rw [← hl_map h]
 have : ∀ l : List (Nat × List UInt8), Tr.okL 2 (l.map hT) := by
  intro l
  induction l with
  | nil => trivial
  | cons p l ih =>
   refine ⟨?_, ih⟩
   unfold hT
   split
   ·exact ⟨rfl, by simp, simp_ok _ _, trivial⟩
   ·exact simp_ok _ _
 exact this _
theorem hdrs_nm {e : Env} (h : e.hds = []) : ∀ x ∈ e.hdrs, x.nm.getD 1 [] ≠ [] := by
 rw [← hl_map h]
 intro x hx
 obtain ⟨p, _, rfl⟩ := List.mem_map.1 hx
 unfold hT
 split
 ·exact (by decide : cFrom ≠ [])
 ·show hnm p.1 ≠ []
  unfold hnm
  split
  ·decide
  ·split
   ·decide
   ·split <;> decide
theorem read_any (E : Nat → Addr) (B : Nat) (e : Env) (x : Tr) (P : Nat → Prop) (cs : List Value) (w : World) (hg : LibG w) (hE : Errs w E) (hs : e.small) (ho : e.formed = some x) (hh : e.hds = []) (hP : ∀ b, P b → B ≤ b ∧ b < w.heap.size) (hT0 : TrC w P e.tree cs) :
  Calls pG 44 #[.agg cs.toArray] w (EnvR B e w) := by
 have hfine : e.fine = true := by
  unfold Env.formed at ho
  split at ho
  ·assumption
  ·cases ho
 have hf0 : e.act ≠ [] ∧ e.to ≠ [] ∧ e.id ≠ [] ∧ e.bdy.nm.getD 1 [] ≠ [] := by
  unfold Env.fine at hfine
  simp only [Bool.and_eq_true, Bool.not_eq_true', beq_eq_false_iff_ne] at hfine
  exact ⟨hfine.1.1.1.1.1.1, hfine.1.1.1.1.1.2, hfine.1.1.1.1.2, hfine.1.1.1.2⟩
 obtain ⟨pa, ca, pk, ck, css, rfl, hrd, hL⟩ := top_cells hT0
 show Calls pG 44 #[D #[V (bs soapL), V (bs cEnvelope), C pa 0 ca, C pk 2 ck, V (bs [])]] w _
 obtain ⟨wa, hwa⟩ : ∃ wa, (w.alloc (F #[V (bs soapL), V (bs cEnvelope), C pa 0 ca, C pk 2 ck, V (bs [])] ELT)).alloc (F #[V ⟨#[]⟩, V ⟨#[]⟩, V ⟨#[]⟩, V ⟨#[]⟩, V ⟨#[]⟩, C none 0 0, V ⟨#[]⟩, V ⟨#[]⟩, C none 0 0, C none 0 0, V ⟨#[]⟩] 46) = wa := ⟨_, rfl⟩
 have HBA := hI (show Below w.heap.size w wa by rw [← hwa]; exact below_alloc (below_alloc1 w _) _)
 have hn := (Blk.new w ELT #[V (bs soapL), V (bs cEnvelope), C pa 0 ca, C pk 2 ck, V (bs [])]).alloc (F #[V ⟨#[]⟩, V ⟨#[]⟩, V ⟨#[]⟩, V ⟨#[]⟩, V ⟨#[]⟩, C none 0 0, V ⟨#[]⟩, V ⟨#[]⟩, C none 0 0, C none 0 0, V ⟨#[]⟩] 46)
 have hm := Blk.new (w.alloc (F #[V (bs soapL), V (bs cEnvelope), C pa 0 ca, C pk 2 ck, V (bs [])] ELT)) 46 #[V ⟨#[]⟩, V ⟨#[]⟩, V ⟨#[]⟩, V ⟨#[]⟩, V ⟨#[]⟩, C none 0 0, V ⟨#[]⟩, V ⟨#[]⟩, C none 0 0, C none 0 0, V ⟨#[]⟩]
 rw [World.size_alloc] at hm
 rw [hwa] at hn hm
 have HN := hI hn
 have HM := hI hm
 have HWA := hI hwa
 have HRD := hI hrd
 have HL := hI hL
 have HG := hI hg
 have HE := hI hE
 have HO := hI ho
 have HP := hI hP
 have HKEYS := hI (hl_keys e)
 have HLOK := hI (hl_ok hf0.1 hf0.2.1 hf0.2.2.1)
 have HLEN := hI (hl_len e)
 have HFV := hI (hl_fv e)
 have HMAP := hI (hl_map hh)
 have HDOK := hI (hdrs_ok hh)
 have HDNM := hI (hdrs_nm hh)
 have HSM := hI hs
 have hok2 : Tr.okL 2 [Tr.node [soapL, cHeader] [] e.hdrs [], .node [soapL, cBody] [] [e.bdy] []] := ⟨⟨rfl, by simp, hdrs_ok hh⟩, ⟨rfl, by simp, hs.bok, trivial⟩, trivial⟩
 have HOK2 := hI hok2
 have HK1 := hI (fun w' (hb : Below w.heap.size w w') => kids_any [Tr.node [soapL, cHeader] [] e.hdrs [], .node [soapL, cBody] [] [e.bdy] []] css P soapL cEnvelope [] pa ca pk ck w' (hrd.keep (Below.keeps hb)) (hL.below hb) hok2 (by intro x hx; simp only [lI, lG, or_false] at hx; rcases hx with rfl | rfl; exact (by decide : cHeader ≠ []); exact (by decide : cBody ≠ [])) (by simp))
 have hen := fun (a b : List UInt8) w => (eqNm soapL a soapL b w)
 have hen1 := fun w => eqNm soapL cEnvelope soapL cEnvelope w
 have hen2 := fun w => eqNm soapL cHeader soapL cHeader w
 have hen3 := fun w => eqNm soapL cBody soapL cBody w
 rw [show (soapL == soapL && cEnvelope == cEnvelope) = true by decide] at hen1
 rw [show (soapL == soapL && cHeader == cHeader) = true by decide] at hen2
 rw [show (soapL == soapL && cBody == cBody) = true by decide] at hen3
 clear hen hn hm hwa hrd hL hg hE hs ho hP hok2 hT0 hfine
 go_enter Tryz.func44, Tryz.ntmps44
 go_wp2_with fail
 rw [HWA.out]
 refine wp_phi (fun w' => (Blk w' w.heap.size ELT #[V (bs soapL), V (bs cEnvelope), C pa 0 ca, C pk 2 ck, V (bs [])]) ∧ Below wa.heap.size wa w') [(2, PVal (D #[V (bs soapL), V (bs cEnvelope)])), (4, PVal (.tuple #[]))] [] (by kernel_rfl) (by kernel_rfl) ?_ ?_ ⟨HN.out, ((Below.refl _ wa)).drew⟩ ?_
 ·rintro w1' w2' ⟨f1, hIB⟩ hb
  exact ⟨f1.below hb f1.lt, hIB.trans (hb.mono hIB.size)⟩
 ·simp only [lI, lG, or_false, forall_eq_or_imp, forall_eq]
  exact ⟨fun _ _ _ _ h' h => PVal_stays _ _ _ _ h' h, fun _ _ _ _ h' h => PVal_stays _ _ _ _ h' h⟩
 repeat ((first | refine phi_skipK rfl (fun K hK => ?_) | (refine phi_pureK rfl rfl (fun K hK => ?_); apply xI; constructor; (focus (rintro w' ⟨f1, hIB⟩; obtain ⟨k0, k1, -⟩ := f1.cc; clear f1 hIB; first | (go_simp; done) | (go_simp; (try go_bits); (try go_simp); rfl) | go_simp)))); simp only [Act.put, lA, lB, lC, lD, lE]; apply hK; clear hK K)
 refine phi_partK (PVal (D #[V (bs soapL), V (bs cEnvelope)])) rfl rfl ⟨_, rfl⟩ ?_ (fun K hK v hv => ?_)
 ·rintro w' ⟨f1, hIB⟩ hf
  unfold gives
  clear hf
  go_simp
  refine (soown_any cEnvelope _).mono ?_
  rintro e w'' ⟨rfl, hb⟩
  exact ⟨_, rfl, rfl, trivial, hb⟩
 obtain rfl : v = _ := hv
 simp only [Act.put, lA, lB, lC, lD, lE]
 apply hK
 clear hK K
 repeat ((first | refine phi_skipK rfl (fun K hK => ?_) | (refine phi_pureK rfl rfl (fun K hK => ?_); apply xI; constructor; (focus (rintro w' ⟨f1, hIB⟩; obtain ⟨k0, k1, -⟩ := f1.cc; clear f1 hIB; first | (go_simp; done) | (go_simp; (try go_bits); (try go_simp); rfl) | go_simp)))); simp only [Act.put, lA, lB, lC, lD, lE]; apply hK; clear hK K)
 refine phi_partK (PVal (.tuple #[])) rfl rfl ⟨_, rfl⟩ ?_ (fun K hK v hv => ?_)
 ·rintro w' ⟨f1, hIB⟩ hf
  unfold gives
  clear hf
  go_simp
  refine (sofail_g _).mono ?_
  rintro e w'' ⟨rfl, hb⟩
  exact ⟨_, rfl, rfl, trivial, hb⟩
 obtain rfl : v = _ := hv
 simp only [Act.put, lA, lB, lC, lD, lE]
 apply hK
 clear hK K
 repeat ((first | refine phi_skipK rfl (fun K hK => ?_) | (refine phi_pureK rfl rfl (fun K hK => ?_); apply xI; constructor; (focus (rintro w' ⟨f1, hIB⟩; obtain ⟨k0, k1, -⟩ := f1.cc; clear f1 hIB; first | (go_simp; done) | (go_simp; (try go_bits); (try go_simp); rfl) | go_simp)))); simp only [Act.put, lA, lB, lC, lD, lE]; apply hK; clear hK K)
 refine phi_done ?_
 rintro w1 ⟨f1, hb1⟩ _
 refine wpList_nil ?_
 obtain ⟨z0, z1, z2, z3, z4, -⟩ := f1.cc
 have HB1 := hI (HBA.out.trans (hb1.mono HBA.out.size))
 have HM1 := hI (HM.out.below hb1 HM.out.lt)
 have HKK := hI (HK1.out w1 HB1.out)
 clear f1 hb1
 go_wp2_with fail
 refine HKK.out.mono ?_
 rintro en w2 ⟨v, rfl, hown, hb2⟩
 obtain ⟨gl, cl, rfl⟩ := own_some (n := 1) hown
 have hb2w := HB1.out.trans (hb2.mono HB1.out.size)
 obtain ⟨pq, capq, he, hq1, hq2, hrd2⟩ := owns_rd hown
 cases he
 have hL2 := HL.out.below hb2w
 obtain ⟨b, off, m0, m1, at', kk, t', p1, n1, p2, n2, hp, hx, hTh, q0, q1, q2, q3, q4⟩ := kid_2 (i := 0) hrd2 hL2 HOK2.out (by simp)
 cases hp
 have hx' : Tr.node [soapL, cHeader] [] e.hdrs [] = .node [m0, m1] at' kk t' := hx
 injection hx' with e1 e2 e3 e4
 simp only [List.cons.injEq, and_true] at e1
 obtain ⟨rfl, rfl⟩ := e1
 subst e2 e3 e4
 obtain ⟨b', off', m0, m1, at', kk, t', p3, n3, p4, n4, hp, hx2, hTb, r0, r1, r2, r3, r4⟩ := kid_2 (i := 1) hrd2 hL2 HOK2.out (by simp)
 cases hp
 have hx2' : Tr.node [soapL, cBody] [] [e.bdy] [] = .node [m0, m1] at' kk t' := hx2
 injection hx2' with e1 e2 e3 e4
 simp only [List.cons.injEq, and_true] at e1
 obtain ⟨rfl, rfl⟩ := e1
 subst e2 e3 e4
 simp only [Nat.zero_mul, Nat.add_zero, Nat.zero_add, Nat.one_mul, List.length_nil, List.length_cons] at q0 q1 q2 q3 q4 r0 r1 r2 r3 r4 hTh hTb
 have HTH := hI (show TrC w2 P (.node [soapL, cHeader] [] e.hdrs []) (#[V (bs soapL), V (bs cHeader), C p1 0 n1, C p2 e.hdrs.length n2, V (bs [])] : Array Value).toList from hTh)
 have HTB := hI (show TrC w2 P (.node [soapL, cBody] [] [e.bdy] []) (#[V (bs soapL), V (bs cBody), C p3 0 n3, C p4 1 n4, V (bs [])] : Array Value).toList from hTb)
 have HQ := hI (And.intro q0 (And.intro q1 (And.intro q2 (And.intro q3 q4))))
 have HR := hI (And.intro r0 (And.intro r1 (And.intro r2 (And.intro r3 r4))))
 have HB2 := hI hb2w
 have HM2 := hI (HM1.out.below hb2 HM1.out.lt)
 have HGL := hI (hown.lt gl rfl).2
 clear hown hb2 hb2w hq1 hq2 hrd2 hL2 hx hx2 hTh hTb z0 z1 z2 z3 z4 hen1
 go_wp2_with fail
 refine wp_phi (fun w' => (w'.cell? ⟨gl, 0, none⟩ = some (V (bs soapL))) ∧ (w'.cell? ⟨gl, 1, none⟩ = some (V (bs cHeader))) ∧ (w'.cell? ⟨gl, 5, none⟩ = some (V (bs soapL))) ∧ (w'.cell? ⟨gl, 5 + 1, none⟩ = some (V (bs cBody))) ∧ Below w2.heap.size w2 w') [(8, PVal (D #[V (bs soapL), V (bs cHeader)])), (16, PVal (D #[V (bs soapL), V (bs cBody)])), (19, PVal (.tuple #[]))] [] (by kernel_rfl) (by kernel_rfl) ?_ ?_ ⟨q0, q1, r0, r1, ((Below.refl _ w2)).drew⟩ ?_
 ·rintro w1' w2' ⟨f1, f2, f3, f4, hIB⟩ hb
  exact ⟨Below.keeps hb _ _ f1, Below.keeps hb _ _ f2, Below.keeps hb _ _ f3, Below.keeps hb _ _ f4, hIB.trans (hb.mono hIB.size)⟩
 ·simp only [lI, lG, or_false, forall_eq_or_imp, forall_eq]
  exact ⟨fun _ _ _ _ h' h => PVal_stays _ _ _ _ h' h, fun _ _ _ _ h' h => PVal_stays _ _ _ _ h' h, fun _ _ _ _ h' h => PVal_stays _ _ _ _ h' h⟩
 repeat ((first | refine phi_skipK rfl (fun K hK => ?_) | (refine phi_pureK rfl rfl (fun K hK => ?_); apply xI; constructor; (focus (rintro w' ⟨f1, f2, f3, f4, hIB⟩; (clear hIB); first | (go_simp; done) | (go_simp; (try go_bits); (try go_simp); rfl) | go_simp)))); simp only [Act.put, lA, lB, lC, lD, lE]; apply hK; clear hK K)
 refine phi_partK (PVal (D #[V (bs soapL), V (bs cHeader)])) rfl rfl ⟨_, rfl⟩ ?_ (fun K hK v hv => ?_)
 ·rintro w' ⟨f1, f2, f3, f4, hIB⟩ hf
  unfold gives
  clear hf
  go_simp
  refine (soown_any cHeader _).mono ?_
  rintro e w'' ⟨rfl, hb⟩
  exact ⟨_, rfl, rfl, trivial, hb⟩
 obtain rfl : v = _ := hv
 simp only [Act.put, lA, lB, lC, lD, lE]
 apply hK
 clear hK K
 repeat ((first | refine phi_skipK rfl (fun K hK => ?_) | (refine phi_pureK rfl rfl (fun K hK => ?_); apply xI; constructor; (focus (rintro w' ⟨f1, f2, f3, f4, hIB⟩; (clear hIB); first | (go_simp; done) | (go_simp; (try go_bits); (try go_simp); rfl) | go_simp)))); simp only [Act.put, lA, lB, lC, lD, lE]; apply hK; clear hK K)
 refine phi_partK (PVal (D #[V (bs soapL), V (bs cBody)])) rfl rfl ⟨_, rfl⟩ ?_ (fun K hK v hv => ?_)
 ·rintro w' ⟨f1, f2, f3, f4, hIB⟩ hf
  unfold gives
  clear hf
  go_simp
  refine (soown_any cBody _).mono ?_
  rintro e w'' ⟨rfl, hb⟩
  exact ⟨_, rfl, rfl, trivial, hb⟩
 obtain rfl : v = _ := hv
 simp only [Act.put, lA, lB, lC, lD, lE]
 apply hK
 clear hK K
 repeat ((first | refine phi_skipK rfl (fun K hK => ?_) | (refine phi_pureK rfl rfl (fun K hK => ?_); apply xI; constructor; (focus (rintro w' ⟨f1, f2, f3, f4, hIB⟩; (clear hIB); first | (go_simp; done) | (go_simp; (try go_bits); (try go_simp); rfl) | go_simp)))); simp only [Act.put, lA, lB, lC, lD, lE]; apply hK; clear hK K)
 refine phi_partK (PVal (.tuple #[])) rfl rfl ⟨_, rfl⟩ ?_ (fun K hK v hv => ?_)
 ·rintro w' ⟨f1, f2, f3, f4, hIB⟩ hf
  unfold gives
  clear hf
  go_simp
  refine (sofail_g _).mono ?_
  rintro e w'' ⟨rfl, hb⟩
  exact ⟨_, rfl, rfl, trivial, hb⟩
 obtain rfl : v = _ := hv
 simp only [Act.put, lA, lB, lC, lD, lE]
 apply hK
 clear hK K
 repeat ((first | refine phi_skipK rfl (fun K hK => ?_) | (refine phi_pureK rfl rfl (fun K hK => ?_); apply xI; constructor; (focus (rintro w' ⟨f1, f2, f3, f4, hIB⟩; (clear hIB); first | (go_simp; done) | (go_simp; (try go_bits); (try go_simp); rfl) | go_simp)))); simp only [Act.put, lA, lB, lC, lD, lE]; apply hK; clear hK K)
 refine phi_done ?_
 rintro w3 ⟨f1, f2, f3, f4, hb3⟩ _
 refine wpList_nil ?_
 have hb3w := HB2.out.trans (hb3.mono HB2.out.size)
 obtain ⟨w4, hw4⟩ : ∃ w4, w3.alloc (F #[V ⟨#[]⟩, V ⟨#[]⟩, V ⟨#[]⟩, V ⟨#[]⟩, V ⟨#[]⟩, C none 0 0, V ⟨#[]⟩, V ⟨#[]⟩, C none 0 0, C none 0 0, V ⟨#[]⟩] 46) = w4 := ⟨_, rfl⟩
 have hal := below_alloc1 w3 (F #[V ⟨#[]⟩, V ⟨#[]⟩, V ⟨#[]⟩, V ⟨#[]⟩, V ⟨#[]⟩, C none 0 0, V ⟨#[]⟩, V ⟨#[]⟩, C none 0 0, C none 0 0, V ⟨#[]⟩] 46)
 rw [hw4] at hal
 have hb24 := hb3.trans (hal.mono hb3.size)
 have hE4 := Blk.new w3 46 #[V ⟨#[]⟩, V ⟨#[]⟩, V ⟨#[]⟩, V ⟨#[]⟩, V ⟨#[]⟩, C none 0 0, V ⟨#[]⟩, V ⟨#[]⟩, C none 0 0, C none 0 0, V ⟨#[]⟩]
 rw [hw4] at hE4
 have hs4 : w4.heap.size = w3.heap.size + 1 := by rw [← hw4, World.size_alloc]
 have hs3 := hb3.size
 obtain ⟨pa', ca', pk', ck', cssH, hcs, hrdH, hLH⟩ := part_cells HTH.out
 have hcs' : [V (bs soapL), V (bs cHeader), C p1 0 n1, C p2 e.hdrs.length n2, V (bs [])] = [V (bs soapL), V (bs cHeader), C pa' 0 ca', C pk' e.hdrs.length ck', V (bs [])] := hcs
 simp only [List.cons.injEq, Value.slice.injEq, and_true, true_and] at hcs'
 obtain ⟨⟨rfl, rfl⟩, rfl, rfl⟩ := hcs'
 have HKH := hI (kids_any e.hdrs cssH P soapL cHeader [] p1 n1 p2 n2 w4 (hrdH.keep (Below.keeps hb24)) (hLH.below hb24) HDOK.out HDNM.out (by rw [← HMAP.out, List.length_map]; have := HLEN.out; omega))
 have HLH := hI hLH
 have G4 := hI hE4
 have HB23 := hI hb3
 have HB34 := hI hal
 have HB4 := hI (HB2.out.trans (hb24.mono HB2.out.size))
 have HM4 := hI (HM2.out.below hb24 HM2.out.lt)
 have HS4 := hI hs4
 have HS3 := hI hs3
 have HW4 := hI hw4
 have HGL4 := hI (show gl < w3.heap.size by have := HGL.out; omega)
 have HNL := hI (show e.hdrs.length = e.hl.length by rw [← HMAP.out, List.length_map])
 obtain ⟨q0', q1', q2', q3', q4'⟩ := HQ.out
 have x0 := Below.keeps hb24 _ _ q0'; have x1 := Below.keeps hb24 _ _ q1'; have x2 := Below.keeps hb24 _ _ q2'; have x3 := Below.keeps hb24 _ _ q3'; have x4 := Below.keeps hb24 _ _ q4'
 rw [← hw4] at x0 x1 x2 x3 x4
 clear hb3 hb3w hal hb24 hE4 hs4 hs3 hrdH hLH hcs hw4 q0 q1 q2 q3 q4 r0 r1 r2 r3 r4 f1 f2 f3 f4 q0' q1' q2' q3' q4' hen2 hen3
 go_wp2_with fail
 rw [HW4.out]
 refine HKH.out.mono ?_
 rintro en w5 ⟨vh, rfl, hownH, hb5⟩
 have h3l : 3 ≤ e.hl.length := by
  unfold Env.hl
  simp only [List.length_cons]
  omega
 have hnpos : ∃ m, e.hdrs.length = m + 1 := ⟨e.hdrs.length - 1, by have := HNL.out; omega⟩
 obtain ⟨nm1, hnm1⟩ := hnpos
 obtain ⟨gh, chh, rfl⟩ := own_some (n := nm1) (by rw [← hnm1]; exact hownH)
 rw [← hnm1] at hownH ⊢
 have HOWN5 := hI hownH
 have HG5 := hI (G4.out.below hb5 G4.out.lt)
 have HB35 := hI (show Below w3.heap.size w3 w5 from HB34.out.trans (hb5.mono (by have := HS4.out; omega)))
 have hs5 := hb5.size
 have HS5 := hI hs5
 clear hownH hb5 hs5 x0 x1 x2 x3 x4
 go_wp2_with fail
 generalize hg4 : w3.heap.size = g4 at *
 have HG4 := hI hg4
 have hn5 : e.hdrs.length ≤ 5 := by have := HLEN.out; have := HNL.out; omega
 clear hg4
 go_loopw [5, 41] (fun tv iv wr => ∃ k : Nat, k ≤ e.hdrs.length ∧ tv = .bool false ∧ iv = .int .i64 k ∧ Blk wr g4 46 (evA (e.hl.take k)) ∧ wr.ownsRow w4.heap.size ELT 5 (C (some ⟨gh, 0, none⟩) e.hdrs.length chh) e.hdrs.length cssH.flatten ∧ Below g4 w3 wr) (fun _ iv _ => e.hdrs.length - (intOf iv).toNat)
 case atStart => exact ⟨0, by omega, rfl, rfl, HG5.out, HOWN5.out, HB35.out⟩
 case round =>
  obtain ⟨k, hk, rfl, rfl, hev, hrow, hbr⟩ := hrel
  have hb2r : Below w2.heap.size w2 wr := HB23.out.trans (hbr.mono (by have := HS3.out; omega))
  have hbwr := HB2.out.trans (hb2r.mono HB2.out.size)
  by_cases hlt : k < e.hdrs.length
  ·obtain ⟨pz, capz, he, _, _, hrdr⟩ := owns_rd hrow
   cases he
   obtain ⟨bz, oz, m0, m1, at', kk, t', p5, n5, p6, n6, hp, hx, hTk, y0, y1, y2, y3, y4⟩ := kid_2 hrdr (HLH.out.below hb2r) HDOK.out hlt
   cases hp
   simp only [Nat.zero_add] at y0 y1 y2 y3 y4
   have hkl : k < e.hl.length := by rw [← HNL.out]; exact hlt
   have hxk : e.hdrs[k] = hT e.hl[k] := by
    have h1 := congrArg (fun l => l[k]?) HMAP.out
    simp only [List.getElem?_map, List.getElem?_eq_getElem hkl, List.getElem?_eq_getElem hlt, Option.map_some, Option.some.injEq] at h1
    exact h1.symm
   rw [hxk] at hTk
   obtain ⟨hj5, hsne⟩ := HLOK.out _ (List.getElem_mem hkl)
   have hkey : ∀ p ∈ e.hl.take k, p.1 ≠ e.hl[k].1 := by
    intro p hp
    obtain ⟨i, hi, rfl⟩ := List.mem_iff_getElem.1 hp
    rw [List.length_take] at hi
    rw [List.getElem_take]
    exact List.pairwise_iff_getElem.1 HKEYS.out i k (by omega) hkl (by omega)
   have htk : e.hl.take (k + 1) = e.hl.take k ++ [e.hl[k]] := List.take_succ_eq_append_getElem hkl
   have hsl : e.hl[k].2.length ≤ 300 := by
    have h1 : ∀ p ∈ e.hl, p.2.length ≤ 300 := by
     unfold Env.hl
     have a1 := HSM.out.act; have a2 := HSM.out.tto; have a3 := HSM.out.iid; have a4 := HSM.out.frm; have a5 := HSM.out.rel
     intro p hp
     split at hp <;> split at hp <;> simp only [lI, lG, or_false, List.append_nil, lE, lD] at hp <;> rcases hp with rfl | rfl | rfl | hp <;> (try assumption)
     ·rw [hp]; exact a5
     ·rw [hp]; exact a4
     ·rcases hp with rfl | rfl <;> assumption
    exact h1 _ (List.getElem_mem hkl)
   generalize hpk : e.hl[k] = pk' at *
   obtain ⟨j, s⟩ := pk'
   have hal := below_alloc1 wr (F #[V (bs m0), V (bs m1), C p5 at'.length n5, C p6 kk.length n6, V (bs t')] ELT)
   have hnn := Blk.new wr ELT #[V (bs m0), V (bs m1), C p5 at'.length n5, C p6 kk.length n6, V (bs t')]
   obtain ⟨d0, d1, d2, d3, d4, -⟩ := hnn.cc
   have hev1 := hev.below hal hev.lt
   have HHD := hI (header_any g4 j s hj5 hsne (by have : s.length ≤ 300 := hsl; omega) P _ _ _ (hTk.below hal) hev1 (evA_get hkey hj5))
   have HEV := hI hev1
   have HROW := hI (owns_below hrow hal)
   have HBR := hI (hbr.trans (hal.mono (by have := hev.lt; omega)))
   have HKEY := hI hkey
   have HTK := hI htk
   have HJ5 := hI hj5
   have HLT := hI hlt
   have hlt' : (k : Int) < (e.hdrs.length : Int) := by omega
   clear hal hnn hev hrow hbr hb2r hbwr hrdr hx hTk hkl hxk hkey htk hsl hpk hj5 hsne hev1 hlt
   go_wp2_with fail
   refine HHD.out.mono ?_
   rintro en w6 ⟨wm, hbm, rfl, rfl⟩
   have hg6 := HEV.out.below hbm HEV.out.lt
   have O6 := (Only.refl g4 wm).set_ j (V (bs s))
   have R1 := hI (show Blk (wm.setCell ⟨g4, j, none⟩ (V (bs s))) g4 46 (evA (e.hl.take (k + 1))) from by
    rw [HTK.out, ← evA_set HKEY.out HJ5.out]
    exact hg6.set_ j _)
   have R2 := hI (owns_only O6 (owns_below HROW.out hbm) (fun b hb => by have := ((owns_below HROW.out hbm).lt b hb).1; have := HS4.out; omega))
   have R3 := hI (show Below g4 w3 (wm.setCell ⟨g4, j, none⟩ (V (bs s))) from (HBR.out.trans (hbm.mono (by have := HEV.out.lt; omega))).trans (O6.below (nR _)))
   clear hbm hg6 O6 d0 d1 d2 d3 d4 y0 y1 y2 y3 y4
   go_wp2_with fail
   go_roundw
   case rel => exact ⟨k + 1, HLT.out, rfl, by go_num, R1.out, R2.out, R3.out⟩
   case measure => have := HLT.out; simp [intOf]; omega
  ·obtain rfl : k = e.hdrs.length := by omega
   have hev2 : Blk wr g4 46 (evA e.hl) := by rw [HNL.out, List.take_length] at hev; exact hev
   have HEV := hI hev2
   have HBR := hI hb2r
   have HBW := hI hbwr
   obtain ⟨pa', ca', pk', ck', cssB, hcs, hrdB, hLB⟩ := part_cells HTB.out
   have hcs' : [V (bs soapL), V (bs cBody), C p3 0 n3, C p4 1 n4, V (bs [])] = [V (bs soapL), V (bs cBody), C pa' 0 ca', C pk' 1 ck', V (bs [])] := hcs
   simp only [List.cons.injEq, Value.slice.injEq, and_true, true_and] at hcs'
   obtain ⟨⟨rfl, rfl⟩, rfl, rfl⟩ := hcs'
   have HKB := hI (kids_any [e.bdy] cssB P soapL cBody [] p3 n3 p4 n4 wr (hrdB.keep (Below.keeps hb2r)) (hLB.below hb2r) ⟨HSM.out.bok, trivial⟩ (by intro x hx; rw [List.mem_singleton.1 hx]; exact hf0.2.2.2) (by simp))
   have HLB := hI hLB
   have HMR := hI ((HM2.out.below hb2r HM2.out.lt))
   obtain ⟨r0', r1', r2', r3', r4'⟩ := HR.out
   have x0 := Below.keeps hb2r _ _ r0'; have x1 := Below.keeps hb2r _ _ r1'; have x2 := Below.keeps hb2r _ _ r2'; have x3 := Below.keeps hb2r _ _ r3'; have x4 := Below.keeps hb2r _ _ r4'
   clear hev hrow hbr hb2r hbwr hlt hev2 hcs hrdB hLB r0' r1' r2' r3' r4'
   go_wp2_with fail
   refine HKB.out.mono ?_
   rintro en w7 ⟨vb, rfl, hownB, hb7⟩
   obtain ⟨gb, cb, rfl⟩ := own_some (n := 0) hownB
   obtain ⟨pz, capz, he, _, _, hrd7⟩ := owns_rd hownB
   cases he
   have hb27 := HBR.out.trans (hb7.mono HBR.out.size)
   obtain ⟨bz, oz, m0, m1, at', kk, t', p5, n5, p6, n6, hp, hx, hTk, y0, y1, y2, y3, y4⟩ := kid_2 (i := 0) hrd7 (HLB.out.below hb27) ⟨HSM.out.bok, trivial⟩ (by simp)
   cases hp
   have hx' : e.bdy = .node [m0, m1] at' kk t' := hx
   simp only [Nat.zero_mul, Nat.add_zero, Nat.zero_add] at y0 y1 y2 y3 y4
   have hTk' : TrC w7 P e.bdy [V (bs m0), V (bs m1), C p5 at'.length n5, C p6 kk.length n6, V (bs t')] := hTk
   obtain ⟨f0, f1, f2, f3, f4⟩ := HFV.out
   have hEV : evA e.hl = #[V (bs e.act), V (bs e.to), V (bs e.id), V (bs e.frm), V (bs e.rel), C none 0 0, V (bs []), V (bs []), C none 0 0, C none 0 0, V (bs [])] := by
    unfold evA
    rw [f0, f1, f2, f3, f4]
   have hg7 := HEV.out.below hb7 HEV.out.lt
   rw [hEV] at hg7
   have HG7 := hI hg7
   have HB7 := hI (HBW.out.trans (hb7.mono HBW.out.size))
   have HM7 := hI (HMR.out.below hb7 HMR.out.lt)
   have HTK := hI hTk'
   have HX := hI (show e.bdy.nm = [m0, m1] by rw [hx']; rfl)
   obtain ⟨c0, c1, c2, -⟩ := hg7.cc
   obtain ⟨ac, al, hac⟩ := List.exists_cons_of_ne_nil hf0.1
   obtain ⟨tc, tl, htc⟩ := List.exists_cons_of_ne_nil hf0.2.1
   obtain ⟨ic, il, hic⟩ := List.exists_cons_of_ne_nil hf0.2.2.1
   have c0' : w7.cell? ⟨g4, 0, none⟩ = some (V (bs (ac :: al))) := by rw [← hac]; exact c0
   have c1' : w7.cell? ⟨g4, 1, none⟩ = some (V (bs (tc :: tl))) := by rw [← htc]; exact c1
   have c2' : w7.cell? ⟨g4, 2, none⟩ = some (V (bs (ic :: il))) := by rw [← hic]; exact c2
   clear hownB hb7 hrd7 hb27 hx hx' hTk hTk' hEV hg7 c0 c1 c2 f0 f1 f2 f3 f4 x0 x1 x2 x3 x4 hac htc hic
   go_wp2_with (first | (go_at_call 72; refine (sofail_y _).mono ?_; rintro en w8 ⟨rfl, rfl⟩) | (refine wpList_store (.tmp 77) (.tmp 76) ELT rfl rfl g4 6 46 _ #[V (bs m0), V (bs m1), C p5 at'.length n5, C p6 kk.length n6, V (bs t')] rfl rfl HG7.out (by kernel_rfl) (by simp [Value.oneCell']) (by simp) ?_))
   intro w8 hb8 ho8
   have hb8' : Blk w8 g4 46 #[V (bs e.act), V (bs e.to), V (bs e.id), V (bs e.frm), V (bs e.rel), C none 0 0, V (bs m0), V (bs m1), C p5 at'.length n5, C p6 kk.length n6, V (bs t')] := hb8
   have hB8 := HB7.out.trans (ho8.below (by have := HB2.out.size; have := HS3.out; have := HG4.out; omega))
   have hEC : EnvC w8 e #[V (bs e.act), V (bs e.to), V (bs e.id), V (bs e.frm), V (bs e.rel), C none 0 0, V (bs m0), V (bs m1), C p5 at'.length n5, C p6 kk.length n6, V (bs t')] := by
    have hlo := HP.out
    refine ⟨none, 0, [], m0, m1, t', p5, at'.length, n5, p6, kk.length, n6, by rw [hh]; rfl, HX.out, by rw [hh]; exact nR _, by decide, .inl rfl, by rw [hh]; rfl, ?_⟩
    refine TrX.imp (fun b hb => by have := (hlo b hb).2; have := hB8.size; omega) _ _ (trc_trx _ _ (HTK.out.only ho8 (fun b hb => by have := (hlo b hb).2; have := HB2.out.size; have := HS3.out; have := HG4.out; omega)))
   have HEC := hI hEC
   have HTK8 := hI (HTK.out.only ho8 (fun b hb => by have := (HP.out b hb).2; have := HB2.out.size; have := HS3.out; have := HG4.out; omega))
   have HB8 := hI hB8
   have HM8 := hI (ho8.blk HM7.out (by have := HB2.out.size; have := HS3.out; have := HG4.out; have := HM2.out.lt; omega))
   have HG8 := hI hb8'
   have HRT := hI (soright_any E e x _ w8 (HG.out.below hB8) (HE.out.below hB8) HSM.out HO.out hEC)
   obtain ⟨d0, d1, d2, d3, d4, d5, d6, d7, d8, d9, d10⟩ := hb8'.cc
   clear hb8 hb8' ho8 hB8 hEC c0' c1' c2' y0 y1 y2 y3 y4
   go_wp2_with fail
   refine HRT.out.mono ?_
   rintro en w9 ⟨rfl, hb9⟩
   have hg9 := HG8.out.below hb9 HG8.out.lt
   have HM9 := hI (HM8.out.below hb9 HM8.out.lt)
   have HB9 := hI (HB8.out.trans (hb9.mono HB8.out.size))
   have HTK9 := hI (HTK8.out.below hb9)
   clear d0 d1 d2 d3 d4 d5 d6 d7 d8 d9 d10
   obtain ⟨d0, d1, d2, d3, d4, d5, d6, d7, d8, d9, d10⟩ := hg9.cc
   clear hg9 hb9
   go_wp2_with (first | (go_at_call 72; refine (sofail_y _).mono ?_; rintro en w10 ⟨rfl, rfl⟩) | (refine wpList_store (.tmp 2) (.tmp 83) 46 rfl rfl (w.heap.size + 1) 0 _ _ #[V (bs e.act), V (bs e.to), V (bs e.id), V (bs e.frm), V (bs e.rel), C none 0 0, V (bs m0), V (bs m1), C p5 at'.length n5, C p6 kk.length n6, V (bs t')] rfl rfl HM9.out (by kernel_rfl) (by simp [Value.oneCell']) (by simp) ?_))
   intro wF hbF hoF
   rw [putCells_all #[V ⟨#[]⟩, V ⟨#[]⟩, V ⟨#[]⟩, V ⟨#[]⟩, V ⟨#[]⟩, C none 0 0, V ⟨#[]⟩, V ⟨#[]⟩, C none 0 0, C none 0 0, V ⟨#[]⟩] #[V (bs e.act), V (bs e.to), V (bs e.id), V (bs e.frm), V (bs e.rel), C none 0 0, V (bs m0), V (bs m1), C p5 at'.length n5, C p6 kk.length n6, V (bs t')] rfl] at hbF
   obtain ⟨u0, u1, u2, u3, u4, u5, u6, u7, u8, u9, u10⟩ := hbF.cc
   have HBF := hI (HB9.out.trans (hoF.below (by omega : w.heap.size ≤ w.heap.size + 1)))
   have HECF := hI (show EnvB B wF e #[V (bs e.act), V (bs e.to), V (bs e.id), V (bs e.frm), V (bs e.rel), C none 0 0, V (bs m0), V (bs m1), C p5 at'.length n5, C p6 kk.length n6, V (bs t')] from by
    have hlo := HP.out
    exact ⟨hh, m0, m1, t', p5, at'.length, n5, p6, kk.length, n6, rfl, HX.out, TrX.imp (fun b hb => ⟨(hlo b hb).1, by have := (hlo b hb).2; have := HBF.out.size; omega, by simp⟩) _ _ (trc_trx _ _ (HTK9.out.only hoF (fun b hb => by have := (hlo b hb).2; omega)))⟩)
   clear hbF hoF d0 d1 d2 d3 d4 d5 d6 d7 d8 d9 d10
   go_wp2_with fail
   refine bodyPost_ret (v := D #[V (bs e.act), V (bs e.to), V (bs e.id), V (bs e.frm), V (bs e.rel), C none 0 0, V (bs m0), V (bs m1), C p5 at'.length n5, C p6 kk.length n6, V (bs t')]) (by simp [results, Tryz.results44, go_sem, u0, u1, u2, u3, u4, u5, u6, u7, u8, u9, u10]) rfl ?_
   exact ⟨_, rfl, HECF.out, HBF.out⟩
end
section
set_option maxHeartbeats 8000000
set_option maxRecDepth 20000
open Go.RowKit Go.Extern.Stop Go.Stop Go.Extern
theorem tryEnv_idle (d x r : Nat) (w : World) (hd : w.cell? ⟨d, 0, none⟩ = some (.bool true)) :
  CallsD pG 78 #[A (some ⟨d, 0, none⟩), A (some ⟨x, 0, none⟩), A (some ⟨r, 0, none⟩)] .returning w fun e u' w' => e = EE (.tuple #[]) ∧ u' = .returning ∧ w' = w := by
 refine callsD_of_wpS Tryz.func78 rfl fun c₀ cs hu => ?_
 apply wpS_seq
 apply wpS_region
 simp [wpOpsS, go_sem, recoverD, hu, Tryz.ntmps78, Exit.thenS]
 refine wpS_of_wp ?_
 have e : (#[A (some ⟨d, 0, none⟩), A (some ⟨x, 0, none⟩), A (some ⟨r, 0, none⟩)] ++ ((Array.replicate 8 undef).setIfInBounds 2 Value.nilIface).setIfInBounds 0 Value.nilIface) =
   #[A (some ⟨d, 0, none⟩), A (some ⟨x, 0, none⟩), A (some ⟨r, 0, none⟩), .nilIface, undef, .nilIface, undef, undef, undef, undef, undef] := rfl
 rw [e]
 clear e
 go_wp2_with fail
 cases c₀
 simp_all [bodyPostS, results, Tryz.results78]
theorem tryEnv_err (d x r : Nat) (w : World) (E : Nat → Addr) (u : Value) (n : Nat) (older : List PanicEntry) (hu0 : ∃ T x, u = .iface T x) (ht : Tells w u E n) (he : Errs w E) (hd : w.cell? ⟨d, 0, none⟩ = some (.bool false))
  (hx : Blk w x 46 #[V ⟨#[]⟩, V ⟨#[]⟩, V ⟨#[]⟩, V ⟨#[]⟩, V ⟨#[]⟩, C none 0 0, V ⟨#[]⟩, V ⟨#[]⟩, C none 0 0, C none 0 0, V ⟨#[]⟩]) (hr : Blk w r 30 #[.nilIface]) (hxr : x ≠ r) :
  CallsD pG 78 #[A (some ⟨d, 0, none⟩), A (some ⟨x, 0, none⟩), A (some ⟨r, 0, none⟩)] (.panicking ({ v := u, recovered := false } :: older)) w fun e u' w' =>
   e = EE (.tuple #[]) ∧ u' = .panicking ({ v := u, recovered := true } :: older) ∧ Blk w' x 46 #[V ⟨#[]⟩, V ⟨#[]⟩, V ⟨#[]⟩, V ⟨#[]⟩, V ⟨#[]⟩, C none 0 0, V ⟨#[]⟩, V ⟨#[]⟩, C none 0 0, C none 0 0, V ⟨#[]⟩] ∧ Blk w' r 30 #[errAt (E n)] ∧ But [x, r] w w' := by
 unfold errAt at *
 obtain ⟨T, x0, rfl⟩ := hu0
 refine callsD_of_wpS Tryz.func78 rfl fun c₀ cs hu => ?_
 apply wpS_seq
 apply wpS_region
 simp [wpOpsS, go_sem, recoverD, hu, Tryz.ntmps78, Exit.thenS]
 refine wpS_of_wp ?_
 have e : (#[A (some ⟨d, 0, none⟩), A (some ⟨x, 0, none⟩), A (some ⟨r, 0, none⟩)] ++ ((Array.replicate 8 undef).setIfInBounds 2 (Value.iface T x0)).setIfInBounds 0 (Value.iface T x0)) =
   #[A (some ⟨d, 0, none⟩), A (some ⟨x, 0, none⟩), A (some ⟨r, 0, none⟩), .iface T x0, undef, .iface T x0, undef, undef, undef, undef, undef] := rfl
 rw [e]
 have HX := hI hx
 have HR := hI hr
 have HT := hI ht
 have HE := hI he
 have HB0 := hI (below_alloc1 w (F #[V ⟨#[]⟩, V ⟨#[]⟩, V ⟨#[]⟩, V ⟨#[]⟩, V ⟨#[]⟩, C none 0 0, V ⟨#[]⟩, V ⟨#[]⟩, C none 0 0, C none 0 0, V ⟨#[]⟩] 46))
 have HN0 := hI (Blk.new w 46 #[V ⟨#[]⟩, V ⟨#[]⟩, V ⟨#[]⟩, V ⟨#[]⟩, V ⟨#[]⟩, C none 0 0, V ⟨#[]⟩, V ⟨#[]⟩, C none 0 0, C none 0 0, V ⟨#[]⟩])
 clear e he hx hr ht
 go_wp2_with fail
 generalize w.alloc (F #[V ⟨#[]⟩, V ⟨#[]⟩, V ⟨#[]⟩, V ⟨#[]⟩, V ⟨#[]⟩, C none 0 0, V ⟨#[]⟩, V ⟨#[]⟩, C none 0 0, C none 0 0, V ⟨#[]⟩] 46) = w0 at *
 refine wp_phi_tail (List.take 3 _) (List.drop 3 _) (List.take_append_drop 3 _).symm (fun w' => Below w.heap.size w w' ∧ Blk w' w.heap.size 46 #[V ⟨#[]⟩, V ⟨#[]⟩, V ⟨#[]⟩, V ⟨#[]⟩, V ⟨#[]⟩, C none 0 0, V ⟨#[]⟩, V ⟨#[]⟩, C none 0 0, C none 0 0, V ⟨#[]⟩]) [(2, PVal (.iface 313 (A (some (E n)))))] [] (by kernel_rfl) (by kernel_rfl) ?_ ?_ ⟨HB0.out.drew, HN0.out⟩ ?_
 ·rintro w1' w2' ⟨h1, h2⟩ hb
  exact ⟨h1.trans (hb.mono h1.size), h2.below hb h2.lt⟩
 ·simp only [List.mem_singleton, forall_eq]
  exact fun _ _ _ _ _ h => h
 simp only [List.take_succ_cons, List.take_zero, List.drop_succ_cons, List.drop_zero]
 repeat ((first | refine phi_skipK rfl (fun K hK => ?_) | (refine phi_pureK rfl rfl (fun K hK => ?_); apply xI; constructor; (focus (rintro w' ⟨h1, h2⟩; (obtain ⟨c0, c1, c2, c3, c4, c5, c6, c7, c8, c9, -⟩ := h2.cc; have c10 := (h2.cell 10).trans rfl); first | (go_simp; done) | (go_simp; (try go_bits); (try go_simp); rfl) | go_simp)))); simp only [Act.put, lA, lB, lC, lD, lE]; apply hK; clear hK K)
 refine phi_partK (PVal (.iface 313 (A (some (E n))))) rfl rfl ⟨_, rfl⟩ ?_ (fun K hK v hv => ?_)
 ·rintro w' ⟨h1, h2⟩ _
  unfold gives
  go_simp
  refine (HT.out w' h1 (HE.out.below h1)).mono ?_
  rintro e w'' ⟨rfl, hb⟩
  exact ⟨_, rfl, rfl, trivial, hb⟩
 obtain rfl : v = _ := hv
 simp only [Act.put, lA, lB, lC, lD, lE]
 apply hK
 clear hK K
 refine phi_done ?_
 rintro w1 ⟨h1, h2⟩ _
 have hx1 := HX.out.below h1 HX.out.lt
 have hr1 := HR.out.below h1 HR.out.lt
 have HR1 := hI hr1
 have HB1 := hI h1
 have cr := (hr1.cell 0).trans rfl
 have fr := hr1.frozen 0
 clear h1 h2 hr1 HT
 refine wpList_store (.tmp 1) (.tmp 8) 46 rfl rfl x 0 _ _ #[V ⟨#[]⟩, V ⟨#[]⟩, V ⟨#[]⟩, V ⟨#[]⟩, V ⟨#[]⟩, C none 0 0, V ⟨#[]⟩, V ⟨#[]⟩, C none 0 0, C none 0 0, V ⟨#[]⟩] rfl rfl hx1 (by kernel_rfl) (by simp [Value.oneCell']) (by simp) ?_
 intro w2 hx2 ho2
 rw [putCells_all #[V ⟨#[]⟩, V ⟨#[]⟩, V ⟨#[]⟩, V ⟨#[]⟩, V ⟨#[]⟩, C none 0 0, V ⟨#[]⟩, V ⟨#[]⟩, C none 0 0, C none 0 0, V ⟨#[]⟩] #[V ⟨#[]⟩, V ⟨#[]⟩, V ⟨#[]⟩, V ⟨#[]⟩, V ⟨#[]⟩, C none 0 0, V ⟨#[]⟩, V ⟨#[]⟩, C none 0 0, C none 0 0, V ⟨#[]⟩] rfl] at hx2
 have hr2 := ho2.blk HR1.out (fun e => hxr e.symm)
 have cr2 := (hr2.cell 0).trans rfl
 have fr2 := hr2.frozen 0
 have HX2 := hI hx2
 have HR2 := hI hr2
 have HO2 := hI ho2
 clear hx2 hr2 ho2 hx1 cr fr
 go_wp2_with fail
 cases c₀
 simp only [bodyPostS, results, Tryz.results78]
 exact ⟨trivial, _, rfl, .tuple #[], by simp, rfl, rfl, HX2.out.far hxr 0 _, HR2.out.set_ 0 _, (((But.of_below HB1.out).only HO2.out (by simp)).set_ r 0 _ (by simp))⟩
theorem tryEnv_any (w : World) (E : Nat → Addr) (f : FuncId) (caps : Array Value) (S : List Nat) (R : World → Value → World → Prop) (Q : Nat → World → World → Prop) (hSl : ∀ s ∈ S, s < w.heap.size) (he : ∀ w', But S w w' → Errs w' E) (hRs : ∀ w1 v w2, R w1 v w2 → ∃ v0 v1 v2 v3 v4 v5 v6 v7 v8 v9 v10 : Value, v = D #[v0, v1, v2, v3, v4, v5, v6, v7, v8, v9, v10] ∧ v0.oneCell' = true ∧ v1.oneCell' = true ∧ v2.oneCell' = true ∧ v3.oneCell' = true ∧ v4.oneCell' = true ∧ v5.oneCell' = true ∧ v6.oneCell' = true ∧ v7.oneCell' = true ∧ v8.oneCell' = true ∧ v9.oneCell' = true ∧ v10.oneCell' = true) (hcf : ∀ w, (callFunc f caps).run pG w = .ok (.enter f caps) w)
  (hdo : ∀ w1, Below w.heap.size w w1 → w1.heap.size = w.heap.size + 3 → Calls pG f caps w1 fun e w2 => MayG (R w1) (fun n w2 => Q n w1 w2) E e w2 ∧ But S w1 w2) :
  Calls pG 42 #[.func (.func f) #[] caps] w (TryG S R Q E (D #[V ⟨#[]⟩, V ⟨#[]⟩, V ⟨#[]⟩, V ⟨#[]⟩, V ⟨#[]⟩, C none 0 0, V ⟨#[]⟩, V ⟨#[]⟩, C none 0 0, C none 0 0, V ⟨#[]⟩]) w) := by
 have hmf := @run_makeFunc pG
 have HE := hI he
 have HD := hI hdo
 have HRS := hI hRs
 have hno : ∀ k, w.heap.size ≤ k → S.contains k = false := fun k hk => by
  rw [Bool.eq_false_iff]
  intro hc
  have := hSl k (List.contains_iff_mem.1 hc)
  omega
 have HNO := hI hno
 clear he hdo hRs hSl hno
 go_enter_defers Tryz.func42, Tryz.ntmps42
 go_wp2_with fail
 have hb1 : Below w.heap.size w (((w.alloc (F #[V ⟨#[]⟩, V ⟨#[]⟩, V ⟨#[]⟩, V ⟨#[]⟩, V ⟨#[]⟩, C none 0 0, V ⟨#[]⟩, V ⟨#[]⟩, C none 0 0, C none 0 0, V ⟨#[]⟩] 46)).alloc (F #[.nilIface] 30)).alloc (F #[.bool false] 4)) := below_alloc (below_alloc (below_alloc1 w _) _) _
 refine (HD.out _ hb1 (by simp)).mono ?_
 rintro e w2 ⟨hm, hb2⟩
 have x1 := hb2.blk (((Blk.new w 46 #[V ⟨#[]⟩, V ⟨#[]⟩, V ⟨#[]⟩, V ⟨#[]⟩, V ⟨#[]⟩, C none 0 0, V ⟨#[]⟩, V ⟨#[]⟩, C none 0 0, C none 0 0, V ⟨#[]⟩]).alloc (F #[.nilIface] 30)).alloc (F #[.bool false] 4)) (HNO.out _ (nR _))
 have r1 := hb2.blk ((Blk.new (w.alloc (F #[V ⟨#[]⟩, V ⟨#[]⟩, V ⟨#[]⟩, V ⟨#[]⟩, V ⟨#[]⟩, C none 0 0, V ⟨#[]⟩, V ⟨#[]⟩, C none 0 0, C none 0 0, V ⟨#[]⟩] 46)) 30 #[.nilIface]).alloc (F #[.bool false] 4)) (HNO.out _ (by simp))
 have d1 := hb2.blk (Blk.new ((w.alloc (F #[V ⟨#[]⟩, V ⟨#[]⟩, V ⟨#[]⟩, V ⟨#[]⟩, V ⟨#[]⟩, C none 0 0, V ⟨#[]⟩, V ⟨#[]⟩, C none 0 0, C none 0 0, V ⟨#[]⟩] 46)).alloc (F #[.nilIface] 30)) 4 #[.bool false]) (HNO.out _ (by simp; omega))
 have hs1 : (((w.alloc (F #[V ⟨#[]⟩, V ⟨#[]⟩, V ⟨#[]⟩, V ⟨#[]⟩, V ⟨#[]⟩, C none 0 0, V ⟨#[]⟩, V ⟨#[]⟩, C none 0 0, C none 0 0, V ⟨#[]⟩] 46)).alloc (F #[.nilIface] 30)).alloc (F #[.bool false] 4)).heap.size = w.heap.size + 3 := by simp
 simp only [World.size_alloc] at r1 d1
 have X1 := hI x1
 have R1 := hI r1
 have D1 := hI d1
 have B1 := hI hb1
 have B2 := hI hb2
 have S1 := hI hs1
 rcases hm with ⟨v, rfl, hR⟩ | ⟨u, n, hn, hS, ⟨T, x0, rfl⟩, htells, rfl⟩
 ·obtain ⟨v0, v1, v2, v3, v4, v5, v6, v7, v8, v9, v10, rfl, hv1⟩ := HRS.out _ _ _ hR
  have HR := hI hR
  have HV1 := hI (show ∀ u ∈ (#[v0, v1, v2, v3, v4, v5, v6, v7, v8, v9, v10] : Array Value).toList, u.oneCell' = true by simpa using hv1)
  clear x1 r1 d1 hb1 hb2 hs1 hR hv1
  generalize (((w.alloc (F #[V ⟨#[]⟩, V ⟨#[]⟩, V ⟨#[]⟩, V ⟨#[]⟩, V ⟨#[]⟩, C none 0 0, V ⟨#[]⟩, V ⟨#[]⟩, C none 0 0, C none 0 0, V ⟨#[]⟩] 46)).alloc (F #[.nilIface] 30)).alloc (F #[.bool false] 4)) = w1 at *
  go_wp2_with (refine wpList_store (.tmp 2) (.tmp 7) 46 rfl rfl w.heap.size 0 _ _ #[v0, v1, v2, v3, v4, v5, v6, v7, v8, v9, v10] rfl rfl X1.out ?s0 HV1.out ?s1 ?_)
  case s0 => kernel_rfl
  case s1 => simp
  intro w3 hx3 ho3
  rw [putCells_all #[V ⟨#[]⟩, V ⟨#[]⟩, V ⟨#[]⟩, V ⟨#[]⟩, V ⟨#[]⟩, C none 0 0, V ⟨#[]⟩, V ⟨#[]⟩, C none 0 0, C none 0 0, V ⟨#[]⟩] #[v0, v1, v2, v3, v4, v5, v6, v7, v8, v9, v10] rfl] at hx3
  have hd3 := ho3.blk D1.out (by omega)
  have hr3 := ho3.blk R1.out (by omega)
  have cd := (hd3.cell 0).trans rfl
  have fd := hd3.frozen 0
  have X4 := hI (hx3.far (b := w.heap.size + 1 + 1) (by omega) 0 (.bool true))
  have R4 := hI (hr3.far (b := w.heap.size + 1 + 1) (by omega) 0 (.bool true))
  have D4 := hI (show Blk (w3.setCell ⟨w.heap.size + 1 + 1, 0, none⟩ (.bool true)) (w.heap.size + 1 + 1) 4 #[.bool true] from hd3.set_ 0 _)
  have O4 := hI (((But.of_below (S := [w.heap.size, w.heap.size + 1, w.heap.size + 2]) (Below.refl _ w2)).only ho3 (by simp)).set_ (w.heap.size + 1 + 1) 0 (.bool true) (by simp))
  clear hx3 ho3 hd3 hr3
  go_wp2_with (first | (refine wpList_loadS (.tmp 2) 46 rfl rfl w.heap.size 46 #[v0, v1, v2, v3, v4, v5, v6, v7, v8, v9, v10] rfl X4.out _ Tryz.underlying46 rfl ?s2 ?_) | (refine wpList_store (.tmp 2) (.tmp 8) 46 rfl rfl w.heap.size 0 _ _ #[v0, v1, v2, v3, v4, v5, v6, v7, v8, v9, v10] rfl rfl X4.out ?s3 HV1.out ?s4 ?_))
  case s2 => kernel_rfl
  case s3 => kernel_rfl
  case s4 => simp
  clear cd fd
  generalize w3.setCell ⟨w.heap.size + 1 + 1, 0, none⟩ (.bool true) = w4 at *
  intro w5 hx5 ho5
  rw [putCells_all #[v0, v1, v2, v3, v4, v5, v6, v7, v8, v9, v10] #[v0, v1, v2, v3, v4, v5, v6, v7, v8, v9, v10] rfl] at hx5
  have hr5 := ho5.blk R4.out (by omega)
  have hd5 := ho5.blk D4.out (by omega)
  have cr := (hr5.cell 0).trans rfl
  have fr := hr5.frozen 0
  have X6 := hI (hx5.far (b := w.heap.size + 1) (by omega) 0 .nilIface)
  have R6 := hI (show Blk (w5.setCell ⟨w.heap.size + 1, 0, none⟩ .nilIface) (w.heap.size + 1) 30 #[.nilIface] from hr5.set_ 0 _)
  have D6 := hI (hd5.far (b := w.heap.size + 1) (by omega) 0 .nilIface)
  have O6 := hI ((O4.out.only ho5 (by simp)).set_ (w.heap.size + 1) 0 .nilIface (by simp))
  clear hx5 ho5 hd5 hr5
  go_wp2_with fail
  clear cr fr
  generalize w5.setCell ⟨w.heap.size + 1, 0, none⟩ .nilIface = w6 at *
  refine leaves_cons (f := 78) (args := #[A (some ⟨w.heap.size + 1 + 1, 0, none⟩), A (some ⟨w.heap.size, 0, none⟩), A (some ⟨w.heap.size + 1, 0, none⟩)]) (by simp) (by simp [go_sem]) ?_
  refine (tryEnv_idle _ _ _ w6 ((D6.out.cell 0).trans rfl)).mono ?_
  rintro e u' w7 ⟨rfl, rfl, rfl⟩
  have cb := (R6.out.cell 0).trans rfl; obtain ⟨c0, c1, c2, c3, c4, c5, c6, c7, c8, c9, c10⟩ := X6.out.cc
  have hfin : TryG S R Q E (D #[V ⟨#[]⟩, V ⟨#[]⟩, V ⟨#[]⟩, V ⟨#[]⟩, V ⟨#[]⟩, C none 0 0, V ⟨#[]⟩, V ⟨#[]⟩, C none 0 0, C none 0 0, V ⟨#[]⟩]) w (EE (.tuple #[D #[v0, v1, v2, v3, v4, v5, v6, v7, v8, v9, v10], .nilIface])) w7 := by
   exact ⟨But.out ((But.of_below B1.out).trans B2.out) O6.out (nR _), w1, w2, S1.out, B1.out, B2.out, O6.out, .inl ⟨_, rfl, HR.out⟩⟩
  have HF := hI hfin
  clear hfin
  simp [Leaves, settle, results, Tryz.results42, go_sem, c0, c1, c2, c3, c4, c5, c6, c7, c8, c9, c10, cb]
  exact HF.out
 ·have cd := (d1.cell 0).trans rfl
  clear x1 r1 d1 hb1 hb2 hs1
  generalize (((w.alloc (F #[V ⟨#[]⟩, V ⟨#[]⟩, V ⟨#[]⟩, V ⟨#[]⟩, V ⟨#[]⟩, C none 0 0, V ⟨#[]⟩, V ⟨#[]⟩, C none 0 0, C none 0 0, V ⟨#[]⟩] 46)).alloc (F #[.nilIface] 30)).alloc (F #[.bool false] 4)) = w1 at *
  go_wp2_with fail
  have hb := (But.of_below B1.out).trans B2.out
  refine leaves_cons (f := 78) (args := #[A (some ⟨w.heap.size + 1 + 1, 0, none⟩), A (some ⟨w.heap.size, 0, none⟩), A (some ⟨w.heap.size + 1, 0, none⟩)]) (by simp) (by simp [go_sem]) ?_
  refine (tryEnv_err _ _ _ w2 E (.iface T x0) n [] ⟨T, x0, rfl⟩ htells (HE.out w2 hb) cd X1.out R1.out (by omega)).mono ?_
  rintro e u' w4 ⟨rfl, rfl, ca, cb, hBut⟩
  have hfin : TryG S R Q E (D #[V ⟨#[]⟩, V ⟨#[]⟩, V ⟨#[]⟩, V ⟨#[]⟩, V ⟨#[]⟩, C none 0 0, V ⟨#[]⟩, V ⟨#[]⟩, C none 0 0, C none 0 0, V ⟨#[]⟩]) w (EE (.tuple #[D #[V ⟨#[]⟩, V ⟨#[]⟩, V ⟨#[]⟩, V ⟨#[]⟩, V ⟨#[]⟩, C none 0 0, V ⟨#[]⟩, V ⟨#[]⟩, C none 0 0, C none 0 0, V ⟨#[]⟩], errAt (E n)])) w4 := by
   exact ⟨But.out hb (But.wide hBut) (nR _), w1, w2, S1.out, B1.out, B2.out, But.wide hBut, .inr ⟨n, hn, hS, rfl⟩⟩
  obtain ⟨c0, c1, c2, c3, c4, c5, c6, c7, c8, c9, c10⟩ := ca.cc
  have cb' := (cb.cell 0).trans rfl
  have HF := hI hfin
  clear hfin
  unfold errAt at cb' HF
  simp [Leaves, settle, results, Tryz.results42, go_sem, c0, c1, c2, c3, c4, c5, c6, c7, c8, c9, c10, cb']
  exact HF.out
end
end Go.Proofs.YthboiahdheehkaaGreatDoor
