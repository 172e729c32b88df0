/- SoapC -/
import Derived.Test.YthboiahdheehkaaGreatDoorPU
import Derived.Test.YthboiahdheehkaaGreatDoorSG
import Derived.Test.YthboiahdheehkaaGreatDoorPM
open List renaming setIfInBounds_toArray → lA, set_cons_succ → lB, set_cons_zero → lC, cons_append → lD, nil_append → lE, not_mem_nil → lG, length_cons → lH, mem_cons → lI, length_nil → lP
open Exists renaming intro → xI
open Array renaming getElem?_eq_some_iff → aA
open Nat renaming le_refl → nR
open Go.Proofs.Tryz renaming prog → pG
open Go.Value renaming string → S
open Go.Value renaming slice → Y
open Go.Value renaming pointer → O
open Go.Value renaming agg → M
open Go.Ending renaming returned → R
open Go.Obj renaming cells → OO
namespace Go.Proofs.YthboiahdheehkaaGreatDoor
section
set_option maxHeartbeats 8000000
set_option maxRecDepth 20000
open Go.RowKit
attribute [local go_sem] bs_toList
attribute [local go_sem] Oper.semAt_some
attribute [local irreducible] wpPhiU
theorem flat_at {k : Nat} : ∀ (css : List (List Value)), (∀ c ∈ css, c.length = k) → ∀ (i : Nat) (c : List Value), css[i]? = some c → ∀ (n : Nat) (u : Value), c[n]? = some u → css.flatten[i * k + n]? = some u
 | [], _, i, c, h, _, _, _ => by simp at h
 | d :: css, hl, i, c, h, n, u, hu => by
  have hd := hl d (by simp)
  have hn : n < c.length := (List.getElem?_eq_some_iff.1 hu).1
  rw [List.flatten_cons]
  cases i with
  | zero =>
   obtain rfl : d = c := by simpa using h
   rw [Nat.zero_mul, Nat.zero_add, List.getElem?_append_left hn]
   exact hu
  | succ i =>
   have h' : css[i]? = some c := by simpa using h
   rw [List.getElem?_append_right (by rw [hd, Nat.add_mul]; omega), hd, show (i + 1) * k + n - k = i * k + n by rw [Nat.add_mul]; omega]
   exact flat_at css (fun c hc => hl c (by simp [hc])) i c h' n u hu
theorem trl_lens {w : World} {P : Nat → Prop} : ∀ {ks : List Tr} {css : List (List Value)}, TrL w P ks css → Tr.okL 2 ks → ∀ c ∈ css, c.length = 5
 | [], css, h, _, c, hc => by unfold TrL at h; subst h; cases hc
 | k :: ks, css, h, hk, c, hc => by
  unfold TrL at h
  obtain ⟨d, ds, rfl, h1, h2⟩ := h
  have hk' : k.ok 2 ∧ Tr.okL 2 ks := hk
  rcases lI.1 hc with rfl | hc
  ·rw [h1.len]
   have : k.nm.length = 2 := by
    obtain ⟨nm, ats, kk, t⟩ := k
    exact hk'.1.1
   rw [this]
  ·exact trl_lens h2 hk'.2 c hc
theorem kid_row {w : World} {p : Option Addr} {ks : List Tr} {css : List (List Value)} {P : Nat → Prop} (h : Rd w p css.flatten) (hL : TrL w P ks css) (hk : Tr.okL 2 ks) {i b off : Nat} (hp : p = some ⟨b, off, none⟩) {c : List Value} (hc : css[i]? = some c) {v0 v1 v2 v3 v4 : Value}
  (h0 : w.cell? ⟨b, off + i * 5, none⟩ = some v0) (h1 : w.cell? ⟨b, off + i * 5 + 1, none⟩ = some v1) (h2 : w.cell? ⟨b, off + i * 5 + 2, none⟩ = some v2) (h3 : w.cell? ⟨b, off + i * 5 + 3, none⟩ = some v3) (h4 : w.cell? ⟨b, off + i * 5 + 4, none⟩ = some v4) : c = [v0, v1, v2, v3, v4] := by
 have hl := trl_lens hL hk
 have hcl := hl c (List.mem_of_getElem? hc)
 have key : ∀ n u, c[n]? = some u → w.cell? ⟨b, off + i * 5 + n, none⟩ = some u := fun n u hu => by
  have hf := flat_at css hl i c hc n u hu
  rcases h with h | ⟨b', off', hp', hr⟩
  ·rw [h] at hf; simp at hf
  ·rw [hp] at hp'
   cases hp'
   rw [Nat.add_assoc]
   exact hr _ _ hf
 match c, hcl with
 | [a0, a1, a2, a3, a4], _ =>
  have k0 := (key 0 a0 rfl).symm.trans h0; have k1 := (key 1 a1 rfl).symm.trans h1; have k2 := (key 2 a2 rfl).symm.trans h2; have k3 := (key 3 a3 rfl).symm.trans h3; have k4 := (key 4 a4 rfl).symm.trans h4
  cases k0; cases k1; cases k2; cases k3; cases k4
  rfl
abbrev ELT : TypeId := 44
theorem elems1_in (F : Fence) (hF : FreeF F) (hro : F.round = none) (mm l gb : Nat) (w : World) (J : Nat → World → Prop)
  (hG : ∀ k A, J k A → Below w.heap.size w A) (hK : ∀ k A C, J k A → Below A.heap.size A C → J k C) (ks : List Tr) (css : List (List Value)) (P : Nat → Prop) (c0 c1 c2 c4 : Value) (pk : Option Addr) (ck : Nat)
  (hrd : Rd w pk css.flatten) (hL : TrL w P ks css) (hok : Tr.okL 2 ks) (hnm : ∀ x ∈ ks, x.nm.getD 1 [] ≠ []) (hlen : ks.length ≤ 100000)
  (hgb : ∀ k A, J k A → Blk A gb ELT #[c0, c1, c2, Y pk ks.length ck, c4])
  (hY : ∀ (i mm : Nat) (A W : World) (cs : List Value), css[i]? = some cs → J i A → Below A.heap.size A W → YieldAt F mm pG l #[.agg cs.toArray] W fun e W' => e = R (.bool true) ∧ J (i + 1) W')
  (W : World) (h0 : J 0 W) :
  CallsIn F mm pG 185 #[.func (.yield l) #[] #[], O (some ⟨gb, 0, none⟩)] W fun e W' => (∃ v, e = R v) ∧ J ks.length W' := by
 have hb := hgb 0 W h0
 have d3 := (hb.cell 3).trans rfl
 have HF := Lib.hid hF
 have HG := Lib.hid hG
 have HK := Lib.hid hK
 have HRD := Lib.hid hrd
 have HL := Lib.hid hL
 have HOK := Lib.hid hok
 have HNM := Lib.hid hnm
 have HY := Lib.hid hY
 have H0 := Lib.hid h0
 have hdep := hF.depth
 clear hG hK hrd hL hok hnm hgb hY hb h0
 refine callsIn_of_wp Tryz.func185 rfl (hF.fn _) ?_ hro
 clear hF
 simp only [Tryz.ntmps185, List.size_toArray, lH, lP, Nat.reduceAdd, Nat.reduceSub, Array.replicate_succ, Array.replicate_zero, List.push_toArray, List.append_toArray, lE, lD]
 gi_wp2
 clear d3
 gi_loopw [8] (fun i wr => ∃ j : Nat, j ≤ ks.length ∧ i = .int .i64 (j : Int) ∧ J j wr) (fun i _ => ks.length - (intOf i).toNat)
 case atStart => exact ⟨0, by omega, rfl, H0.out⟩
 case round =>
  clear H0
  obtain ⟨j, hj, rfl, hjr⟩ := hrel
  by_cases hlt : j < ks.length
  ·obtain ⟨c, hc1, hc2⟩ := TrL.get HL.out j hlt
   obtain ⟨e1, o1, m0, m1, u1, u2, u3, u4, u5, u6, u7, rfl, hgx, hT1, hq0, hq1, hq2, hq3, hq4⟩ := kid_2 HRD.out HL.out HOK.out hlt
   have hlow := HG.out _ _ hjr
   have hcc : c = [S (bs m0), S (bs m1), Y u4 u1.length u5, Y u6 u2.length u7, S (bs u3)] := by
    exact kid_row HRD.out HL.out HOK.out rfl hc1 hq0 hq1 hq2 hq3 hq4
   subst hcc
   have hne : m1 ≠ [] := by
    have := HNM.out ks[j] (List.getElem_mem hlt)
    rw [hgx] at this
    exact this
   obtain ⟨mc, ml, rfl⟩ := List.exists_cons_of_ne_nil hne
   have hq0 := Below.keeps hlow _ _ hq0
   have hq1 := Below.keeps hlow _ _ hq1
   have hq2 := Below.keeps hlow _ _ hq2
   have hq3 := Below.keeps hlow _ _ hq3
   have hq4 := Below.keeps hlow _ _ hq4
   have hlt' : (j : Int) < (ks.length : Int) := by omega
   have HBA := Lib.hid (below_alloc1 wr (OO #[S (bs m0), S (bs (mc :: ml)), Y u4 u1.length u5, Y u6 u2.length u7, S (bs u3)] ELT))
   have hNA := Blk.new wr ELT #[S (bs m0), S (bs (mc :: ml)), Y u4 u1.length u5, Y u6 u2.length u7, S (bs u3)]
   obtain ⟨d0, d1, d2, d3, d4, -⟩ := hNA.cc
   obtain ⟨fn, tmps, assign, body, hy, hR⟩ := HY.out j (mm - 1) wr _ _ hc1 hjr HBA.out
   have HR := Lib.hid hR
   clear hR hgx hlow hNA hjr hT1 hc1 hc2 hne
   gi_wp2
   refine HR.out.mono ?_
   rintro e W3 ⟨rfl, hj3⟩
   have HJ3 := Lib.hid hj3
   clear hj3 hy d0 d1 d2 d3 d4 hq0 hq1 hq2 hq3 hq4
   gi_wp2
   go_roundw
   case rel => exact ⟨j + 1, by omega, by go_num, HJ3.out⟩
   case measure => simp [intOf]; omega
  ·obtain rfl : j = ks.length := by omega
   have HJ4 := Lib.hid hjr
   clear hjr
   gi_wp2
   go_end0
   exact ⟨⟨_, rfl⟩, HJ4.out⟩
theorem trl_ones {w : World} {P : Nat → Prop} : ∀ {ks : List Tr} {css : List (List Value)}, TrL w P ks css → ∀ c ∈ css, ∀ u ∈ c, u.oneCell' = true
 | [], css, h, c, hc => by unfold TrL at h; subst h; cases hc
 | k :: ks, css, h, c, hc => by
  unfold TrL at h
  obtain ⟨d, ds, rfl, h1, h2⟩ := h
  rcases lI.1 hc with rfl | hc
  ·exact h1.one
  ·exact trl_ones h2 c hc
theorem trl_form {w : World} {P : Nat → Prop} : ∀ {ks : List Tr} {css : List (List Value)}, TrL w P ks css → Tr.okL 2 ks → ∀ c ∈ css, ∃ s0 s1 p1 n1 c1 p2 n2 c2 s4, c = [.string s0, .string s1, Y p1 n1 c1, Y p2 n2 c2, .string s4]
 | [], css, h, _, c, hc => by unfold TrL at h; subst h; cases hc
 | k :: ks, css, h, hk, c, hc => by
  unfold TrL at h
  obtain ⟨d, ds, rfl, h1, h2⟩ := h
  have hk' : k.ok 2 ∧ Tr.okL 2 ks := hk
  rcases lI.1 hc with rfl | hc
  ·obtain ⟨nm, ats, kk, t⟩ := k
   unfold TrC at h1
   obtain ⟨pa, ca, pk, ck, css, rfl, _⟩ := h1
   obtain ⟨a, b, rfl⟩ := two_of hk'.1.1
   exact ⟨_, _, _, _, _, _, _, _, _, rfl⟩
  ·exact trl_form h2 hk'.2 c hc
theorem blk_ne {w : World} {g g' : Nat} {t t' : TypeId} {cs cs' : Array Value} (h : Blk w g t cs) (h' : Blk w g' t' cs') (hne : t ≠ t') : g ≠ g' := by
 intro e
 subst e
 unfold Blk at h h'
 rw [h] at h'
 injection h' with h'
 injection h' with _ h2 _
 exact hne h2
theorem below_others {W W' : World} (h : Below W.heap.size W W') : KeepsOthers W W' := ⟨h.size, fun k o hk _ => (h.block k (aA.1 hk).1).trans hk⟩
theorem rT_others {ja j base size n : Nat} {e : TypeId} {v : Value} {w w' : World} (h : rT ja base size e v n j w w') : KeepsOthers w w' := by
 unfold rT at h
 split at h
 ·obtain ⟨⟨xs, ho⟩, hg⟩ := h
  refine KeepsOthers.of_grownBy hg fun j o hj hh => ?_
  obtain ⟨_, cur, hb⟩ := owns_blk ho j hj
  unfold Blk at hb
  rw [hb] at hh
  cases hh
  rfl
 ·exact below_others h
theorem rT_kt {ja j base size n B : Nat} {e : TypeId} {v : Value} {w w' : World} (h : rT ja base size e v n j w w') : KT e B w w' := by
 intro g t cs ht _ hb
 have h0 := h
 unfold rT at h0
 split at h0
 ·obtain ⟨⟨xs, ho⟩, hg⟩ := h0
  refine rT_blk h hb fun hv => ?_
  obtain ⟨_, cur, hc⟩ := owns_blk ho g hv
  exact blk_ne hb hc ht rfl
 ·exact hb.below h0 hb.lt
theorem only_others {g : Nat} {w w' : World} {t : TypeId} {cs : Array Value} (k : Only g w w') (hb : Blk w g t cs) : KeepsOthers w w' :=
 ⟨by rw [k.size]; exact nR _, fun i o hi ho => (k.block i (fun e => by subst e; unfold Blk at hb; rw [hb] at hi; cases hi; cases ho)).trans hi⟩
theorem only_kt {g B : Nat} {e : TypeId} {w w' : World} (k : Only g w w') (h : g < B ∨ ∃ cs, Blk w g e cs) : KT e B w w' := by
 intro i t cs ht hB hb
 refine k.blk hb fun he => ?_
 rcases h with h | ⟨cs', h⟩
 ·omega
 ·exact blk_ne hb h ht he
def PApS (base size : Nat) (t : TypeId) (n : Nat) (xs : List Value) : Part := ⟨fun v => ∃ g c, v = Y (some ⟨g, 0, none⟩) n c, fun w v => w.ownsRow base t size v n xs⟩
theorem own_some {w : World} {base size n : Nat} {e : TypeId} {v : Value} {xs : List Value} (h : w.ownsRow base e size v (n + 1) xs) : ∃ g c, v = Y (some ⟨g, 0, none⟩) (n + 1) c := by
 rcases h.2 with ⟨_, h0⟩ | ⟨g, c, _, rfl, _⟩
 ·omega
 ·exact ⟨g, c, rfl⟩
def CJ (css : List (List Value)) (gb : Nat) (bx : Array Value) (w : World) (k : Nat) (W : World) : Prop :=
 Below w.heap.size w W ∧ Blk W gb ELT bx ∧ w.heap.size < W.heap.size ∧ ∃ v, Blk W w.heap.size 39 #[v] ∧ W.ownsRow (w.heap.size + 1) ELT 5 v k (css.take k).flatten
theorem CJ.sees {css : List (List Value)} {gb : Nat} {bx : Array Value} {w W W' : World} {k B : Nat} (h : CJ css gb bx w k W) (s : Sees B W W') (hB : w.heap.size ≤ B) : CJ css gb bx w k W' := by
 obtain ⟨h1, h2, h3, v, h4, h5⟩ := h
 exact ⟨s.below hB h1 (Nat.le_of_lt h3), s.blk h2, Nat.lt_of_lt_of_le h3 s.size, v, s.blk h4, s.owns h5⟩
def CKn (css : List (List Value)) (k : Nat) (args : Array Value) (_ _ : World) : Prop := ∃ cs : List Value, css[k]? = some cs ∧ args = #[.agg cs.toArray]
def CBd (css : List (List Value)) (gb g0 : Nat) (k : Nat) (_ : Array Value) (a' : Act) (A W : World) : Prop :=
 ∃ v0 v1 v2 v3 v4 g5, css[k]? = some [v0, v1, v2, v3, v4] ∧ Blk W g5 ELT #[v0, v1, v2, v3, v4] ∧ A.heap.size ≤ g5 ∧ a' = { tmps := #[Y none 0 0, .func (.func 185) #[] #[O (some ⟨gb, 0, none⟩)], O (some ⟨g0, 0, none⟩), undef, Y none 0 0, O (some ⟨g5, 0, none⟩), .func (.func 185) #[] #[O (some ⟨gb, 0, none⟩)], M #[v0, v1, v2, v3, v4], undef, undef, undef, undef, undef, undef, undef], defers := [] }
theorem appseq_any (ks : List Tr) (css : List (List Value)) (P : Nat → Prop) (c0 c1 c2 c4 : Value) (pk : Option Addr) (ck gb : Nat) (w : World)
  (hrd : Rd w pk css.flatten) (hL : TrL w P ks css) (hok : Tr.okL 2 ks) (hnm : ∀ x ∈ ks, x.nm.getD 1 [] ≠ []) (hlen : ks.length ≤ 100000) (hbx : Blk w gb ELT #[c0, c1, c2, Y pk ks.length ck, c4]) :
  Calls pG 184 #[Y none 0 0, .func (.func 185) #[] #[O (some ⟨gb, 0, none⟩)]] w fun e w' => ∃ v, e = R v ∧ w'.ownsRow (w.heap.size + 1) ELT 5 v ks.length css.flatten ∧ Below w.heap.size w w' := by
 have hcl : css.length = ks.length := hL.len
 have hlens := trl_lens hL hok
 have HONES := Lib.hid (trl_ones hL)
 have HFORM := Lib.hid (trl_form hL hok)
 obtain ⟨i9, hi9, hy0, hy1, hy2⟩ := info_parts elem25_info
 have hw1 : (w.alloc (OO #[Y none 0 0] 39)).heap.size = w.heap.size + 1 := by simp
 have hJ0 : CJ css gb #[c0, c1, c2, Y pk ks.length ck, c4] w 0 (w.alloc (OO #[Y none 0 0] 39)) := ⟨below_alloc1 w _, hbx.alloc _, by simp, Y none 0 0, Blk.new _ _ _, rfl, .inl ⟨rfl, rfl⟩⟩
 have HJ0 := Lib.hid hJ0
 have HGB := Lib.hid hbx.lt
 have HRD := Lib.hid hrd
 have HL := Lib.hid hL
 have HOK := Lib.hid hok
 have HNM := Lib.hid hnm
 have HLENS := Lib.hid hlens
 clear hrd hL hok hnm hbx hJ0 hlens
 refine (callsIn_wide (n := 5)).1 (callsIn_of_wp_marks (F := Fence.wide) Tryz.func184 rfl trivial (wpIn_wide.2 ?_))
 simp only [Tryz.ntmps184, List.size_toArray, lH, lP, Nat.reduceAdd, Nat.reduceSub, Array.replicate_succ, Array.replicate_zero, List.push_toArray, List.append_toArray, lE, lD]
 go_wp2_with fail
 generalize w.alloc (OO #[Y none 0 0] 39) = w1 at *
 refine (wpIn_wide (n := 5)).1 ?_
 refine wpIn_rangeM ELT rfl (by omega) (gf := 185) (lb := #[O (some ⟨gb, 0, none⟩)]) rfl trivial (enters_of Tryz.func185 (by kernel_rfl) rfl)
  (CJ css gb #[c0, c1, c2, Y pk ks.length ck, c4] w) (CKn css) ks.length (fun k W W' h k' => h.sees k' (by omega)) HJ0.out (CBd css gb w.heap.size) (fun k args a' A W W' h k' => ?hBd) ?hps ?hiter ?hassign ?hbody ?hdone
 case hBd =>
  obtain ⟨v0, v1, v2, v3, v4, g5, h1, h2, h3, h4⟩ := h
  exact ⟨v0, v1, v2, v3, v4, g5, h1, k'.blk h2, h3, h4⟩
 case hps =>
  rintro k args A W ⟨cs, h1, rfl⟩
  rfl
 case hiter =>
  intro l W J' hbW hJ1 hJ2 hY h0
  exact elems1_in Fence.wide FreeF.wide rfl _ l gb w J' (fun k A h => (hJ2 k A h).1) hJ1 ks css P c0 c1 c2 c4 pk ck HRD.out HL.out HOK.out HNM.out hlen (fun k A h => (hJ2 k A h).2.1)
   (fun i mm A W cs hi hA hAW => (yield_any rfl mm (hY i _ A W (by have := (List.getElem?_eq_some_iff.1 hi).1; omega) hA hAW ⟨cs, hi, rfl⟩)).mono fun e W' h => ⟨h.1, h.2.1⟩) W h0
 case hassign =>
  rintro l k args A W K ⟨cs, h1, rfl⟩ hjA hAW hK
  obtain ⟨s0, s1, p1, n1, c1', p2, n2, c2', s4, rfl⟩ := HFORM.out cs (List.mem_of_getElem? h1)
  gi_wp2
  refine hK _ _ (below_alloc1 _ _) ?_
  exact ⟨_, _, _, _, _, W.heap.size, h1, Blk.new _ _ _, hAW.size, rfl⟩
 case hbody =>
  rintro l k args a' A W hk hjA hs ⟨v0, v1, v2, v3, v4, g5, hc, hb5, hg5, rfl⟩
  have hj := hjA.sees hs (by omega)
  obtain ⟨q1, q2, q3, v, q4, q5⟩ := hjA
  have hvlt := fun g hg => (q5.lt g hg).2
  obtain ⟨h1, h2, h3, v', h4, h5⟩ := hj
  have hvv : v' = v := by
   have := hs.blk q4
   unfold Blk at this h4
   rw [this] at h4
   simpa using h4.symm
  subst hvv
  obtain ⟨pv, cv, rfl, _, _, _⟩ := owns_rd h5
  have HVL := Lib.hid (show ∀ g, (Y pv k cv).ownBlock = some g → w.heap.size + 1 ≤ g ∧ g < g5 from fun g hg => ⟨(h5.lt g hg).1, by have := hvlt g hg; omega⟩)
  have HON := Lib.hid (HONES.out _ (List.mem_of_getElem? hc))
  have HTK := Lib.hid (show (css.take (k + 1)).flatten = (css.take k).flatten ++ [v0, v1, v2, v3, v4] from by
   rw [List.take_add_one, hc, List.flatten_append]
   rfl)
  have HXL := Lib.hid (show (css.take k).flatten.length = k * 5 from h5.1)
  have HK := Lib.hid hk
  have HC := Lib.hid hc
  have G1 := Lib.hid h1; have G2 := Lib.hid h2; have G3 := Lib.hid h3; have G4 := Lib.hid h4; have G5 := Lib.hid h5; have GE := Lib.hid hb5
  generalize (css.take k).flatten = xs at *
  clear q1 q2 q3 q4 q5 hvlt h1 h2 h3 h4 h5 hb5 hs hc
  gi_wp2
  refine wp_phiE_in (FreeF.wide.inRound _) (List.take 5 _) (List.drop 5 _) (List.take_append_drop 5 _).symm (rT 4 (w.heap.size + 1) 5 ELT (Y pv k cv) k)
   (fun w' => Blk w' w.heap.size 39 #[Y pv k cv] ∧ Blk w' g5 ELT #[v0, v1, v2, v3, v4] ∧ Blk w' gb ELT #[c0, c1, c2, Y pk ks.length ck, c4] ∧ KeepsOthers W w' ∧ KT ELT w1.heap.size W w' ∧ Below w.heap.size w w' ∧ W.heap.size ≤ w'.heap.size)
   [(3, PBlk W.heap.size ELT #[S ⟨#[]⟩, S ⟨#[]⟩, Y none 0 0, Y none 0 0, S ⟨#[]⟩] 1), (4, PApS (w.heap.size + 1) 5 ELT (k + 1) (xs ++ (#[S ⟨#[]⟩, S ⟨#[]⟩, Y none 0 0, Y none 0 0, S ⟨#[]⟩] : Array Value).toList))] [(4, [3])] [(4, fun w' => w'.ownsRow (w.heap.size + 1) ELT 5 (Y pv k cv) k xs)] [] (by kernel_rfl) (by kernel_rfl) (by kernel_rfl) (by kernel_rfl) ?_ ?_ ?_ ?_ ?_ ?_
  ·rintro p _ w1' w2' ⟨g1, g2, g3, g4, g6, g7, g8⟩ hR
   have h3 := G3.out
   refine ⟨rT_blklo hR g1 (by omega), rT_blk hR g2 (fun e => by have := (HVL.out _ e).2; omega), ?_, g4.trans (rT_others hR), g6.trans (rT_kt hR), rT_below hR g7 (by omega) (by omega), Nat.le_trans g8 (rT_size hR)⟩
   exact rT_blk hR g3 (fun e => by have := (HVL.out _ e).1; have := HGB.out; omega)
  ·intro p hp p' hp' hne hks hns _ w1' w2' vv hI hR hf
   simp only [lI, lG, or_false] at hp hp'
   rcases hp with rfl | rfl
   ·exact fun g hg => ⟨(hf g hg).1, rT_blk hR (hf g hg).2 fun e => by (have h1 := (hf g hg).1; have h2 := (HVL.out g e).2; have h3 := GE.out.lt; omega)⟩
   ·rcases hp' with rfl | rfl
    ·exact absurd (show (3 : Nat) ∈ needs [(4, [3])] 4 by decide) hns
    ·exact absurd rfl hne
  ·intro p hp u hu hne w1' w2' hI hR hf
   simp only [lI, lG, or_false] at hp hu
   subst hu
   rcases hp with rfl | rfl
   ·have hR := rT_o (show (3 : Nat) ≠ 4 by decide) ▸ hR
    exact owns_below hf hR
   ·exact absurd rfl hne
  ·intro u hu
   simp only [lI, lG, or_false] at hu
   subst hu
   exact owns_below G5.out (Below.refl _ _).drew
  ·exact ⟨G4.out, GE.out, G2.out, KeepsOthers.drew W, KT.refl _ _ _, G1.out.drew, nR _⟩
  simp only [List.take_succ_cons, List.take_zero, List.drop_succ_cons, List.drop_zero]
  repeat ((first | refine phiU_skipK rfl (fun K hK => ?_) | (refine phiU_pureK rfl rfl (fun K hK => ?_); apply xI; constructor; (focus (rintro w' ⟨g1, g2, g3, g4, g6, g7, g8⟩; have k0 := (g1.cell 0).trans rfl; obtain ⟨e0, e1, e2, e3, e4, -⟩ := g2.cc; clear g1 g2 g3 g4 g6 g7 g8; first | (go_simp; done) | (go_simp; (try go_bits); (try go_simp); rfl) | go_simp)))); simp only [Act.put, lA, lB, lC, lD, lE]; apply hK; clear hK K)
  refine phiU_partK (PBlk W.heap.size ELT #[S ⟨#[]⟩, S ⟨#[]⟩, Y none 0 0, Y none 0 0, S ⟨#[]⟩] 1) rfl rfl ⟨_, 0, rfl⟩ ?_ (fun K hK v hv => ?_)
  ·rintro w' ⟨g1, g2, g3, g4, g6, g7, g8⟩ hf hu
   have HGS := Lib.hid g8
   clear hf hu g1 g2 g3 g4 g6 g7 g8
   unfold gives
   go_simp
   refine ⟨⟨_, rfl⟩, fun g hg => ?_, by rw [rT_o (by decide)]; exact below_alloc1 _ _⟩
   obtain rfl : w'.heap.size = g := by simpa using hg
   exact ⟨HGS.out, Blk.new _ _ _⟩
  obtain ⟨y3, rfl⟩ := hv
  simp only [Act.put, lA, lB, lC, lD, lE]
  apply hK
  clear hK K
  refine phiU_partK (PApS (w.heap.size + 1) 5 ELT (k + 1) (xs ++ (#[S ⟨#[]⟩, S ⟨#[]⟩, Y none 0 0, Y none 0 0, S ⟨#[]⟩] : Array Value).toList)) rfl rfl ⟨_, 0, 0, rfl⟩ ?_ (fun K hK v hv => ?_)
  ·rintro w' ⟨g1, g2, g3, g4, g6, g7, g8⟩ hf hu
   have h4 := hf (3, fun w1 => (PBlk W.heap.size ELT #[S ⟨#[]⟩, S ⟨#[]⟩, Y none 0 0, Y none 0 0, S ⟨#[]⟩] 1).fact w1 (Y (some ⟨y3, 0, none⟩) 1 1)) (by simp) (List.contains_iff_mem.1 rfl) rfl
   obtain ⟨h4b, b4⟩ := h4 y3 rfl
   have hu8 : w'.ownsRow (w.heap.size + 1) ELT 5 (Y pv k cv) k xs := hu (4, fun w' => w'.ownsRow (w.heap.size + 1) ELT 5 (Y pv k cv) k xs) (by simp) rfl
   have hk9 := HK.out
   have hsz := g1.lt
   clear hf hu h4
   refine gives_appAt (.tmp 8) (.tmp 11) 39 rfl (w.heap.size + 1) ELT i9 (M #[S ⟨#[]⟩, S ⟨#[]⟩, Y none 0 0, Y none 0 0, S ⟨#[]⟩]) 5 96 Tryz.underlying39 hi9 hy0 hy1 hy2 rfl (by decide) _ _ _ rfl hu8 _ _ _ (#[S ⟨#[]⟩, S ⟨#[]⟩, Y none 0 0, Y none 0 0, S ⟨#[]⟩] : Array Value).toList rfl rfl (rd_blk b4) (by simp [Value.oneCell']) (by unfold maxLen; omega) (by omega) (by omega) ?_
   intro v2 w2' ho2 hg2 hat2
   obtain ⟨p2, c2', rfl⟩ := own_some ho2
   refine ⟨⟨p2, c2', rfl⟩, ho2, ?_⟩
   rw [rT_at]
   exact ⟨⟨_, hu8⟩, hg2⟩
  obtain ⟨g', c', rfl⟩ := hv
  simp only [Act.put, lA, lB, lC, lD, lE]
  apply hK
  clear hK K
  refine phiU_done ?_
  rintro w9 ⟨g1, g2, g3, g4, g6, g7, g8⟩ hf
  have ho9 : w9.ownsRow (w.heap.size + 1) ELT 5 (Y (some ⟨g', 0, none⟩) (k + 1) c') (k + 1) (xs ++ (#[S ⟨#[]⟩, S ⟨#[]⟩, Y none 0 0, Y none 0 0, S ⟨#[]⟩] : Array Value).toList) := hf (4, fun w1 => (PApS (w.heap.size + 1) 5 ELT (k + 1) (xs ++ (#[S ⟨#[]⟩, S ⟨#[]⟩, Y none 0 0, Y none 0 0, S ⟨#[]⟩] : Array Value).toList)).fact w1 (Y (some ⟨g', 0, none⟩) (k + 1) c')) (by simp) rfl
  clear hf
  obtain ⟨hgB, cur, hcur⟩ := owns_blk ho9 g' rfl
  have HON2 := Lib.hid (show ∀ v ∈ (#[v0, v1, v2, v3, v4] : Array Value).toList, v.oneCell' = true from HON.out)
  have HFIT := Lib.hid (show k * 5 + 5 ≤ cur.size from by
   rcases ho9.2 with ⟨h0, _⟩ | ⟨g9, cap, cur9, h0, _, h2, h3, _, h5, _⟩
   ·cases h0
   ·cases h0
    unfold Blk at hcur
    rw [hcur] at h2
    cases h2
    rw [h5]
    have := Nat.mul_le_mul_right 5 h3
    omega)
  have hgL : g' ≠ w.heap.size := by omega
  have HCUR := Lib.hid hcur; have HO9 := Lib.hid ho9
  have f0 := g1.frozen 0
  have k0 := (g1.cell 0).trans rfl
  have O1 := (Only.refl w.heap.size w9).set_ 0 (Y (some ⟨g', 0, none⟩) (k + 1) c')
  have HB1 := Lib.hid (show Blk (w9.setCell ⟨w.heap.size, 0, none⟩ (Y (some ⟨g', 0, none⟩) (k + 1) c')) w.heap.size 39 #[Y (some ⟨g', 0, none⟩) (k + 1) c'] from g1.set_ 0 _)
  have HC1 := Lib.hid (O1.blk hcur hgL)
  have HO1 := Lib.hid (owns_only O1 ho9 (fun b hb => by cases hb; exact hgL))
  have HK1 := Lib.hid (show KeepsOthers W (w9.setCell ⟨w.heap.size, 0, none⟩ (Y (some ⟨g', 0, none⟩) (k + 1) c')) ∧ KT ELT w1.heap.size W (w9.setCell ⟨w.heap.size, 0, none⟩ (Y (some ⟨g', 0, none⟩) (k + 1) c')) ∧ Below w.heap.size w (w9.setCell ⟨w.heap.size, 0, none⟩ (Y (some ⟨g', 0, none⟩) (k + 1) c')) ∧ Blk (w9.setCell ⟨w.heap.size, 0, none⟩ (Y (some ⟨g', 0, none⟩) (k + 1) c')) gb ELT #[c0, c1, c2, Y pk ks.length ck, c4] from
   ⟨g4.trans (only_others O1 g1), g6.trans (only_kt O1 (.inl (by omega))), g7.trans (O1.below (nR _)), O1.blk g3 (by have := HGB.out; omega)⟩)
  have HN9 := Lib.hid (And.intro g1 (And.intro g3 (And.intro g4 (And.intro g6 g7))))
  -- the end, whichever store came last
  have fin6 : ∀ (wa wb : World), Blk wa w.heap.size 39 #[Y (some ⟨g', 0, none⟩) (k + 1) c'] → wa.ownsRow (w.heap.size + 1) ELT 5 (Y (some ⟨g', 0, none⟩) (k + 1) c') (k + 1) (xs ++ (#[S ⟨#[]⟩, S ⟨#[]⟩, Y none 0 0, Y none 0 0, S ⟨#[]⟩] : Array Value).toList) → Blk wa g' ELT cur → KeepsOthers W wa ∧ KT ELT w1.heap.size W wa ∧ Below w.heap.size w wa ∧ Blk wa gb ELT #[c0, c1, c2, Y pk ks.length ck, c4] →
    Blk wb g' ELT (putCells cur (k * 5) #[v0, v1, v2, v3, v4]) → Only g' wa wb → KeepsFrom w1.heap.size W wb ∧ CJ css gb #[c0, c1, c2, Y pk ks.length ck, c4] w (k + 1) wb ∧ KT ELT w1.heap.size W wb := by
   intro wa wb h1 h2 h3 h4 h5 h6
   refine ⟨(h4.1.trans (only_others h6 h3)).from _, ⟨h4.2.2.1.trans (h6.below (by omega)), h6.blk h4.2.2.2 (by have := HGB.out; omega), (h6.blk h1 (by omega)).lt, _, h6.blk h1 (by omega), ?_⟩, h4.2.1.trans (only_kt h6 (.inr ⟨_, h3⟩))⟩
   rw [HTK.out]
   exact own_put h2 HXL.out rfl rfl h3 h5
  clear g1 g2 g3 g4 g6 g7 g8 hcur ho9 O1
  refine rest_three rfl rfl rfl rfl (by kernel_rfl) (by kernel_rfl) (by kernel_rfl) (by kernel_rfl) (O (some ⟨g', k * 5, none⟩)) rfl ?_ ?_ ?_ ?_
  ·clear f0 k0
   go_simp
   intro h
   omega
  ·-- the element, then the slice
   simp only [Act.put, List.getElem_toArray, List.getElem_cons_succ, List.getElem_cons_zero, lA, lB, lC, List.getElem?_toArray]
   refine wpList_store (.tmp 13) (.tmp 9) ELT rfl rfl g' (k * 5) ELT cur #[v0, v1, v2, v3, v4] rfl rfl HCUR.out (by kernel_rfl) HON2.out (by have := HFIT.out; simp only [List.size_toArray, lH, lP]; omega) ?_
   intro wa hba hoa
   have hn := HN9.out
   have e1 := hoa.blk hn.1 (by omega)
   have f0 := e1.frozen 0
   have k0 := (e1.cell 0).trans rfl
   have O2 := (Only.refl w.heap.size wa).set_ 0 (Y (some ⟨g', 0, none⟩) (k + 1) c')
   have R1 := Lib.hid (show Blk (wa.setCell ⟨w.heap.size, 0, none⟩ (Y (some ⟨g', 0, none⟩) (k + 1) c')) w.heap.size 39 #[Y (some ⟨g', 0, none⟩) (k + 1) c'] from e1.set_ 0 _)
   have R2 := Lib.hid (show (wa.setCell ⟨w.heap.size, 0, none⟩ (Y (some ⟨g', 0, none⟩) (k + 1) c')).ownsRow (w.heap.size + 1) ELT 5 (Y (some ⟨g', 0, none⟩) (k + 1) c') (k + 1) ((css.take (k + 1)).flatten) from by
    rw [HTK.out]
    exact owns_only O2 (own_put HO9.out HXL.out rfl rfl HCUR.out hba) (fun b hb => by cases hb; exact hgL))
   have R3 := Lib.hid (show KeepsOthers W (wa.setCell ⟨w.heap.size, 0, none⟩ (Y (some ⟨g', 0, none⟩) (k + 1) c')) ∧ KT ELT w1.heap.size W (wa.setCell ⟨w.heap.size, 0, none⟩ (Y (some ⟨g', 0, none⟩) (k + 1) c')) ∧ Below w.heap.size w (wa.setCell ⟨w.heap.size, 0, none⟩ (Y (some ⟨g', 0, none⟩) (k + 1) c')) ∧ Blk (wa.setCell ⟨w.heap.size, 0, none⟩ (Y (some ⟨g', 0, none⟩) (k + 1) c')) gb ELT #[c0, c1, c2, Y pk ks.length ck, c4] from
    ⟨(hn.2.2.1.trans (only_others hoa HCUR.out)).trans (only_others O2 e1), (hn.2.2.2.1.trans (only_kt hoa (.inr ⟨_, HCUR.out⟩))).trans (only_kt O2 (.inl (by omega))), (hn.2.2.2.2.trans (hoa.below (by omega))).trans (O2.below (nR _)), O2.blk (hoa.blk hn.2.1 (by have := HGB.out; omega)) (by have := HGB.out; omega)⟩)
   clear hn e1 O2 hba hoa fin6
   go_wp2_with fail
   exact ⟨by simp, rfl, R3.out.1.from _, ⟨R3.out.2.2.1, R3.out.2.2.2, R1.out.lt, _, R1.out, R2.out⟩, R3.out.2.1⟩
  ·-- the slice, then the element
   simp only [Act.put, List.getElem_toArray, List.getElem_cons_succ, List.getElem_cons_zero, lA, lB, lC, List.getElem?_toArray]
   go_wp2_with (refine wpList_store (.tmp 13) (.tmp 9) ELT rfl rfl g' (k * 5) ELT cur #[v0, v1, v2, v3, v4] rfl rfl HC1.out (by kernel_rfl) HON2.out (by have := HFIT.out; simp only [List.size_toArray, lH, lP]; omega) ?_)
   intro wb hbb hob
   have h := fin6 _ wb HB1.out HO1.out HC1.out HK1.out hbb hob
   exact inQ_nil ⟨rfl, h⟩
  ·simp only [Act.put, List.getElem_toArray, List.getElem_cons_succ, List.getElem_cons_zero, lA, lB, lC, List.getElem?_toArray]
   have hbk : ¬ ((k : Int) + 1 ≤ (k : Int)) := by omega
   go_wp2_with (refine wpList_store (.tmp 13) (.tmp 9) ELT rfl rfl g' (k * 5) ELT cur #[v0, v1, v2, v3, v4] rfl rfl HC1.out (by kernel_rfl) HON2.out (by have := HFIT.out; simp only [List.size_toArray, lH, lP]; omega) ?_)
   intro wb hbb hob
   have h := fin6 _ wb HB1.out HO1.out HC1.out HK1.out hbb hob
   exact inQ_nil ⟨rfl, h⟩
 case hdone =>
  intro D W hD hj hW
  obtain ⟨h1, h2, h3, v, h4, h5⟩ := hj
  rw [List.take_of_length_le (by omega)] at h5
  have hDn : D ≠ w.heap.size := by omega
  have k0 := (h4.cell 0).trans rfl
  have HMK := Lib.hid hW
  have HFIN := Lib.hid (show (W.putObj D (.deferred none)).ownsRow (w.heap.size + 1) ELT 5 v ks.length css.flatten ∧ Below w.heap.size w (W.putObj D (.deferred none)) from
   ⟨(Sees.putObj (B := w.heap.size + 1) (.deferred none) (by omega) hW rfl).owns h5, below_mark h1 (by omega) hW⟩)
  clear h1 h2 h3 h4 h5 hW HJ0 HRD HL HOK HNM HLENS HONES HFORM
  go_wp2_with fail
  refine leaves_one HMK.out ⟨v, ?_, v, rfl, HFIN.out.1, HFIN.out.2⟩
  simp [results, Tryz.results184, go_sem]
end
section
set_option maxHeartbeats 8000000
set_option maxRecDepth 20000
open Go.RowKit Go.Extern.Stop Go.Stop Go.Extern
attribute [local go_sem] bs_toList
theorem elems_any (c0 c1 c2 c3 c4 : Value) (w : World) :
  Calls pG 135 #[M #[c0, c1, c2, c3, c4]] w fun e w' => e = R (.func (.func 185) #[] #[O (some ⟨w.heap.size, 0, none⟩)]) ∧ w' = w.alloc (OO #[c0, c1, c2, c3, c4] ELT) := by
 have hmf := @run_mkF2 pG
 go_enter Tryz.func135, Tryz.ntmps135
 go_wp2_with fail
 go_ret
 exact ⟨rfl, rfl⟩
theorem collect_any (ks : List Tr) (css : List (List Value)) (P : Nat → Prop) (c0 c1 c2 c4 : Value) (pk : Option Addr) (ck gb : Nat) (w : World)
  (hrd : Rd w pk css.flatten) (hL : TrL w P ks css) (hok : Tr.okL 2 ks) (hnm : ∀ x ∈ ks, x.nm.getD 1 [] ≠ []) (hlen : ks.length ≤ 100000) (hbx : Blk w gb ELT #[c0, c1, c2, Y pk ks.length ck, c4]) :
  Calls pG 134 #[.func (.func 185) #[] #[O (some ⟨gb, 0, none⟩)]] w fun e w' => ∃ v, e = R v ∧ w'.ownsRow (w.heap.size + 1) ELT 5 v ks.length css.flatten ∧ Below w.heap.size w w' := by
 have HA := Lib.hid (appseq_any ks css P c0 c1 c2 c4 pk ck gb w hrd hL hok hnm hlen hbx)
 clear hrd hL hok hnm hbx
 go_enter Tryz.func134, Tryz.ntmps134
 go_wp2_with fail
 refine HA.out.mono ?_
 rintro e w1 ⟨v, rfl, ho, hb⟩
 have HO := Lib.hid (And.intro ho hb)
 clear ho hb
 go_wp2_with fail
 go_ret
 exact ⟨v, rfl, HO.out⟩
theorem kids_any (ks : List Tr) (css : List (List Value)) (P : Nat → Prop) (s0 s1 st : List UInt8) (pa : Option Addr) (ca : Nat) (pk : Option Addr) (ck : Nat) (w : World)
  (hrd : Rd w pk css.flatten) (hL : TrL w P ks css) (hok : Tr.okL 2 ks) (hnm : ∀ x ∈ ks, x.nm.getD 1 [] ≠ []) (hlen : ks.length ≤ 100000) :
  Calls pG 80 #[M #[S (bs s0), S (bs s1), Y pa 0 ca, Y pk ks.length ck, S (bs st)]] w fun e w' => ∃ v, e = R v ∧ w'.ownsRow w.heap.size ELT 5 v ks.length css.flatten ∧ Below w.heap.size w w' := by
 have hba := below_alloc1 w (OO #[S (bs s0), S (bs s1), Y pa 0 ca, Y pk ks.length ck, S (bs st)] ELT)
 have hn := Blk.new w ELT #[S (bs s0), S (bs s1), Y pa 0 ca, Y pk ks.length ck, S (bs st)]
 obtain ⟨-, -, z2, z3, -⟩ := hn.cc
 have HBA := Lib.hid hba
 have HN := Lib.hid hn
 have HRD := Lib.hid hrd
 have HL := Lib.hid hL
 have HOK := Lib.hid hok
 have HNM := Lib.hid hnm
 clear hba hn hrd hL hok hnm
 go_enter Tryz.func80, Tryz.ntmps80
 go_wp2_with (go_at_call 72; refine (sofail_y _).mono ?_; rintro e w2 ⟨rfl, rfl⟩)
 generalize w.alloc (OO #[S (bs s0), S (bs s1), Y pa 0 ca, Y pk ks.length ck, S (bs st)] ELT) = wa at *
 clear z2 z3
 go_loopw [13] (fun iv wr => ∃ k : Nat, k ≤ ks.length ∧ iv = .int .i64 k ∧ Below wa.heap.size wa wr) (fun iv _ => ks.length - (intOf iv).toNat)
 case atStart => exact ⟨0, by omega, rfl, Below.refl _ _⟩
 case round =>
  obtain ⟨k, hk, rfl, hbr⟩ := hrel
  have hbw := HBA.out.trans (hbr.mono HBA.out.size)
  by_cases hlt : k < ks.length
  ·obtain ⟨e1, o1, m0, m1, u1, u2, u3, q1, q2, q3, q4, rfl, hgx, hT1, hk0, hk1, hk2, hk3, hk4⟩ := kid_2 HRD.out HL.out HOK.out hlt
   have hne : m1 ≠ [] := by
    have := HNM.out ks[k] (List.getElem_mem hlt)
    rw [hgx] at this
    exact this
   obtain ⟨mc, ml, rfl⟩ := List.exists_cons_of_ne_nil hne
   have hk0 := Below.keeps hbw _ _ hk0
   have hk1 := Below.keeps hbw _ _ hk1
   have hk2 := Below.keeps hbw _ _ hk2
   have hk3 := Below.keeps hbw _ _ hk3
   have hk4 := Below.keeps hbw _ _ hk4
   have hlt' : (k : Int) < (ks.length : Int) := by omega
   have hal := below_alloc1 wr (OO #[S (bs m0), S (bs (mc :: ml)), Y q1 u1.length q2, Y q3 u2.length q4, S (bs u3)] ELT)
   have hn := Blk.new wr ELT #[S (bs m0), S (bs (mc :: ml)), Y q1 u1.length q2, Y q3 u2.length q4, S (bs u3)]
   have r1 := (hn.cell 1).trans rfl
   have HBR := Lib.hid (hbr.trans (hal.mono hbr.size))
   clear hgx hT1 hne hal hn hbw hbr
   go_wp2_with (go_at_call 72; refine (sofail_y _).mono ?_; rintro e w2 ⟨rfl, rfl⟩)
   go_roundw
   case rel => exact ⟨k + 1, by omega, by go_num, HBR.out⟩
   case measure => simp [intOf]; omega
  ·obtain rfl : k = ks.length := by omega
   have hN := HN.out.below hbr HN.out.lt
   obtain ⟨z0, z1, z2, z3, z4, -⟩ := hN.cc
   have hal := below_alloc1 wr (OO #[S (bs s0), S (bs s1), Y pa 0 ca, Y pk ks.length ck, S (bs st)] ELT)
   have HC := Lib.hid (collect_any ks css P (S (bs s0)) (S (bs s1)) (Y pa 0 ca) (S (bs st)) pk ck wr.heap.size (wr.alloc (OO #[S (bs s0), S (bs s1), Y pa 0 ca, Y pk ks.length ck, S (bs st)] ELT)) ((HRD.out.keep (Below.keeps hbw)).keep (Below.keeps hal)) ((HL.out.below hbw).below hal) HOK.out HNM.out hlen (Blk.new wr _ _))
   have HBW := Lib.hid (hbw.trans (hal.mono hbw.size))
   clear hN hal hbw hbr hlt
   go_wp2_with (go_at_call 135; refine (elems_any _ _ _ _ _ _).mono ?_; rintro e w3 ⟨rfl, rfl⟩)
   refine HC.out.mono ?_
   rintro e w4 ⟨v, rfl, ho, hb4⟩
   have HO := Lib.hid (show w4.ownsRow w.heap.size ELT 5 v ks.length css.flatten ∧ Below w.heap.size w w4 from ⟨owns_lower ho (by have := HBW.out.size; rw [World.size_alloc] at this ⊢; omega), HBW.out.trans (hb4.mono HBW.out.size)⟩)
   clear ho hb4
   go_wp2_with fail
   go_ret
   exact ⟨v, rfl, HO.out⟩
theorem wordT_any (s0 s1 st : List UInt8) (pa : Option Addr) (na ca : Nat) (pk : Option Addr) (ck : Nat) (w : World) :
  Calls pG 188 #[M #[S (bs s0), S (bs s1), Y pa na ca, Y pk 0 ck, S (bs st)]] w (Gives w (S (bs st))) := by
 have HB := Lib.hid (below_alloc1 w (OO #[S (bs s0), S (bs s1), Y pa na ca, Y pk 0 ck, S (bs st)] ELT))
 have hn := Blk.new w ELT #[S (bs s0), S (bs s1), Y pa na ca, Y pk 0 ck, S (bs st)]
 obtain ⟨-, -, -, z3, z4, -⟩ := hn.cc
 clear hn
 go_enter Tryz.func188, Tryz.ntmps188
 go_wp2_with fail
 generalize w.alloc (OO #[S (bs s0), S (bs s1), Y pa na ca, Y pk 0 ck, S (bs st)] ELT) = wa at *
 clear z3 z4
 go_loopw [3, 11] (fun sv iv wr => sv = S (bs st) ∧ iv = .int .i64 0 ∧ wr = wa) (fun _ _ _ => 0)
 case atStart => exact ⟨rfl, rfl, rfl⟩
 case round =>
  obtain ⟨rfl, rfl, rfl⟩ := hrel
  go_wp2_with fail
  go_ret
  exact ⟨rfl, HB.out⟩
theorem wordS_any (s0 s1 tx : List UInt8) (htx : tx.length ≤ 9223372036854775807) (pa : Option Addr) (ca b off ck : Nat) (p2 p3 : Option Addr) (n2 n3 : Nat) (w : World) (h0 : w.cell? ⟨b, off, none⟩ = some (S (bs []))) (h1 : w.cell? ⟨b, off + 1, none⟩ = some (S (bs []))) (h2 : w.cell? ⟨b, off + 2, none⟩ = some (Y p2 0 n2)) (h3 : w.cell? ⟨b, off + 3, none⟩ = some (Y p3 0 n3)) (h4 : w.cell? ⟨b, off + 4, none⟩ = some (S (bs tx))) :
  Calls pG 188 #[M #[S (bs s0), S (bs s1), Y pa 0 ca, Y (some ⟨b, off, none⟩) 1 ck, S (bs [])]] w (Gives w (S (bs tx))) := by
 have HB := Lib.hid (below_alloc1 w (OO #[S (bs s0), S (bs s1), Y pa 0 ca, Y (some ⟨b, off, none⟩) 1 ck, S (bs [])] ELT))
 have hn := Blk.new w ELT #[S (bs s0), S (bs s1), Y pa 0 ca, Y (some ⟨b, off, none⟩) 1 ck, S (bs [])]
 obtain ⟨-, -, -, z3, z4, -⟩ := hn.cc
 clear hn
 go_enter Tryz.func188, Tryz.ntmps188
 go_wp2_with fail
 have h0 := Below.keeps HB.out _ _ h0; have h1 := Below.keeps HB.out _ _ h1; have h2 := Below.keeps HB.out _ _ h2; have h3 := Below.keeps HB.out _ _ h3; have h4 := Below.keeps HB.out _ _ h4
 generalize w.alloc (OO #[S (bs s0), S (bs s1), Y pa 0 ca, Y (some ⟨b, off, none⟩) 1 ck, S (bs [])] ELT) = wa at *
 clear z3 z4
 go_loopw [3, 11] (fun sv iv wr => (sv = S (bs []) ∧ iv = .int .i64 0 ∧ wr = wa) ∨ (sv = S (bs tx) ∧ iv = .int .i64 1 ∧ Below w.heap.size w wr)) (fun _ iv _ => 1 - (intOf iv).toNat)
 case atStart => exact .inl ⟨rfl, rfl, rfl⟩
 case round =>
  rcases hrel with ⟨rfl, rfl, rfl⟩ | ⟨rfl, rfl, hbr⟩
  ·have hal := below_alloc1 wr (OO #[S (bs []), S (bs []), Y p2 0 n2, Y p3 0 n3, S (bs tx)] ELT)
   have hn := Blk.new wr ELT #[S (bs []), S (bs []), Y p2 0 n2, Y p3 0 n3, S (bs tx)]
   obtain ⟨r0, r1, r2, r3, r4, -⟩ := hn.cc
   have HW := Lib.hid (wordT_any [] [] tx p2 0 n2 p3 n3 (wr.alloc (OO #[S (bs []), S (bs []), Y p2 0 n2, Y p3 0 n3, S (bs tx)] ELT)))
   have HBR := Lib.hid (HB.out.trans (hal.mono HB.out.size))
   have hadd : ∀ w, (Op.stringOp .add (bs []) (bs tx)).run pG w = .ok (S (bs tx)) w := fun w => run_str_add (P := pG) w [] tx (by simpa using htx)
   clear hal hn
   go_wp2_with fail
   refine HW.out.mono ?_
   rintro e w2 ⟨rfl, hb2⟩
   have HB2 := Lib.hid (HBR.out.trans (hb2.mono HBR.out.size))
   clear hb2 HW r0 r1 r2 r3 r4
   go_wp2_with fail
   go_roundw
   case rel => exact .inr ⟨rfl, by go_num, HB2.out⟩
   case measure => simp [intOf]
  ·go_wp2_with fail
   go_ret
   exact ⟨rfl, hbr⟩
theorem simp_cells {w : World} {P : Nat → Prop} {sp lo tx : List UInt8} {cs : List Value} (h : TrC w P (simpT sp lo tx) cs) : ∃ pa ca b off ck p2 p3 n2 n3, cs = [S (bs sp), S (bs lo), Y pa 0 ca, Y (some ⟨b, off, none⟩) 1 ck, S (bs [])] ∧
  w.cell? ⟨b, off, none⟩ = some (S (bs [])) ∧ w.cell? ⟨b, off + 1, none⟩ = some (S (bs [])) ∧ w.cell? ⟨b, off + 2, none⟩ = some (Y p2 0 n2) ∧ w.cell? ⟨b, off + 3, none⟩ = some (Y p3 0 n3) ∧ w.cell? ⟨b, off + 4, none⟩ = some (S (bs tx)) := by
 unfold simpT TrC at h
 obtain ⟨pa, ca, pk, ck, css, rfl, _, ⟨_, _, K3, _⟩, hL⟩ := h
 obtain ⟨b, off, m0, m1, at', kk, t', p2, n2, p3, n3, rfl, hx, _, q0, q1, q2, q3, q4⟩ := kid_2 (i := 0) K3 hL ⟨⟨rfl, by simp, trivial⟩, trivial⟩ (by simp)
 have hx' : (Tr.node [[], []] [] [] tx) = .node [m0, m1] at' kk t' := hx
 injection hx' with e1 e2 e3 e4
 simp only [List.cons.injEq, and_true] at e1
 obtain ⟨rfl, rfl⟩ := e1
 subst e2 e3 e4
 simp only [Nat.zero_mul, Nat.add_zero] at q0 q1 q2 q3 q4
 exact ⟨pa, ca, b, off, ck, p2, p3, n2, n3, rfl, q0, q1, q2, q3, q4⟩
theorem word_any (sp lo tx : List UInt8) (htx : tx.length ≤ 9223372036854775807) (P : Nat → Prop) (cs : List Value) (w : World) (hT : TrC w P (simpT sp lo tx) cs) :
  Calls pG 139 #[.agg cs.toArray] w (Gives w (S (bs tx))) := by
 obtain ⟨pa, ca, b, off, ck, p2, p3, n2, n3, rfl, q0, q1, q2, q3, q4⟩ := simp_cells hT
 show Calls pG 139 #[M #[S (bs sp), S (bs lo), Y pa 0 ca, Y (some ⟨b, off, none⟩) 1 ck, S (bs [])]] w _
 have hba := below_alloc1 w (OO #[S (bs sp), S (bs lo), Y pa 0 ca, Y (some ⟨b, off, none⟩) 1 ck, S (bs [])] ELT)
 have hn := Blk.new w ELT #[S (bs sp), S (bs lo), Y pa 0 ca, Y (some ⟨b, off, none⟩) 1 ck, S (bs [])]
 obtain ⟨-, -, z2, z3, -⟩ := hn.cc
 have HBA := Lib.hid hba
 have HN := Lib.hid hn
 have HWD := Lib.hid (fun w' (hb : Below w.heap.size w w') => wordS_any sp lo tx htx pa ca b off ck p2 p3 n2 n3 w' (Below.keeps hb _ _ q0) (Below.keeps hb _ _ q1) (Below.keeps hb _ _ q2) (Below.keeps hb _ _ q3) (Below.keeps hb _ _ q4))
 have HQ := Lib.hid (And.intro q0 (And.intro q1 (And.intro q2 (And.intro q3 q4))))
 clear hba hn hT q0 q1 q2 q3 q4
 go_enter Tryz.func139, Tryz.ntmps139
 go_wp2_with (go_at_call 72; refine (sofail_y _).mono ?_; rintro e w2 ⟨rfl, rfl⟩)
 generalize w.alloc (OO #[S (bs sp), S (bs lo), Y pa 0 ca, Y (some ⟨b, off, none⟩) 1 ck, S (bs [])] ELT) = wa at *
 clear z2 z3
 go_loopw [19] (fun iv wr => ∃ k : Nat, k ≤ 1 ∧ iv = .int .i64 k ∧ Below wa.heap.size wa wr) (fun iv _ => 1 - (intOf iv).toNat)
 case atStart => exact ⟨0, by omega, rfl, Below.refl _ _⟩
 case round =>
  obtain ⟨k, hk, rfl, hbr⟩ := hrel
  have hbw := HBA.out.trans (hbr.mono HBA.out.size)
  by_cases hlt : k = 0
  ·subst hlt
   obtain ⟨q0, q1, q2, q3, q4⟩ := HQ.out
   have h0 := Below.keeps hbw _ _ q0; have h1 := Below.keeps hbw _ _ q1; have h2 := Below.keeps hbw _ _ q2; have h3 := Below.keeps hbw _ _ q3; have h4 := Below.keeps hbw _ _ q4
   have hal := below_alloc1 wr (OO #[S (bs []), S (bs []), Y p2 0 n2, Y p3 0 n3, S (bs tx)] ELT)
   have hn := Blk.new wr ELT #[S (bs []), S (bs []), Y p2 0 n2, Y p3 0 n3, S (bs tx)]
   have r1 := (hn.cell 1).trans rfl
   have HBR := Lib.hid (hbr.trans (hal.mono hbr.size))
   clear hal hn hbw hbr q0 q1 q2 q3 q4
   go_wp2_with (go_at_call 72; refine (sofail_y _).mono ?_; rintro e w2 ⟨rfl, rfl⟩)
   go_roundw
   case rel => exact ⟨1, by omega, by go_num, HBR.out⟩
   case measure => simp [intOf]
  ·obtain rfl : k = 1 := by omega
   have hN := HN.out.below hbr HN.out.lt
   obtain ⟨z0, z1, z2, z3, z4, -⟩ := hN.cc
   have HW2 := Lib.hid (HWD.out wr hbw)
   have HBW := Lib.hid hbw
   clear hN hbw hbr
   go_wp2_with fail
   refine HW2.out.mono ?_
   rintro e w4 ⟨rfl, hb4⟩
   have HO := Lib.hid (HBW.out.trans (hb4.mono HBW.out.size))
   clear hb4
   go_wp2_with fail
   go_ret
   exact ⟨rfl, HO.out⟩
end
section
set_option maxHeartbeats 8000000
set_option maxRecDepth 20000
open Go.RowKit Go.Extern.Stop Go.Stop Go.Extern
attribute [local go_sem] bs_toList
attribute [local irreducible] wpPhi
theorem sofail_g (w : World) : Calls pG 72 #[.bool true] w (Gives w (.tuple #[])) :=
 (sofail_y w).mono (by rintro e w' ⟨rfl, rfl⟩; exact ⟨rfl, Below.refl _ _⟩)
theorem place_0 (g : Nat) (w : World) : Calls pG 137 #[O (some ⟨g, 0, none⟩), S (bs cAction)] w fun e w' => e = R (O (some ⟨g, 0, none⟩)) ∧ w' = w := by
 unfold cAction
 go_enter Tryz.func137, Tryz.ntmps137
 go_wp2_with fail
 go_ret
 exact ⟨rfl, rfl⟩
theorem place_1 (g : Nat) (w : World) : Calls pG 137 #[O (some ⟨g, 0, none⟩), S (bs cTo)] w fun e w' => e = R (O (some ⟨g, 1, none⟩)) ∧ w' = w := by
 unfold cTo
 go_enter Tryz.func137, Tryz.ntmps137
 go_wp2_with fail
 go_ret
 exact ⟨rfl, rfl⟩
theorem place_2 (g : Nat) (w : World) : Calls pG 137 #[O (some ⟨g, 0, none⟩), S (bs cMessageID)] w fun e w' => e = R (O (some ⟨g, 2, none⟩)) ∧ w' = w := by
 unfold cMessageID
 go_enter Tryz.func137, Tryz.ntmps137
 go_wp2_with fail
 go_ret
 exact ⟨rfl, rfl⟩
theorem place_3 (g : Nat) (w : World) : Calls pG 137 #[O (some ⟨g, 0, none⟩), S (bs cFrom)] w fun e w' => e = R (O (some ⟨g, 3, none⟩)) ∧ w' = w := by
 unfold cFrom
 go_enter Tryz.func137, Tryz.ntmps137
 go_wp2_with fail
 go_ret
 exact ⟨rfl, rfl⟩
theorem place_4 (g : Nat) (w : World) : Calls pG 137 #[O (some ⟨g, 0, none⟩), S (bs cRelatesTo)] w fun e w' => e = R (O (some ⟨g, 4, none⟩)) ∧ w' = w := by
 unfold cRelatesTo
 go_enter Tryz.func137, Tryz.ntmps137
 go_wp2_with fail
 go_ret
 exact ⟨rfl, rfl⟩
theorem from_cells {w : World} {P : Nat → Prop} {s : List UInt8} {cs : List Value} (h : TrC w P (fromT s) cs) : ∃ pa ca pk ck css, cs = [S (bs addrL), S (bs cFrom), Y pa 0 ca, Y pk 1 ck, S (bs [])] ∧ Rd w pk css.flatten ∧ TrL w P [simpT addrL cAddress s] css := by
 unfold fromT TrC at h
 obtain ⟨pa, ca, pk, ck, css, rfl, _, ⟨_, _, K3, _⟩, hL⟩ := h
 exact ⟨pa, ca, pk, ck, css, rfl, K3, hL⟩
theorem address_any' (c : UInt8) (l : List UInt8) (htx : (c :: l).length ≤ 9223372036854775807) (P : Nat → Prop) (cs : List Value) (w : World) (hT : TrC w P (fromT (c :: l)) cs) :
  Calls pG 138 #[.agg cs.toArray] w (Gives w (S (bs (c :: l)))) := by
 obtain ⟨pa, ca, pk, ck, css, rfl, hrd, hL⟩ := from_cells hT
 show Calls pG 138 #[M #[S (bs addrL), S (bs cFrom), Y pa 0 ca, Y pk 1 ck, S (bs [])]] w _
 have hba := below_alloc1 w (OO #[S (bs addrL), S (bs cFrom), Y pa 0 ca, Y pk 1 ck, S (bs [])] ELT)
 have hn := Blk.new w ELT #[S (bs addrL), S (bs cFrom), Y pa 0 ca, Y pk 1 ck, S (bs [])]
 obtain ⟨z0, z1, z2, z3, z4, -⟩ := hn.cc
 have HK := Lib.hid (kids_any [simpT addrL cAddress (c :: l)] css P addrL cFrom [] pa ca pk ck (w.alloc (OO #[S (bs addrL), S (bs cFrom), Y pa 0 ca, Y pk 1 ck, S (bs [])] ELT)) (hrd.keep (Below.keeps hba)) (hL.below hba) ⟨simp_ok _ _, trivial⟩ (by simp [simpT, Tr.nm, cAddress]) (by simp))
 have HBA := Lib.hid hba
 have HL := Lib.hid hL
 clear hba hn hT hrd hL
 go_enter Tryz.func138, Tryz.ntmps138
 go_wp2_with fail
 refine HK.out.mono ?_
 rintro e w1 ⟨v, rfl, ho, hb1⟩
 obtain ⟨g, c', rfl⟩ := own_some (n := 0) ho
 obtain ⟨p', cap, he, hcle, hcm, hrd1⟩ := owns_rd ho
 cases he
 have hb1w := HBA.out.trans (hb1.mono HBA.out.size)
 have hL1 := HL.out.below hb1w
 obtain ⟨b, off, m0, m1, at', kk, t', p2, n2, p3, n3, hp, hx, hT1, q0, q1, q2, q3, q4⟩ := kid_2 (i := 0) hrd1 hL1 ⟨simp_ok _ _, trivial⟩ (by simp)
 cases hp
 have hx' : simpT addrL cAddress (c :: l) = .node [m0, m1] at' kk t' := hx
 unfold simpT at hx'
 injection hx' with e1 e2 e3 e4
 simp only [List.cons.injEq, and_true] at e1
 obtain ⟨rfl, rfl⟩ := e1
 subst e2 e3 e4
 simp only [Nat.zero_mul, Nat.add_zero, Nat.zero_add, lP, lH] at q0 q1 q2 q3 q4 hT1
 have HT1 := Lib.hid (show TrC w1 P (simpT addrL cAddress (c :: l)) [S (bs addrL), S (bs cAddress), Y p2 0 n2, Y p3 1 n3, S (bs [])] from hT1)
 have HB1 := Lib.hid hb1w
 have HQ := Lib.hid (And.intro q0 (And.intro q1 (And.intro q2 (And.intro q3 q4))))
 have hen := fun w => (eqNm addrL cAddress addrL cAddress w)
 have het : (addrL == addrL && cAddress == cAddress) = true := by decide
 rw [het] at hen
 clear ho hrd1 hL1 hb1 hb1w hT1 hx hcle hcm het z0 z1 z2 z3 z4
 go_wp2_with fail
 have HQ2 := HQ
 refine wp_phi (fun w' => (w'.cell? ⟨g, 0, none⟩ = some (S (bs addrL))) ∧ (w'.cell? ⟨g, 1, none⟩ = some (S (bs cAddress))) ∧ Below w1.heap.size w1 w') [(8, PVal (M #[S (bs addrL), S (bs cAddress)])), (11, PVal (.tuple #[]))] [] (by kernel_rfl) (by kernel_rfl) ?_ ?_ ⟨q0, q1, ((Below.refl _ w1)).drew⟩ ?_
 ·rintro w1' w2' ⟨f1, f2, hIB⟩ hb
  exact ⟨Below.keeps hb _ _ f1, Below.keeps hb _ _ f2, hIB.trans (hb.mono hIB.size)⟩
 ·simp only [lI, lG, or_false, forall_eq_or_imp, forall_eq]
  exact ⟨fun _ _ _ _ h' h => PVal_stays _ _ _ _ h' h, fun _ _ _ _ h' h => PVal_stays _ _ _ _ h' h⟩
 repeat ((first | refine phi_skipK rfl (fun K hK => ?_) | (refine phi_pureK rfl rfl (fun K hK => ?_); apply xI; constructor; (focus (rintro w' ⟨f1, f2, hIB⟩; (clear hIB); first | (go_simp; done) | (go_simp; (try go_bits); (try go_simp); rfl) | go_simp)))); simp only [Act.put, lA, lB, lC, lD, lE]; apply hK; clear hK K)
 refine phi_partK (PVal (M #[S (bs addrL), S (bs cAddress)])) rfl rfl ⟨_, rfl⟩ ?_ (fun K hK v hv => ?_)
 ·rintro w' ⟨f1, f2, hIB⟩ hf
  unfold gives
  clear hf
  go_simp
  refine (saddr_any cAddress _).mono ?_
  rintro e w'' ⟨rfl, hb⟩
  exact ⟨_, rfl, rfl, trivial, hb⟩
 obtain rfl : v = _ := hv
 simp only [Act.put, lA, lB, lC, lD, lE]
 apply hK
 clear hK K
 repeat ((first | refine phi_skipK rfl (fun K hK => ?_) | (refine phi_pureK rfl rfl (fun K hK => ?_); apply xI; constructor; (focus (rintro w' ⟨f1, f2, hIB⟩; (clear hIB); first | (go_simp; done) | (go_simp; (try go_bits); (try go_simp); rfl) | go_simp)))); simp only [Act.put, lA, lB, lC, lD, lE]; apply hK; clear hK K)
 refine phi_partK (PVal (.tuple #[])) rfl rfl ⟨_, rfl⟩ ?_ (fun K hK v hv => ?_)
 ·rintro w' ⟨f1, f2, hIB⟩ hf
  unfold gives
  clear hf
  go_simp
  refine (sofail_g _).mono ?_
  rintro e w'' ⟨rfl, hb⟩
  exact ⟨_, rfl, rfl, trivial, hb⟩
 obtain rfl : v = _ := hv
 simp only [Act.put, lA, lB, lC, lD, lE]
 apply hK
 clear hK K
 repeat ((first | refine phi_skipK rfl (fun K hK => ?_) | (refine phi_pureK rfl rfl (fun K hK => ?_); apply xI; constructor; (focus (rintro w' ⟨f1, f2, hIB⟩; (clear hIB); first | (go_simp; done) | (go_simp; (try go_bits); (try go_simp); rfl) | go_simp)))); simp only [Act.put, lA, lB, lC, lD, lE]; apply hK; clear hK K)
 refine phi_done ?_
 rintro w9 ⟨f1, f2, hb9⟩ _
 refine wpList_nil ?_
 have HB9 := Lib.hid (HB1.out.trans (hb9.mono HB1.out.size))
 have HW := Lib.hid (word_any addrL cAddress (c :: l) htx P _ w9 (HT1.out.below hb9))
 obtain ⟨a0, a1, a2, a3, a4⟩ := HQ.out
 have d0 := Below.keeps hb9 _ _ a0; have d1 := Below.keeps hb9 _ _ a1; have d2 := Below.keeps hb9 _ _ a2; have d3 := Below.keeps hb9 _ _ a3; have d4 := Below.keeps hb9 _ _ a4
 clear hb9 f1 f2 q0 q1 q2 q3 q4 a0 a1 a2 a3 a4 hen HQ2
 go_wp2_with fail
 refine HW.out.mono ?_
 rintro e w2 ⟨rfl, hb2⟩
 have HB2 := Lib.hid (HB9.out.trans (hb2.mono HB9.out.size))
 clear hb2 d0 d1 d2 d3 d4
 go_wp2_with (go_at_call 72; refine (sofail_y _).mono ?_; rintro e w3 ⟨rfl, rfl⟩)
 go_ret
 exact ⟨rfl, HB2.out⟩
end
section
set_option maxHeartbeats 8000000
set_option maxRecDepth 20000
open Go.RowKit Go.Extern.Stop Go.Stop Go.Extern
attribute [local go_sem] bs_toList
theorem simp_cells4 {w : World} {P : Nat → Prop} {sp lo tx : List UInt8} {cs : List Value} (hT : TrC w P (simpT sp lo tx) cs) : ∃ pa ca pk ck, cs = [S (bs sp), S (bs lo), Y pa 0 ca, Y pk 1 ck, S (bs [])] := by
 obtain ⟨pa, ca, b, off, ck, _, _, _, _, h, _⟩ := simp_cells hT
 exact ⟨pa, ca, _, ck, h⟩
theorem from_cells4 {w : World} {P : Nat → Prop} {tx : List UInt8} {cs : List Value} (hT : TrC w P (fromT tx) cs) : ∃ pa ca pk ck, cs = [S (bs addrL), S (bs cFrom), Y pa 0 ca, Y pk 1 ck, S (bs [])] := by
 obtain ⟨pa, ca, pk, ck, css, h, _⟩ := from_cells hT
 exact ⟨pa, ca, pk, ck, h⟩
theorem word_c (nm : List UInt8) (c : UInt8) (l : List UInt8) (htx : (c :: l).length ≤ 9223372036854775807) (P : Nat → Prop) (cs : List Value) (w : World) (hT : TrC w P (simpT addrL nm (c :: l)) cs) : Calls pG 139 #[.agg cs.toArray] w (Gives w (S (bs (c :: l)))) := word_any addrL nm (c :: l) htx P cs w hT
theorem header_0 (g : Nat) (c : UInt8) (l : List UInt8) (htx : (c :: l).length ≤ 9223372036854775807) (P : Nat → Prop) (cs : List Value) (ev : Array Value) (w : World) (hT : TrC w P (simpT addrL cAction (c :: l)) cs) (hb : Blk w g 46 ev) (hj : ev[0]? = some (S (bs []))) :
  Calls pG 81 #[O (some ⟨g, 0, none⟩), .agg cs.toArray] w fun e w' => ∃ wm, Below w.heap.size w wm ∧ e = R (.bool false) ∧ w' = wm.setCell ⟨g, 0, none⟩ (S (bs (c :: l))) := by
 obtain ⟨pa, ca, pk, ck, hcs⟩ : ∃ pa ca pk ck, cs = [S (bs addrL), S (bs cAction), Y pa 0 ca, Y pk 1 ck, S (bs [])] := by
  exact simp_cells4 hT
 subst hcs
 show Calls pG 81 #[O (some ⟨g, 0, none⟩), M #[S (bs addrL), S (bs cAction), Y pa 0 ca, Y pk 1 ck, S (bs [])]] w _
 have hba := below_alloc1 w (OO #[S (bs addrL), S (bs cAction), Y pa 0 ca, Y pk 1 ck, S (bs [])] ELT)
 have hn := Blk.new w ELT #[S (bs addrL), S (bs cAction), Y pa 0 ca, Y pk 1 ck, S (bs [])]
 obtain ⟨z0, z1, z2, z3, z4, -⟩ := hn.cc
 have hbb := hb.below hba hb.lt
 have kj := (hbb.cell 0).trans hj
 have HC := Lib.hid (word_c cAction c l htx P _ (w.alloc (OO #[S (bs addrL), S (bs cAction), Y pa 0 ca, Y pk 1 ck, S (bs [])] ELT)) (hT.below hba))
 have HPL := Lib.hid (fun w => place_0 g w)
 have HBA := Lib.hid hba
 have HBB := Lib.hid hbb
 have HJ := Lib.hid hj
 clear hba hn hbb hT hb hj
 unfold cAction at *
 unfold addrL at *
 go_enter Tryz.func81, Tryz.ntmps81
 go_wp2_with (first | (go_at_call 72; refine (sofail_y _).mono ?_; rintro e w2 ⟨rfl, rfl⟩) | (go_at_call 137; refine (HPL.out _).mono ?_; rintro e w2 ⟨rfl, rfl⟩))
 refine HC.out.mono ?_
 rintro e w3 ⟨rfl, hb3⟩
 have hb4 := HBB.out.below hb3 HBB.out.lt
 have fj := hb4.frozen 0
 have kj := (hb4.cell 0).trans HJ.out
 have HB3 := Lib.hid (HBA.out.trans (hb3.mono HBA.out.size))
 have k9 := ((hb4.set_ 0 (S (bs (c :: l)))).cell 0).trans (by
  have := (aA.1 HJ.out).1
  rw [Array.getElem?_setIfInBounds_self_of_lt this])
 clear hb4 hb3 z0 z1 z2 z3 z4
 go_wp2_with (go_at_call 72; refine (sofail_y _).mono ?_; rintro e w2 ⟨rfl, rfl⟩)
 go_ret
 exact ⟨w3, HB3.out, rfl, rfl⟩
theorem header_1 (g : Nat) (c : UInt8) (l : List UInt8) (htx : (c :: l).length ≤ 9223372036854775807) (P : Nat → Prop) (cs : List Value) (ev : Array Value) (w : World) (hT : TrC w P (simpT addrL cTo (c :: l)) cs) (hb : Blk w g 46 ev) (hj : ev[1]? = some (S (bs []))) :
  Calls pG 81 #[O (some ⟨g, 0, none⟩), .agg cs.toArray] w fun e w' => ∃ wm, Below w.heap.size w wm ∧ e = R (.bool false) ∧ w' = wm.setCell ⟨g, 1, none⟩ (S (bs (c :: l))) := by
 obtain ⟨pa, ca, pk, ck, hcs⟩ : ∃ pa ca pk ck, cs = [S (bs addrL), S (bs cTo), Y pa 0 ca, Y pk 1 ck, S (bs [])] := by
  exact simp_cells4 hT
 subst hcs
 show Calls pG 81 #[O (some ⟨g, 0, none⟩), M #[S (bs addrL), S (bs cTo), Y pa 0 ca, Y pk 1 ck, S (bs [])]] w _
 have hba := below_alloc1 w (OO #[S (bs addrL), S (bs cTo), Y pa 0 ca, Y pk 1 ck, S (bs [])] ELT)
 have hn := Blk.new w ELT #[S (bs addrL), S (bs cTo), Y pa 0 ca, Y pk 1 ck, S (bs [])]
 obtain ⟨z0, z1, z2, z3, z4, -⟩ := hn.cc
 have hbb := hb.below hba hb.lt
 have kj := (hbb.cell 1).trans hj
 have HC := Lib.hid (word_c cTo c l htx P _ (w.alloc (OO #[S (bs addrL), S (bs cTo), Y pa 0 ca, Y pk 1 ck, S (bs [])] ELT)) (hT.below hba))
 have HPL := Lib.hid (fun w => place_1 g w)
 have HBA := Lib.hid hba
 have HBB := Lib.hid hbb
 have HJ := Lib.hid hj
 clear hba hn hbb hT hb hj
 unfold cTo at *
 unfold addrL at *
 go_enter Tryz.func81, Tryz.ntmps81
 go_wp2_with (first | (go_at_call 72; refine (sofail_y _).mono ?_; rintro e w2 ⟨rfl, rfl⟩) | (go_at_call 137; refine (HPL.out _).mono ?_; rintro e w2 ⟨rfl, rfl⟩))
 refine HC.out.mono ?_
 rintro e w3 ⟨rfl, hb3⟩
 have hb4 := HBB.out.below hb3 HBB.out.lt
 have fj := hb4.frozen 1
 have kj := (hb4.cell 1).trans HJ.out
 have HB3 := Lib.hid (HBA.out.trans (hb3.mono HBA.out.size))
 have k9 := ((hb4.set_ 1 (S (bs (c :: l)))).cell 1).trans (by
  have := (aA.1 HJ.out).1
  rw [Array.getElem?_setIfInBounds_self_of_lt this])
 clear hb4 hb3 z0 z1 z2 z3 z4
 go_wp2_with (go_at_call 72; refine (sofail_y _).mono ?_; rintro e w2 ⟨rfl, rfl⟩)
 go_ret
 exact ⟨w3, HB3.out, rfl, rfl⟩
theorem header_2 (g : Nat) (c : UInt8) (l : List UInt8) (htx : (c :: l).length ≤ 9223372036854775807) (P : Nat → Prop) (cs : List Value) (ev : Array Value) (w : World) (hT : TrC w P (simpT addrL cMessageID (c :: l)) cs) (hb : Blk w g 46 ev) (hj : ev[2]? = some (S (bs []))) :
  Calls pG 81 #[O (some ⟨g, 0, none⟩), .agg cs.toArray] w fun e w' => ∃ wm, Below w.heap.size w wm ∧ e = R (.bool false) ∧ w' = wm.setCell ⟨g, 2, none⟩ (S (bs (c :: l))) := by
 obtain ⟨pa, ca, pk, ck, hcs⟩ : ∃ pa ca pk ck, cs = [S (bs addrL), S (bs cMessageID), Y pa 0 ca, Y pk 1 ck, S (bs [])] := by
  exact simp_cells4 hT
 subst hcs
 show Calls pG 81 #[O (some ⟨g, 0, none⟩), M #[S (bs addrL), S (bs cMessageID), Y pa 0 ca, Y pk 1 ck, S (bs [])]] w _
 have hba := below_alloc1 w (OO #[S (bs addrL), S (bs cMessageID), Y pa 0 ca, Y pk 1 ck, S (bs [])] ELT)
 have hn := Blk.new w ELT #[S (bs addrL), S (bs cMessageID), Y pa 0 ca, Y pk 1 ck, S (bs [])]
 obtain ⟨z0, z1, z2, z3, z4, -⟩ := hn.cc
 have hbb := hb.below hba hb.lt
 have kj := (hbb.cell 2).trans hj
 have HC := Lib.hid (word_c cMessageID c l htx P _ (w.alloc (OO #[S (bs addrL), S (bs cMessageID), Y pa 0 ca, Y pk 1 ck, S (bs [])] ELT)) (hT.below hba))
 have HPL := Lib.hid (fun w => place_2 g w)
 have HBA := Lib.hid hba
 have HBB := Lib.hid hbb
 have HJ := Lib.hid hj
 clear hba hn hbb hT hb hj
 unfold cMessageID at *
 unfold addrL at *
 go_enter Tryz.func81, Tryz.ntmps81
 go_wp2_with (first | (go_at_call 72; refine (sofail_y _).mono ?_; rintro e w2 ⟨rfl, rfl⟩) | (go_at_call 137; refine (HPL.out _).mono ?_; rintro e w2 ⟨rfl, rfl⟩))
 refine HC.out.mono ?_
 rintro e w3 ⟨rfl, hb3⟩
 have hb4 := HBB.out.below hb3 HBB.out.lt
 have fj := hb4.frozen 2
 have kj := (hb4.cell 2).trans HJ.out
 have HB3 := Lib.hid (HBA.out.trans (hb3.mono HBA.out.size))
 have k9 := ((hb4.set_ 2 (S (bs (c :: l)))).cell 2).trans (by
  have := (aA.1 HJ.out).1
  rw [Array.getElem?_setIfInBounds_self_of_lt this])
 clear hb4 hb3 z0 z1 z2 z3 z4
 go_wp2_with (go_at_call 72; refine (sofail_y _).mono ?_; rintro e w2 ⟨rfl, rfl⟩)
 go_ret
 exact ⟨w3, HB3.out, rfl, rfl⟩
theorem header_3 (g : Nat) (c : UInt8) (l : List UInt8) (htx : (c :: l).length ≤ 9223372036854775807) (P : Nat → Prop) (cs : List Value) (ev : Array Value) (w : World) (hT : TrC w P (fromT (c :: l)) cs) (hb : Blk w g 46 ev) (hj : ev[3]? = some (S (bs []))) :
  Calls pG 81 #[O (some ⟨g, 0, none⟩), .agg cs.toArray] w fun e w' => ∃ wm, Below w.heap.size w wm ∧ e = R (.bool false) ∧ w' = wm.setCell ⟨g, 3, none⟩ (S (bs (c :: l))) := by
 obtain ⟨pa, ca, pk, ck, hcs⟩ : ∃ pa ca pk ck, cs = [S (bs addrL), S (bs cFrom), Y pa 0 ca, Y pk 1 ck, S (bs [])] := by
  exact from_cells4 hT
 subst hcs
 show Calls pG 81 #[O (some ⟨g, 0, none⟩), M #[S (bs addrL), S (bs cFrom), Y pa 0 ca, Y pk 1 ck, S (bs [])]] w _
 have hba := below_alloc1 w (OO #[S (bs addrL), S (bs cFrom), Y pa 0 ca, Y pk 1 ck, S (bs [])] ELT)
 have hn := Blk.new w ELT #[S (bs addrL), S (bs cFrom), Y pa 0 ca, Y pk 1 ck, S (bs [])]
 obtain ⟨z0, z1, z2, z3, z4, -⟩ := hn.cc
 have hbb := hb.below hba hb.lt
 have kj := (hbb.cell 3).trans hj
 have HC := Lib.hid (address_any' c l htx P _ (w.alloc (OO #[S (bs addrL), S (bs cFrom), Y pa 0 ca, Y pk 1 ck, S (bs [])] ELT)) (hT.below hba))
 have HPL := Lib.hid (fun w => place_3 g w)
 have HBA := Lib.hid hba
 have HBB := Lib.hid hbb
 have HJ := Lib.hid hj
 clear hba hn hbb hT hb hj
 unfold cFrom at *
 unfold addrL at *
 go_enter Tryz.func81, Tryz.ntmps81
 go_wp2_with (first | (go_at_call 72; refine (sofail_y _).mono ?_; rintro e w2 ⟨rfl, rfl⟩) | (go_at_call 137; refine (HPL.out _).mono ?_; rintro e w2 ⟨rfl, rfl⟩))
 refine HC.out.mono ?_
 rintro e w3 ⟨rfl, hb3⟩
 have hb4 := HBB.out.below hb3 HBB.out.lt
 have fj := hb4.frozen 3
 have kj := (hb4.cell 3).trans HJ.out
 have HB3 := Lib.hid (HBA.out.trans (hb3.mono HBA.out.size))
 have k9 := ((hb4.set_ 3 (S (bs (c :: l)))).cell 3).trans (by
  have := (aA.1 HJ.out).1
  rw [Array.getElem?_setIfInBounds_self_of_lt this])
 clear hb4 hb3 z0 z1 z2 z3 z4
 go_wp2_with (go_at_call 72; refine (sofail_y _).mono ?_; rintro e w2 ⟨rfl, rfl⟩)
 go_ret
 exact ⟨w3, HB3.out, rfl, rfl⟩
theorem header_4 (g : Nat) (c : UInt8) (l : List UInt8) (htx : (c :: l).length ≤ 9223372036854775807) (P : Nat → Prop) (cs : List Value) (ev : Array Value) (w : World) (hT : TrC w P (simpT addrL cRelatesTo (c :: l)) cs) (hb : Blk w g 46 ev) (hj : ev[4]? = some (S (bs []))) :
  Calls pG 81 #[O (some ⟨g, 0, none⟩), .agg cs.toArray] w fun e w' => ∃ wm, Below w.heap.size w wm ∧ e = R (.bool false) ∧ w' = wm.setCell ⟨g, 4, none⟩ (S (bs (c :: l))) := by
 obtain ⟨pa, ca, pk, ck, hcs⟩ : ∃ pa ca pk ck, cs = [S (bs addrL), S (bs cRelatesTo), Y pa 0 ca, Y pk 1 ck, S (bs [])] := by
  exact simp_cells4 hT
 subst hcs
 show Calls pG 81 #[O (some ⟨g, 0, none⟩), M #[S (bs addrL), S (bs cRelatesTo), Y pa 0 ca, Y pk 1 ck, S (bs [])]] w _
 have hba := below_alloc1 w (OO #[S (bs addrL), S (bs cRelatesTo), Y pa 0 ca, Y pk 1 ck, S (bs [])] ELT)
 have hn := Blk.new w ELT #[S (bs addrL), S (bs cRelatesTo), Y pa 0 ca, Y pk 1 ck, S (bs [])]
 obtain ⟨z0, z1, z2, z3, z4, -⟩ := hn.cc
 have hbb := hb.below hba hb.lt
 have kj := (hbb.cell 4).trans hj
 have HC := Lib.hid (word_c cRelatesTo c l htx P _ (w.alloc (OO #[S (bs addrL), S (bs cRelatesTo), Y pa 0 ca, Y pk 1 ck, S (bs [])] ELT)) (hT.below hba))
 have HPL := Lib.hid (fun w => place_4 g w)
 have HBA := Lib.hid hba
 have HBB := Lib.hid hbb
 have HJ := Lib.hid hj
 clear hba hn hbb hT hb hj
 unfold cRelatesTo at *
 unfold addrL at *
 go_enter Tryz.func81, Tryz.ntmps81
 go_wp2_with (first | (go_at_call 72; refine (sofail_y _).mono ?_; rintro e w2 ⟨rfl, rfl⟩) | (go_at_call 137; refine (HPL.out _).mono ?_; rintro e w2 ⟨rfl, rfl⟩))
 refine HC.out.mono ?_
 rintro e w3 ⟨rfl, hb3⟩
 have hb4 := HBB.out.below hb3 HBB.out.lt
 have fj := hb4.frozen 4
 have kj := (hb4.cell 4).trans HJ.out
 have HB3 := Lib.hid (HBA.out.trans (hb3.mono HBA.out.size))
 have k9 := ((hb4.set_ 4 (S (bs (c :: l)))).cell 4).trans (by
  have := (aA.1 HJ.out).1
  rw [Array.getElem?_setIfInBounds_self_of_lt this])
 clear hb4 hb3 z0 z1 z2 z3 z4
 go_wp2_with (go_at_call 72; refine (sofail_y _).mono ?_; rintro e w2 ⟨rfl, rfl⟩)
 go_ret
 exact ⟨w3, HB3.out, rfl, rfl⟩
end
end Go.Proofs.YthboiahdheehkaaGreatDoor
