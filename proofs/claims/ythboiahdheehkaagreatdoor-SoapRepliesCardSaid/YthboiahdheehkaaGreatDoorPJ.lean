/- SpW6 -/
import Derived.Test.YthboiahdheehkaaGreatDoorPH
open List renaming setIfInBounds_toArray → lA, set_cons_succ → lB, set_cons_zero → lC, cons_append → lD, nil_append → lE, not_mem_nil → lG, mem_cons → lI, take_append_drop → lJ, take_succ_cons → lK, drop_succ_cons → lL, take_zero → lM, drop_zero → lN, contains_iff_mem → lO
open Exists renaming intro → xI
open Option renaming bind_eq_some_iff → oA, bind_some → oC
open Nat renaming le_refl → nR, le_trans → nT
open Go.Value renaming string → S
open Go.Value renaming slice → C
open Go.Obj renaming cells → F
namespace Go.Proofs.YthboiahdheehkaaGreatDoor
set_option maxHeartbeats 8000000
set_option maxRecDepth 20000
open Go.RowKit
attribute [local go_sem] bs_toList
attribute [local irreducible] wpPhi wpPhiU PX.wpPhi
theorem resL_nil (ds : Decls) : Tr.resL ds [] = some [] := by rw [Tr.resL]
theorem resL_cons (ds : Decls) (x : Tr) (xs : List Tr) : Tr.resL ds (x :: xs) = (x.res ds).bind fun y => (Tr.resL ds xs).map fun ys => y :: ys := by rw [Tr.resL]
theorem resL_app (ds : Decls) : ∀ xs zs : List Tr, Tr.resL ds (xs ++ zs) = (Tr.resL ds xs).bind fun a => (Tr.resL ds zs).map fun b => a ++ b
 | [], zs => by rw [lE, resL_nil]; simp
 | x :: xs, zs => by
  rw [lD, resL_cons, resL_cons, resL_app ds xs zs]
  cases x.res ds with
  | none => rfl
  | some y =>
   cases Tr.resL ds xs with
   | none => rfl
   | some a =>
    simp only [oC, Option.map_some]
    cases Tr.resL ds zs <;> rfl
theorem resL_step {ds : Decls} {xs ys : List Tr} {j : Nat} (h : j < xs.length) (hd : Tr.resL ds (xs.take j) = some ys) : Tr.resL ds (xs.take (j + 1)) = (xs[j].res ds).map fun y => ys ++ [y] := by
 rw [List.take_succ_eq_append_getElem h, resL_app, hd, resL_cons, resL_nil]
 simp only [oC]
 cases xs[j].res ds <;> rfl
theorem resL_bad {ds : Decls} {xs : List Tr} {j : Nat} (h : Tr.resL ds (xs.take j) = none) : Tr.resL ds xs = none := by
 rw [← lJ j xs, resL_app, h]
 rfl
theorem resL_len {ds : Decls} : ∀ {xs ys : List Tr}, Tr.resL ds xs = some ys → ys.length = xs.length
 | [], ys, h => by rw [resL_nil] at h; cases h; rfl
 | x :: xs, ys, h => by
  rw [resL_cons] at h
  cases h1 : x.res ds with
  | none => rw [h1] at h; cases h
  | some y =>
   rw [h1] at h
   cases h2 : Tr.resL ds xs with
   | none => rw [h2] at h; cases h
   | some zs => rw [h2] at h; cases h; simp [resL_len h2]
theorem res_tx (ds : Decls) (ax : List (List (List UInt8))) (kx : List Tr) (tx : List UInt8) : (Tr.node [[]] ax kx tx).res ds = some (.node [[], []] [] [] tx) := by
 rw [Tr.res]
 exact if_pos (show ([[]] : List (List UInt8)).getD 0 [] = [] from rfl)
theorem res_el {a0 : List UInt8} (h : a0 ≠ []) (ds : Decls) (ax : List (List (List UInt8))) (kx : List Tr) (tx : List UInt8) : (Tr.node [a0] ax kx tx).res ds = (declsF ax).bind fun d => (nameSp (ds ++ d) a0 false).bind fun n => (atsSp (ds ++ d) [] ax).bind fun bts => (Tr.resL (ds ++ d) kx).map fun k => .node n bts k [] := by
 rw [Tr.res]
 exact if_neg (show ¬ [a0].getD 0 [] = [] from h)
mutual
def Tr.few : Tr → Prop
 | .node _ ats ks _ => ats.length ≤ 100000 ∧ ks.length ≤ 100000 ∧ Tr.fewL ks
def Tr.fewL : List Tr → Prop
 | [] => True
 | x :: xs => x.few ∧ Tr.fewL xs
end
theorem fewL_get : ∀ (xs : List Tr), Tr.fewL xs → ∀ (i : Nat) (hi : i < xs.length), (xs[i]).few
 | [], _, i, hi => by simp at hi
 | x :: xs, h, i, hi => by
  unfold Tr.fewL at h
  cases i with
  | zero => exact h.1
  | succ i => exact fewL_get xs h.2 i (by simpa using hi)
def ElR (E : Nat → Addr) (o : Option Tr) (w : World) (e : Ending) (w' : World) : Prop :=
 Below w.heap.size w w' ∧ ((∃ y cs, o = some y ∧ e = .returned (.agg cs.toArray) ∧ TrC w' (Bt w.heap.size w'.heap.size none) y cs) ∨ (o = none ∧ e = .panicked (panE E 3)))
def PAt (O : Option (List (List (List UInt8)))) (base n : Nat) : Part :=
 ⟨fun v => ∃ p c, v = C p n c, fun w v => ∃ out, O = some out ∧ (∀ a ∈ out, a.length = 2 + 1) ∧ out.length = n ∧ w.ownsRow base 87 3 v n (acells out)⟩
theorem PAt_stays {O : Option (List (List (List UInt8)))} {base n : Nat} {w w' : World} {v : Value} (hb : Below w.heap.size w w') (h : (PAt O base n).fact w v) : (PAt O base n).fact w' v := by
 obtain ⟨out, h1, h2, h3, h4⟩ := h
 exact ⟨out, h1, h2, h3, owns_below h4 hb⟩
def PNo : Part := ⟨fun v => v = .nilIface, fun _ _ => False⟩
theorem res_nm {ds : Decls} {x y : Tr} (h : x.res ds = some y) : y.nm.length = 2 := by
 obtain ⟨nm, ats, ks, t⟩ := x
 rw [Tr.res] at h
 split at h
 ·cases h; rfl
 ·obtain ⟨d, _, h⟩ := oA.1 h
  obtain ⟨n, hn, h⟩ := oA.1 h
  obtain ⟨bts, _, h⟩ := oA.1 h
  obtain ⟨k, _, rfl⟩ := Option.map_eq_some_iff.1 h
  rcases nameSp_two (ds := ds ++ d) (s := nm.getD 0 []) (attr := false) with h2 | ⟨a, b, h2⟩
  ·rw [h2] at hn; cases hn
  ·rw [h2] at hn; cases hn; rfl
theorem five_of {l : List Value} (h : l.length = 5) : ∃ a b c d e, l = [a, b, c, d, e] := by
 match l, h with
 | [a, b, c, d, e], _ => exact ⟨a, b, c, d, e, rfl⟩
theorem elem2_info : (Tryz.prog.info? 44).map (fun i => (i.zero, i.size, i.bytes)) = some (some (.agg #[S ⟨#[]⟩, S ⟨#[]⟩, C none 0 0, C none 0 0, S ⟨#[]⟩]), 5, 96) := by kernel_rfl
theorem selem_any (E : Nat → Addr) : ∀ (n : Nat) (x : Tr) (P : Nat → Prop) (cx : List Value) (ls : List Decls) (v : Value) (w : World), x.sz ≤ n → x.ok 1 → x.shr → x.few → TrC w P x cx → ScC w v ls → LibG w → Errs w E →
  Calls Tryz.prog 86 #[v, .agg cx.toArray] w (ElR E (x.res (allD ls)) w) := by
 intro n
 induction n with
 | zero => intro x P cx ls v w hs; have := x.sz_pos; omega
 | succ n ih =>
  intro x P cx ls v w hs hx hsh hfw hcx hsc hg hE
  obtain ⟨nx, ax, kx, tx⟩ := x
  unfold TrC at hcx
  unfold Tr.ok at hx
  unfold Tr.shr at hsh
  unfold Tr.few at hfw
  obtain ⟨hx1, hx2, hx3⟩ := hx
  obtain ⟨hs1, hs2, hs3, hs4⟩ := hsh
  obtain ⟨hf1, hf2, hf3⟩ := hfw
  obtain ⟨a0, rfl⟩ := one_of hx1
  obtain ⟨pa, ca, pk, ck, css, rfl, ⟨A1, A2, A3, -⟩, ⟨K1, K2, K3, -⟩, hL⟩ := hcx
  show Calls Tryz.prog 86 #[v, .agg #[S (bs a0), C pa ax.length ca, C pk kx.length ck, S (bs tx)]] w _
  obtain ⟨vs, rfl⟩ := hsc.one
  obtain ⟨w2, hw2⟩ : ∃ w2, w2 = (w.alloc (F #[S (bs a0), C pa ax.length ca, C pk kx.length ck, S (bs tx)] 96)).alloc (F #[S ⟨#[]⟩, S ⟨#[]⟩, C none 0 0, C none 0 0, S ⟨#[]⟩] 44) := ⟨_, rfl⟩
  have hB2 : Below w.heap.size w w2 := by rw [hw2]; exact below_alloc (below_alloc1 w _) _
  have hN1 : Blk w2 w.heap.size 96 #[S (bs a0), C pa ax.length ca, C pk kx.length ck, S (bs tx)] := by rw [hw2]; exact (Blk.new w _ _).alloc _
  have hN2 : Blk w2 (w.heap.size + 1) 44 #[S ⟨#[]⟩, S ⟨#[]⟩, C none 0 0, C none 0 0, S ⟨#[]⟩] := by
   rw [hw2]
   have := Blk.new (w.alloc (F #[S (bs a0), C pa ax.length ca, C pk kx.length ck, S (bs tx)] 96)) 44 #[S ⟨#[]⟩, S ⟨#[]⟩, C none 0 0, C none 0 0, S ⟨#[]⟩]
   rwa [World.size_alloc] at this
  have HW2 := Lib.hid hw2
  have B2 := Lib.hid hB2
  have N1 := Lib.hid hN1
  have N2 := Lib.hid hN2
  have c0 : ((w.alloc (F #[S (bs a0), C pa ax.length ca, C pk kx.length ck, S (bs tx)] 96)).alloc (F #[S ⟨#[]⟩, S ⟨#[]⟩, C none 0 0, C none 0 0, S ⟨#[]⟩] 44)).cell? ⟨w.heap.size, 0, none⟩ = some (S (bs a0)) := by rw [← hw2]; exact (hN1.cell 0).trans rfl
  by_cases h0 : a0 = []
  ·subst h0
   rw [res_tx]
   have c3 : ((w.alloc (F #[S (bs []), C pa ax.length ca, C pk kx.length ck, S (bs tx)] 96)).alloc (F #[S ⟨#[]⟩, S ⟨#[]⟩, C none 0 0, C none 0 0, S ⟨#[]⟩] 44)).cell? ⟨w.heap.size, 3, none⟩ = some (S (bs tx)) := by rw [← hw2]; exact (hN1.cell 3).trans rfl
   have c0' : ((w.alloc (F #[S (bs []), C pa ax.length ca, C pk kx.length ck, S (bs tx)] 96)).alloc (F #[S ⟨#[]⟩, S ⟨#[]⟩, C none 0 0, C none 0 0, S ⟨#[]⟩] 44)).cell? ⟨w.heap.size, 0, none⟩ = some (S ⟨#[]⟩) := c0
   clear hB2 hN1 hN2 hw2 c0 A3 K3 hL hsc hg hE ih hx2 hx3 hs1 hs2 hs4 hf3
   go_enter Tryz.func86, Tryz.ntmps86
   go_wp2_with (refine wpList_store (.tmp 4) (.tmp 13) 44 rfl rfl (w.heap.size + 1) 0 _ _ #[S ⟨#[]⟩, S ⟨#[]⟩, C none 0 0, C none 0 0, S (bs tx)] rfl rfl (by rw [← HW2.out]; exact N2.out) ?s0 ?s1 ?s2 ?_)
   case s0 => kernel_rfl
   case s1 => simp [Value.oneCell']
   case s2 => simp
   clear c0' c3
   rw [← HW2.out]
   intro w8 hb8 ho8
   rw [putCells_all #[S ⟨#[]⟩, S ⟨#[]⟩, C none 0 0, C none 0 0, S ⟨#[]⟩] #[S ⟨#[]⟩, S ⟨#[]⟩, C none 0 0, C none 0 0, S (bs tx)] rfl] at hb8
   obtain ⟨z0, z1, z2, z3, z4, -⟩ := hb8.cc
   have HBW := Lib.hid (B2.out.trans (ho8.below (by omega : w.heap.size ≤ w.heap.size + 1)))
   clear hb8 ho8
   go_wp2_with fail
   refine bodyPost_ret (v := .agg #[S ⟨#[]⟩, S ⟨#[]⟩, C none 0 0, C none 0 0, S (bs tx)]) (by simp [results, Tryz.results86, go_sem, z0, z1, z2, z3, z4]) rfl ?_
   refine ⟨HBW.out, .inl ⟨_, [S ⟨#[]⟩, S ⟨#[]⟩, C none 0 0, C none 0 0, S (bs tx)], rfl, rfl, ?_⟩⟩
   unfold TrC
   exact ⟨none, 0, none, 0, [], rfl, ⟨nR _, by unfold maxLen; omega, .inl rfl, by simp⟩, ⟨nR _, by unfold maxLen; omega, .inl rfl, by simp⟩, by unfold TrL; rfl⟩
  rw [res_el h0]
  have hi0 : a0.isEmpty = false := by cases a0 with
   | nil => exact absurd rfl h0
   | cons c t => rfl
  have hi1 : (bs a0).toList.isEmpty = false := by rw [bs_toList]; exact hi0
  have hBE := below_any E ls (.pointer vs) pa ca ax w2 (hsc.below hB2) hx2 hs2 (A3.keep (Below.keeps hB2)) A2 A1 hf1 (hg.below hB2) (hE.below hB2)
  have c1 : ((w.alloc (F #[S (bs a0), C pa ax.length ca, C pk kx.length ck, S (bs tx)] 96)).alloc (F #[S ⟨#[]⟩, S ⟨#[]⟩, C none 0 0, C none 0 0, S ⟨#[]⟩] 44)).cell? ⟨w.heap.size, 1, none⟩ = some (C pa ax.length ca) := by rw [← hw2]; exact (hN1.cell 1).trans rfl
  have HA := Lib.hid A3
  have HK := Lib.hid K3
  have HL := Lib.hid hL
  have HX2 := Lib.hid hx2
  have HX3 := Lib.hid hx3
  have HS2 := Lib.hid hs2
  have HS4 := Lib.hid hs4
  have HF3 := Lib.hid hf3
  have HG := Lib.hid hg
  have HE := Lib.hid hE
  have HIH := Lib.hid ih
  have has0 : shS a0 := hs1 a0 (by simp)
  have hca' := A2
  unfold maxLen at hca' K2
  rw [hw2] at hBE
  have hks : ∀ i (hi : i < kx.length), kx[i].sz ≤ n := fun i hi => by
   have := Tr.sz_kid (.node [a0] ax kx tx) i hi
   have h2 : (Tr.node [a0] ax kx tx).ks[i] = kx[i] := rfl
   rw [h2] at this
   omega
  have HKS := Lib.hid hks
  clear hB2 hN1 hN2 hw2 A3 K3 hL hsc hg hE ih hx2 hx3 hs1 hs2 hs4 hf3 h0 hks
  cases hD : declsF ax with
  | none =>
   rw [hD] at hBE
   have HBE := Lib.hid (hBE.mono (R' := fun e w' => e = .panicked (panE E 3) ∧ Below _ _ w') fun e w' h => ⟨h.2.elim (fun ⟨d, v', h1, _⟩ => by cases h1) fun h2 => h2.2, h.1⟩)
   clear hBE
   go_enter Tryz.func86, Tryz.ntmps86
   go_wp2_with (go_at_call 141; refine HBE.out.mono ?_; rintro e w3 ⟨rfl, hb3⟩)
   rw [← HW2.out] at hb3
   exact ⟨rfl, B2.out.trans (hb3.mono B2.out.size), .inr ⟨rfl, rfl⟩⟩
  | some d =>
  rw [hD] at hBE
  have HBE := Lib.hid (hBE.mono (R' := fun e w' => ∃ va, e = .returned (.pointer va) ∧ ScC w' (.pointer va) (d :: ls) ∧ Below _ _ w') fun e w' h => h.2.elim (fun ⟨d', v', h1, h2, h3⟩ => by
   cases h1
   obtain ⟨va, rfl⟩ := h3.one
   exact ⟨va, h2, h3, h.1⟩) fun h2 => by cases h2.1)
  have HDC : allD (d :: ls) = allD ls ++ d := allD_cons d ls
  clear hBE hD
  simp only [oC]
  rw [← HDC]
  clear HDC
  obtain ⟨R, hR⟩ : ∃ R, ((nameSp (allD (d :: ls)) a0 false).bind fun n => (atsSp (allD (d :: ls)) [] ax).bind fun bts => (Tr.resL (allD (d :: ls)) kx).map fun k => Tr.node n bts k []) = R := ⟨_, rfl⟩
  rw [hR]
  have HR := Lib.hid hR
  have hO2 := nameSp_two (ds := allD (d :: ls)) (s := a0) (attr := false)
  clear hR
  go_enter Tryz.func86, Tryz.ntmps86
  go_wp2_with (go_at_call 141; refine HBE.out.mono ?_; rintro e w3 ⟨vb, rfl, hsc3, hb3⟩)
  rw [← HW2.out] at hb3
  have HB3 := Lib.hid (B2.out.trans (hb3.mono B2.out.size))
  have HSC := Lib.hid hsc3
  have N13 := Lib.hid (N1.out.below hb3 N1.out.lt)
  have N23 := Lib.hid (N2.out.below hb3 N2.out.lt)
  obtain ⟨d0, d1, -⟩ := N13.out.cc
  have hlt3 := N23.out.lt
  clear hb3 hsc3 c0 c1 hi0 hi1 HBE HW2 B2 N1 N2
  have HNM := Lib.hid (fun w' (hb : Below w3.heap.size w3 w') => sname_any E (d :: ls) (.pointer vb) a0 has0 false w' (HSC.out.below hb) (HG.out.below (HB3.out.trans (hb.mono HB3.out.size))) (HE.out.below (HB3.out.trans (hb.mono HB3.out.size))))
  have HAT := Lib.hid (fun w' (hb : Below w3.heap.size w3 w') => sattrs_any E (d :: ls) (.pointer vb) pa ca ax w' (HSC.out.below hb) HX2.out HS2.out (HA.out.keep (Below.keeps (HB3.out.trans (hb.mono HB3.out.size)))) A2 A1 hf1 (HG.out.below (HB3.out.trans (hb.mono HB3.out.size))) (HE.out.below (HB3.out.trans (hb.mono HB3.out.size))))
  generalize hDs : allD (d :: ls) = Ds at *
  have HDS := Lib.hid hDs
  clear hDs
  generalize nameSp Ds a0 false = O at *
  generalize atsSp Ds [] ax = O2 at *
  obtain ⟨sp, lq, hO⟩ : ∃ sp lq, O = none ∨ O = some [sp, lq] := by
   rcases hO2 with h | ⟨a, b, h⟩
   ·exact ⟨[], [], .inl h⟩
   ·exact ⟨a, b, .inr h⟩
  have HOO := Lib.hid hO
  obtain ⟨m, hm⟩ : ∃ m, (O2.getD []).length = m := ⟨_, rfl⟩
  have HM := Lib.hid hm
  clear hO hO2 hm
  refine PX.wp_phi_tail (List.take 10 _) (List.drop 10 _) (lJ 10 _).symm (fun ch w' => ch = panE E 3 ∧ Below w.heap.size w w' ∧ (O = none ∨ O2 = none)) ?_ (fun w' => Below w.heap.size w w' ∧ Below w3.heap.size w3 w' ∧ w'.cell? ⟨w.heap.size, 0, none⟩ = some (S (bs a0)) ∧ w'.cell? ⟨w.heap.size, 0 + 1, none⟩ = some (C pa ax.length ca)) [(3, PNm O sp lq), (7, PAt O2 w3.heap.size m), (9, PNew w3.heap.size 44 #[S ⟨#[]⟩, S ⟨#[]⟩, C none 0 0, C none 0 0, S ⟨#[]⟩])] [] (by kernel_rfl) (by kernel_rfl) ?_ ?_ ⟨HB3.out.drew, (Below.refl _ w3).drew, d0, d1⟩ ?_
  ·rintro ch a w' hd ⟨rfl, hb, ho⟩
   have HR0 : R = none := by
    have h := HR.out
    rcases ho with ho | ho
    ·rw [ho] at h; exact h.symm
    ·rw [ho] at h
     cases O with
     | none => exact h.symm
     | some o => exact h.symm
   simp only [Exit.then, Exit.inBlock, bodyPost]
   exact ⟨hd, hb, .inr ⟨HR0, rfl⟩⟩
  ·rintro w1' w2' ⟨h1, h2, h3, h4⟩ hb
   exact ⟨h1.trans (hb.mono h1.size), h2.trans (hb.mono h2.size), Below.keeps hb _ _ h3, Below.keeps hb _ _ h4⟩
  ·simp only [lI, lG, or_false, forall_eq_or_imp, forall_eq]
   exact ⟨fun _ _ _ _ _ h => h, fun _ _ _ _ hb h => PAt_stays hb h, fun _ _ _ _ hb h => PNew_stays hb h⟩
  simp only [lK, lM, lL, lN]
  repeat ((first | refine PX.phi_skipK rfl (fun K hK => ?_) | (refine PX.phi_pureK rfl rfl (fun K hK => ?_); apply xI; constructor; (focus (rintro w' ⟨h1, h2, h3, h4⟩; (clear h1 h2); first | (go_simp; done) | (go_simp; (try go_bits); (try go_simp); rfl) | go_simp)))); simp only [Act.put, lA, lB, lC, lD, lE]; apply hK; clear hK K)
  refine PX.phi_partK (PNm O sp lq) rfl rfl ⟨_, rfl⟩ ?_ (fun K hK v hv => ?_)
  ·rintro w' ⟨h1, h2, h3, h4⟩ _
   have HC := Lib.hid (HNM.out w' h2)
   have HH := Lib.hid h1
   clear h1 h2 h3 h4
   unfold PX.gives
   go_simp
   refine HC.out.mono ?_
   rintro e w'' ⟨hb, ⟨k, hk, rfl⟩ | ⟨hk, rfl⟩⟩
   ·refine .inl ⟨_, rfl, ?_, ?_, hb⟩
    ·rcases HOO.out with h | h
     ·rw [hk] at h; cases h
     ·rw [hk] at h; cases h; rfl
    ·show O ≠ none
     rw [hk]; simp
   ·exact .inr ⟨_, rfl, rfl, HH.out.trans (hb.mono HH.out.size), .inl hk⟩
  obtain rfl : v = _ := hv
  simp only [Act.put, lA, lB, lC, lD, lE]
  apply hK
  clear hK K
  repeat ((first | refine PX.phi_skipK rfl (fun K hK => ?_) | (refine PX.phi_pureK rfl rfl (fun K hK => ?_); apply xI; constructor; (focus (rintro w' ⟨h1, h2, h3, h4⟩; (clear h1 h2); first | (go_simp; done) | (go_simp; (try go_bits); (try go_simp); rfl) | go_simp)))); simp only [Act.put, lA, lB, lC, lD, lE]; apply hK; clear hK K)
  refine PX.phi_partK (PAt O2 w3.heap.size m) rfl rfl ⟨_, none, 0, rfl⟩ ?_ (fun K hK v hv => ?_)
  ·rintro w' ⟨h1, h2, h3, h4⟩ _
   have HC := Lib.hid (HAT.out w' h2)
   have HH := Lib.hid h1
   have HS3 := Lib.hid h2.size
   clear h1 h2 h3 h4
   unfold PX.gives
   go_simp
   refine HC.out.mono ?_
   rintro e w'' ⟨hb, ⟨out, v', ho, rfl, hl3, _, hown⟩ | ⟨hk, rfl⟩⟩
   ·have hml : m = out.length := by rw [← HM.out, ho]; rfl
    subst hml
    obtain ⟨p7, c7, rfl, _⟩ := owns_rd hown
    exact .inl ⟨_, rfl, ⟨p7, c7, rfl⟩, ⟨out, ho, hl3, rfl, owns_lower hown HS3.out⟩, hb⟩
   ·exact .inr ⟨_, rfl, rfl, HH.out.trans (hb.mono HH.out.size), .inr hk⟩
  obtain ⟨p7, c7, rfl⟩ := hv
  simp only [Act.put, lA, lB, lC, lD, lE]
  apply hK
  clear hK K
  repeat ((first | refine PX.phi_skipK rfl (fun K hK => ?_) | (refine PX.phi_pureK rfl rfl (fun K hK => ?_); apply xI; constructor; (focus (rintro w' ⟨h1, h2, h3, h4⟩; (clear h1 h2); first | (go_simp; done) | (go_simp; (try go_bits); (try go_simp); rfl) | go_simp)))); simp only [Act.put, lA, lB, lC, lD, lE]; apply hK; clear hK K)
  refine PX.phi_partK (PNew w3.heap.size 44 #[S ⟨#[]⟩, S ⟨#[]⟩, C none 0 0, C none 0 0, S ⟨#[]⟩]) rfl rfl ⟨_, 0, rfl⟩ ?_ (fun K hK v hv => ?_)
  ·rintro w' ⟨h1, h2, h3, h4⟩ _
   have HH := Lib.hid h2.size
   clear h1 h2 h3 h4
   unfold PX.gives
   go_simp
   exact ⟨⟨_, rfl⟩, fun g hg => by
    obtain rfl : w'.heap.size = g := by simpa using hg
    exact ⟨HH.out, Blk.new _ _ _⟩, below_alloc1 _ _⟩
  obtain ⟨g9, rfl⟩ := hv
  simp only [Act.put, lA, lB, lC, lD, lE]
  apply hK
  clear hK K
  refine PX.phi_done ?_
  rintro w5 ⟨h1, h2, h3, h4⟩ hk
  have e1 : O ≠ none := hk (3, fun w => (PNm O sp lq).fact w (.agg #[S (bs sp), S (bs lq)])) (by simp)
  obtain ⟨outs, ho2, hl3, hlm, hown5⟩ := hk (7, fun w1 => (PAt O2 w3.heap.size m).fact w1 (C p7 m c7)) (by simp)
  obtain ⟨hg9, hB9⟩ := hk (9, fun w1 => (PNew w3.heap.size 44 #[S ⟨#[]⟩, S ⟨#[]⟩, C none 0 0, C none 0 0, S ⟨#[]⟩]).fact w1 (.pointer (some ⟨g9, 0, none⟩))) (by simp) g9 rfl
  have hO := HOO.out.resolve_left e1
  have HR2 : RowKit.Hid (((Tr.resL Ds kx).map fun k => Tr.node [sp, lq] outs k []) = R) := Lib.hid (by
   have h := HR.out
   rw [hO, ho2] at h
   exact h)
  have HOW5 := Lib.hid hown5
  have HB9 := Lib.hid hB9
  have H1 := Lib.hid h1
  have H2 := Lib.hid h2
  have HL3 := Lib.hid hl3
  have hgl := hB9.lt
  have hs35 := h2.size
  subst hlm
  clear hk hO e1 ho2 HR hown5 hB9 h1 h2 h3 h4 d0 d1 HNM HAT HM HOO hl3
  refine wpList_store (.tmp 5) (.tmp 26) 44 rfl rfl g9 0 _ _ #[S (bs sp), S (bs lq), C p7 outs.length c7, C none 0 0, S ⟨#[]⟩] rfl rfl HB9.out (by kernel_rfl) (by simp [Value.oneCell']) (by simp) ?_
  intro w6 hb6 ho6
  rw [putCells_all #[S ⟨#[]⟩, S ⟨#[]⟩, C none 0 0, C none 0 0, S ⟨#[]⟩] #[S (bs sp), S (bs lq), C p7 outs.length c7, C none 0 0, S ⟨#[]⟩] rfl] at hb6
  have N16 := Lib.hid (ho6.blk (N13.out.below H2.out N13.out.lt) (by omega))
  have N26 := Lib.hid (ho6.blk (N23.out.below H2.out N23.out.lt) (by omega))
  have OW6 := Lib.hid (ho6.owns HB9.out HOW5.out (by decide))
  have B36 := Lib.hid (H2.out.trans (ho6.below hg9))
  have N96 := Lib.hid hb6
  have k2 := (N16.out.cell 2).trans rfl
  have h9l := N96.out.lt
  obtain ⟨i9, hi9, hy0, hy1, hy2⟩ := info_parts elem2_info
  clear hb6 ho6 HOW5 HB9 H1 H2
  go_wp2_with fail
  go_loopw [30] (fun i wr => ∃ (j : Nat) (v : Value) (ys : List Tr) (ds : List (List Value)), j ≤ kx.length ∧ i = .int .i64 j ∧ Tr.resL Ds (kx.take j) = some ys ∧ wr.ownsRow w6.heap.size 44 5 v j ds.flatten ∧ TrL wr (Bt w6.heap.size wr.heap.size v.ownBlock) ys ds ∧ wr.ownsRow w3.heap.size 87 3 (C p7 outs.length c7) outs.length (acells outs) ∧ Blk wr g9 44 #[S (bs sp), S (bs lq), C p7 outs.length c7, v, S ⟨#[]⟩] ∧ Below w3.heap.size w3 wr ∧ w6.heap.size ≤ wr.heap.size) (fun i _ => kx.length - (intOf i).toNat)
  case atStart => exact ⟨0, C none 0 0, [], [], by omega, rfl, resL_nil _, ⟨rfl, .inl ⟨rfl, rfl⟩⟩, (by unfold TrL; rfl), OW6.out, N96.out, B36.out, nR _⟩
  case round =>
   clear OW6 N96 N16 N26 k2 B36
   obtain ⟨j, v, ys, ds, hj, rfl, hrl, hrow, hkids, hown, hO, hbr, hle6⟩ := hrel
   have hbw := HB3.out.trans (hbr.mono HB3.out.size)
   by_cases hlt : j < kx.length
   ·obtain ⟨e1, o1, m0, u1, u2, u3, u4, u5, u6, u7, rfl, hgx, hT1, hk0, hk1, hk2, hk3⟩ := kid_1 HK.out HL.out HX3.out hlt
    have ok1 := okL_get 1 kx HX3.out j hlt
    have sh1 := shrL_get kx HS4.out j hlt
    have fw1 := fewL_get kx HF3.out j hlt
    have hst := resL_step hlt hrl
    have hk0 := Below.keeps hbw _ _ hk0
    have hk1 := Below.keeps hbw _ _ hk1
    have hk2 := Below.keeps hbw _ _ hk2
    have hk3 := Below.keeps hbw _ _ hk3
    have ihc := Lib.hid (fun (w' : World) (hb : Below w3.heap.size w3 w') => HIH.out kx[j] P _ (d :: ls) (.pointer vb) w' (HKS.out j hlt) ok1 sh1 fw1 (hT1.below (HB3.out.trans (hb.mono HB3.out.size))) (HSC.out.below hb) (HG.out.below (HB3.out.trans (hb.mono HB3.out.size))) (HE.out.below (HB3.out.trans (hb.mono HB3.out.size))))
    rw [HDS.out] at ihc
    have hlt' : (j : Int) < (kx.length : Int) := by omega
    obtain ⟨pv, cv, rfl, _, _, _⟩ := owns_rd hrow
    have HVL := Lib.hid (fun g hg => hrow.lt g hg)
    have HST := Lib.hid hst
    have HRL := Lib.hid hrl
    have G3 := Lib.hid (hO.alloc (F #[S (bs m0), C u4 u1.length u5, C u6 u2.length u7, S (bs u3)] 96))
    have G4 := Lib.hid (Blk.new wr 96 #[S (bs m0), C u4 u1.length u5, C u6 u2.length u7, S (bs u3)])
    have G5 := Lib.hid (owns_below hown (below_alloc1 wr (F #[S (bs m0), C u4 u1.length u5, C u6 u2.length u7, S (bs u3)] 96)))
    have G6 := Lib.hid (owns_below hrow (below_alloc1 wr (F #[S (bs m0), C u4 u1.length u5, C u6 u2.length u7, S (bs u3)] 96)))
    have G7 := Lib.hid (hkids.below (below_alloc1 wr (F #[S (bs m0), C u4 u1.length u5, C u6 u2.length u7, S (bs u3)] 96)))
    have G8 := Lib.hid (hbr.alloc hbr.size (F #[S (bs m0), C u4 u1.length u5, C u6 u2.length u7, S (bs u3)] 96))
    have hs3r := hbr.size
    have hs36 : w3.heap.size ≤ w6.heap.size := by omega
    clear hT1 hown hrow hkids hO hbw hbr hst hrl ok1 sh1 fw1 hgx
    go_wp2_with fail
    clear hk0 hk1 hk2 hk3
    have hsz : (wr.alloc (F #[S (bs m0), C u4 u1.length u5, C u6 u2.length u7, S (bs u3)] 96)).heap.size = wr.heap.size + 1 := by simp
    generalize wr.alloc (F #[S (bs m0), C u4 u1.length u5, C u6 u2.length u7, S (bs u3)] 96) = wa at *
    cases hX : kx[j].res Ds with
    | none =>
     rw [hX] at ihc HST
     have HR0 : RowKit.Hid (R = none) := Lib.hid (by
      rw [← HR2.out, resL_bad HST.out]
      rfl)
     refine PX.wp_phi_tail (List.take 8 _) (List.drop 8 _) (lJ 8 _).symm (fun ch w' => ch = panE E 3 ∧ Below w.heap.size w w') ?_ (fun w' => Below w3.heap.size w3 w' ∧ Blk w' g9 44 #[S (bs sp), S (bs lq), C p7 outs.length c7, C pv j cv, S ⟨#[]⟩] ∧ Blk w' wr.heap.size 96 #[S (bs m0), C u4 u1.length u5, C u6 u2.length u7, S (bs u3)]) [(4, PNo), (5, PNo), (6, PNo)] [(5, [4]), (6, [4])] (by kernel_rfl) (by kernel_rfl) ?_ ?_ ⟨G8.out.drew, G3.out, G4.out⟩ ?_
     ·rintro ch a w' hd ⟨rfl, hb⟩
      simp only [Exit.then, Exit.inBlock, bodyPost]
      exact ⟨hd, hb, .inr ⟨HR0.out, rfl⟩⟩
     ·rintro w1' w2' ⟨h1, h2, h3⟩ hb
      exact ⟨h1.trans (hb.mono h1.size), h2.below hb h2.lt, h3.below hb h3.lt⟩
     ·simp only [lI, lG, or_false, forall_eq_or_imp, forall_eq]
      exact ⟨fun _ _ _ _ _ h => h, fun _ _ _ _ _ h => h, fun _ _ _ _ _ h => h⟩
     simp only [lK, lM, lL, lN]
     repeat ((first | refine PX.phi_skipK rfl (fun K hK => ?_) | (refine PX.phi_pureK rfl rfl (fun K hK => ?_); apply xI; constructor; (focus (rintro w' ⟨h1, h2, h3⟩; (have q3 := (h2.cell 3).trans rfl; obtain ⟨r0, r1, r2, r3, -⟩ := h3.cc; clear h1 h2 h3); first | (go_simp; done) | (go_simp; (try go_bits); (try go_simp); rfl) | go_simp)))); simp only [Act.put, lA, lB, lC, lD, lE]; apply hK; clear hK K)
     refine PX.phi_partK PNo rfl rfl ⟨_, rfl⟩ ?_ (fun K hK v hv => ?_)
     ·rintro w' ⟨h1, h2, h3⟩ _
      have HC := Lib.hid (ihc.out w' h1)
      have HH := Lib.hid (HB3.out.trans (h1.mono HB3.out.size))
      clear h1 h2 h3
      unfold PX.gives
      go_simp
      refine HC.out.mono ?_
      rintro e w'' ⟨hb, ⟨y, cs, hy, _⟩ | ⟨_, rfl⟩⟩
      ·cases hy
      ·exact .inr ⟨_, rfl, rfl, HH.out.trans (hb.mono HH.out.size)⟩
     obtain rfl : v = _ := hv
     simp only [Act.put, lA, lB, lC, lD, lE]
     apply hK
     clear hK K
     refine PX.phi_partK PNo rfl rfl ⟨_, rfl⟩ ?_ (fun K hK v hv => ?_)
     ·rintro w' _ hf
      exact (hf (4, fun w => PNo.fact w .nilIface) (by simp) (lO.1 rfl)).elim
     obtain rfl : v = _ := hv
     simp only [Act.put, lA, lB, lC, lD, lE]
     apply hK
     clear hK K
     refine PX.phi_partK PNo rfl rfl ⟨_, rfl⟩ ?_ (fun K hK v hv => ?_)
     ·rintro w' _ hf
      exact (hf (4, fun w => PNo.fact w .nilIface) (by simp) (lO.1 rfl)).elim
     obtain rfl : v = _ := hv
     simp only [Act.put, lA, lB, lC, lD, lE]
     apply hK
     clear hK K
     repeat ((first | refine PX.phi_skipK rfl (fun K hK => ?_) | (refine PX.phi_pureK rfl rfl (fun K hK => ?_); apply xI; constructor; (focus (rintro w' ⟨h1, h2, h3⟩; (clear h1 h2 h3); first | (go_simp; done) | (go_simp; (try go_bits); (try go_simp); rfl) | go_simp)))); simp only [Act.put, lA, lB, lC, lD, lE]; apply hK; clear hK K)
     refine PX.phi_done ?_
     rintro w5' _ hk
     exact (hk (4, fun w => PNo.fact w .nilIface) (by simp)).elim
    | some X =>
     rw [hX] at ihc HST
     have hnm2 := res_nm hX
     clear hX
     refine wp_phiU_tail (List.take 8 _) (List.drop 8 _) (lJ 8 _).symm (rT 6 w6.heap.size 5 44 (C pv j cv) j)
      (fun w' => Blk w' g9 44 #[S (bs sp), S (bs lq), C p7 outs.length c7, C pv j cv, S ⟨#[]⟩] ∧ Blk w' wr.heap.size 96 #[S (bs m0), C u4 u1.length u5, C u6 u2.length u7, S (bs u3)] ∧ w'.ownsRow w3.heap.size 87 3 (C p7 outs.length c7) outs.length (acells outs) ∧ TrL w' (Bt w6.heap.size wr.heap.size (C pv j cv).ownBlock) ys ds ∧ Below w3.heap.size w3 w' ∧ wr.heap.size + 1 ≤ w'.heap.size)
      [(4, PKid (fun v => ∃ c0 c1 c2 c3 c4, v = Value.agg #[c0, c1, c2, c3, c4]) wr.heap.size X), (5, POne wr.heap.size 44 X), (6, PRow w6.heap.size 5 44 (j + 1) ys ds X)] [(5, [4]), (6, [4, 5])] [(6, fun w' => w'.ownsRow w6.heap.size 44 5 (C pv j cv) j ds.flatten)] [] (by kernel_rfl) (by kernel_rfl) ?_ ?_ ?_ ?_ ?_ ?_
     ·rintro p _ w1 w2 ⟨g1, g2, g5, g6, g7, g8⟩ hR
      exact ⟨rT_blklo hR g1 h9l, rT_blk hR g2 (fun e => by have := (HVL.out _ e).2; omega), rT_owns hR g5 (by decide), rT_trl hR g6 (fun b hb => hb.2.2), rT_below hR g7 (by omega) (by omega), nT g8 (rT_size hR)⟩
     ·intro p hp p' hp' hne hks hns w1 w2 v hI hR hf
      have hv : ∀ g, (C pv j cv).ownBlock = some g → g < wr.heap.size := fun g hg => (HVL.out g hg).2
      simp only [lI, lG, or_false] at hp hp'
      rcases hp with rfl | rfl | rfl
      ·exact PKid_stays hR hv hf
      ·exact POne_stays hR hv hf
      ·rcases hp' with rfl | rfl | rfl
       ·exact absurd (show (4 : Nat) ∈ needs [(5, [4]), (6, [4, 5])] 6 by decide) hns
       ·exact absurd (show (5 : Nat) ∈ needs [(5, [4]), (6, [4, 5])] 6 by decide) hns
       ·exact absurd rfl hne
     ·intro p hp u hu hne w1 w2 hI hR hf
      simp only [lI, lG, or_false] at hp hu
      subst hu
      rcases hp with rfl | rfl | rfl
      ·have hR := rT_o (show (4 : Nat) ≠ 6 by decide) ▸ hR
       exact owns_below hf hR
      ·have hR := rT_o (show (5 : Nat) ≠ 6 by decide) ▸ hR
       exact owns_below hf hR
      ·exact absurd rfl hne
     ·intro u hu
      simp only [lI, lG, or_false] at hu
      subst hu
      exact owns_below G6.out (Below.refl _ _).drew
     ·exact ⟨G3.out, G4.out, owns_below G5.out (Below.refl _ _).drew, G7.out.below (Below.refl _ _).drew, G8.out.drew, by show wr.heap.size + 1 ≤ wa.heap.size; omega⟩
     simp only [lK, lM, lL, lN]
     clear G3 G4 G5 G6 G7 G8
     repeat ((first | refine phiU_skipK rfl (fun K hK => ?_) | (refine phiU_pureK rfl rfl (fun K hK => ?_); apply xI; constructor; (focus (rintro w' ⟨g1, g2, g5, g6, g7, g8⟩; have k1 := (g1.cell 3).trans rfl; obtain ⟨q0, q1, q2, q3, -⟩ := g2.cc; clear g1 g2 g5 g6 g7 g8; first | (go_simp; done) | (go_simp; (try go_bits); (try go_simp); rfl) | go_simp)))); simp only [Act.put, lA, lB, lC, lD, lE]; apply hK; clear hK K)
     refine phiU_partK (PKid (fun v => ∃ c0 c1 c2 c3 c4, v = Value.agg #[c0, c1, c2, c3, c4]) wr.heap.size X) rfl rfl ⟨_, .nilIface, .nilIface, .nilIface, .nilIface, .nilIface, rfl⟩ ?_ (fun K hK v hv => ?_)
     ·rintro w' ⟨g1, g2, g5, g6, g7, g8⟩ hf hu
      clear hf hu
      unfold gives
      have HC := Lib.hid (ihc.out w' g7)
      have HG8 := Lib.hid g8
      clear g1 g2 g5 g6 g7 g8
      go_simp
      refine HC.out.mono ?_
      rintro e w'' ⟨hb, ⟨y, cs, hy, rfl, hcs⟩ | ⟨hy, _⟩⟩
      ·cases hy
       obtain ⟨c0, c1, c2, c3, c4, rfl⟩ := five_of (l := cs) (by rw [hcs.len, hnm2])
       exact ⟨_, rfl, ⟨c0, c1, c2, c3, c4, rfl⟩, ⟨_, w''.heap.size, rfl, hcs.imp (fun b hb => ⟨nT HG8.out hb.1, hb.2.1, hb.2.2⟩), nR _⟩, by rw [rT_o (by decide)]; exact hb⟩
      ·cases hy
     obtain ⟨c0, c1, c2, c3, c4, rfl⟩ := hv
     simp only [Act.put, lA, lB, lC, lD, lE]
     apply hK
     clear hK K
     refine phiU_partK (POne wr.heap.size 44 X) rfl rfl ⟨_, 0, rfl⟩ ?_ (fun K hK v hv => ?_)
     ·rintro w' ⟨g1, g2, g5, g6, g7, g8⟩ hf hu
      have h3 := hf (4, fun w1 => (PKid (fun v => ∃ c0 c1 c2 c3 c4, v = Value.agg #[c0, c1, c2, c3, c4]) wr.heap.size X).fact w1 (.agg #[c0, c1, c2, c3, c4])) (by simp) (lO.1 rfl) rfl
      have HG := Lib.hid (And.intro h3 g8)
      clear hf hu h3 g1 g2 g5 g6 g7 g8
      unfold gives
      go_simp
      refine ⟨⟨_, rfl⟩, fun g hg => ?_, by rw [rT_o (by decide)]; exact below_alloc1 _ _⟩
      obtain rfl : w'.heap.size = g := by simpa using hg
      obtain ⟨⟨cs, B, e3, t3, b3⟩, g8⟩ := HG.out
      injection e3 with e3
      refine ⟨by omega, cs, B, ?_, t3.below (below_alloc1 _ _), nT b3 (below_alloc1 w' _).size⟩
      rw [← e3]
      exact Blk.new _ _ _
     obtain ⟨g7', rfl⟩ := hv
     simp only [Act.put, lA, lB, lC, lD, lE]
     apply hK
     clear hK K
     refine phiU_partK (PRow w6.heap.size 5 44 (j + 1) ys ds X) rfl rfl ⟨_, none, 0, rfl⟩ ?_ (fun K hK v hv => ?_)
     ·rintro w' ⟨g1, g2, g5, g6, g7, g8⟩ hf hu
      have h4 := hf (5, fun w1 => (POne wr.heap.size 44 X).fact w1 (C (some ⟨g7', 0, none⟩) 1 1)) (by simp) (lO.1 rfl) rfl
      obtain ⟨h4b, cs, B, b4, t4, l4⟩ := h4 g7' rfl
      have hu8 : w'.ownsRow w6.heap.size 44 5 (C pv j cv) j ds.flatten := hu (6, fun w' => w'.ownsRow w6.heap.size 44 5 (C pv j cv) j ds.flatten) (by simp) rfl
      have hv : ∀ g, (C pv j cv).ownBlock = some g → g < wr.heap.size := fun g hg => (HVL.out g hg).2
      clear hf hu h4
      refine gives_appAt (.tmp 35) (.tmp 39) 39 rfl w6.heap.size 44 i9 (.agg #[S ⟨#[]⟩, S ⟨#[]⟩, C none 0 0, C none 0 0, S ⟨#[]⟩]) 5 96 Tryz.underlying39 hi9 hy0 hy1 hy2 rfl (by decide) _ _ _ rfl hu8 _ _ _ cs rfl (by rw [t4.len, hnm2]) (.inr ⟨g7', 0, rfl, fun i u hiu => ?_⟩) t4.one (by unfold maxLen; omega) (by omega) (by omega) ?_
      ·rw [Nat.zero_add, b4.cell]
       simpa using hiu
      intro v2 w2 ho2 hg2 hat2
      obtain ⟨p2, c2, rfl, _, _, _⟩ := owns_rd ho2
      refine ⟨⟨p2, c2, rfl⟩, prow_step hg2 hat2 hv (by omega) (by omega) g6 t4 l4 (by rw [flat_snoc]; exact ho2), ?_⟩
      rw [rT_at]
      exact ⟨⟨_, hu8⟩, hg2⟩
     obtain ⟨p8, c8, rfl⟩ := hv
     simp only [Act.put, lA, lB, lC, lD, lE]
     apply hK
     clear hK K
     repeat ((first | refine phiU_skipK rfl (fun K hK => ?_) | (refine phiU_pureK rfl rfl (fun K hK => ?_); apply xI; constructor; (focus (rintro w' ⟨g1, g2, g5, g6, g7, g8⟩; have k1 := (g1.cell 3).trans rfl; clear g1 g2 g5 g6 g7 g8; first | (go_simp; done) | (go_simp; (try go_bits); (try go_simp); rfl) | go_simp)))); simp only [Act.put, lA, lB, lC, lD, lE]; apply hK; clear hK K)
     refine phiU_done ?_
     rintro w9 ⟨g1, g2, g5, g6, g7, g8⟩ hf
     obtain ⟨cs, ho9, hk9⟩ := hf (6, fun w1 => (PRow w6.heap.size 5 44 (j + 1) ys ds X).fact w1 (C p8 (j + 1) c8)) (by simp) rfl
     have f1 := g1.frozen 3
     have k1 := (g1.cell 3).trans rfl
     have O9 := ((Only.refl g9 w9).set_ 3 (C p8 (j + 1) c8))
     have R3 := Lib.hid (show Blk (w9.setCell ⟨g9, 3, none⟩ (C p8 (j + 1) c8)) g9 44 #[S (bs sp), S (bs lq), C p7 outs.length c7, C p8 (j + 1) c8, S ⟨#[]⟩] from g1.set_ 3 _)
     have R4 := Lib.hid (g7.setCell (p := ⟨g9, 3, none⟩) hg9 (C p8 (j + 1) c8))
     have R5 := Lib.hid (O9.owns2 ho9 h9l)
     have R6 := Lib.hid (O9.owns g1 g5 (by decide))
     have R7 := Lib.hid (hk9.only O9 (fun b hb => by have := hb.1; omega))
     rw [show w9.heap.size = (w9.setCell ⟨g9, 3, none⟩ (C p8 (j + 1) c8)).heap.size from O9.size.symm] at R7
     have R8 : w6.heap.size ≤ (w9.setCell ⟨g9, 3, none⟩ (C p8 (j + 1) c8)).heap.size := by rw [O9.size]; omega
     clear hf g1 g2 g5 g6 g7 g8 O9 ho9 hk9 ihc HVL
     go_wp2_with fail
     go_roundw
     case rel => exact ⟨j + 1, C p8 (j + 1) c8, ys ++ [X], ds ++ [cs], by omega, by go_num, HST.out, R5.out, R7.out, R6.out, R3.out, R4.out, R8⟩
     case measure => simp [intOf]; omega
   ·obtain rfl : j = kx.length := by omega
    rw [List.take_of_length_le (nR _)] at hrl
    have HR0 : RowKit.Hid (R = some (.node [sp, lq] outs ys [])) := Lib.hid (by rw [← HR2.out, hrl]; rfl)
    have hyl := resL_len hrl
    obtain ⟨pA, cA, heA, yy1, yy2, yy3, yy4⟩ := owns_rdP hown
    cases heA
    obtain ⟨pv, cv, rfl, zz1, zz2, zz3, zz4⟩ := owns_rdP hrow
    obtain ⟨r0, r1, r2, r3, r4, -⟩ := hO.cc
    have HMb := Lib.hid (N23.out.below hbr N23.out.lt)
    have hs3r := hbr.size
    have HFIN := Lib.hid (show ∀ w', Only (w.heap.size + 1) wr w' → TrC w' (Bt w.heap.size w'.heap.size none) (.node [sp, lq] outs ys []) [S (bs sp), S (bs lq), C p7 outs.length c7, C pv kx.length cv, S ⟨#[]⟩] from fun w' k => by
     have e := k.size
     have q1 : Rd w' p7 (acells outs) := yy3.keepP (P := fun b => w3.heap.size ≤ b) (fun a ha => (yy4 a ha).1) fun a v hp hc => (World.cell?_of_block (k.block a.block (by omega))).trans hc
     have q2 : Rd w' pv ds.flatten := zz3.keepP (P := fun b => w6.heap.size ≤ b) (fun a ha => (zz4 a ha).1) fun a v hp hc => (World.cell?_of_block (k.block a.block (by omega))).trans hc
     unfold TrC
     rw [hyl]
     exact ⟨p7, c7, pv, cv, ds, rfl, ⟨yy1, yy2, q1, fun a ha => ⟨by have := (yy4 a ha).1; omega, by rw [e]; exact (yy4 a ha).2, by simp⟩⟩, ⟨zz1, zz2, q2, fun a ha => ⟨by have := (zz4 a ha).1; omega, by rw [e]; exact (zz4 a ha).2, by simp⟩⟩,
      (hkids.only k (fun b hb => by have := hb.1; omega)).imp fun b hb => ⟨by have := hb.1; omega, by rw [e]; exact hb.2.1, by simp⟩⟩)
    have HBW := Lib.hid hbw
    clear hO hown hrow hkids hbw hbr hrl yy1 yy2 yy3 yy4 zz1 zz2 zz3 zz4
    go_wp2_with (refine wpList_store (.tmp 4) (.tmp 43) 44 rfl rfl (w.heap.size + 1) 0 _ _ #[S (bs sp), S (bs lq), C p7 outs.length c7, C pv kx.length cv, S ⟨#[]⟩] rfl rfl HMb.out ?s0 ?s1 ?s2 ?_)
    case s0 => kernel_rfl
    case s1 => simp [Value.oneCell']
    case s2 => simp
    intro w8 hb8 ho8
    rw [putCells_all #[S ⟨#[]⟩, S ⟨#[]⟩, C none 0 0, C none 0 0, S ⟨#[]⟩] #[S (bs sp), S (bs lq), C p7 outs.length c7, C pv kx.length cv, S ⟨#[]⟩] rfl] at hb8
    obtain ⟨z0, z1, z2, z3, z4, -⟩ := hb8.cc
    have HO8 := Lib.hid ho8
    clear r0 r1 r2 r3 r4 hb8 ho8
    go_wp2_with fail
    refine bodyPost_ret (v := .agg #[S (bs sp), S (bs lq), C p7 outs.length c7, C pv kx.length cv, S ⟨#[]⟩]) (by simp [results, Tryz.results86, go_sem, z0, z1, z2, z3, z4]) rfl ?_
    exact ⟨HBW.out.trans (Only.below HO8.out (by omega)), .inl ⟨_, [S (bs sp), S (bs lq), C p7 outs.length c7, C pv kx.length cv, S ⟨#[]⟩], HR0.out, rfl, HFIN.out w8 HO8.out⟩⟩
end Go.Proofs.YthboiahdheehkaaGreatDoor
