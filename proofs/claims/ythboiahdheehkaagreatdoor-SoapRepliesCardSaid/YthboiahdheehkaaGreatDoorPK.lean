/- TryElem -/
import Derived.Test.YthboiahdheehkaaGreatDoorBA
import Derived.Test.YthboiahdheehkaaGreatDoorPJ
open List renaming setIfInBounds_toArray → lA, set_cons_succ → lB, set_cons_zero → lC, cons_append → lD, nil_append → lE, take_append_drop → lJ, take_succ_eq_append_getElem → lR
open Go.Lib renaming hid → hI
open Option renaming bind_eq_some_iff → oA, map_eq_some_iff → oB, bind_some → oC
open Nat renaming le_refl → nR
open Go.Proofs.Tryz renaming prog → pG
open Go.Value renaming string → V
open Go.Value renaming slice → C
open Go.Value renaming pointer → A
open Go.Value renaming agg → M
open Go.Ending renaming returned → EE
open Go.Obj renaming cells → B
namespace Go.Proofs.YthboiahdheehkaaGreatDoor
section
set_option maxHeartbeats 8000000
set_option maxRecDepth 20000
open Go.RowKit Go.Extern.Stop Go.Stop Go.Extern
theorem tryElem_idle (d x r : Nat) (w : World) (hd : w.cell? ⟨d, 0, none⟩ = some (.bool true)) :
  CallsD pG 140 #[A (some ⟨d, 0, none⟩), A (some ⟨x, 0, none⟩), A (some ⟨r, 0, none⟩)] .returning w fun e u' w' => e = EE (.tuple #[]) ∧ u' = .returning ∧ w' = w := by
 refine callsD_of_wpS Tryz.func140 rfl fun c₀ cs hu => ?_
 apply wpS_seq
 apply wpS_region
 simp [wpOpsS, go_sem, recoverD, hu, Tryz.ntmps140, Exit.thenS]
 refine wpS_of_wp ?_
 have e : (#[A (some ⟨d, 0, none⟩), A (some ⟨x, 0, none⟩), A (some ⟨r, 0, none⟩)] ++ ((Array.replicate 8 undef).setIfInBounds 2 Value.nilIface).setIfInBounds 0 Value.nilIface) =
   #[A (some ⟨d, 0, none⟩), A (some ⟨x, 0, none⟩), A (some ⟨r, 0, none⟩), .nilIface, undef, .nilIface, undef, undef, undef, undef, undef] := rfl
 rw [e]
 clear e
 go_wp2_with fail
 cases c₀
 simp_all [bodyPostS, results, Tryz.results140]
theorem tryElem_err (d x r : Nat) (w : World) (E : Nat → Addr) (u : Value) (n : Nat) (older : List PanicEntry) (hu0 : ∃ T x, u = .iface T x) (ht : Tells w u E n) (he : Errs w E) (hd : w.cell? ⟨d, 0, none⟩ = some (.bool false))
  (hx : Blk w x 44 #[V ⟨#[]⟩, V ⟨#[]⟩, C none 0 0, C none 0 0, V ⟨#[]⟩]) (hr : Blk w r 30 #[.nilIface]) (hxr : x ≠ r) :
  CallsD pG 140 #[A (some ⟨d, 0, none⟩), A (some ⟨x, 0, none⟩), A (some ⟨r, 0, none⟩)] (.panicking ({ v := u, recovered := false } :: older)) w fun e u' w' =>
   e = EE (.tuple #[]) ∧ u' = .panicking ({ v := u, recovered := true } :: older) ∧ Blk w' x 44 #[V ⟨#[]⟩, V ⟨#[]⟩, C none 0 0, C none 0 0, V ⟨#[]⟩] ∧ Blk w' r 30 #[errAt (E n)] ∧ But [x, r] w w' := by
 unfold errAt at *
 obtain ⟨T, x0, rfl⟩ := hu0
 refine callsD_of_wpS Tryz.func140 rfl fun c₀ cs hu => ?_
 apply wpS_seq
 apply wpS_region
 simp [wpOpsS, go_sem, recoverD, hu, Tryz.ntmps140, Exit.thenS]
 refine wpS_of_wp ?_
 have e : (#[A (some ⟨d, 0, none⟩), A (some ⟨x, 0, none⟩), A (some ⟨r, 0, none⟩)] ++ ((Array.replicate 8 undef).setIfInBounds 2 (Value.iface T x0)).setIfInBounds 0 (Value.iface T x0)) =
   #[A (some ⟨d, 0, none⟩), A (some ⟨x, 0, none⟩), A (some ⟨r, 0, none⟩), .iface T x0, undef, .iface T x0, undef, undef, undef, undef, undef] := rfl
 rw [e]
 have HX := hI hx
 have HR := hI hr
 have HT := hI ht
 have HE := hI he
 have HB0 := hI (below_alloc1 w (B #[V ⟨#[]⟩, V ⟨#[]⟩, C none 0 0, C none 0 0, V ⟨#[]⟩] 44))
 have HN0 := hI (Blk.new w 44 #[V ⟨#[]⟩, V ⟨#[]⟩, C none 0 0, C none 0 0, V ⟨#[]⟩])
 clear e he hx hr ht
 go_wp2_with fail
 generalize w.alloc (B #[V ⟨#[]⟩, V ⟨#[]⟩, C none 0 0, C none 0 0, V ⟨#[]⟩] 44) = w0 at *
 refine wp_phi_tail (List.take 3 _) (List.drop 3 _) (lJ 3 _).symm (fun w' => Below w.heap.size w w' ∧ Blk w' w.heap.size 44 #[V ⟨#[]⟩, V ⟨#[]⟩, C none 0 0, C none 0 0, V ⟨#[]⟩]) [(2, PVal (.iface 313 (A (some (E n)))))] [] (by kernel_rfl) (by kernel_rfl) ?_ ?_ ⟨HB0.out.drew, HN0.out⟩ ?_
 ·rintro w1' w2' ⟨h1, h2⟩ hb
  exact ⟨h1.trans (hb.mono h1.size), h2.below hb h2.lt⟩
 ·simp only [List.mem_singleton, forall_eq]
  exact fun _ _ _ _ _ h => h
 simp only [List.take_succ_cons, List.take_zero, List.drop_succ_cons, List.drop_zero]
 repeat ((first | refine phi_skipK rfl (fun K hK => ?_) | (refine phi_pureK rfl rfl (fun K hK => ?_); apply Exists.intro; constructor; (focus (rintro w' ⟨h1, h2⟩; (obtain ⟨c0, c1, c2, c3, -⟩ := h2.cc; have c4 := (h2.cell 4).trans rfl); first | (go_simp; done) | (go_simp; (try go_bits); (try go_simp); rfl) | go_simp)))); simp only [Act.put, lA, lB, lC, lD, lE]; apply hK; clear hK K)
 refine phi_partK (PVal (.iface 313 (A (some (E n))))) rfl rfl ⟨_, rfl⟩ ?_ (fun K hK v hv => ?_)
 ·rintro w' ⟨h1, h2⟩ _
  unfold gives
  go_simp
  refine (HT.out w' h1 (HE.out.below h1)).mono ?_
  rintro e w'' ⟨rfl, hb⟩
  exact ⟨_, rfl, rfl, trivial, hb⟩
 obtain rfl : v = _ := hv
 simp only [Act.put, lA, lB, lC, lD, lE]
 apply hK
 clear hK K
 refine phi_done ?_
 rintro w1 ⟨h1, h2⟩ _
 have hx1 := HX.out.below h1 HX.out.lt
 have hr1 := HR.out.below h1 HR.out.lt
 have HR1 := hI hr1
 have HB1 := hI h1
 have cr := (hr1.cell 0).trans rfl
 have fr := hr1.frozen 0
 clear h1 h2 hr1 HT
 refine wpList_store (.tmp 1) (.tmp 8) 44 rfl rfl x 0 _ _ #[V ⟨#[]⟩, V ⟨#[]⟩, C none 0 0, C none 0 0, V ⟨#[]⟩] rfl rfl hx1 (by kernel_rfl) (by simp [Value.oneCell']) (by simp) ?_
 intro w2 hx2 ho2
 rw [putCells_all #[V ⟨#[]⟩, V ⟨#[]⟩, C none 0 0, C none 0 0, V ⟨#[]⟩] #[V ⟨#[]⟩, V ⟨#[]⟩, C none 0 0, C none 0 0, V ⟨#[]⟩] rfl] at hx2
 have hr2 := ho2.blk HR1.out (fun e => hxr e.symm)
 have cr2 := (hr2.cell 0).trans rfl
 have fr2 := hr2.frozen 0
 have HX2 := hI hx2
 have HR2 := hI hr2
 have HO2 := hI ho2
 clear hx2 hr2 ho2 hx1 cr fr
 go_wp2_with fail
 cases c₀
 simp only [bodyPostS, results, Tryz.results140]
 exact ⟨trivial, _, rfl, .tuple #[], by simp, rfl, rfl, HX2.out.far hxr 0 _, HR2.out.set_ 0 _, (((But.of_below HB1.out).only HO2.out (by simp)).set_ r 0 _ (by simp))⟩
theorem tryElem_any (w : World) (E : Nat → Addr) (f : FuncId) (caps : Array Value) (S : List Nat) (R : World → Value → World → Prop) (Q : Nat → World → World → Prop) (hSl : ∀ s ∈ S, s < w.heap.size) (he : ∀ w', But S w w' → Errs w' E) (hRs : ∀ w1 v w2, R w1 v w2 → ∃ v0 v1 v2 v3 v4 : Value, v = M #[v0, v1, v2, v3, v4] ∧ v0.oneCell' = true ∧ v1.oneCell' = true ∧ v2.oneCell' = true ∧ v3.oneCell' = true ∧ v4.oneCell' = true) (hcf : ∀ w, (callFunc f caps).run pG w = .ok (.enter f caps) w)
  (hdo : ∀ w1, Below w.heap.size w w1 → w1.heap.size = w.heap.size + 3 → Calls pG f caps w1 fun e w2 => MayG (R w1) (fun n w2 => Q n w1 w2) E e w2 ∧ But S w1 w2) :
  Calls pG 82 #[.func (.func f) #[] caps] w (TryG S R Q E (M #[V ⟨#[]⟩, V ⟨#[]⟩, C none 0 0, C none 0 0, V ⟨#[]⟩]) w) := by
 have hmf := @run_makeFunc pG
 have HE := hI he
 have HD := hI hdo
 have HRS := hI hRs
 have hno : ∀ k, w.heap.size ≤ k → S.contains k = false := fun k hk => by
  rw [Bool.eq_false_iff]
  intro hc
  have := hSl k (List.contains_iff_mem.1 hc)
  omega
 have HNO := hI hno
 clear he hdo hRs hSl hno
 go_enter_defers Tryz.func82, Tryz.ntmps82
 go_wp2_with fail
 have hb1 : Below w.heap.size w (((w.alloc (B #[V ⟨#[]⟩, V ⟨#[]⟩, C none 0 0, C none 0 0, V ⟨#[]⟩] 44)).alloc (B #[.nilIface] 30)).alloc (B #[.bool false] 4)) := below_alloc (below_alloc (below_alloc1 w _) _) _
 refine (HD.out _ hb1 (by simp)).mono ?_
 rintro e w2 ⟨hm, hb2⟩
 have x1 := hb2.blk (((Blk.new w 44 #[V ⟨#[]⟩, V ⟨#[]⟩, C none 0 0, C none 0 0, V ⟨#[]⟩]).alloc (B #[.nilIface] 30)).alloc (B #[.bool false] 4)) (HNO.out _ (nR _))
 have r1 := hb2.blk ((Blk.new (w.alloc (B #[V ⟨#[]⟩, V ⟨#[]⟩, C none 0 0, C none 0 0, V ⟨#[]⟩] 44)) 30 #[.nilIface]).alloc (B #[.bool false] 4)) (HNO.out _ (by simp))
 have d1 := hb2.blk (Blk.new ((w.alloc (B #[V ⟨#[]⟩, V ⟨#[]⟩, C none 0 0, C none 0 0, V ⟨#[]⟩] 44)).alloc (B #[.nilIface] 30)) 4 #[.bool false]) (HNO.out _ (by simp; omega))
 have hs1 : (((w.alloc (B #[V ⟨#[]⟩, V ⟨#[]⟩, C none 0 0, C none 0 0, V ⟨#[]⟩] 44)).alloc (B #[.nilIface] 30)).alloc (B #[.bool false] 4)).heap.size = w.heap.size + 3 := by simp
 simp only [World.size_alloc] at r1 d1
 have X1 := hI x1
 have R1 := hI r1
 have D1 := hI d1
 have B1 := hI hb1
 have B2 := hI hb2
 have S1 := hI hs1
 rcases hm with ⟨v, rfl, hR⟩ | ⟨u, n, hn, hS, ⟨T, x0, rfl⟩, htells, rfl⟩
 ·obtain ⟨v0, v1, v2, v3, v4, rfl, hv1⟩ := HRS.out _ _ _ hR
  have HR := hI hR
  have HV1 := hI (show ∀ u ∈ (#[v0, v1, v2, v3, v4] : Array Value).toList, u.oneCell' = true by simpa using hv1)
  clear x1 r1 d1 hb1 hb2 hs1 hR hv1
  generalize (((w.alloc (B #[V ⟨#[]⟩, V ⟨#[]⟩, C none 0 0, C none 0 0, V ⟨#[]⟩] 44)).alloc (B #[.nilIface] 30)).alloc (B #[.bool false] 4)) = w1 at *
  go_wp2_with (refine wpList_store (.tmp 2) (.tmp 7) 44 rfl rfl w.heap.size 0 _ _ #[v0, v1, v2, v3, v4] rfl rfl X1.out ?s0 HV1.out ?s1 ?_)
  case s0 => kernel_rfl
  case s1 => simp
  intro w3 hx3 ho3
  rw [putCells_all #[V ⟨#[]⟩, V ⟨#[]⟩, C none 0 0, C none 0 0, V ⟨#[]⟩] #[v0, v1, v2, v3, v4] rfl] at hx3
  have hd3 := ho3.blk D1.out (by omega)
  have hr3 := ho3.blk R1.out (by omega)
  have cd := (hd3.cell 0).trans rfl
  have fd := hd3.frozen 0
  have X4 := hI (hx3.far (b := w.heap.size + 1 + 1) (by omega) 0 (.bool true))
  have R4 := hI (hr3.far (b := w.heap.size + 1 + 1) (by omega) 0 (.bool true))
  have D4 := hI (show Blk (w3.setCell ⟨w.heap.size + 1 + 1, 0, none⟩ (.bool true)) (w.heap.size + 1 + 1) 4 #[.bool true] from hd3.set_ 0 _)
  have O4 := hI (((But.of_below (S := [w.heap.size, w.heap.size + 1, w.heap.size + 2]) (Below.refl _ w2)).only ho3 (by simp)).set_ (w.heap.size + 1 + 1) 0 (.bool true) (by simp))
  clear hx3 ho3 hd3 hr3
  go_wp2_with (first | (refine wpList_loadS (.tmp 2) 44 rfl rfl w.heap.size 44 #[v0, v1, v2, v3, v4] rfl X4.out _ Tryz.underlying44 rfl ?s2 ?_) | (refine wpList_store (.tmp 2) (.tmp 8) 44 rfl rfl w.heap.size 0 _ _ #[v0, v1, v2, v3, v4] rfl rfl X4.out ?s3 HV1.out ?s4 ?_))
  case s2 => kernel_rfl
  case s3 => kernel_rfl
  case s4 => simp
  clear cd fd
  generalize w3.setCell ⟨w.heap.size + 1 + 1, 0, none⟩ (.bool true) = w4 at *
  intro w5 hx5 ho5
  rw [putCells_all #[v0, v1, v2, v3, v4] #[v0, v1, v2, v3, v4] rfl] at hx5
  have hr5 := ho5.blk R4.out (by omega)
  have hd5 := ho5.blk D4.out (by omega)
  have cr := (hr5.cell 0).trans rfl
  have fr := hr5.frozen 0
  have X6 := hI (hx5.far (b := w.heap.size + 1) (by omega) 0 .nilIface)
  have R6 := hI (show Blk (w5.setCell ⟨w.heap.size + 1, 0, none⟩ .nilIface) (w.heap.size + 1) 30 #[.nilIface] from hr5.set_ 0 _)
  have D6 := hI (hd5.far (b := w.heap.size + 1) (by omega) 0 .nilIface)
  have O6 := hI ((O4.out.only ho5 (by simp)).set_ (w.heap.size + 1) 0 .nilIface (by simp))
  clear hx5 ho5 hd5 hr5
  go_wp2_with fail
  clear cr fr
  generalize w5.setCell ⟨w.heap.size + 1, 0, none⟩ .nilIface = w6 at *
  refine leaves_cons (f := 140) (args := #[A (some ⟨w.heap.size + 1 + 1, 0, none⟩), A (some ⟨w.heap.size, 0, none⟩), A (some ⟨w.heap.size + 1, 0, none⟩)]) (by simp) (by simp [go_sem]) ?_
  refine (tryElem_idle _ _ _ w6 ((D6.out.cell 0).trans rfl)).mono ?_
  rintro e u' w7 ⟨rfl, rfl, rfl⟩
  have cb := (R6.out.cell 0).trans rfl; obtain ⟨c0, c1, c2, c3, c4, -⟩ := X6.out.cc
  have hfin : TryG S R Q E (M #[V ⟨#[]⟩, V ⟨#[]⟩, C none 0 0, C none 0 0, V ⟨#[]⟩]) w (EE (.tuple #[M #[v0, v1, v2, v3, v4], .nilIface])) w7 := by
   exact ⟨But.out ((But.of_below B1.out).trans B2.out) O6.out (nR _), w1, w2, S1.out, B1.out, B2.out, O6.out, .inl ⟨_, rfl, HR.out⟩⟩
  have HF := hI hfin
  clear hfin
  simp [Leaves, settle, results, Tryz.results82, go_sem, c0, c1, c2, c3, c4, cb]
  exact HF.out
 ·have cd := (d1.cell 0).trans rfl
  clear x1 r1 d1 hb1 hb2 hs1
  generalize (((w.alloc (B #[V ⟨#[]⟩, V ⟨#[]⟩, C none 0 0, C none 0 0, V ⟨#[]⟩] 44)).alloc (B #[.nilIface] 30)).alloc (B #[.bool false] 4)) = w1 at *
  go_wp2_with fail
  have hb := (But.of_below B1.out).trans B2.out
  refine leaves_cons (f := 140) (args := #[A (some ⟨w.heap.size + 1 + 1, 0, none⟩), A (some ⟨w.heap.size, 0, none⟩), A (some ⟨w.heap.size + 1, 0, none⟩)]) (by simp) (by simp [go_sem]) ?_
  refine (tryElem_err _ _ _ w2 E (.iface T x0) n [] ⟨T, x0, rfl⟩ htells (HE.out w2 hb) cd X1.out R1.out (by omega)).mono ?_
  rintro e u' w4 ⟨rfl, rfl, ca, cb, hBut⟩
  have hfin : TryG S R Q E (M #[V ⟨#[]⟩, V ⟨#[]⟩, C none 0 0, C none 0 0, V ⟨#[]⟩]) w (EE (.tuple #[M #[V ⟨#[]⟩, V ⟨#[]⟩, C none 0 0, C none 0 0, V ⟨#[]⟩], errAt (E n)])) w4 := by
   exact ⟨But.out hb (But.wide hBut) (nR _), w1, w2, S1.out, B1.out, B2.out, But.wide hBut, .inr ⟨n, hn, hS, rfl⟩⟩
  obtain ⟨c0, c1, c2, c3, c4, -⟩ := ca.cc
  have cb' := (cb.cell 0).trans rfl
  have HF := hI hfin
  clear hfin
  unfold errAt at cb' HF
  simp [Leaves, settle, results, Tryz.results82, go_sem, c0, c1, c2, c3, c4, cb']
  exact HF.out
end
section
set_option maxHeartbeats 8000000
set_option maxRecDepth 20000
open Go.RowKit
attribute [local go_sem] bs_toList
theorem four_of {l : List Value} (h : l.length = 4) : ∃ a b c d, l = [a, b, c, d] := by
 match l, h with
 | [a, b, c, d], _ => exact ⟨a, b, c, d, rfl⟩
theorem cells4 {w : World} {P : Nat → Prop} {x : Tr} {cs : List Value} (h : TrC w P x cs) (hx : x.ok 1) : ∃ c0 c1 c2 c3, cs = [c0, c1, c2, c3] := by
 have := h.len
 obtain ⟨nm, ats, ks, t⟩ := x
 unfold Tr.ok at hx
 rw [show (Tr.node nm ats ks t).nm.length = 1 from hx.1] at this
 exact four_of this
theorem formed_any (E : Nat → Addr) (x : Tr) (P : Nat → Prop) (cx : List Value) (w : World) (hg : LibG w) (hE : Errs w E) (hok : x.ok 1) (hsh : x.shr) (hT : TrC w P x cx) :
  Calls pG 85 #[.agg cx.toArray] w (Gives w (.bool (x.rgt 1))) := by
 obtain ⟨c0, c1, c2, c3, rfl⟩ := cells4 hT hok
 show Calls pG 85 #[M #[c0, c1, c2, c3]] w _
 have HBA := hI (below_alloc1 w (B #[c0, c1, c2, c3] 96))
 have HNB := hI (Blk.new w 96 #[c0, c1, c2, c3])
 have HT := hI (text_any E x P [c0, c1, c2, c3] _ (hg.below HBA.out) (hE.below HBA.out) hok hsh (hT.below HBA.out))
 obtain ⟨d0, d1, d2, d3, -⟩ := HNB.out.cc
 have HE := hI hE
 have hone : c0.oneCell' = true ∧ c1.oneCell' = true ∧ c2.oneCell' = true ∧ c3.oneCell' = true := by
  have h := hT.one
  exact ⟨h _ (by simp), h _ (by simp), h _ (by simp), h _ (by simp)⟩
 clear hg hE hok hsh hT
 unfold Gives
 generalize textS x = S at *
 have hcs : (x.rgt 1 = false ∧ textE x = 4) ∨ (x.rgt 1 = true ∧ (textE x = 3 ∨ textE x = 0)) := by
  cases hr : x.rgt 1
  ·exact .inl ⟨rfl, (text_f hr).1⟩
  ·refine .inr ⟨rfl, ?_⟩
   rw [(text_t hr).1]
   split
   ·exact .inl rfl
   ·exact .inr rfl
 rcases hcs with ⟨h1, h2⟩ | ⟨h1, h2 | h2⟩
 all_goals
  rw [h2] at HT
  rw [h1]
  clear h1 h2
 ·have HI := hI (fun w2 (hb : Below w.heap.size w w2) => is_other (E 3) (E 2) w2 ((HE.out.below hb).ne 3 2 (by omega) (by omega) (by omega)) ((HE.out.below hb).row 3 (by omega)) ((HE.out.below hb).row 2 (by omega)))
  have HT := hI (HT.out.mono (R' := fun e w' => e = EE (.tuple #[V (bs S), .iface 313 (A (some (E 3)))]) ∧ Below (w.alloc (B #[c0, c1, c2, c3] 96)).heap.size (w.alloc (B #[c0, c1, c2, c3] 96)) w') fun _ _ h => h)
  unfold errAt at HI
  go_enter Tryz.func85, Tryz.ntmps85
  go_wp2_with (first | (go_at_call 38; refine HT.out.mono ?_; rintro e w2 ⟨rfl, hb2⟩; have hb20 := HBA.out.trans (hb2.mono HBA.out.size); have cE := (HE.out.below hb20).long) | (go_at_call 53; refine (HI.out _ hb20).mono ?_; rintro e w3 ⟨rfl, rfl⟩))
  go_ret
  exact ⟨rfl, hb20⟩
 ·have HI := hI (fun w2 => is_same (E 2) w2)
  have HT := hI (HT.out.mono (R' := fun e w' => e = EE (.tuple #[V (bs S), .iface 313 (A (some (E 2)))]) ∧ Below (w.alloc (B #[c0, c1, c2, c3] 96)).heap.size (w.alloc (B #[c0, c1, c2, c3] 96)) w') fun _ _ h => h)
  unfold errAt at HI
  go_enter Tryz.func85, Tryz.ntmps85
  go_wp2_with (first | (go_at_call 38; refine HT.out.mono ?_; rintro e w2 ⟨rfl, hb2⟩; have hb20 := HBA.out.trans (hb2.mono HBA.out.size); have cE := (HE.out.below hb20).long) | (go_at_call 53; refine (HI.out _).mono ?_; rintro e w3 ⟨rfl, rfl⟩))
  go_ret
  exact ⟨rfl, hb20⟩
 ·have HT := hI (HT.out.mono (R' := fun e w' => e = EE (.tuple #[V (bs S), .nilIface]) ∧ Below (w.alloc (B #[c0, c1, c2, c3] 96)).heap.size (w.alloc (B #[c0, c1, c2, c3] 96)) w') fun _ _ h => h)
  go_enter Tryz.func85, Tryz.ntmps85
  go_wp2_with (go_at_call 38; refine HT.out.mono ?_; rintro e w2 ⟨rfl, hb2⟩; have hb20 := HBA.out.trans (hb2.mono HBA.out.size))
  go_ret
  exact ⟨rfl, hb20⟩
theorem resolve_f {x : Tr} (h : x.rgt 1 = false) : resolveF x = none := by
 unfold resolveF
 rw [if_neg (by rw [h]; decide)]
theorem resolve_t {x : Tr} (h : x.rgt 1 = true) : resolveF x = x.res (allD []) := by
 unfold resolveF
 rw [if_pos h]
 rfl
theorem resolve1_any (E : Nat → Addr) (k : Nat) (x : Tr) (P : Nat → Prop) (c0 c1 c2 c3 : Value) (w : World) (hg : LibG w) (hE : Errs w E) (hok : x.ok 1) (hsh : x.shr) (hfw : x.few) (hT : TrC w P x [c0, c1, c2, c3]) (hk : Blk w k 96 #[c0, c1, c2, c3]) :
  Calls pG 83 #[A (some ⟨k, 0, none⟩)] w (ElR E (resolveF x) w) := by
 have hB1 := below_alloc1 w (B #[V ⟨#[]⟩, V ⟨#[]⟩, C none 0 0, C none 0 0, V ⟨#[]⟩] 44)
 have HF := hI (formed_any E x P [c0, c1, c2, c3] _ (hg.below hB1) (hE.below hB1) hok hsh (hT.below hB1))
 have HN := hI (Blk.new w 44 #[V ⟨#[]⟩, V ⟨#[]⟩, C none 0 0, C none 0 0, V ⟨#[]⟩])
 have HK1 := hI (hk.below hB1 hk.lt)
 have HB1 := hI hB1
 have HE := hI hE
 obtain ⟨d0, d1, d2, d3, -⟩ := HK1.out.cc
 have HS := hI (fun w2 (hb : Below w.heap.size w w2) => selem_any E x.sz x P [c0, c1, c2, c3] [] (.pointer none) w2 (nR _) hok hsh hfw (hT.below hb) rfl (hg.below hb) (hE.below hb))
 have hone : c0.oneCell' = true ∧ c1.oneCell' = true ∧ c2.oneCell' = true ∧ c3.oneCell' = true := by
  have h := hT.one
  exact ⟨h _ (by simp), h _ (by simp), h _ (by simp), h _ (by simp)⟩
 clear hg hE hok hsh hfw hT hk hB1
 cases hr : x.rgt 1 <;> rw [hr] at HF
 ·rw [resolve_f hr]
  have HFN := hI (fun w2 (hb2 : Below (w.alloc (B #[V ⟨#[]⟩, V ⟨#[]⟩, C none 0 0, C none 0 0, V ⟨#[]⟩] 44)).heap.size (w.alloc (B #[V ⟨#[]⟩, V ⟨#[]⟩, C none 0 0, C none 0 0, V ⟨#[]⟩] 44)) w2) => sfail_n w2 E (HE.out.below (HB1.out.trans (hb2.mono HB1.out.size))))
  go_enter Tryz.func83, Tryz.ntmps83
  go_wp2_with (first | (go_at_call 85; refine HF.out.mono ?_; rintro e w2 ⟨rfl, hb2⟩) | (go_at_call 84; refine (HFN.out _ hb2).mono ?_; rintro e w3 ⟨rfl, rfl⟩))
  exact ⟨rfl, HB1.out.trans (hb2.mono HB1.out.size), .inr ⟨rfl, rfl⟩⟩
 ·rw [resolve_t hr]
  clear hr
  obtain ⟨O, hO⟩ : ∃ O, x.res (allD []) = O := ⟨_, rfl⟩
  rw [hO] at HS ⊢
  cases O with
  | none =>
   go_enter Tryz.func83, Tryz.ntmps83
   go_wp2_with (first | (go_at_call 85; refine HF.out.mono ?_; rintro e w2 ⟨rfl, hb2⟩; have hK2 := HK1.out.below hb2 HK1.out.lt; obtain ⟨q0, q1, q2, q3, -⟩ := hK2.cc; have hb20 := HB1.out.trans (hb2.mono HB1.out.size)) | (go_at_call 84; refine (sfail_y _).mono ?_; rintro e w3 ⟨rfl, rfl⟩) | (go_at_call 86; refine ((HS.out _ hb20).mono (R' := fun e w' => e = .panicked (panE E 3) ∧ Below _ _ w') fun e w' h => ⟨h.2.elim (fun ⟨y, cs, h1, _⟩ => by cases h1) fun h2 => h2.2, h.1⟩).mono ?_; rintro e w4 ⟨rfl, hb4⟩))
   exact ⟨rfl, hb20.trans (hb4.mono hb20.size), .inr ⟨rfl, rfl⟩⟩
  | some y =>
   have hnm := res_nm hO
   have HS2 := hI (fun w2 (hb : Below w.heap.size w w2) => (HS.out w2 hb).mono (R' := fun e w' => ∃ e0 e1 e2 e3 e4, e = EE (M #[e0, e1, e2, e3, e4]) ∧ TrC w' (Bt w2.heap.size w'.heap.size none) y [e0, e1, e2, e3, e4] ∧ Below w2.heap.size w2 w') fun e w' h => h.2.elim (fun ⟨y', cs, h1, h2, h3⟩ => by
    cases h1
    obtain ⟨e0, e1, e2, e3, e4, rfl⟩ := five_of (l := cs) (by rw [h3.len, hnm])
    exact ⟨e0, e1, e2, e3, e4, h2, h3, h.1⟩) fun h2 => by cases h2.1)
   clear HS hO
   go_enter Tryz.func83, Tryz.ntmps83
   go_wp2_with (first | (go_at_call 85; refine HF.out.mono ?_; rintro e w2 ⟨rfl, hb2⟩; have hK2 := HK1.out.below hb2 HK1.out.lt; obtain ⟨q0, q1, q2, q3, -⟩ := hK2.cc; have hb20 := HB1.out.trans (hb2.mono HB1.out.size)) | (go_at_call 84; refine (sfail_y _).mono ?_; rintro e w3 ⟨rfl, rfl⟩) | (go_at_call 86; refine (HS2.out _ hb20).mono ?_; rintro e w4 ⟨e0, e1, e2, e3, e4, rfl, hT4, hb4⟩; have hbn := HN.out.below (hb2.trans (hb4.mono hb2.size)) HN.out.lt; have hall := hT4.one) | (refine wpList_store (.tmp 1) (.tmp 8) 44 rfl rfl w.heap.size 0 _ _ #[e0, e1, e2, e3, e4] rfl rfl hbn ?s0 ?s1 ?s2 ?_))
   case s0 => kernel_rfl
   case s2 => simp
   intro w8 hb8 ho8
   rw [putCells_all #[V ⟨#[]⟩, V ⟨#[]⟩, C none 0 0, C none 0 0, V ⟨#[]⟩] #[e0, e1, e2, e3, e4] rfl] at hb8
   obtain ⟨z0, z1, z2, z3, z4, -⟩ := hb8.cc
   have hs2 := hb20.size
   have hlw := HN.out.lt
   have hs3 := hb2.size
   have HT8 := hI ((hT4.only ho8 fun b hb => by have := hb.1; omega).imp (Q := Bt w.heap.size w8.heap.size none) fun b hb => ⟨by have := hb.1; omega, by rw [ho8.size]; exact hb.2.1, by simp⟩)
   have HBW := hI ((hb20.trans (hb4.mono hb20.size)).trans (ho8.below (nR _)))
   clear hb8 ho8 hT4 hbn hall hb2 hb20 hb4 hK2 q0 q1 q2 q3 d0 d1 d2 d3 hone
   go_wp2_with fail
   refine bodyPost_ret (v := M #[e0, e1, e2, e3, e4]) (by simp [results, Tryz.results83, go_sem, z0, z1, z2, z3, z4]) rfl ?_
   exact ⟨HBW.out, .inl ⟨y, [e0, e1, e2, e3, e4], rfl, rfl, HT8.out⟩⟩
end
section
set_option maxHeartbeats 8000000
set_option maxRecDepth 20000
open Go.RowKit
attribute [local go_sem] bs_toList
def ReR (E : Nat → Addr) (o : Option Tr) (w : World) (e : Ending) (w' : World) : Prop :=
 Below w.heap.size w w' ∧ ((∃ y c0 c1 c2 c3 c4, o = some y ∧ e = EE (.tuple #[M #[c0, c1, c2, c3, c4], .nilIface]) ∧ TrC w' (Bt w.heap.size w'.heap.size none) y [c0, c1, c2, c3, c4]) ∨ (o = none ∧ e = EE (.tuple #[M #[V ⟨#[]⟩, V ⟨#[]⟩, C none 0 0, C none 0 0, V ⟨#[]⟩], errAt (E 3)])))
theorem try_elem (w : World) (E : Nat → Addr) (f : FuncId) (caps : Array Value) (o : Option Tr) (hnm : ∀ y, o = some y → y.nm.length = 2) (he : Errs w E) (hcf : ∀ w, (callFunc f caps).run pG w = .ok (.enter f caps) w)
  (hdo : ∀ w1, Below w.heap.size w w1 → Calls pG f caps w1 (ElR E o w1)) : Calls pG 82 #[.func (.func f) #[] caps] w (ReR E o w) := by
 have hfv : ∀ (y : Tr) (cs : List Value) (w1 w2 : World), o = some y → TrC w2 (Bt w1.heap.size w2.heap.size none) y cs → ∃ c0 c1 c2 c3 c4, cs = [c0, c1, c2, c3, c4] := fun y cs w1 w2 ho ht => five_of (by rw [ht.len, hnm y ho])
 refine (tryElem_any w E f caps [] (fun w1 v w2 => ∃ y cs, o = some y ∧ v = .agg cs.toArray ∧ TrC w2 (Bt w1.heap.size w2.heap.size none) y cs) (fun n _ _ => n = 3 ∧ o = none) (by simp) (fun w' h => he.below h.nil_below) ?_ hcf (fun w1 hb _ => (hdo w1 hb).mono ?_)).mono ?_
 ·rintro w1 v w2 ⟨y, cs, ho, rfl, ht⟩
  have h1 := ht.one
  obtain ⟨c0, c1, c2, c3, c4, rfl⟩ := hfv y cs w1 w2 ho ht
  exact ⟨c0, c1, c2, c3, c4, rfl, h1 _ (by simp), h1 _ (by simp), h1 _ (by simp), h1 _ (by simp), h1 _ (by simp)⟩
 ·rintro e w2 ⟨h1, h2⟩
  refine ⟨?_, But.of_below h1⟩
  rcases h2 with ⟨y, cs, ho, rfl, ht⟩ | ⟨ho, rfl⟩
  ·exact .inl ⟨_, rfl, y, cs, ho, rfl, ht⟩
  ·exact .inr ⟨errAt (E 3), 3, by omega, ⟨rfl, ho⟩, ⟨_, _, rfl⟩, told_own E 3 (by omega) w2, rfl⟩
 ·rintro e w' ⟨h1, w1, w2, hs, hb1, hb2, hb3, hor⟩
  refine ⟨h1.nil_below, ?_⟩
  rcases hor with ⟨v, rfl, y, cs, ho, rfl, ht⟩ | ⟨n, _, ⟨rfl, ho⟩, rfl⟩
  ·obtain ⟨c0, c1, c2, c3, c4, rfl⟩ := hfv y cs w1 w2 ho ht
   refine .inl ⟨y, c0, c1, c2, c3, c4, ho, rfl, ?_⟩
   have h := ht.keepP (w' := w') fun a u hp hc => (World.cell?_of_block (hb3.block a.block (cell_lt hc) (by
    have := hp.1
    simp only [List.contains_eq_any_beq, List.any_cons, List.any_nil, Bool.or_false, Bool.or_eq_false_iff, beq_eq_false_iff_ne]
    omega))).trans hc
   exact h.imp fun b hb => ⟨by have := hb.1; omega, Nat.lt_of_lt_of_le hb.2.1 hb3.size, by simp⟩
  ·exact .inr ⟨ho, rfl⟩
theorem resolve_nm {x y : Tr} (h : resolveF x = some y) : y.nm.length = 2 := by
 unfold resolveF at h
 split at h
 ·exact res_nm h
 ·cases h
theorem resolve_any (E : Nat → Addr) (x : Tr) (P : Nat → Prop) (cx : List Value) (w : World) (hg : LibG w) (hE : Errs w E) (hok : x.ok 1) (hsh : x.shr) (hfw : x.few) (hT : TrC w P x cx) :
  Calls pG 46 #[.agg cx.toArray] w (ReR E (resolveF x) w) := by
 obtain ⟨c0, c1, c2, c3, rfl⟩ := cells4 hT hok
 show Calls pG 46 #[M #[c0, c1, c2, c3]] w _
 obtain ⟨w2, hw2⟩ : ∃ w2, w2 = (w.alloc (B #[c0, c1, c2, c3] 96)).alloc (B #[V ⟨#[]⟩, V ⟨#[]⟩, C none 0 0, C none 0 0, V ⟨#[]⟩] 44) := ⟨_, rfl⟩
 have hB2 : Below w.heap.size w w2 := by rw [hw2]; exact below_alloc (below_alloc1 w _) _
 have hN1 : Blk w2 w.heap.size 96 #[c0, c1, c2, c3] := by rw [hw2]; exact (Blk.new w _ _).alloc _
 have hN2 : Blk w2 (w.heap.size + 1) 44 #[V ⟨#[]⟩, V ⟨#[]⟩, C none 0 0, C none 0 0, V ⟨#[]⟩] := by
  rw [hw2]
  have := Blk.new (w.alloc (B #[c0, c1, c2, c3] 96)) 44 #[V ⟨#[]⟩, V ⟨#[]⟩, C none 0 0, C none 0 0, V ⟨#[]⟩]
  rwa [World.size_alloc] at this
 have hcf := fun xs w => (show (callFunc 83 xs).run pG w = .ok (.enter 83 xs) w from by kernel_rfl)
 have hTR := try_elem w2 E 83 #[A (some ⟨w.heap.size, 0, none⟩)] (resolveF x) (fun y h => resolve_nm h) (hE.below hB2) (hcf _) (fun w1 hb => resolve1_any E w.heap.size x P c0 c1 c2 c3 w1 (hg.below (hB2.trans (hb.mono hB2.size))) (hE.below (hB2.trans (hb.mono hB2.size))) hok hsh hfw (hT.below (hB2.trans (hb.mono hB2.size))) (hN1.below hb hN1.lt))
 have HW2 := hI hw2
 have B2 := hI hB2
 have N2 := hI hN2
 have hmf := @run_makeFunc pG
 have hone : c0.oneCell' = true ∧ c1.oneCell' = true ∧ c2.oneCell' = true ∧ c3.oneCell' = true := by
  have h := hT.one
  exact ⟨h _ (by simp), h _ (by simp), h _ (by simp), h _ (by simp)⟩
 obtain ⟨O, hO⟩ : ∃ O, resolveF x = O := ⟨_, rfl⟩
 rw [hO] at hTR ⊢
 clear hg hE hok hsh hfw hT hN1 hO hcf
 cases O with
 | none =>
  have hT2 := hTR.mono (R' := fun e w' => e = EE (.tuple #[M #[V ⟨#[]⟩, V ⟨#[]⟩, C none 0 0, C none 0 0, V ⟨#[]⟩], .iface 313 (A (some (E 3)))]) ∧ Below w2.heap.size w2 w') fun e w' h => ⟨h.2.elim (fun ⟨y, _, _, _, _, _, h1, _⟩ => by cases h1) fun h2 => h2.2, h.1⟩
  rw [hw2] at hT2
  have HT2 := hI hT2
  clear hT2 hTR hB2 hN2 hw2
  go_enter Tryz.func46, Tryz.ntmps46
  go_wp2_with (first | (go_at_call 82; refine HT2.out.mono ?_; rintro e w3 ⟨rfl, hb3⟩; rw [← HW2.out] at hb3; have hbn := N2.out.below hb3 N2.out.lt) | (refine wpList_store (.tmp 2) (.tmp 6) 44 rfl rfl (w.heap.size + 1) 0 _ _ #[V ⟨#[]⟩, V ⟨#[]⟩, C none 0 0, C none 0 0, V ⟨#[]⟩] rfl rfl hbn ?s0 ?s1 ?s2 ?_))
  case s0 => kernel_rfl
  case s1 => simp [Value.oneCell']
  case s2 => simp
  intro w8 hb8 ho8
  rw [putCells_all #[V ⟨#[]⟩, V ⟨#[]⟩, C none 0 0, C none 0 0, V ⟨#[]⟩] #[V ⟨#[]⟩, V ⟨#[]⟩, C none 0 0, C none 0 0, V ⟨#[]⟩] rfl] at hb8
  obtain ⟨z0, z1, z2, z3, z4, -⟩ := hb8.cc
  have HBW := hI ((B2.out.trans (hb3.mono B2.out.size)).trans (ho8.below (by omega : w.heap.size ≤ w.heap.size + 1)))
  clear hb8 ho8 hbn hb3
  go_wp2_with fail
  refine bodyPost_ret (v := .tuple #[M #[V ⟨#[]⟩, V ⟨#[]⟩, C none 0 0, C none 0 0, V ⟨#[]⟩], .iface 313 (A (some (E 3)))]) (by simp [results, Tryz.results46, go_sem, z0, z1, z2, z3, z4]) rfl ?_
  exact ⟨HBW.out, .inr ⟨rfl, rfl⟩⟩
 | some y =>
  have hT2 := hTR.mono (R' := fun e w' => ∃ e0 e1 e2 e3 e4, e = EE (.tuple #[M #[e0, e1, e2, e3, e4], .nilIface]) ∧ TrC w' (Bt w2.heap.size w'.heap.size none) y [e0, e1, e2, e3, e4] ∧ Below w2.heap.size w2 w') fun e w' h => h.2.elim (fun ⟨y', e0, e1, e2, e3, e4, h1, h2, h3⟩ => by
   cases h1
   exact ⟨e0, e1, e2, e3, e4, h2, h3, h.1⟩) fun h2 => by cases h2.1
  rw [hw2] at hT2
  have HT2 := hI hT2
  clear hT2 hTR hB2 hN2 hw2
  go_enter Tryz.func46, Tryz.ntmps46
  go_wp2_with (first | (go_at_call 82; refine HT2.out.mono ?_; rintro e w3 ⟨e0, e1, e2, e3, e4, rfl, hT4, hb3⟩; rw [← HW2.out] at hb3 hT4; have hbn := N2.out.below hb3 N2.out.lt; have hall := hT4.one) | (refine wpList_store (.tmp 2) (.tmp 6) 44 rfl rfl (w.heap.size + 1) 0 _ _ #[e0, e1, e2, e3, e4] rfl rfl hbn ?s0 ?s1 ?s2 ?_))
  case s0 => kernel_rfl
  case s2 => simp
  intro w8 hb8 ho8
  rw [putCells_all #[V ⟨#[]⟩, V ⟨#[]⟩, C none 0 0, C none 0 0, V ⟨#[]⟩] #[e0, e1, e2, e3, e4] rfl] at hb8
  obtain ⟨z0, z1, z2, z3, z4, -⟩ := hb8.cc
  have hlw := N2.out.lt
  have HT8 := hI ((hT4.only ho8 fun b hb => by have := hb.1; omega).imp (Q := Bt w.heap.size w8.heap.size none) fun b hb => ⟨by have := hb.1; omega, by rw [ho8.size]; exact hb.2.1, by simp⟩)
  have HBW := hI ((B2.out.trans (hb3.mono B2.out.size)).trans (ho8.below (by omega : w.heap.size ≤ w.heap.size + 1)))
  clear hb8 ho8 hT4 hbn hall hb3 hone
  go_wp2_with fail
  refine bodyPost_ret (v := .tuple #[M #[e0, e1, e2, e3, e4], .nilIface]) (by simp [results, Tryz.results46, go_sem, z0, z1, z2, z3, z4]) rfl ?_
  exact ⟨HBW.out, .inl ⟨y, e0, e1, e2, e3, e4, rfl, rfl, HT8.out⟩⟩
end
section
set_option maxHeartbeats 8000000
set_option maxRecDepth 20000
open Go.RowKit
attribute [local go_sem] bs_toList
theorem MapS.lookW {w : World} {b n : Nat} {f : List UInt8 → Option (List UInt8)} (h : MapS w b n f) {s : List UInt8} (hs : shS s) :
  (Instr.lookup 190 (.map (some b)) (V (bs s)) true).run pG w = .ok (.tuple #[V (bs ((f s).getD [])), .bool (f s).isSome]) w := by
 obtain ⟨D, h1, h2⟩ := h
 obtain ⟨v, ps, hrun, hv⟩ := h1.look_ok strKeyed Tryz.underlying190 (zero_str w) (elem_str [] (by simp)) (str_key s hs)
 rw [(h2 s hs).2] at hv
 rw [(h2 s hs).1] at hrun
 obtain ⟨x, rfl, hx, _⟩ := plainElem_string_inv Tryz.underlying9 hv
 have hx1 : (DataW.lit (.string ((f s).getD [])) : DataW Unit) = .lit (.string x.data.toList) := congrArg Prod.fst hx
 simp only [DataW.lit.injEq, Lit.string.injEq] at hx1
 rw [hx1]
 rw [hrun]
 congr 3
theorem MapS.look0W {w : World} {b n : Nat} {f : List UInt8 → Option (List UInt8)} (h : MapS w b n f) {s : List UInt8} (hs : shS s) :
  (Instr.lookup 190 (.map (some b)) (V (bs s)) false).run pG w = .ok (V (bs ((f s).getD []))) w := by
 obtain ⟨D, h1, h2⟩ := h
 obtain ⟨v, ps, hrun, hv⟩ := h1.lookup strKeyed Tryz.underlying190 (zero_str w) (elem_str [] (by simp)) (str_key s hs)
 rw [(h2 s hs).2] at hv
 obtain ⟨x, rfl, hx, _⟩ := plainElem_string_inv Tryz.underlying9 hv
 have hx1 : (DataW.lit (.string ((f s).getD [])) : DataW Unit) = .lit (.string x.data.toList) := congrArg Prod.fst hx
 simp only [DataW.lit.injEq, Lit.string.injEq] at hx1
 rw [hx1]
 rw [hrun]
 congr 1
theorem idx_ge (c : UInt8) : ∀ l : List UInt8, -1 ≤ Lib.indexByte l c
 | [] => Int.le_refl _
 | b :: l => by
  have := idx_ge c l
  unfold Lib.indexByte
  split
  ·omega
  ·split
   ·omega
   ·omega
theorem idx_has (c : UInt8) : ∀ l : List UInt8, decide (0 ≤ Lib.indexByte l c) = l.contains c
 | [] => rfl
 | b :: l => by
  have ih := idx_has c l
  have hg := idx_ge c l
  unfold Lib.indexByte
  rw [List.contains_cons, ← ih]
  by_cases hb : b = c
  ·subst hb
   simp
  ·rw [if_neg (by simpa using hb)]
   have hcb : (c == b) = false := by simpa using (fun h => hb h.symm)
   rw [hcb, Bool.false_or]
   by_cases hi : Lib.indexByte l c = -1
   ·rw [hi]; rfl
   ·rw [if_neg (by simpa using hi), decide_eq_true (by omega), decide_eq_true (by omega)]
def wnF (f : List UInt8 → Option (List UInt8)) (n0 n1 : List UInt8) : Option (List UInt8) := if localB n1 = false then none else if n0 = [] then some n1 else some ((f n0).getD [] ++ [58] ++ n1)
theorem wname_any (E : Nat → Addr) (b k : Nat) (f : List UInt8 → Option (List UInt8)) (n0 n1 : List UInt8) (hn0 : shS n0) (hn1 : shS n1) (w : World) (hm : MapS w b k f) (hf : ∀ s v, f s = some v → shS v) (hg : LibG w) (hE : Errs w E) :
  Calls pG 182 #[.map (some b), M #[V (bs n0), V (bs n1)]] w (FoR E (wnF f n0 n1) (fun s => V (bs s)) w) := by
 have HB := hI (below_alloc1 w (B #[V (bs n0), V (bs n1)] 41))
 have HN := hI (Blk.new w 41 #[V (bs n0), V (bs n1)])
 have HX := hI (name_any n1 hn1 _ (hg.below HB.out))
 have HC := hI (fun w => Tryz.strings_Contains_one (bs n1) 58 w)
 rw [show (bs n1).data.toList = n1 from by simp [bs], idx_has] at HC
 have HE := hI hE
 have HM := hI hm
 obtain ⟨c0, c1, -⟩ := HN.out.cc
 have hfl : shS ((f n0).getD []) := by
  cases h : f n0 with
  | none => simp [shS]
  | some v => exact hf n0 v h
 have HFN := hI (fun w2 (hb2 : Below (w.alloc (B #[V (bs n0), V (bs n1)] 41)).heap.size (w.alloc (B #[V (bs n0), V (bs n1)] 41)) w2) => sfail_n w2 E (HE.out.below (HB.out.trans (hb2.mono HB.out.size))))
 obtain ⟨O, hO⟩ : ∃ O, wnF f n0 n1 = O := ⟨_, rfl⟩
 have HO : RowKit.Hid ((if (nameB n1 && !n1.contains 58) = false then none else if (n0 == []) = true then some n1 else some ((f n0).getD [] ++ [58] ++ n1)) = O) := hI (by
  rw [← hO]; unfold wnF localB
  simp only [beq_iff_eq])
 rw [hO]
 have HLK := hI (fun w2 (hb2 : Below w.heap.size w w2) => (HM.out.below hb2).look0W hn0)
 generalize (f n0).getD [] = pf at *
 clear hO hg hE hm hf
 cases h1 : nameB n1 <;> rw [h1] at HX HO
 ·have HO0 : RowKit.Hid (O = none) := hI HO.out.symm
  go_enter Tryz.func182, Tryz.ntmps182
  go_wp2_with (first | (go_at_call 122; refine HX.out.mono ?_; rintro e w2 ⟨rfl, hb2⟩) | (go_at_call 84; refine (HFN.out _ hb2).mono ?_; rintro e w3 ⟨rfl, rfl⟩))
  exact ⟨rfl, HB.out.trans (hb2.mono HB.out.size), .inr ⟨HO0.out, rfl⟩⟩
 cases h2 : n1.contains 58 <;> rw [h2] at HC HO
 rotate_left 1
 ·have HO0 : RowKit.Hid (O = none) := hI HO.out.symm
  go_enter Tryz.func182, Tryz.ntmps182
  go_wp2_with (first | (go_at_call 122; refine HX.out.mono ?_; rintro e w2 ⟨rfl, hb2⟩; have k1 := ((HN.out.below hb2 HN.out.lt).cell 1).trans rfl) | (go_at_call 73; refine (HC.out _).mono ?_; rintro e w3 ⟨rfl, rfl⟩) | (go_at_call 84; refine (HFN.out _ hb2).mono ?_; rintro e w3 ⟨rfl, rfl⟩))
  exact ⟨rfl, HB.out.trans (hb2.mono HB.out.size), .inr ⟨HO0.out, rfl⟩⟩
 have hi0 : n0.isEmpty = (n0 == []) := by cases n0 <;> rfl
 have hi1 : (bs n0).toList.isEmpty = (n0 == []) := isE_bs n0
 cases h3 : (n0 == []) <;> rw [h3] at HO hi0 hi1
 rotate_left 1
 ·have HO0 : RowKit.Hid (O = some n1) := hI HO.out.symm
  go_enter Tryz.func182, Tryz.ntmps182
  go_wp2_with (first | (go_at_call 122; refine HX.out.mono ?_; rintro e w2 ⟨rfl, hb2⟩; have k0 := ((HN.out.below hb2 HN.out.lt).cell 0).trans rfl; have k1 := ((HN.out.below hb2 HN.out.lt).cell 1).trans rfl) | (go_at_call 73; refine (HC.out _).mono ?_; rintro e w3 ⟨rfl, rfl⟩) | (go_at_call 84; refine (sfail_y _).mono ?_; rintro e w3 ⟨rfl, rfl⟩))
  go_ret
  exact ⟨HB.out.trans (hb2.mono HB.out.size), .inl ⟨_, HO0.out, rfl⟩⟩
 ·have HO0 : RowKit.Hid (O = some (pf ++ [58] ++ n1)) := hI HO.out.symm
  have s1 : ∀ w, (Op.stringOp .add (bs pf) ⟨#[58]⟩).run pG w = .ok (V (bs (pf ++ [58]))) w := fun w => run_str_add (P := pG) w pf [58] (by have := hfl; simp; omega)
  have s2 := fun w => run_str_add (P := pG) w (pf ++ [58]) n1 (by have := hfl; have := hn1; simp; omega)
  generalize hcat : pf ++ [58] = q at *
  generalize hcat2 : q ++ n1 = q2 at *
  have HQ := hI hcat2
  clear hcat hcat2
  go_enter Tryz.func182, Tryz.ntmps182
  go_wp2_with (first | (go_at_call 122; refine HX.out.mono ?_; rintro e w2 ⟨rfl, hb2⟩; have hlk := HLK.out w2 (HB.out.trans (hb2.mono HB.out.size)); have k0 := ((HN.out.below hb2 HN.out.lt).cell 0).trans rfl; have k1 := ((HN.out.below hb2 HN.out.lt).cell 1).trans rfl) | (go_at_call 73; refine (HC.out _).mono ?_; rintro e w3 ⟨rfl, rfl⟩) | (go_at_call 84; refine (sfail_y _).mono ?_; rintro e w3 ⟨rfl, rfl⟩))
  go_ret
  exact ⟨HB.out.trans (hb2.mono HB.out.size), .inl ⟨_, HO0.out, rfl⟩⟩
end
section
set_option maxHeartbeats 8000000
set_option maxRecDepth 20000
open Go.RowKit
attribute [local go_sem] bs_toList
attribute [local irreducible] wpPhi wpPhiU PX.wpPhi
def wnAts (f : List UInt8 → Option (List UInt8)) : List (List (List UInt8)) → Option (List (List (List UInt8)))
 | [] => some []
 | a :: bts => if a.getD 0 [] = [] ∧ a.getD 1 [] = xmlnsL then none else (wnF f (a.getD 0 []) (a.getD 1 [])).bind fun n => (wnAts f bts).map fun xs => [n, a.getD 2 []] :: xs
mutual
def Tr.wn (f : List UInt8 → Option (List UInt8)) : Tr → Option Tr
 | .node nm ats ks t => if nm.getD 0 [] = [] ∧ nm.getD 1 [] = [] then (if ats.length = 0 ∧ ks.length = 0 then some (.node [[]] [] [] t) else none) else
   (wnF f (nm.getD 0 []) (nm.getD 1 [])).bind fun n => (wnAts f ats).bind fun bts => (Tr.wnL f ks).map fun xs => .node [n] bts xs t
def Tr.wnL (f : List UInt8 → Option (List UInt8)) : List Tr → Option (List Tr)
 | [] => some []
 | k :: ks => (Tr.wn f k).bind fun x => (Tr.wnL f ks).map fun xs => x :: xs
end
theorem wnAts_cons (f : List UInt8 → Option (List UInt8)) (a : List (List UInt8)) (l : List (List (List UInt8))) : wnAts f (a :: l) = if a.getD 0 [] = [] ∧ a.getD 1 [] = xmlnsL then none else (wnF f (a.getD 0 []) (a.getD 1 [])).bind fun n => (wnAts f l).map fun xs => [n, a.getD 2 []] :: xs := rfl
theorem wnAts_app (f : List UInt8 → Option (List UInt8)) : ∀ xs zs : List (List (List UInt8)), wnAts f (xs ++ zs) = (wnAts f xs).bind fun a => (wnAts f zs).map fun b => a ++ b
 | [], zs => by rw [lE]; show wnAts f zs = (some []).bind _; simp
 | x :: xs, zs => by
  rw [lD, wnAts_cons, wnAts_cons, wnAts_app f xs zs]
  split
  ·rfl
  ·cases wnF f (x.getD 0 []) (x.getD 1 []) with
   | none => rfl
   | some y =>
    cases wnAts f xs with
    | none => rfl
    | some a =>
     simp only [oC, Option.map_some]
     cases wnAts f zs <;> rfl
theorem wnAts_step {f : List UInt8 → Option (List UInt8)} {xs ys : List (List (List UInt8))} {j : Nat} (h : j < xs.length) (hd : wnAts f (xs.take j) = some ys) : wnAts f (xs.take (j + 1)) = if xs[j].getD 0 [] = [] ∧ xs[j].getD 1 [] = xmlnsL then none else (wnF f (xs[j].getD 0 []) (xs[j].getD 1 [])).map fun n => ys ++ [[n, xs[j].getD 2 []]] := by
 rw [lR h, wnAts_app, hd, wnAts_cons]
 simp only [oC]
 split
 ·rfl
 ·cases wnF f (xs[j].getD 0 []) (xs[j].getD 1 []) <;> rfl
theorem wnAts_bad {f : List UInt8 → Option (List UInt8)} {xs : List (List (List UInt8))} {j : Nat} (h : wnAts f (xs.take j) = none) : wnAts f xs = none := by
 rw [← lJ j xs, wnAts_app, h]
 rfl
theorem wnL_nil (f : List UInt8 → Option (List UInt8)) : Tr.wnL f [] = some [] := by rw [Tr.wnL]
theorem wnL_cons (f : List UInt8 → Option (List UInt8)) (x : Tr) (xs : List Tr) : Tr.wnL f (x :: xs) = (x.wn f).bind fun y => (Tr.wnL f xs).map fun ys => y :: ys := by rw [Tr.wnL]
theorem wnL_app (f : List UInt8 → Option (List UInt8)) : ∀ xs zs : List Tr, Tr.wnL f (xs ++ zs) = (Tr.wnL f xs).bind fun a => (Tr.wnL f zs).map fun b => a ++ b
 | [], zs => by rw [lE, wnL_nil]; simp
 | x :: xs, zs => by
  rw [lD, wnL_cons, wnL_cons, wnL_app f xs zs]
  cases x.wn f with
  | none => rfl
  | some y =>
   cases Tr.wnL f xs with
   | none => rfl
   | some a =>
    simp only [oC, Option.map_some]
    cases Tr.wnL f zs <;> rfl
theorem wnL_step {f : List UInt8 → Option (List UInt8)} {xs ys : List Tr} {j : Nat} (h : j < xs.length) (hd : Tr.wnL f (xs.take j) = some ys) : Tr.wnL f (xs.take (j + 1)) = (xs[j].wn f).map fun y => ys ++ [y] := by
 rw [lR h, wnL_app, hd, wnL_cons, wnL_nil]
 simp only [oC]
 cases xs[j].wn f <;> rfl
theorem wnL_bad {f : List UInt8 → Option (List UInt8)} {xs : List Tr} {j : Nat} (h : Tr.wnL f (xs.take j) = none) : Tr.wnL f xs = none := by
 rw [← lJ j xs, wnL_app, h]
 rfl
theorem wnL_len {f : List UInt8 → Option (List UInt8)} : ∀ {xs ys : List Tr}, Tr.wnL f xs = some ys → ys.length = xs.length
 | [], ys, h => by rw [wnL_nil] at h; cases h; rfl
 | x :: xs, ys, h => by
  rw [wnL_cons] at h
  cases h1 : x.wn f with
  | none => rw [h1] at h; cases h
  | some y =>
   rw [h1] at h
   cases h2 : Tr.wnL f xs with
   | none => rw [h2] at h; cases h
   | some zs => rw [h2] at h; cases h; simp [wnL_len h2]
theorem wnAts_len {f : List UInt8 → Option (List UInt8)} : ∀ {xs ys : List (List (List UInt8))}, wnAts f xs = some ys → ys.length = xs.length ∧ ∀ a ∈ ys, a.length = 1 + 1
 | [], ys, h => by cases h; exact ⟨rfl, by simp⟩
 | x :: xs, ys, h => by
  rw [wnAts_cons] at h
  split at h
  ·cases h
  ·obtain ⟨n, _, h⟩ := oA.1 h
   obtain ⟨zs, hz, rfl⟩ := oB.1 h
   obtain ⟨h1, h2⟩ := wnAts_len hz
   refine ⟨by simp [h1], fun a ha => ?_⟩
   rcases List.mem_cons.1 ha with rfl | ha
   ·rfl
   ·exact h2 a ha
theorem wn_nm {f : List UInt8 → Option (List UInt8)} {x y : Tr} (h : x.wn f = some y) : y.nm.length = 1 := by
 obtain ⟨nm, ats, ks, t⟩ := x
 rw [Tr.wn] at h
 split at h
 ·split at h
  ·cases h; rfl
  ·cases h
 ·obtain ⟨n, _, h⟩ := oA.1 h
  obtain ⟨b, _, h⟩ := oA.1 h
  obtain ⟨k, _, rfl⟩ := oB.1 h
  rfl
theorem wn_tx (f : List UInt8 → Option (List UInt8)) (ax : List (List (List UInt8))) (kx : List Tr) (tx : List UInt8) : (Tr.node [[], []] ax kx tx).wn f = if ax.length = 0 ∧ kx.length = 0 then some (.node [[]] [] [] tx) else none := by
 rw [Tr.wn]
 exact if_pos (show ([[], []] : List (List UInt8)).getD 0 [] = [] ∧ ([[], []] : List (List UInt8)).getD 1 [] = [] from ⟨rfl, rfl⟩)
theorem wn_el {a0 a1 : List UInt8} (h : ¬ (a0 = [] ∧ a1 = [])) (f : List UInt8 → Option (List UInt8)) (ax : List (List (List UInt8))) (kx : List Tr) (tx : List UInt8) : (Tr.node [a0, a1] ax kx tx).wn f = (wnF f a0 a1).bind fun n => (wnAts f ax).bind fun bts => (Tr.wnL f kx).map fun xs => .node [n] bts xs tx := by
 rw [Tr.wn]
 exact if_neg (show ¬ ([a0, a1].getD 0 [] = [] ∧ [a0, a1].getD 1 [] = []) from h)
def PNoS : Part := ⟨fun v => v = V ⟨#[]⟩, fun _ _ => False⟩
def PNoL : Part := ⟨fun v => v = C none 0 0, fun _ _ => False⟩
def PSt (O : Option (List UInt8)) (s : List UInt8) : Part := ⟨fun v => v = V (bs s), fun _ _ => O = some s⟩
def PApR (base size : Nat) (t : TypeId) (n : Nat) (xs : List Value) : Part := ⟨fun v => ∃ p c, v = C p n c, fun w v => w.ownsRow base t size v n xs⟩
theorem elem1_info : (pG.info? 96).map (fun i => (i.zero, i.size, i.bytes)) = some (some (M #[V ⟨#[]⟩, C none 0 0, C none 0 0, V ⟨#[]⟩]), 4, 80) := by kernel_rfl
theorem attr1_info : (pG.info? 186).map (fun i => (i.zero, i.size, i.bytes)) = some (some (M #[V ⟨#[]⟩, V ⟨#[]⟩]), 2, 32) := by kernel_rfl
theorem welem_tx (E : Nat → Addr) (b k : Nat) (pa pk : Option Addr) (ca ck na nk : Nat) (tx : List UInt8) (w : World) (hE : Errs w E) :
  Calls pG 130 #[.map (some b), M #[V ⟨#[]⟩, V ⟨#[]⟩, C pa na ca, C pk nk ck, V (bs tx)]] w fun e w' => Below w.heap.size w w' ∧ ((na = 0 ∧ nk = 0 ∧ e = EE (M #[V ⟨#[]⟩, C none 0 0, C none 0 0, V (bs tx)])) ∨ (¬ (na = 0 ∧ nk = 0) ∧ e = .panicked (panE E 3))) := by
 have en := fun w => (eqNm [] [] [] [] w : (binOp .eql 41 (M #[V ⟨#[]⟩, V ⟨#[]⟩]) (M #[V ⟨#[]⟩, V ⟨#[]⟩])).run pG w = .ok (.bool true) w)
 have d0 : ∀ j, ((w.alloc (B #[V ⟨#[]⟩, V ⟨#[]⟩, C pa na ca, C pk nk ck, V (bs tx)] 44)).alloc (B #[V ⟨#[]⟩, C none 0 0, C none 0 0, V ⟨#[]⟩] 96)).cell? ⟨w.heap.size, j, none⟩ = (#[V ⟨#[]⟩, V ⟨#[]⟩, C pa na ca, C pk nk ck, V (bs tx)] : Array Value)[j]? := fun j => ((Blk.new w 44 #[V ⟨#[]⟩, V ⟨#[]⟩, C pa na ca, C pk nk ck, V (bs tx)]).alloc _).cell j
 have d1 : ∀ j, (((w.alloc (B #[V ⟨#[]⟩, V ⟨#[]⟩, C pa na ca, C pk nk ck, V (bs tx)] 44)).alloc (B #[V ⟨#[]⟩, C none 0 0, C none 0 0, V ⟨#[]⟩] 96)).alloc (B #[V ⟨#[]⟩, C none 0 0, C none 0 0, V ⟨#[]⟩] 96)).cell? ⟨w.heap.size, j, none⟩ = (#[V ⟨#[]⟩, V ⟨#[]⟩, C pa na ca, C pk nk ck, V (bs tx)] : Array Value)[j]? := fun j => (((Blk.new w 44 #[V ⟨#[]⟩, V ⟨#[]⟩, C pa na ca, C pk nk ck, V (bs tx)]).alloc _).alloc _).cell j
 have d2 : ∀ j, (((w.alloc (B #[V ⟨#[]⟩, V ⟨#[]⟩, C pa na ca, C pk nk ck, V (bs tx)] 44)).alloc (B #[V ⟨#[]⟩, C none 0 0, C none 0 0, V ⟨#[]⟩] 96)).alloc (B #[V ⟨#[]⟩, C none 0 0, C none 0 0, V (bs tx)] 96)).cell? ⟨w.heap.size, j, none⟩ = (#[V ⟨#[]⟩, V ⟨#[]⟩, C pa na ca, C pk nk ck, V (bs tx)] : Array Value)[j]? := fun j => (((Blk.new w 44 #[V ⟨#[]⟩, V ⟨#[]⟩, C pa na ca, C pk nk ck, V (bs tx)]).alloc _).alloc _).cell j
 have e0 := (d0 0).trans rfl
 have e1 := (d0 1).trans rfl
 have e4 := (d1 4).trans rfl
 have f2 := (d2 2).trans rfl
 have f3 := (d2 3).trans rfl
 have HN2 : RowKit.Hid (Blk (((w.alloc (B #[V ⟨#[]⟩, V ⟨#[]⟩, C pa na ca, C pk nk ck, V (bs tx)] 44)).alloc (B #[V ⟨#[]⟩, C none 0 0, C none 0 0, V ⟨#[]⟩] 96)).alloc (B #[V ⟨#[]⟩, C none 0 0, C none 0 0, V (bs tx)] 96)) (w.heap.size + 1) 96 #[V ⟨#[]⟩, C none 0 0, C none 0 0, V ⟨#[]⟩]) := hI (by
  have := (Blk.new (w.alloc (B #[V ⟨#[]⟩, V ⟨#[]⟩, C pa na ca, C pk nk ck, V (bs tx)] 44)) 96 #[V ⟨#[]⟩, C none 0 0, C none 0 0, V ⟨#[]⟩]).alloc (B #[V ⟨#[]⟩, C none 0 0, C none 0 0, V (bs tx)] 96)
  rwa [World.size_alloc] at this)
 have hN3 : Blk (((w.alloc (B #[V ⟨#[]⟩, V ⟨#[]⟩, C pa na ca, C pk nk ck, V (bs tx)] 44)).alloc (B #[V ⟨#[]⟩, C none 0 0, C none 0 0, V ⟨#[]⟩] 96)).alloc (B #[V ⟨#[]⟩, C none 0 0, C none 0 0, V (bs tx)] 96)) (w.heap.size + 1 + 1) 96 #[V ⟨#[]⟩, C none 0 0, C none 0 0, V (bs tx)] := by
  have := Blk.new ((w.alloc (B #[V ⟨#[]⟩, V ⟨#[]⟩, C pa na ca, C pk nk ck, V (bs tx)] 44)).alloc (B #[V ⟨#[]⟩, C none 0 0, C none 0 0, V ⟨#[]⟩] 96)) 96 #[V ⟨#[]⟩, C none 0 0, C none 0 0, V (bs tx)]
  rwa [World.size_alloc, World.size_alloc] at this
 obtain ⟨r0, r1, r2, r3, -⟩ := hN3.cc
 have HB := hI (show Below w.heap.size w (((w.alloc (B #[V ⟨#[]⟩, V ⟨#[]⟩, C pa na ca, C pk nk ck, V (bs tx)] 44)).alloc (B #[V ⟨#[]⟩, C none 0 0, C none 0 0, V ⟨#[]⟩] 96)).alloc (B #[V ⟨#[]⟩, C none 0 0, C none 0 0, V (bs tx)] 96)) from below_alloc (below_alloc (below_alloc1 w _) _) _)
 have HFN := hI (sfail_n _ E (hE.below HB.out))
 clear hE d0 d1 d2 hN3
 by_cases ha : na = 0
 rotate_left 1
 ·have haz : ((na : Int) == 0) = false := beq_eq_false_iff_ne.2 (by omega)
  have HA := hI ha
  clear ha
  go_enter Tryz.func130, Tryz.ntmps130
  go_wp2_with (go_at_call 84; refine HFN.out.mono ?_; rintro e w4 ⟨rfl, rfl⟩)
  exact ⟨rfl, HB.out, .inr ⟨fun h => HA.out h.1, rfl⟩⟩
 subst ha
 by_cases hk : nk = 0
 rotate_left 1
 ·have haz : ((nk : Int) == 0) = false := beq_eq_false_iff_ne.2 (by omega)
  have HA := hI hk
  clear hk
  go_enter Tryz.func130, Tryz.ntmps130
  go_wp2_with (go_at_call 84; refine HFN.out.mono ?_; rintro e w4 ⟨rfl, rfl⟩)
  exact ⟨rfl, HB.out, .inr ⟨fun h => HA.out h.2, rfl⟩⟩
 subst hk
 generalize hg4 : (((w.alloc (B #[V ⟨#[]⟩, V ⟨#[]⟩, C pa 0 ca, C pk 0 ck, V (bs tx)] 44)).alloc (B #[V ⟨#[]⟩, C none 0 0, C none 0 0, V ⟨#[]⟩] 96)).alloc (B #[V ⟨#[]⟩, C none 0 0, C none 0 0, V (bs tx)] 96)) = wz at HB HN2
 have HG4 := hI hg4
 clear hg4
 go_enter Tryz.func130, Tryz.ntmps130
 go_wp2_with (first | (go_at_call 84; refine (sfail_y _).mono ?_; rintro e w4 ⟨rfl, rfl⟩) | (refine wpList_store (.tmp 4) (.tmp 29) 96 rfl rfl (w.heap.size + 1) 0 _ _ #[V ⟨#[]⟩, C none 0 0, C none 0 0, V (bs tx)] rfl rfl (by rw [HG4.out]; exact HN2.out) ?s0 ?s1 ?s2 ?_))
 case s0 => kernel_rfl
 case s1 => simp [Value.oneCell']
 case s2 => simp
 rw [HG4.out]
 intro w8 hb8 ho8
 rw [putCells_all #[V ⟨#[]⟩, C none 0 0, C none 0 0, V ⟨#[]⟩] #[V ⟨#[]⟩, C none 0 0, C none 0 0, V (bs tx)] rfl] at hb8
 obtain ⟨z0, z1, z2, z3, -⟩ := hb8.cc
 have HBW := hI (HB.out.trans (ho8.below (by omega : w.heap.size ≤ w.heap.size + 1)))
 clear hb8 ho8 e0 e1 e4 f2 f3 r0 r1 r2 r3
 go_wp2_with fail
 refine bodyPost_ret (v := M #[V ⟨#[]⟩, C none 0 0, C none 0 0, V (bs tx)]) (by simp [results, Tryz.results130, go_sem, z0, z1, z2, z3]) rfl ?_
 exact ⟨HBW.out, .inl ⟨by trivial, by trivial, rfl⟩⟩
end
end Go.Proofs.YthboiahdheehkaaGreatDoor
