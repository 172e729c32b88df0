/- XmlRJ -/
import Derived.Test.YthboiahdheehkaaGreatDoorXB
import Derived.Test.YthboiahdheehkaaGreatDoorPA
import Derived.Test.YthboiahdheehkaaGreatDoorPD
import Derived.Test.YthboiahdheehkaaGreatDoorPH
import Derived.Test.YthboiahdheehkaaGreatDoorPO
open List renaming setIfInBounds_toArray → lA, set_cons_succ → lB, set_cons_zero → lC, cons_append → lD, nil_append → lE, length_append → lF, length_cons → lH, take_append_drop → lJ, take_succ_cons → lK, drop_succ_cons → lL, length_nil → lP
open Exists renaming intro → xI
open Option renaming bind_eq_some_iff → oA, bind_some → oC
open Nat renaming le_refl → nR, lt_of_lt_of_le → nL
open Go.Proofs.Tryz renaming prog → pG
open Go.Value renaming string → V
open Go.Value renaming slice → C
open Go.Value renaming pointer → A
open Go.Value renaming agg → D
open Go.Ending renaming returned → R
open Go.Obj renaming cells → F
namespace Go.Proofs.YthboiahdheehkaaGreatDoor
section
set_option maxHeartbeats 8000000
set_option maxRecDepth 20000
open Go.RowKit Go.Extern.Stop Go.Stop Go.Extern
attribute [local go_sem] bs_toList
attribute [local irreducible] wpPhiU PX.wpPhi
def ElG (E : Nat → Addr) (r : Nat) (d : Int) (o : Except Nat (Tr × List UInt8)) (w : World) (e : Ending) (w' : World) : Prop :=
 But [r] w w' ∧ match o with
  | .ok (x, s) => (∃ s0 p1 n1 c1 p2 n2 c2 s3, e = R (D #[.string s0, C p1 n1 c1, C p2 n2 c2, .string s3]) ∧ TrC w' (Bt w.heap.size w'.heap.size none) x [.string s0, C p1 n1 c1, C p2 n2 c2, .string s3]) ∧ Rr w' r s d
  | .error k => e = .panicked (panE E k) ∧ ∃ s' d', Rr w' r s' d'
def CtG (E : Nat → Addr) (r : Nat) (d : Int) (o : Except Nat (List Tr × List UInt8)) (w : World) (e : Ending) (w' : World) : Prop :=
 But [r] w w' ∧ match o with
  | .ok (ks, s) => (∃ v css, e = R v ∧ w'.ownsRow w.heap.size 96 4 v ks.length css.flatten ∧ TrL w' (Bt w.heap.size w'.heap.size v.ownBlock) ks css) ∧ Rr w' r s d
  | .error k => e = .panicked (panE E k) ∧ ∃ s' d', Rr w' r s' d'
theorem attrsR_len : ∀ {n : Nat} {out ats : List (List (List UInt8))} {s u : List UInt8}, attrsR n out s = some (ats, u) → u.length ≤ s.length
 | 0, _, _, _, _, h => by cases h
 | n + 1, out, ats, s, u, h => by
  unfold attrsR at h
  have hb := blank_len s
  split at h
  ·obtain ⟨a, ha, h⟩ := oA.1 h
   have hl := attrR_len (a := a.1) (u := a.2) ha
   split at h
   ·have := attrsR_len h; omega
   ·cases h
  ·cases h; exact hb
mutual
theorem elemP_len : ∀ {n d : Nat} {s : List UInt8} {x : Tr} {u : List UInt8}, elemP n d s = .ok (x, u) → u.length < s.length
 | 0, _, _, _, _, h => by unfold elemP at h; cases h
 | n + 1, d, s, x, u, h => by
  unfold elemP at h
  split at h
  ·cases h
  ·rename_i nm s2 e2
   obtain ⟨s1, e1, e2⟩ := oA.1 e2
   have l1 := cutR_len e1
   have l2 := nameR_len e2
   simp only [lH, lP] at l1
   split at h
   ·cases h
   ·split at h
    ·cases h
    ·rename_i ats s3 e3
     have l3 := attrsR_len e3
     split at h
     ·rename_i t
      split at h
      ·cases h
      ·rename_i s4 e4
       have l4 := cutR_len e4
       simp only [lH] at l3
       cases h
       omega
     ·split at h
      ·cases h
      ·rename_i s4 e4
       have l4 := cutR_len e4
       split at h
       ·cases h
       ·rename_i ks s5 e5
        have l5 := contP_len e5
        split at h
        ·cases h
        ·rename_i nm' s6 e6
         obtain ⟨s7, e7, e6⟩ := oA.1 e6
         have l7 := cutR_len e7
         have l6 := nameR_len e6
         have l8 := blank_len s6
         split at h
         ·split at h
          ·cases h
          ·rename_i s9 e9
           have l9 := cutR_len e9
           cases h
           omega
         ·cases h
theorem contP_len : ∀ {n d : Nat} {out ks : List Tr} {s u : List UInt8}, contP n d out s = .ok (ks, u) → u.length ≤ s.length
 | 0, _, _, _, _, _, h => by unfold contP at h; cases h
 | n + 1, d, out, ks, s, u, h => by
  unfold contP at h
  split at h
  ·cases h; omega
  ·split at h
   ·cases h
   ·rename_i s1 e1
    have l1 := upR_len e1
    split at h
    ·cases h
    ·rename_i x s2 e2
     have l2 := elemP_len e2
     have l3 := contP_len h
     omega
   ·rename_i t s1 _ e1
    have l1 := upR_len e1
    split at h
    ·cases h
    ·have l3 := contP_len h
     omega
end
def ElemC (m : Nat) : Prop := ∀ (E : Nat → Addr) (r d : Nat) (s : List UInt8) (w : World), LibX r w E → Rr w r s (d : Int) → s.length ≤ 20000 → d ≤ 12 → 2 * s.length + 2 ≤ m →
 Calls pG 88 #[A (some ⟨r, 0, none⟩)] w (ElG E r d (elemP m d s) w)
def ContC (m : Nat) : Prop := ∀ (E : Nat → Addr) (r d : Nat) (s : List UInt8) (w : World), LibX r w E → Rr w r s (d : Int) → s.length ≤ 20000 → d ≤ 12 → 2 * s.length + 3 ≤ m →
 Calls pG 149 #[A (some ⟨r, 0, none⟩)] w (CtG E r d (contP m d [] s) w)
theorem only_but {r : Nat} {w w' : World} (ho : Only r w w') : But [r] w w' := ⟨ho.os, ho.tape, ho.output, by rw [ho.size]; exact nR _, fun k hk hn => ho.block k (by rintro rfl; simp at hn)⟩
abbrev ELD : FuncId := 146
theorem elemD (x r : Nat) (s : List UInt8) (d : Int) (u : FrameMode) (w : World) (hp : w.cell? ⟨x, 0, none⟩ = some (A (some ⟨r, 0, none⟩))) (hr : Rr w r s d) :
  CallsD pG 146 #[A (some ⟨x, 0, none⟩)] u w fun e u' w' => u' = u ∧ (e = R (.tuple #[]) ∧ But [r] w w' ∧ ∃ d', Rr w' r s d' ∧ (-100 ≤ d → d ≤ 100 → d' = d - 1)) := by
 have c1 := (hr.cell 1).trans rfl
 have f1 := hr.frozen 1
 have HR := Lib.hid (fun z => show Rr (w.setCell ⟨r, 1, none⟩ (.int .i64 z)) r s z from hr.set_ 1 _)
 have HO := Lib.hid (fun z => only_but ((Only.refl r w).set_ 1 (.int .i64 z)))
 clear hr
 go_enter_d Tryz.func146, Tryz.ntmps146
 go_wp2_with fail
 go_end0
 refine ⟨rfl, HO.out _, _, HR.out _, fun h1 h2 => ?_⟩
 unfold wrap64
 omega
theorem Errs.depth {w : World} {E : Nat → Addr} (h : Errs w E) : w.cell? ⟨10, 0, none⟩ = some (.iface 313 (A (some (E 10)))) := by
 have := h.cell 10 (by omega)
 simpa only [errVar, errAt, List.getD_cons_zero, List.getD_cons_succ] using this
theorem But.cellx {r : Nat} {w w' : World} (h : But [r] w w') {a : Addr} {v : Value} (hr : r < a.block) (hc : w.cell? a = some v) : w'.cell? a = some v :=
 (World.cell?_of_block (h.block a.block (cell_lt hc) (rne r a.block (by omega)))).trans hc
theorem trc_but {r : Nat} {w w' : World} {P : Nat → Prop} {x : Tr} {cs : List Value} (h : TrC w P x cs) (hb : But [r] w w') (hP : ∀ b, P b → r < b) : TrC w' P x cs :=
 h.keepP fun a v hp hc => hb.cellx (hP _ hp) hc
theorem trl_but {r : Nat} {w w' : World} {P : Nat → Prop} {x : List Tr} {cs : List (List Value)} (h : TrL w P x cs) (hb : But [r] w w') (hP : ∀ b, P b → r < b) : TrL w' P x cs :=
 h.keepP fun a v hp hc => hb.cellx (hP _ hp) hc
structure ElS (E : Nat → Addr) (r : Nat) (w : World) (g : Nat) (nm : List UInt8) (ats : List (List (List UInt8))) (ks : List Tr) (pa : Option Addr) (ca : Nat) (pk : Option Addr) (ck : Nat) (wi : World) : Prop where
 lib : LibX r wi E
 but : But [r] w wi
 ptr : Blk wi w.heap.size 146 #[A (some ⟨r, 0, none⟩)]
 zer : Blk wi (w.heap.size + 1) 96 #[V ⟨#[]⟩, C none 0 0, C none 0 0, V ⟨#[]⟩]
 own : Blk wi g 96 #[V (bs nm), C pa ats.length ca, C pk ks.length ck, V ⟨#[]⟩]
 low : w.heap.size + 2 ≤ g
 tree : TrC wi (Bt (g + 1) wi.heap.size none) (.node [nm] ats ks []) [V (bs nm), C pa ats.length ca, C pk ks.length ck, V ⟨#[]⟩]
theorem ElS.next {E : Nat → Addr} {r g : Nat} {w : World} {nm : List UInt8} {ats : List (List (List UInt8))} {ks : List Tr} {pa pk : Option Addr} {ca ck : Nat} {wi wj : World} (h : ElS E r w g nm ats ks pa ca pk ck wi) (hr : r < w.heap.size) (hb : But [r] wi wj) : ElS E r w g nm ats ks pa ca pk ck wj :=
 ⟨h.lib.but hb, h.but.trans hb, hb.blk h.ptr (rne r _ (by omega)), hb.blk h.zer (rne r _ (by omega)), hb.blk h.own (rne r _ (by have := h.low; omega)), h.low,
  (trc_but h.tree hb (fun b hp => by have := hp.1; have := h.low; omega)).imp fun b hp => ⟨hp.1, nL hp.2.1 hb.size, hp.2.2⟩⟩
theorem el_die {E : Nat → Addr} {r k : Nat} {d d' : Int} {s' : List UInt8} {w wj : World} (tmps : Array Value) (hp : Blk wj w.heap.size 146 #[A (some ⟨r, 0, none⟩)]) (hr : Rr wj r s' d') (hb : But [r] w wj) :
  bodyPostD pG Tryz.f88 (ElG E r d (.error k) w) (Exit.panic (panE E k)) ⟨tmps, [{ target := .fn (.func ELD) #[A (some ⟨w.heap.size, 0, none⟩)], args := #[] }]⟩ wj := by
 refine leaves_cons (f := ELD) (args := #[A (some ⟨w.heap.size, 0, none⟩)]) (by simp) (by simp [go_sem]) ?_
 refine (elemD w.heap.size r _ _ _ wj ((hp.cell 0).trans rfl) hr).mono ?_
 rintro e u' wz ⟨rfl, rfl, hbz, dz, hrz, -⟩
 have HFZ := Lib.hid (show ElG E r d (.error k) w (.panicked (panE E k)) wz from ⟨hb.trans hbz, rfl, _, _, hrz⟩)
 clear hbz hrz
 simp [Leaves, settle, results, Tryz.results88, go_sem]
 exact HFZ.out
def PNoN : Part := ⟨fun v => v = V ⟨#[]⟩, fun _ _ => False⟩
def PNmX (r : Nat) (s : List UInt8) (d : Int) (nm : List UInt8) : Part := ⟨fun v => v = V (bs nm), fun w _ => Rr w r s d⟩
theorem elem_of (n : Nat) (hct : ContC n) : ElemC (n + 1) := by
 intro E r d s w hx hr hs hd hn
 obtain ⟨O, hO⟩ : ∃ O, elemP (n + 1) d s = O := ⟨_, rfl⟩
 rw [hO]
 unfold elemP at hO
 have HCT := Lib.hid hct
 have hrw := hr.lt
 have HNE1 := Lib.hid (rne r w.heap.size (by omega))
 have HNE2 := Lib.hid (rne r (w.heap.size + 1) (by omega))
 have hb := But.of_below (S := [r]) (below_alloc (below_alloc1 w (F #[A (some ⟨r, 0, none⟩)] 146)) (F #[V ⟨#[]⟩, C none 0 0, C none 0 0, V ⟨#[]⟩] 96))
 have HLX := Lib.hid hx
 have HX0 := Lib.hid (hx.but hb)
 have HB0 := Lib.hid hb
 have HP0 := Lib.hid ((Blk.new w 146 #[A (some ⟨r, 0, none⟩)]).alloc (F #[V ⟨#[]⟩, C none 0 0, C none 0 0, V ⟨#[]⟩] 96))
 have hz0 := Blk.new (w.alloc (F #[A (some ⟨r, 0, none⟩)] 146)) 96 #[V ⟨#[]⟩, C none 0 0, C none 0 0, V ⟨#[]⟩]
 rw [World.size_alloc] at hz0
 have HZ0 := Lib.hid hz0
 have HR0 := Lib.hid ((hr.alloc (F #[A (some ⟨r, 0, none⟩)] 146)).alloc (F #[V ⟨#[]⟩, C none 0 0, C none 0 0, V ⟨#[]⟩] 96))
 have HFY := Lib.hid (fun w => xfail_y w)
 have hmf := @run_makeFunc pG
 have hsz0 : ((w.alloc (F #[A (some ⟨r, 0, none⟩)] 146)).alloc (F #[V ⟨#[]⟩, C none 0 0, C none 0 0, V ⟨#[]⟩] 96)).heap.size = w.heap.size + 2 := by simp
 have HSZ0 := Lib.hid hsz0
 have HO := Lib.hid hO
 have p0 := (HP0.out.cell 0).trans rfl
 clear hb hx hr hz0 hsz0 hct hO
 go_enter_defers Tryz.func88, Tryz.ntmps88
 go_wp2_with fail
 have hO := HO.out
 clear HO p0
 generalize (w.alloc (F #[A (some ⟨r, 0, none⟩)] 146)).alloc (F #[V ⟨#[]⟩, C none 0 0, C none 0 0, V ⟨#[]⟩] 96) = w0 at *
 cases h1 : cutR [60] s with
 | none =>
  rw [h1, Option.bind_none] at hO
  obtain rfl : O = .error 3 := hO.symm
  refine (rcut_n w0 E HX0.out.errs HR0.out h1).mono ?_
  rintro e w1 ⟨rfl, rfl⟩
  exact ⟨HB0.out, rfl, _, _, HR0.out⟩
 | some s1 =>
  have l1 := cutR_len h1
  simp only [lH, lP] at l1
  rw [h1, oC] at hO
  refine (rcut_y w0 HR0.out h1).mono ?_
  rintro e w1 ⟨rfl, hr, ho⟩
  have hb := only_but ho
  have HX1 := Lib.hid (HX0.out.but hb)
  have HP1 := Lib.hid (hb.blk HP0.out HNE1.out)
  have HZ1 := Lib.hid (hb.blk HZ0.out HNE2.out)
  have HB1 := Lib.hid (HB0.out.trans hb)
  have HR1 := Lib.hid hr
  have hs1 : w.heap.size + 2 ≤ w1.heap.size := by have := HSZ0.out; have := hb.size; omega
  have p1 := (HP1.out.cell 0).trans rfl
  have HO := Lib.hid hO
  clear h1 hr hb ho hO
  go_wp2_with fail
  have hO := HO.out
  clear HO p1
  cases h2 : nameR s1 with
  | none =>
   rw [h2] at hO
   obtain rfl : O = .error 3 := hO.symm
   refine (rname_n E w1 HX1.out HR1.out (by omega) h2).mono ?_
   rintro e w2 ⟨rfl, hb, s', hr'⟩
   exact ⟨HB1.out.trans hb, rfl, _, _, hr'⟩
  | some q =>
   obtain ⟨nm, s2⟩ := q
   have l2 := nameR_len h2
   rw [h2] at hO
   dsimp only at hO
   refine (rname_y E w1 HX1.out HR1.out (by omega) h2).mono ?_
   rintro e w2 ⟨rfl, hr, hb⟩
   have HX2 := Lib.hid (HX1.out.but hb)
   have HP2 := Lib.hid (hb.blk HP1.out HNE1.out)
   have HZ2 := Lib.hid (hb.blk HZ1.out HNE2.out)
   have HB2 := Lib.hid (HB1.out.trans hb)
   have HR2 := Lib.hid hr
   have hs2 : w.heap.size + 2 ≤ w2.heap.size := Nat.le_trans hs1 hb.size
   have HO := Lib.hid hO
   clear h2 hr hb hO
   have hb3 := But.of_below (S := [r]) (below_alloc1 w2 (F #[V (bs nm), C none 0 0, C none 0 0, V ⟨#[]⟩] 96))
   have hs3 : (w2.alloc (F #[V (bs nm), C none 0 0, C none 0 0, V ⟨#[]⟩] 96)).heap.size = w2.heap.size + 1 := by simp
   have hr3 : Rr (w2.alloc (F #[V (bs nm), C none 0 0, C none 0 0, V ⟨#[]⟩] 96)) r s2 (d : Int) := HR2.out.alloc _
   have hp3 := HP2.out.alloc (F #[V (bs nm), C none 0 0, C none 0 0, V ⟨#[]⟩] 96)
   have hz3 := HZ2.out.alloc (F #[V (bs nm), C none 0 0, C none 0 0, V ⟨#[]⟩] 96)
   have hn3 := Blk.new w2 96 #[V (bs nm), C none 0 0, C none 0 0, V ⟨#[]⟩]
   have hx3 := HX2.out.but hb3
   have hbb3 := HB2.out.trans hb3
   have p2 := (HP2.out.cell 0).trans rfl; have p3 := (hp3.cell 0).trans rfl; have q3 := (hr3.cell 1).trans rfl
   have f3 := hr3.frozen 1
   have HR3 := Lib.hid hr3; have HP3 := Lib.hid hp3; have HZ3 := Lib.hid hz3; have HN3 := Lib.hid hn3; have HX3 := Lib.hid hx3; have HB3 := Lib.hid hbb3
   have HS3 := Lib.hid hs3
   have hr4 : Rr ((w2.alloc (F #[V (bs nm), C none 0 0, C none 0 0, V ⟨#[]⟩] 96)).setCell ⟨r, 1, none⟩ (.int .i64 ((d : Int) + 1))) r s2 ((d : Int) + 1) := hr3.set_ 1 _
   have ho4 := (Only.refl r (w2.alloc (F #[V (bs nm), C none 0 0, C none 0 0, V ⟨#[]⟩] 96))).set_ 1 (.int .i64 ((d : Int) + 1))
   have p4 := ((ho4.blk hp3 (by omega)).cell 0).trans rfl
   have q4 := (hr4.cell 1).trans rfl
   have HX4 := Lib.hid (hx3.but (only_but ho4))
   have HP4 := Lib.hid (ho4.blk hp3 (by omega))
   have HZ4 := Lib.hid (ho4.blk hz3 (by omega))
   have HN4 := Lib.hid (ho4.blk hn3 (by omega))
   have HB4 := Lib.hid (hbb3.trans (only_but ho4))
   have HR4 := Lib.hid hr4
   have HS4 := Lib.hid ho4.size
   have HSW := Lib.hid hs2
   clear hb3 hs3 hr3 hp3 hz3 hn3 hx3 hbb3 ho4 hr4 hs2 hs1
   by_cases h12 : 12 < d + 1
   ·have g12 : decide ((12 : Int) < (d : Int) + 1) = true := decide_eq_true (by omega)
    have e4 := HX4.out.errs.depth
    have hO := HO.out
    rw [if_pos h12] at hO
    obtain rfl : O = .error 10 := hO.symm
    clear HO hO
    go_wp2_with fail
    exact ⟨HB4.out, rfl, _, _, HR4.out⟩
   have g12 : decide ((12 : Int) < (d : Int) + 1) = false := decide_eq_false (by omega)
   rw [if_neg h12] at HO
   go_wp2_with fail
   clear p2 p3 q3 f3 p4 q4 g12
   generalize hg3 : w2.heap.size = g3 at *
   have hs4 : ((w2.alloc (F #[V (bs nm), C none 0 0, C none 0 0, V ⟨#[]⟩] 96)).setCell ⟨r, 1, none⟩ (.int .i64 ((d : Int) + 1))).heap.size = g3 + 1 := HS4.out.trans HS3.out
   clear HR3 HP3 HZ3 HN3 HX3 HB3 HS3 HS4
   generalize (w2.alloc (F #[V (bs nm), C none 0 0, C none 0 0, V ⟨#[]⟩] 96)).setCell ⟨r, 1, none⟩ (.int .i64 ((d : Int) + 1)) = w4 at *
   have hO := HO.out
   clear HO
   refine (rattrs_any E r ((d : Int) + 1) s2 (s2.length + 1) w4 HX4.out HR4.out (by omega) (by omega)).mono ?_
   rintro e w5 ⟨hb5, he⟩
   cases h3 : attrsR (s2.length + 1) [] s2 with
   | none =>
    rw [h3] at hO he
    obtain rfl : O = .error 3 := hO.symm
    obtain ⟨rfl, s', hr'⟩ := he
    have hp5 := hb5.blk HP4.out HNE1.out
    exact el_die _ (hp5) (hr') (HB4.out.trans hb5)
   | some q =>
    obtain ⟨ats, s3⟩ := q
    rw [h3] at hO he
    dsimp only at hO
    obtain ⟨v, rfl, own5, hk5, hl5, hr5⟩ := he
    obtain ⟨pa, ca, rfl, a1, a2, a3, a4⟩ := owns_rdP own5
    have hlw := HSW.out
    have hn5 := hb5.blk HN4.out (rne r g3 (by omega))
    have ho6 := (Only.refl g3 w5).set_ 1 (C pa ats.length ca)
    have hbut6 := (HB4.out.trans hb5).only1 ho6 (by omega)
    have hs5 := hb5.size
    have S6 := Lib.hid (show ElS E r w g3 nm ats [] pa ca none 0 (w5.setCell ⟨g3, 1, none⟩ (C pa ats.length ca)) from
     ⟨HLX.out.but hbut6, hbut6, ho6.blk (hb5.blk HP4.out HNE1.out) (by omega), ho6.blk (hb5.blk HZ4.out HNE2.out) (by omega), hn5.set_ 1 _, hlw, by
      have hz6 := ho6.size
      unfold TrC
      refine ⟨pa, ca, none, 0, [], rfl, ⟨a1, a2, a3.keepP (P := fun b => g3 + 1 ≤ b) (fun a ha => by have := (a4 a ha).1; omega) fun a v hp hc => (World.cell?_of_block (ho6.block a.block (by omega))).trans hc, fun a ha => ⟨by have := (a4 a ha).1; omega, by have := (a4 a ha).2; omega, by simp⟩⟩, ⟨nR _, by unfold maxLen; omega, .inl rfl, fun a ha => by cases ha⟩, (by unfold TrL; rfl)⟩⟩)
    have HR6 := Lib.hid (show Rr (w5.setCell ⟨g3, 1, none⟩ (C pa ats.length ca)) r s3 ((d : Int) + 1) from ho6.blk hr5 (by omega))
    have f5 := hn5.frozen 1
    have c5 := (hn5.cell 1).trans rfl; have p6 := (S6.out.ptr.cell 0).trans rfl; have q6 := (HR6.out.cell 0).trans rfl
    have HPF := Lib.hid (Tryz.strings_HasPrefix (bs s3) ⟨#[47]⟩ (w5.setCell ⟨g3, 1, none⟩ (C pa ats.length ca)))
    rw [show (bs s3).data.toList = s3 by simp [bs], show (⟨#[47]⟩ : ByteArray).data.toList = [47] from rfl] at HPF
    have HK5 := Lib.hid hk5
    have HL3 := Lib.hid (attrsR_len h3)
    have HOO := Lib.hid hO
    clear hO own5 hk5 hl5 hr5 a1 a2 a3 a4 hn5 ho6 hbut6 hb5 HX4 HP4 HZ4 HN4 HB4 HR4 h3
    by_cases h47 : ∃ t, s3 = 47 :: t
    ·obtain ⟨t, rfl⟩ := h47
     rw [show Lib.hasPrefix (47 :: t) [47] = true by unfold Lib.hasPrefix; simp] at HPF
     go_wp2_with (go_at_call 148; refine HPF.out.mono ?_; rintro e w6 ⟨rfl, rfl⟩)
     clear p6 q6 c5 f5
     generalize w5.setCell ⟨g3, 1, none⟩ (C pa ats.length ca) = w6 at *
     have hO := HOO.out
     clear HOO
     have hcc : cutR [47, 62] (47 :: t) = cutR [62] t := by
      conv => lhs; unfold cutR
      rw [if_pos rfl]
     cases h5 : cutR [62] t with
     | none =>
      rw [h5] at hO hcc
      obtain rfl : O = .error 3 := hO.symm
      refine (rcut_n w6 E S6.out.lib.errs HR6.out hcc).mono ?_
      rintro e w7 ⟨rfl, rfl⟩
      exact el_die _ (S6.out.ptr) (HR6.out) (S6.out.but)
     | some s4 =>
      rw [h5] at hO hcc
      dsimp only at hO
      obtain rfl : O = .ok (.node [nm] ats [] [], s4) := hO.symm
      refine (rcut_y w6 HR6.out hcc).mono ?_
      rintro e w7 ⟨rfl, hr, ho⟩
      have S := Lib.hid (S6.out.next hrw (only_but ho))
      have HRS := Lib.hid hr
      clear ho hr S6 HR6
      obtain ⟨o0, o1, o2, o3, -⟩ := S.out.own.cc
      go_wp2_with (refine wpList_store (.tmp 2) (.tmp 33) 96 rfl rfl (w.heap.size + 1) 0 _ _ #[V (bs nm), C pa ats.length ca, C none 0 0, V ⟨#[]⟩] rfl rfl S.out.zer ?s0 ?s1 ?s2 ?_)
      case s0 => kernel_rfl
      case s1 => simp [Value.oneCell']
      case s2 => simp
      intro wx hbx hox
      rw [putCells_all #[V ⟨#[]⟩, C none 0 0, C none 0 0, V ⟨#[]⟩] #[V (bs nm), C pa ats.length ca, C none 0 0, V ⟨#[]⟩] rfl] at hbx
      have HBX := Lib.hid hbx
      have HOX := Lib.hid hox
      clear o0 o1 o2 o3 hbx hox
      go_wp2_with fail
      refine leaves_cons (f := ELD) (args := #[A (some ⟨w.heap.size, 0, none⟩)]) (by simp) (by simp [go_sem]) ?_
      refine (elemD w.heap.size r _ _ _ wx (((HOX.out.blk S.out.ptr (by omega)).cell 0).trans rfl) (HOX.out.blk HRS.out (by omega))).mono ?_
      rintro e u' wz ⟨rfl, rfl, hbz, dz, hrz, hdz⟩
      have hz := hbz.blk HBX.out HNE2.out
      obtain ⟨z0, z1, z2, z3, -⟩ := hz.cc
      have hdd := hdz (by omega) (by omega)
      have hrd : Rr wz r s4 (d : Int) := by
       rw [show (d : Int) = dz by omega]
       exact hrz
      have htr := trc_but (S.out.tree.only HOX.out fun b hb => by have := hb.1; have := S.out.low; omega) hbz fun b hb => by have := hb.1; have := S.out.low; omega
      have hsx : wx.heap.size ≤ wz.heap.size := hbz.size
      have hox := HOX.out.size
      have HFZ := Lib.hid (show ElG E r (d : Int) (.ok (.node [nm] ats [] [], s4)) w (R (D #[V (bs nm), C pa ats.length ca, C none 0 0, V ⟨#[]⟩])) wz from
       ⟨(S.out.but.only1 HOX.out (by omega)).trans hbz, ⟨_, _, _, _, _, _, _, _, rfl, htr.imp fun b hb => ⟨by have := hb.1; have := S.out.low; omega, by have := hb.2.1; omega, hb.2.2⟩⟩, hrd⟩)
      clear hbz hrz hz htr hrd hdz
      simp [Leaves, settle, results, Tryz.results88, go_sem, z0, z1, z2, z3]
      exact HFZ.out
    ·have hpf : Lib.hasPrefix s3 [47] = false := by
      unfold Lib.hasPrefix
      cases s3 with
      | nil => rfl
      | cons c u =>
       rw [List.isPrefixOf_cons_cons]
       have : ((47 : UInt8) == c) = false := by rw [beq_eq_false_iff_ne]; rintro rfl; exact h47 ⟨u, rfl⟩
       rw [this]
       rfl
     rw [hpf] at HPF
     go_wp2_with (go_at_call 148; refine HPF.out.mono ?_; rintro e w6 ⟨rfl, rfl⟩)
     clear p6 q6 c5 f5 hpf HPF
     generalize w5.setCell ⟨g3, 1, none⟩ (C pa ats.length ca) = w6 at *
     have hO : (match cutR [62] s3 with
       | none => .error 3
       | some s => match contP n (d + 1) [] s with
        | .error e => .error e
        | .ok (ks, s) => match (cutR [60, 47] s).bind nameR with
         | none => .error 3
         | some (nm', s) => if nm' = nm then match cutR [62] (blankR s) with
           | none => .error 3
           | some s => .ok (.node [nm] ats ks [], s)
          else .error 3) = O := by
      rw [← HOO.out]
      symm
      cases s3 with
      | nil => rfl
      | cons c u =>
       by_cases hc : c = 47
       ·exact absurd ⟨u, by rw [hc]⟩ h47
       ·split
        ·rename_i e; injection e with e _; exact absurd e hc
        ·rfl
     clear HOO h47
     cases h5 : cutR [62] s3 with
     | none =>
      rw [h5] at hO
      obtain rfl : O = .error 3 := hO.symm
      refine (rcut_n w6 E S6.out.lib.errs HR6.out h5).mono ?_
      rintro e w7 ⟨rfl, rfl⟩
      exact el_die _ (S6.out.ptr) (HR6.out) (S6.out.but)
     | some s4 =>
      have l5 := cutR_len h5
      simp only [lH, lP] at l5
      have l3 := HL3.out
      rw [h5] at hO
      dsimp only at hO
      refine (rcut_y w6 HR6.out h5).mono ?_
      rintro e w7 ⟨rfl, hr, ho⟩
      have S7 := Lib.hid (S6.out.next hrw (only_but ho))
      have HR7 := Lib.hid hr
      have p7 := (S7.out.ptr.cell 0).trans rfl
      have HOO := Lib.hid hO
      clear ho hr S6 HR6 h5 hO
      go_wp2_with fail
      have hO := HOO.out
      clear HOO p7
      refine (HCT.out E r (d + 1) s4 w7 S7.out.lib HR7.out (by omega) (by omega) (by omega)).mono ?_
      rintro e w8 ⟨hb8, he⟩
      cases h6 : contP n (d + 1) [] s4 with
      | error k =>
       rw [h6] at hO he
       obtain rfl : O = .error k := hO.symm
       obtain ⟨rfl, s', d', hr'⟩ := he
       exact el_die _ ((S7.out.next hrw hb8).ptr) (hr') (S7.out.but.trans hb8)
      | ok q8 =>
       obtain ⟨ks, s5⟩ := q8
       rw [h6] at hO he
       dsimp only at hO
       obtain ⟨⟨v, css, rfl, own8, trl8⟩, hr8⟩ := he
       obtain ⟨pk, ck, rfl, b1, b2, b3, b4⟩ := owns_rdP own8
       have s8 := S7.out.next hrw hb8
       have ho9 := (Only.refl g3 w8).set_ 2 (C pk ks.length ck)
       have hbut9 := s8.but.only1 ho9 (by omega)
       have hs7 : g3 < w7.heap.size := S7.out.own.lt
       have S9 := Lib.hid (show ElS E r w g3 nm ats ks pa ca pk ck (w8.setCell ⟨g3, 2, none⟩ (C pk ks.length ck)) from
        ⟨HLX.out.but hbut9, hbut9, ho9.blk s8.ptr (by omega), ho9.blk s8.zer (by omega), s8.own.set_ 2 _, hlw, by
         have hz9 := ho9.size
         have ht := s8.tree
         unfold TrC at ht ⊢
         obtain ⟨pa', ca', pk', ck', css', e1, ⟨x1, x2, x3, x4⟩, _, _⟩ := ht
         simp only [strs, List.map_cons, List.map_nil, lD, lE, List.cons.injEq, Value.slice.injEq] at e1
         obtain ⟨_, ⟨rfl, _, rfl⟩, _⟩ := e1
         refine ⟨pa, ca, pk, ck, css, rfl, ⟨x1, x2, x3.keepP x4 fun a v hp hc => (World.cell?_of_block (ho9.block a.block (by have := hp.1; omega))).trans hc, fun a ha => by have := x4 a ha; exact ⟨this.1, by have := this.2.1; omega, this.2.2⟩⟩, ⟨b1, b2, b3.keepP (P := fun b => g3 + 1 ≤ b) (fun a ha => by have := (b4 a ha).1; omega) fun a v hp hc => (World.cell?_of_block (ho9.block a.block (by omega))).trans hc, fun a ha => ⟨by have := (b4 a ha).1; omega, by have := (b4 a ha).2; omega, by simp⟩⟩, ?_⟩
         exact (trl8.only ho9 fun b hb => by have := hb.1; omega).imp fun b hb => ⟨by have := hb.1; omega, by have := hb.2.1; omega, by simp⟩⟩)
       have HR9 := Lib.hid (show Rr (w8.setCell ⟨g3, 2, none⟩ (C pk ks.length ck)) r s5 ((d : Int) + 1) from ho9.blk hr8 (by omega))
       have f8 := s8.own.frozen 2
       have c8 := (s8.own.cell 2).trans rfl; have p9 := (S9.out.ptr.cell 0).trans rfl
       have HL6 := Lib.hid (contP_len h6)
       have HOO := Lib.hid hO
       clear s8 ho9 hbut9 own8 trl8 hr8 b1 b2 b3 b4 hb8 hO h6
       go_wp2_with fail
       clear f8 c8 p9
       generalize w8.setCell ⟨g3, 2, none⟩ (C pk ks.length ck) = w9 at *
       have hO := HOO.out
       clear HOO
       cases h7 : cutR [60, 47] s5 with
       | none =>
        rw [h7] at hO
        obtain rfl : O = .error 3 := hO.symm
        refine (rcut_n w9 E S9.out.lib.errs HR9.out h7).mono ?_
        rintro e w10 ⟨rfl, rfl⟩
        exact el_die _ (S9.out.ptr) (HR9.out) (S9.out.but)
       | some s6 =>
        have l7 := cutR_len h7
        simp only [lH, lP] at l7
        have l6 := HL6.out
        rw [h7, oC] at hO
        refine (rcut_y w9 HR9.out h7).mono ?_
        rintro e w10 ⟨rfl, hr, ho⟩
        have S10 := Lib.hid (S9.out.next hrw (only_but ho))
        have HR10 := Lib.hid hr
        have p10 := (S10.out.ptr.cell 0).trans rfl; have n10 := (S10.out.own.cell 0).trans rfl
        have HOO := Lib.hid hO
        clear ho hr S9 HR9 h7 hO
        go_wp2_with fail
        have hO := HOO.out
        clear HOO
        cases h8 : nameR s6 with
        | none =>
         rw [h8] at hO
         obtain rfl : O = .error 3 := hO.symm
         have HNM := Lib.hid (fun wq (hq : Below w10.heap.size w10 wq) => rname_n E wq (S10.out.next hrw (But.of_below hq)).lib (HR10.out.below hq HR10.out.lt) (by omega) h8)
         clear p10 n10 hO
         refine PX.wp_phi_tail (List.take 5 _) (List.drop 5 _) (lJ 5 _).symm (fun ch w' => ch = panE E 3 ∧ But [r] w w' ∧ Blk w' w.heap.size 146 #[A (some ⟨r, 0, none⟩)] ∧ ∃ s', Rr w' r s' ((d : Int) + 1)) ?_ (fun w' => Below w10.heap.size w10 w') [(1, PNoN)] [] (by kernel_rfl) (by kernel_rfl) ?_ ?_ (Below.refl _ _).drew ?_
         ·rintro ch a w' hd ⟨rfl, hb, hp, s', hr'⟩
          obtain ⟨tm, df⟩ := a
          dsimp only at hd
          subst hd
          exact el_die tm hp hr' hb
         ·intro w1' w2' h1 hb
          exact h1.trans (hb.mono h1.size)
         ·simp only [List.mem_cons, List.not_mem_nil, or_false, forall_eq]
          exact fun _ _ _ _ _ h => h
         simp only [lK, List.take_zero, lL, List.drop_zero]
         repeat ((first | refine PX.phi_skipK rfl (fun K hK => ?_) | (refine PX.phi_pureK rfl rfl (fun K hK => ?_); apply xI; constructor; (focus (rintro w' hI; (have gS := S10.out.next hrw (But.of_below hI); have q0 := (gS.ptr.cell 0).trans rfl; have q1 := (gS.own.cell 0).trans rfl; clear gS hI); first | (go_simp; done) | (go_simp; (try go_bits); (try go_simp); rfl) | go_simp)))); simp only [Act.put, lA, lB, lC, lD, lE]; apply hK; clear hK K)
         refine PX.phi_partK PNoN rfl rfl ⟨_, rfl⟩ ?_ (fun K hK v hv => ?_)
         ·rintro w' hI _
          have HC := Lib.hid (HNM.out w' hI)
          have gS := S10.out.next hrw (But.of_below hI)
          have HH := Lib.hid gS
          clear hI gS
          unfold PX.gives
          go_simp
          refine HC.out.mono ?_
          rintro e w'' ⟨rfl, hb, s', hr'⟩
          exact .inr ⟨_, rfl, rfl, HH.out.but.trans hb, (HH.out.next hrw hb).ptr, s', hr'⟩
         obtain rfl : v = _ := hv
         simp only [Act.put, lA, lB, lC, lD, lE]
         apply hK
         clear hK K
         repeat ((first | refine PX.phi_skipK rfl (fun K hK => ?_) | (refine PX.phi_pureK rfl rfl (fun K hK => ?_); apply xI; constructor; (focus (rintro w' hI; (have gS := S10.out.next hrw (But.of_below hI); have q0 := (gS.ptr.cell 0).trans rfl; have q1 := (gS.own.cell 0).trans rfl; clear gS hI); first | (go_simp; done) | (go_simp; (try go_bits); (try go_simp); rfl) | go_simp)))); simp only [Act.put, lA, lB, lC, lD, lE]; apply hK; clear hK K)
         refine PX.phi_done ?_
         intro w9 _ hk
         exact (hk (1, fun w => PNoN.fact w (V ⟨#[]⟩)) (by simp)).elim
        | some q11 =>
         obtain ⟨nm', s7⟩ := q11
         rw [h8] at hO
         dsimp only at hO
         have HNM := Lib.hid (fun wq (hs : ElS E r w g3 nm ats ks pa ca pk ck wq) (hr : Rr wq r s6 ((d : Int) + 1)) => rname_y E wq hs.lib hr (by omega) h8)
         have l8 := nameR_len h8
         have HOO := Lib.hid hO
         clear p10 n10 hO h8
         refine wp_phiU_tail (List.take 5 _) (List.drop 5 _) (lJ 5 _).symm (fun _ wa wb => But [r] wa wb) (fun w' => ElS E r w g3 nm ats ks pa ca pk ck w') [(1, PNmX r s7 ((d : Int) + 1) nm')] [] [(1, fun w' => Rr w' r s6 ((d : Int) + 1))] [] (by kernel_rfl) (by kernel_rfl) ?_ ?_ ?_ ?_ (S10.out.next hrw (But.of_below (Below.refl _ _).drew)) ?_
         ·rintro p _ wa wb hI hR
          exact hI.next hrw hR
         ·intro p hp p' hp' hne
          simp only [List.mem_singleton] at hp hp'
          subst hp; subst hp'
          exact absurd rfl hne
         ·intro p hp u hu hne
          simp only [List.mem_singleton] at hp hu
          subst hp; subst hu
          exact absurd rfl hne
         ·intro u hu
          simp only [List.mem_singleton] at hu
          subst hu
          exact HR10.out.below (Below.refl _ _).drew HR10.out.lt
         simp only [lK, List.take_zero, lL, List.drop_zero]
         repeat ((first | refine phiU_skipK rfl (fun K hK => ?_) | (refine phiU_pureK rfl rfl (fun K hK => ?_); apply xI; constructor; (focus (rintro w' hI; (have q0 := (hI.ptr.cell 0).trans rfl; have q1 := (hI.own.cell 0).trans rfl; clear hI); first | (go_simp; done) | (go_simp; (try go_bits); (try go_simp); rfl) | go_simp)))); simp only [Act.put, lA, lB, lC, lD, lE]; apply hK; clear hK K)
         refine phiU_partK (PNmX r s7 ((d : Int) + 1) nm') rfl rfl ⟨_, rfl⟩ ?_ (fun K hK v hv => ?_)
         ·intro w' hI hf hu
          have hr' : Rr w' r s6 ((d : Int) + 1) := hu (1, fun w' => Rr w' r s6 ((d : Int) + 1)) (by simp) rfl
          have HC := Lib.hid (HNM.out w' hI hr')
          clear hI hf hu hr'
          unfold gives
          go_simp
          refine HC.out.mono ?_
          rintro e w'' ⟨rfl, hr'', hb⟩
          exact ⟨_, rfl, rfl, hr'', hb⟩
         obtain rfl : v = _ := hv
         simp only [Act.put, lA, lB, lC, lD, lE]
         apply hK
         clear hK K
         repeat ((first | refine phiU_skipK rfl (fun K hK => ?_) | (refine phiU_pureK rfl rfl (fun K hK => ?_); apply xI; constructor; (focus (rintro w' hI; (have q0 := (hI.ptr.cell 0).trans rfl; have q1 := (hI.own.cell 0).trans rfl; clear hI); first | (go_simp; done) | (go_simp; (try go_bits); (try go_simp); rfl) | go_simp)))); simp only [Act.put, lA, lB, lC, lD, lE]; apply hK; clear hK K)
         refine phiU_done ?_
         intro w12 hI hf
         have hr12 : Rr w12 r s7 ((d : Int) + 1) := hf (1, fun w' => (PNmX r s7 ((d : Int) + 1) nm').fact w' (V (bs nm'))) (by simp) rfl
         have S12 := Lib.hid hI
         have HR12 := Lib.hid hr12
         clear hI hf hr12 S10 HR10
         have hO := HOO.out
         clear HOO
         by_cases hnn : nm' = nm
         rotate_left 1
         ·have hq : (nm' == nm) = false := by rw [beq_eq_false_iff_ne]; exact hnn
          rw [if_neg hnn] at hO
          obtain rfl : O = .error 3 := hO.symm
          have HFN := Lib.hid (xfail_n w12 E S12.out.lib.errs)
          clear hnn
          go_wp2_with (go_at_call 89; refine HFN.out.mono ?_; rintro e w13 ⟨rfl, rfl⟩)
          exact el_die _ S12.out.ptr HR12.out S12.out.but
         rw [if_pos hnn] at hO
         have hq : (nm' == nm) = true := by rw [beq_iff_eq]; exact hnn
         have p12 := (S12.out.ptr.cell 0).trans rfl
         have HBL := Lib.hid (rblank_any w12 HR12.out (by omega))
         have HOO := Lib.hid hO
         clear hnn hO
         go_wp2_with (go_at_call 89; refine (HFY.out _).mono ?_; rintro e w13 ⟨rfl, rfl⟩)
         have hO := HOO.out
         clear HOO p12 hq
         refine HBL.out.mono ?_
         rintro e w14 ⟨rfl, hr, hb⟩
         have S14 := Lib.hid (S12.out.next hrw hb)
         have HR14 := Lib.hid hr
         have p14 := (S14.out.ptr.cell 0).trans rfl
         have HOO := Lib.hid hO
         clear S12 HR12 HBL hr hb hO
         go_wp2_with fail
         have hO := HOO.out
         clear HOO p14
         cases h9 : cutR [62] (blankR s7) with
         | none =>
          rw [h9] at hO
          obtain rfl : O = .error 3 := hO.symm
          refine (rcut_n w14 E S14.out.lib.errs HR14.out h9).mono ?_
          rintro e w15 ⟨rfl, rfl⟩
          exact el_die _ S14.out.ptr HR14.out S14.out.but
         | some s9 =>
          rw [h9] at hO
          dsimp only at hO
          obtain rfl : O = .ok (.node [nm] ats ks [], s9) := hO.symm
          refine (rcut_y w14 HR14.out h9).mono ?_
          rintro e w15 ⟨rfl, hr, ho⟩
          have S := Lib.hid (S14.out.next hrw (only_but ho))
          have HRS := Lib.hid hr
          clear ho hr S14 HR14 h9
          obtain ⟨o0, o1, o2, o3, -⟩ := S.out.own.cc
          go_wp2_with (refine wpList_store (.tmp 2) (.tmp 51) 96 rfl rfl (w.heap.size + 1) 0 _ _ #[V (bs nm), C pa ats.length ca, C pk ks.length ck, V ⟨#[]⟩] rfl rfl S.out.zer ?s0 ?s1 ?s2 ?_)
          case s0 => kernel_rfl
          case s1 => simp [Value.oneCell']
          case s2 => simp
          intro wx hbx hox
          rw [putCells_all #[V ⟨#[]⟩, C none 0 0, C none 0 0, V ⟨#[]⟩] #[V (bs nm), C pa ats.length ca, C pk ks.length ck, V ⟨#[]⟩] rfl] at hbx
          have HBX := Lib.hid hbx
          have HOX := Lib.hid hox
          clear o0 o1 o2 o3 hbx hox
          go_wp2_with fail
          refine leaves_cons (f := ELD) (args := #[A (some ⟨w.heap.size, 0, none⟩)]) (by simp) (by simp [go_sem]) ?_
          refine (elemD w.heap.size r _ _ _ wx (((HOX.out.blk S.out.ptr (by omega)).cell 0).trans rfl) (HOX.out.blk HRS.out (by omega))).mono ?_
          rintro e u' wz ⟨rfl, rfl, hbz, dz, hrz, hdz⟩
          have hz := hbz.blk HBX.out HNE2.out
          obtain ⟨z0, z1, z2, z3, -⟩ := hz.cc
          have hdd := hdz (by omega) (by omega)
          have hrd : Rr wz r s9 (d : Int) := by
           rw [show (d : Int) = dz by omega]
           exact hrz
          have htr := trc_but (S.out.tree.only HOX.out fun b hb => by have := hb.1; have := S.out.low; omega) hbz fun b hb => by have := hb.1; have := S.out.low; omega
          have hsx : wx.heap.size ≤ wz.heap.size := hbz.size
          have hox := HOX.out.size
          have HFZ := Lib.hid (show ElG E r (d : Int) (.ok (.node [nm] ats ks [], s9)) w (R (D #[V (bs nm), C pa ats.length ca, C pk ks.length ck, V ⟨#[]⟩])) wz from
           ⟨(S.out.but.only1 HOX.out (by omega)).trans hbz, ⟨_, _, _, _, _, _, _, _, rfl, htr.imp fun b hb => ⟨by have := hb.1; have := S.out.low; omega, by have := hb.2.1; omega, hb.2.2⟩⟩, hrd⟩)
          clear hbz hrz hz htr hrd hdz
          simp [Leaves, settle, results, Tryz.results88, go_sem, z0, z1, z2, z3]
          exact HFZ.out
end
section
set_option maxHeartbeats 8000000
set_option maxRecDepth 20000
open Go.RowKit Go.Extern.Stop Go.Stop Go.Extern
attribute [local go_sem] bs_toList
theorem elem1_infoR : (pG.info? 96).map (fun i => (i.zero, i.size, i.bytes)) = some (some (D #[V ⟨#[]⟩, C none 0 0, C none 0 0, V ⟨#[]⟩]), 4, 80) := by kernel_rfl
theorem textK_of (w : World) (P : Nat → Prop) (u : List UInt8) : TrC w P (textK u) [V ⟨#[]⟩, C none 0 0, C none 0 0, V (bs u)] := by
 unfold textK TrC
 exact ⟨none, 0, none, 0, [], rfl, ⟨nR _, by unfold maxLen; omega, .inl rfl, fun a ha => by cases ha⟩, ⟨nR _, by unfold maxLen; omega, .inl rfl, fun a ha => by cases ha⟩, (by unfold TrL; rfl)⟩
theorem upR_self {p : UInt8 → Bool} {s b : List UInt8} (h : upR p s = some ([], b)) : b = s := by
 unfold upR at h
 split at h
 ·injection h with h
  injection h with h1 h2
  have := List.takeWhile_append_dropWhile (p := fun c => !p c) (l := s)
  rw [h1, h2, lE] at this
  exact this
 ·cases h
structure CtS (E : Nat → Addr) (r : Nat) (w : World) (out : List Tr) (v : Value) (css : List (List Value)) (wi : World) : Prop where
 lib : LibX r wi E
 but : But [r] w wi
 own : wi.ownsRow w.heap.size 96 4 v out.length css.flatten
 kids : TrL wi (Bt w.heap.size wi.heap.size v.ownBlock) out css
theorem CtS.next {E : Nat → Addr} {r : Nat} {w : World} {out : List Tr} {v : Value} {css : List (List Value)} {wi wj : World} (h : CtS E r w out v css wi) (hr : r < w.heap.size) (hb : But [r] wi wj) : CtS E r w out v css wj :=
 ⟨h.lib.but hb, h.but.trans hb, rowns_but hb (by intro q hq; rw [List.mem_singleton.1 hq]; exact hr) h.own,
  (trl_but h.kids hb (fun b hp => by have := hp.1; omega)).imp fun b hp => ⟨hp.1, nL hp.2.1 hb.size, hp.2.2⟩⟩
theorem CtS.more {E : Nat → Addr} {r : Nat} {w : World} {out : List Tr} {v v' : Value} {css : List (List Value)} {x : Tr} {cs : List Value} {w1 w2 : World} {B0 : Nat} (hx : LibX r w E) (h : CtS E r w out v css w1) (hB0 : B0 ≤ w1.heap.size) (hw : w.heap.size ≤ B0) (hv0 : ∀ b, v.ownBlock = some b → b < B0)
  (hk : TrC w1 (Bt B0 w1.heap.size none) x cs) (ho : w2.ownsRow w.heap.size 96 4 v' (out.length + 1) (css.flatten ++ cs)) (hg : w1.grownBy w2 v.ownBlock) (hat : v'.ownBlock = v.ownBlock ∨ v'.ownBlock = some w1.heap.size) :
  CtS E r w (out ++ [x]) v' (css ++ [cs]) w2 := by
 have hb := h.but.grow hg fun b hb => (h.own.lt b hb).1
 have hsz := hg.size
 refine ⟨hx.but hb, hb, by rw [lF, flat_snoc]; exact ho, TrL.app ?_ (TrL.one ?_)⟩
 ·refine (h.kids.grown hg fun b hb => hb.2.2).imp fun b hb => ⟨hb.1, by have := hb.2.1; omega, ?_⟩
  rcases hat with e | e
  ·rw [e]; exact hb.2.2
  ·rw [e]; intro e; cases e; have := hb.2.1; omega
 ·refine (hk.grown hg fun b hb e => by have := hv0 b e; have := hb.1; omega).imp fun b hb => ⟨by have := hb.1; omega, by have := hb.2.1; omega, ?_⟩
  rcases hat with e | e
  ·rw [e]; intro e; have := hv0 b e; have := hb.1; omega
  ·rw [e]; intro e; cases e; have := hb.2.1; omega
theorem cont_of (n : Nat) (hel : ∀ m, m < n → ElemC m) : ContC n := by
 intro E r d s0 w hx hr hs0 hd hn
 obtain ⟨O, hO⟩ : ∃ O, contP n d [] s0 = O := ⟨_, rfl⟩
 rw [hO]
 obtain ⟨i9, hi9, hy0, hy1, hy2⟩ := info_parts elem1_infoR
 have HEL := Lib.hid hel
 have HLX := Lib.hid hx
 have HR := Lib.hid hr
 have HO := Lib.hid hO
 have hrw := hr.lt
 clear hel hx hr hO
 go_enter Tryz.func149, Tryz.ntmps149
 go_wp2_with fail
 go_loopw [3] (fun v wr => ∃ (s : List UInt8) (out : List Tr) (css : List (List Value)) (m : Nat), CtS E r w out v css wr ∧ Rr wr r s (d : Int) ∧ contP m d out s = O ∧ m ≤ n ∧ 2 * s.length + 3 ≤ m ∧ out.length + s.length ≤ 20000) (fun _ wr => match wr.cell? ⟨r, 0, none⟩ with | some (.string b) => b.size | _ => 0)
 case atStart => exact ⟨s0, [], [], n, ⟨HLX.out, But.of_below (Below.refl _ _), ⟨rfl, .inl ⟨rfl, rfl⟩⟩, (by unfold TrL; rfl)⟩, HR.out, HO.out, nR _, hn, by simpa using hs0⟩
 case round =>
  clear HR HO
  obtain ⟨s, out, css, m, hS, hr, hO, hmn, hms, hlen⟩ := hrel
  obtain ⟨m, rfl⟩ : ∃ k, m = k + 1 := ⟨m - 1, by omega⟩
  have hrc : wr.cell? ⟨r, 0, none⟩ = some (V (bs s)) := (hr.cell 0).trans rfl
  have HRC := Lib.hid hrc
  have S := Lib.hid hS
  have HR := Lib.hid hr
  unfold contP at hO
  have HPF := Lib.hid (Tryz.strings_HasPrefix (bs s) ⟨#[60, 47]⟩ wr)
  rw [show (bs s).data.toList = s by simp [bs], show (⟨#[60, 47]⟩ : ByteArray).data.toList = [60, 47] from rfl] at HPF
  have hcut := cutR_has [60, 47] s
  clear hS hr
  cases hp : Lib.hasPrefix s [60, 47] with
  | true =>
   rw [hp, if_pos rfl] at hcut
   rw [hp] at HPF
   rw [hcut] at hO
   obtain rfl : O = .ok (out, s) := hO.symm
   clear hcut hp
   go_wp2_with (go_at_call 148; refine HPF.out.mono ?_; rintro e w2 ⟨rfl, rfl⟩)
   go_ret
   exact ⟨S.out.but, ⟨_, css, rfl, S.out.own, S.out.kids⟩, HR.out⟩
  | false =>
   rw [hp, if_neg (by simp)] at hcut
   rw [hp] at HPF
   rw [hcut] at hO
   dsimp only at hO
   have HOO := Lib.hid hO
   clear hcut hp hO hrc
   have c0 := (HR.out.cell 0).trans rfl
   go_wp2_with (go_at_call 148; refine HPF.out.mono ?_; rintro e w2 ⟨rfl, rfl⟩)
   have hO := HOO.out
   clear HOO HPF c0
   cases hu : upR (fun c => c == 60) s with
   | none =>
    rw [hu] at hO
    obtain rfl : O = .error 3 := hO.symm
    refine (rupto_n (fun c => c == 60) ⟨#[60]⟩ _ E S.out.lib.errs HR.out (idx_lt s) hu).mono ?_
    rintro e w3 ⟨rfl, hb⟩
    exact ⟨rfl, S.out.but.trans (But.of_below hb), rfl, _, _, HR.out.below hb HR.out.lt⟩
   | some p =>
    obtain ⟨t, s1⟩ := p
    have hul := upR_len hu
    rw [hu] at hO
    refine (rupto_y (fun c => c == 60) ⟨#[60]⟩ _ HR.out (idx_lt s) hu).mono ?_
    rintro e w3 ⟨rfl, hr, hb⟩
    have S3 := Lib.hid (S.out.next hrw hb)
    have HR3 := Lib.hid hr
    cases t with
    | nil =>
     obtain rfl := upR_self hu
     dsimp only at hO
     have HOO := Lib.hid hO
     have hi : (bs []).toList.isEmpty = true := by rw [bs_toList]; rfl
     clear hr hb S HR hu hO
     go_wp2_with fail
     have hO := HOO.out
     clear HOO hi
     refine (HEL.out m (by omega) E r d s1 w3 S3.out.lib HR3.out (by omega) hd (by omega)).mono ?_
     rintro e w4 ⟨hb4, he⟩
     cases hel : elemP m d s1 with
     | error k =>
      rw [hel] at hO he
      obtain rfl : O = .error k := hO.symm
      obtain ⟨rfl, s', d', hr'⟩ := he
      exact ⟨rfl, S3.out.but.trans hb4, rfl, s', d', hr'⟩
     | ok q =>
      obtain ⟨x, s2⟩ := q
      have hl2 := elemP_len hel
      rw [hel] at hO he
      dsimp only at hO
      obtain ⟨⟨t0, p1, n1, c1, p2, n2, c2, t3, rfl, htr⟩, hr4⟩ := he
      have S4 := Lib.hid (S3.out.next hrw hb4)
      have HR4 := Lib.hid hr4
      have HO4 := Lib.hid hO
      have hba' := below_alloc1 w4 (F #[.string t0, C p1 n1 c1, C p2 n2 c2, .string t3] 96)
      clear hO hr4 hel
      have hba := below_alloc1 w4 (F #[.string t0, C p1 n1 c1, C p2 n2 c2, .string t3] 96)
      have S5 := Lib.hid (S4.out.next hrw (But.of_below hba))
      have HR5 := Lib.hid (HR4.out.alloc (F #[.string t0, C p1 n1 c1, C p2 n2 c2, .string t3] 96))
      have HT5 := Lib.hid (show TrC (w4.alloc (F #[.string t0, C p1 n1 c1, C p2 n2 c2, .string t3] 96)) (Bt w3.heap.size (w4.alloc (F #[.string t0, C p1 n1 c1, C p2 n2 c2, .string t3] 96)).heap.size none) x [.string t0, C p1 n1 c1, C p2 n2 c2, .string t3] from (htr.below hba).imp fun b hb => ⟨hb.1, nL hb.2.1 hba.size, hb.2.2⟩)
      have hs5 : w.heap.size ≤ (w4.alloc (F #[.string t0, C p1 n1 c1, C p2 n2 c2, .string t3] 96)).heap.size := S5.out.but.size
      clear hba
      go_wp2_with (at_builtin; refine wpList_appAt (.tmp 21) (.tmp 24) 94 rfl rfl w.heap.size 96 i9 (D #[V ⟨#[]⟩, C none 0 0, C none 0 0, V ⟨#[]⟩]) 4 80 Tryz.underlying94 hi9 hy0 hy1 hy2 rfl (by decide) _ _ _ rfl S5.out.own _ _ _ [.string t0, C p1 n1 c1, C p2 n2 c2, .string t3] rfl rfl (rd_at _ #[_, _, _, _] _ _ _ (by simp)) ?b1 ?b2 ?b3 hs5 ?_)
      case b1 => simp [Value.oneCell']
      case b2 => unfold maxLen; omega
      case b3 => omega
      intro v6 w6 ho6 hg6 hat6
      have hlo := S5.out.own.lt
      have S6 := Lib.hid (S5.out.more HLX.out (B0 := w3.heap.size) (by have := hb4.size; have := hba'.size; omega) (S3.out.but.size) (fun b hb => (S3.out.own.lt b hb).2) HT5.out ho6 hg6 (by rw [World.size_alloc]; exact hat6))
      have hr6 : Rr w6 r s2 (d : Int) := (hg6.block r HR5.out.lt fun e => by have := (hlo r e.symm).1; omega).trans HR5.out
      have HR6 := Lib.hid hr6
      have HRC6 := Lib.hid (show w6.cell? ⟨r, 0, none⟩ = some (V (bs s2)) from (hr6.cell 0).trans rfl)
      clear ho6 hg6 hat6 hlo hr6
      go_wp2_with fail
      go_roundw
      case rel => exact ⟨s2, out ++ [x], css ++ [[.string t0, C p1 n1 c1, C p2 n2 c2, .string t3]], m, S6.out, HR6.out, HO4.out, by omega, by omega, by rw [lF, List.length_singleton]; omega⟩
      case measure =>
       rw [HRC6.out, HRC.out]
       simp only [bs_size]
       omega
    | cons c t =>
     have hi : (bs (c :: t)).toList.isEmpty = false := by rw [bs_toList]; rfl
     have HTX := Lib.hid (rtxt_any (c :: t) (by omega) w3 E S3.out.lib.lib S3.out.lib.errs)
     have HOO := Lib.hid (show (match textD (c :: t) with | none => .error 3 | some u => contP m d (out ++ [textK u]) s1) = O from hO)
     rw [lH] at hul
     clear hr hb S HR hu hO
     go_wp2_with fail
     have hO := HOO.out
     clear HOO hi
     refine HTX.out.mono ?_
     rintro e w4 ⟨hb4, he⟩
     cases htx : textD (c :: t) with
     | none =>
      rw [htx] at hO he
      obtain rfl : O = .error 3 := hO.symm
      obtain rfl : e = .panicked (panE E 3) := he
      exact ⟨rfl, S3.out.but.trans (But.of_below hb4), rfl, _, _, HR3.out.below hb4 HR3.out.lt⟩
     | some u =>
      rw [htx] at hO he
      dsimp only at hO
      obtain rfl : e = R (V (bs u)) := he
      have S4 := Lib.hid (S3.out.next hrw (But.of_below hb4))
      have HR4 := Lib.hid (HR3.out.below hb4 HR3.out.lt)
      have HO4 := Lib.hid hO
      clear hO htx HTX
      have hba := below_alloc1 w4 (F #[V ⟨#[]⟩, C none 0 0, C none 0 0, V (bs u)] 96)
      have S5 := Lib.hid (S4.out.next hrw (But.of_below hba))
      have HR5 := Lib.hid (HR4.out.alloc (F #[V ⟨#[]⟩, C none 0 0, C none 0 0, V (bs u)] 96))
      have HT5 := Lib.hid (textK_of (w4.alloc (F #[V ⟨#[]⟩, C none 0 0, C none 0 0, V (bs u)] 96)) (Bt (w4.alloc (F #[V ⟨#[]⟩, C none 0 0, C none 0 0, V (bs u)] 96)).heap.size (w4.alloc (F #[V ⟨#[]⟩, C none 0 0, C none 0 0, V (bs u)] 96)).heap.size none) u)
      have hs5 : w.heap.size ≤ (w4.alloc (F #[V ⟨#[]⟩, C none 0 0, C none 0 0, V (bs u)] 96)).heap.size := S5.out.but.size
      clear hba
      go_wp2_with (at_builtin; refine wpList_appAt (.tmp 15) (.tmp 19) 94 rfl rfl w.heap.size 96 i9 (D #[V ⟨#[]⟩, C none 0 0, C none 0 0, V ⟨#[]⟩]) 4 80 Tryz.underlying94 hi9 hy0 hy1 hy2 rfl (by decide) _ _ _ rfl S5.out.own _ _ _ [V ⟨#[]⟩, C none 0 0, C none 0 0, V (bs u)] rfl rfl (rd_at _ #[_, _, _, _] _ _ _ (by simp)) ?b1 ?b2 ?b3 hs5 ?_)
      case b1 => simp [Value.oneCell']
      case b2 => unfold maxLen; omega
      case b3 => omega
      intro v6 w6 ho6 hg6 hat6
      have hlo := S5.out.own.lt
      have S6 := Lib.hid (S5.out.more HLX.out (B0 := (w4.alloc (F #[V ⟨#[]⟩, C none 0 0, C none 0 0, V (bs u)] 96)).heap.size) (nR _) hs5 (fun b hb => (S5.out.own.lt b hb).2) HT5.out ho6 hg6 (by rw [World.size_alloc]; exact hat6))
      have hr6 : Rr w6 r s1 (d : Int) := (hg6.block r HR5.out.lt fun e => by have := (hlo r e.symm).1; omega).trans HR5.out
      have HR6 := Lib.hid hr6
      have HRC6 := Lib.hid (show w6.cell? ⟨r, 0, none⟩ = some (V (bs s1)) from (hr6.cell 0).trans rfl)
      clear ho6 hg6 hat6 hlo hr6
      go_wp2_with fail
      go_roundw
      case rel => exact ⟨s1, out ++ [textK u], css ++ [[V ⟨#[]⟩, C none 0 0, C none 0 0, V (bs u)]], m, S6.out, HR6.out, HO4.out, by omega, by omega, by rw [lF, List.length_singleton]; omega⟩
      case measure =>
       rw [HRC6.out, HRC.out]
       simp only [bs_size]
       omega
end
section
set_option maxHeartbeats 8000000
set_option maxRecDepth 20000
open Go.RowKit Go.Extern.Stop Go.Stop Go.Extern
attribute [local go_sem] bs_toList
attribute [local irreducible] wpPhi
theorem elem_all : ∀ n, ElemC n := by
 intro n
 induction n using Nat.strongRecOn with
 | _ n ih =>
  cases n with
  | zero =>
   intro E r d s w _ _ _ _ h
   omega
  | succ n => exact elem_of n (cont_of n fun m hm => ih m (by omega))
def parse1 (s : List UInt8) : Except Nat Tr := match elemP (2 * s.length + 2) 0 s with
 | .error e => .error e
 | .ok (x, []) => .ok x
 | .ok (_, _ :: _) => .error 3
theorem parseE_of (s : List UInt8) : parseE s = if 20000 < s.length then .error 2 else parse1 s := rfl
def PeR (E : Nat → Addr) (o : Except Nat Tr) (w : World) (e : Ending) (w' : World) : Prop :=
 Below w.heap.size w w' ∧ match o with
  | .ok y => ∃ s0 p1 n1 c1 p2 n2 c2 s3, e = R (D #[.string s0, C p1 n1 c1, C p2 n2 c2, .string s3]) ∧ TrC w' (Bt w.heap.size w'.heap.size none) y [.string s0, C p1 n1 c1, C p2 n2 c2, .string s3]
  | .error k => e = .panicked (panE E k)
theorem parse1_any (E : Nat → Addr) (g : Nat) (s : List UInt8) (w : World) (hg : LibG w) (hE : Errs w E) (hs : s.length ≤ 20000) (hk : w.cell? ⟨g, 0, none⟩ = some (V (bs s))) :
  Calls pG 87 #[A (some ⟨g, 0, none⟩)] w (PeR E (parse1 s) w) := by
 obtain ⟨O, hO⟩ : ∃ O, parse1 s = O := ⟨_, rfl⟩
 rw [hO]
 unfold parse1 at hO
 have hb1 := below_alloc1 w (F #[V ⟨#[]⟩, C none 0 0, C none 0 0, V ⟨#[]⟩] 96)
 have hb2 := below_alloc hb1 (F #[V (bs s), .int .i64 0] 148)
 have hk1 := Below.keeps hb1 _ _ hk
 have HW0 := Lib.hid (And.intro hg hE)
 have hr0 := Blk.new (w.alloc (F #[V ⟨#[]⟩, C none 0 0, C none 0 0, V ⟨#[]⟩] 96)) 148 #[V (bs s), .int .i64 0]
 rw [World.size_alloc] at hr0
 have HR := Lib.hid hr0
 have HX := Lib.hid (show LibX (w.heap.size + 1) ((w.alloc (F #[V ⟨#[]⟩, C none 0 0, C none 0 0, V ⟨#[]⟩] 96)).alloc (F #[V (bs s), .int .i64 0] 148)) E from ⟨w, by omega, hb2, hg, hE⟩)
 have HZ := Lib.hid ((Blk.new w 96 #[V ⟨#[]⟩, C none 0 0, C none 0 0, V ⟨#[]⟩]).alloc (F #[V (bs s), .int .i64 0] 148))
 have HB2 := Lib.hid hb2
 have HEL := Lib.hid (elem_all (2 * s.length + 2) E (w.heap.size + 1) 0 s _ HX.out HR.out hs (by omega) (nR _))
 have HS2 := Lib.hid (show ((w.alloc (F #[V ⟨#[]⟩, C none 0 0, C none 0 0, V ⟨#[]⟩] 96)).alloc (F #[V (bs s), .int .i64 0] 148)).heap.size = w.heap.size + 1 + 1 by simp)
 have HOO := Lib.hid hO
 have HFY := Lib.hid (fun w => xfail_y w)
 clear hb1 hb2 hg hE hk hr0 hO
 go_enter Tryz.func87, Tryz.ntmps87
 go_wp2_with fail
 have hO := HOO.out
 clear HOO hk1
 generalize (w.alloc (F #[V ⟨#[]⟩, C none 0 0, C none 0 0, V ⟨#[]⟩] 96)).alloc (F #[V (bs s), .int .i64 0] 148) = w2 at *
 refine HEL.out.mono ?_
 rintro e w3 ⟨hb3, he⟩
 have HB3 := Lib.hid (HB2.out.trans (hb3.below (by intro q hq; rw [List.mem_singleton.1 hq]; omega) HB2.out.size))
 have HX3 := Lib.hid (HX.out.but hb3)
 have HZ3 := Lib.hid (hb3.blk HZ.out (rne _ _ (by omega)))
 have hs3 : w.heap.size + 1 + 1 ≤ w3.heap.size := by have := HS2.out; have := hb3.size; omega
 cases hel : elemP (2 * s.length + 2) 0 s with
 | error k =>
  rw [hel] at hO he
  obtain rfl : O = .error k := hO.symm
  obtain ⟨rfl, _⟩ := he
  exact ⟨rfl, HB3.out, rfl⟩
 | ok q =>
  obtain ⟨x, s'⟩ := q
  rw [hel] at hO he
  obtain ⟨⟨t0, p1, n1, c1, p2, n2, c2, t3, rfl, htr⟩, hr3⟩ := he
  have hba := below_alloc1 w3 (F #[.string t0, C p1 n1 c1, C p2 n2 c2, .string t3] 96)
  have hr4 : Rr (w3.alloc (F #[.string t0, C p1 n1 c1, C p2 n2 c2, .string t3] 96)) (w.heap.size + 1) s' ((0 : Nat) : Int) := hr3.alloc _
  have q4 := (hr4.cell 0).trans rfl
  have hn4 := Blk.new w3 96 #[.string t0, C p1 n1 c1, C p2 n2 c2, .string t3]
  have HN4 := Lib.hid hn4
  have HT4 := Lib.hid (htr.below hba)
  have HZ4 := Lib.hid (HZ3.out.alloc (F #[.string t0, C p1 n1 c1, C p2 n2 c2, .string t3] 96))
  have HB4 := Lib.hid (HB3.out.trans (hba.mono HB3.out.size))
  have HX4 := Lib.hid (HX3.out.but (But.of_below (S := [w.heap.size + 1]) hba))
  have HS4 := Lib.hid hba.size
  have HS3 := Lib.hid hb3.size
  clear htr hr3 hr4 hba hb3 hel
  cases s' with
  | cons c t =>
   obtain rfl : O = .error 3 := hO.symm
   have hi : (bs (c :: t)).toList.isEmpty = false := by rw [bs_toList]; rfl
   have HFN := Lib.hid (xfail_n _ E HX4.out.errs)
   clear hn4
   go_wp2_with (go_at_call 89; refine HFN.out.mono ?_; rintro e w5 ⟨rfl, rfl⟩)
   exact ⟨rfl, HB4.out, rfl⟩
  | nil =>
   obtain rfl : O = .ok x := hO.symm
   have hi : (bs []).toList.isEmpty = true := by rw [bs_toList]; rfl
   obtain ⟨o0, o1, o2, o3, -⟩ := hn4.cc
   clear hn4
   go_wp2_with (first | (go_at_call 89; refine (HFY.out _).mono ?_; rintro e w5 ⟨rfl, rfl⟩) | (refine wpList_store (.tmp 1) (.tmp 15) 96 rfl rfl w.heap.size 0 _ _ #[.string t0, C p1 n1 c1, C p2 n2 c2, .string t3] rfl rfl HZ4.out ?s0 ?s1 ?s2 ?_))
   case s0 => kernel_rfl
   case s1 => simp [Value.oneCell']
   case s2 => simp
   intro w8 hb8 ho8
   rw [putCells_all #[V ⟨#[]⟩, C none 0 0, C none 0 0, V ⟨#[]⟩] #[.string t0, C p1 n1 c1, C p2 n2 c2, .string t3] rfl] at hb8
   obtain ⟨z0, z1, z2, z3, -⟩ := hb8.cc
   have h8 := ho8.size
   have HB8 := Lib.hid (HB4.out.trans (ho8.below (B := w.heap.size) (by omega)))
   have hl2 := HS2.out
   have HT8 := Lib.hid ((HT4.out.only ho8 fun b hb => by have := hb.1; omega).imp (Q := Bt w.heap.size w8.heap.size none) fun b hb => ⟨by have := hb.1; omega, by have := hb.2.1; have := HS4.out; omega, hb.2.2⟩)
   clear o0 o1 o2 o3 hb8 ho8 q4
   go_wp2_with fail
   refine bodyPost_ret (v := D #[.string t0, C p1 n1 c1, C p2 n2 c2, .string t3]) (by simp [results, Tryz.results87, go_sem, z0, z1, z2, z3]) rfl ?_
   exact ⟨HB8.out, _, _, _, _, _, _, _, _, rfl, HT8.out⟩
end
section
set_option maxHeartbeats 8000000
set_option maxRecDepth 20000
open Go.RowKit Go.Extern.Stop Go.Stop Go.Extern
attribute [local go_sem] bs_toList
attribute [local irreducible] wpPhi
mutual
theorem elemP_err : ∀ {n d : Nat} {s : List UInt8} {k : Nat}, elemP n d s = .error k → k = 3 ∨ k = 10
 | 0, _, _, _, h => by unfold elemP at h; cases h; exact .inl rfl
 | n + 1, d, s, k, h => by
  unfold elemP at h
  split at h
  ·cases h; exact .inl rfl
  ·split at h
   ·cases h; exact .inr rfl
   ·split at h
    ·cases h; exact .inl rfl
    ·split at h
     ·split at h
      ·cases h; exact .inl rfl
      ·cases h
     ·split at h
      ·cases h; exact .inl rfl
      ·split at h
       ·rename_i e5
        cases h
        exact contP_err e5
       ·split at h
        ·cases h; exact .inl rfl
        ·split at h
         ·split at h
          ·cases h; exact .inl rfl
          ·cases h
         ·cases h; exact .inl rfl
theorem contP_err : ∀ {n d : Nat} {out : List Tr} {s : List UInt8} {k : Nat}, contP n d out s = .error k → k = 3 ∨ k = 10
 | 0, _, _, _, _, h => by unfold contP at h; cases h; exact .inl rfl
 | n + 1, d, out, s, k, h => by
  unfold contP at h
  split at h
  ·cases h
  ·split at h
   ·cases h; exact .inl rfl
   ·split at h
    ·rename_i e5
     cases h
     exact elemP_err e5
    ·exact contP_err h
   ·split at h
    ·cases h; exact .inl rfl
    ·exact contP_err h
end
theorem parse1_err {s : List UInt8} {k : Nat} (h : parse1 s = .error k) : k = 3 ∨ k = 10 := by
 unfold parse1 at h
 split at h
 ·rename_i e
  cases h
  exact elemP_err e
 ·cases h
 ·cases h; exact .inl rfl
def exT (o : Except Nat Tr) : Tr := match o with | .ok y => y | .error _ => zeroX
def exN (o : Except Nat Tr) : Nat := match o with | .ok _ => 0 | .error k => k + 1
theorem zeroX_bt (w : World) (P : Nat → Prop) : TrC w P zeroX [V ⟨#[]⟩, C none 0 0, C none 0 0, V ⟨#[]⟩] := by
 unfold zeroX TrC
 exact ⟨none, 0, none, 0, [], rfl, ⟨nR _, by unfold maxLen; omega, .inl rfl, fun a ha => by cases ha⟩, ⟨nR _, by unfold maxLen; omega, .inl rfl, fun a ha => by cases ha⟩, (by unfold TrL; rfl)⟩
def PaR (E : Nat → Addr) (o : Except Nat Tr) (w : World) (e : Ending) (w' : World) : Prop :=
 Below w.heap.size w w' ∧ ∃ s0 p1 n1 c1 p2 n2 c2 s3, e = R (.tuple #[D #[.string s0, C p1 n1 c1, C p2 n2 c2, .string s3], errV E (exN o)]) ∧ TrC w' (Bt w.heap.size w'.heap.size none) (exT o) [.string s0, C p1 n1 c1, C p2 n2 c2, .string s3]
theorem try_p (w : World) (E : Nat → Addr) (f : FuncId) (caps : Array Value) (o : Except Nat Tr) (hok : ∀ k, o = .error k → k < 14) (he : Errs w E) (hcf : ∀ w, (callFunc f caps).run pG w = .ok (.enter f caps) w)
  (hdo : ∀ w1, Below w.heap.size w w1 → Calls pG f caps w1 (PeR E o w1)) : Calls pG 40 #[.func (.func f) #[] caps] w (PaR E o w) := by
 refine (tryX_any w E f caps [] (fun w1 v w2 => ∃ y s0 p1 n1 c1 p2 n2 c2 s3, o = .ok y ∧ v = D #[.string s0, C p1 n1 c1, C p2 n2 c2, .string s3] ∧ TrC w2 (Bt w1.heap.size w2.heap.size none) y [.string s0, C p1 n1 c1, C p2 n2 c2, .string s3]) (fun n _ _ => o = .error n) (by simp) (fun w' h => he.below h.nil_below) ?_ hcf (fun w1 hb _ => (hdo w1 hb).mono ?_)).mono ?_
 ·rintro w1 v w2 ⟨y, s0, p1, n1, c1, p2, n2, c2, s3, ho, rfl, ht⟩
  exact ⟨_, _, _, _, rfl, rfl, rfl, rfl, rfl⟩
 ·rintro e w2 ⟨h1, h2⟩
  refine ⟨?_, But.of_below h1⟩
  cases o with
  | ok y =>
   obtain ⟨s0, p1, n1, c1, p2, n2, c2, s3, rfl, ht⟩ := h2
   exact .inl ⟨_, rfl, y, s0, p1, n1, c1, p2, n2, c2, s3, rfl, rfl, ht⟩
  | error k =>
   obtain rfl := h2
   have hk := hok k rfl
   exact .inr ⟨errAt (E k), k, hk, rfl, ⟨_, _, rfl⟩, told_own E k hk w2, rfl⟩
 ·rintro e w' ⟨h1, w1, w2, hs, hb1, hb2, hb3, hor⟩
  refine ⟨h1.nil_below, ?_⟩
  rcases hor with ⟨v, rfl, y, s0, p1, n1, c1, p2, n2, c2, s3, ho, rfl, ht⟩ | ⟨n, _, ho, rfl⟩
  ·subst ho
   refine ⟨s0, p1, n1, c1, p2, n2, c2, s3, rfl, ?_⟩
   have h := ht.keepP (w' := w') fun a u hp hc => (World.cell?_of_block (hb3.block a.block (cell_lt hc) (by
    have := hp.1
    simp only [List.contains_eq_any_beq, List.any_cons, List.any_nil, Bool.or_false, Bool.or_eq_false_iff, beq_eq_false_iff_ne]
    omega))).trans hc
   exact h.imp fun b hb => ⟨by have := hb.1; omega, nL hb.2.1 hb3.size, by simp⟩
  ·subst ho
   exact ⟨_, _, _, _, _, _, _, _, rfl, zeroX_bt _ _⟩
theorem parse_any (E : Nat → Addr) (s : List UInt8) (w : World) (hg : LibG w) (hE : Errs w E) (hs : s.length ≤ maxLen) :
  Calls pG 48 #[V (bs s)] w (PaR E (parseE s) w) := by
 rw [parseE_of]
 obtain ⟨w2, hw2⟩ : ∃ w2, w2 = (w.alloc (F #[V (bs s)] 9)).alloc (F #[V ⟨#[]⟩, C none 0 0, C none 0 0, V ⟨#[]⟩] 96) := ⟨_, rfl⟩
 have hB2 : Below w.heap.size w w2 := by rw [hw2]; exact below_alloc (below_alloc1 w _) _
 have hN1 : Blk w2 w.heap.size 9 #[V (bs s)] := by rw [hw2]; exact (Blk.new w _ _).alloc _
 have hN2 : Blk w2 (w.heap.size + 1) 96 #[V ⟨#[]⟩, C none 0 0, C none 0 0, V ⟨#[]⟩] := by
  rw [hw2]
  have := Blk.new (w.alloc (F #[V (bs s)] 9)) 96 #[V ⟨#[]⟩, C none 0 0, C none 0 0, V ⟨#[]⟩]
  rwa [World.size_alloc] at this
 have hS2 : w2.heap.size = w.heap.size + 2 := by rw [hw2]; simp
 have HW2 := Lib.hid hw2
 have B2 := Lib.hid hB2
 have N2 := Lib.hid hN2
 have HS2 := Lib.hid hS2
 by_cases hlen : 20000 < s.length
 ·rw [if_pos hlen]
  have HE2 := Lib.hid (hE.below hB2)
  have hlt : (20000 : Int) < ((bs s).size : Int) := by rw [bs_size]; omega
  have hbb := Below.refl w2.heap.size w2
  have n1c := hN1.cell 0
  have HM := Lib.hid hs
  clear hg hE hN1 hS2 hs
  go_enter Tryz.func48, Tryz.ntmps48
  go_wp2_with fail
  have HLN := HE2.out.long
  rw [HW2.out] at HLN
  clear hw2 n1c hN2 hB2
  go_region
  rw [← HW2.out]
  have hB8 := B2.out.drew
  have z0 : w2.drew.cell? ⟨w.heap.size + 1, 0, none⟩ = some (V ⟨#[]⟩) := (N2.out.cell 0).trans rfl
  have z1 : w2.drew.cell? ⟨w.heap.size + 1, 1, none⟩ = some (C none 0 0) := (N2.out.cell 1).trans rfl
  have z2 : w2.drew.cell? ⟨w.heap.size + 1, 2, none⟩ = some (C none 0 0) := (N2.out.cell 2).trans rfl
  have z3 : w2.drew.cell? ⟨w.heap.size + 1, 3, none⟩ = some (V ⟨#[]⟩) := (N2.out.cell 3).trans rfl
  generalize w2.drew = w8 at *
  have HBW := Lib.hid hB8
  clear hB8
  go_wp2_with fail
  refine bodyPost_ret (v := .tuple #[D #[V ⟨#[]⟩, C none 0 0, C none 0 0, V ⟨#[]⟩], .iface 313 (A (some (E 2)))]) (by simp [results, Tryz.results48, go_sem, z0, z1, z2, z3]) rfl ?_
  exact ⟨HBW.out, _, _, _, _, _, _, _, _, rfl, zeroX_bt _ _⟩
 ·rw [if_neg hlen]
  have hnl : ¬ (20000 : Int) < ((bs s).size : Int) := by rw [bs_size]; omega
  have hcf := fun xs w => (show (callFunc 87 xs).run pG w = .ok (.enter 87 xs) w from by kernel_rfl)
  have hTR := try_p w2 E 87 #[A (some ⟨w.heap.size, 0, none⟩)] (parse1 s) (fun k h => by rcases parse1_err h with rfl | rfl <;> omega) (hE.below hB2) (hcf _) (fun w1 hb => parse1_any E w.heap.size s w1 (hg.below (hB2.trans (hb.mono hB2.size))) (hE.below (hB2.trans (hb.mono hB2.size))) (by omega) (Below.keeps hb _ _ (hN1.cell 0)))
  have hmf := @run_makeFunc pG
  have HM := Lib.hid hs
  generalize parse1 s = o at *
  have hT2 := hTR
  rw [hw2] at hT2
  have HT2 := Lib.hid hT2
  clear hT2 hTR hB2 hN2 hw2 hg hE hN1 hS2 hs
  go_enter Tryz.func48, Tryz.ntmps48
  go_wp2_with fail
  refine HT2.out.mono ?_
  rintro e w3 ⟨hb3, s0, p1, n1, c1, p2, n2, c2, s3, rfl, hT4⟩
  rw [← HW2.out] at hb3 hT4
  have hbn := N2.out.below hb3 N2.out.lt
  go_wp2_with (first | (refine wpList_store (.tmp 2) (.tmp 11) 96 rfl rfl (w.heap.size + 1) 0 _ _ #[.string s0, C p1 n1 c1, C p2 n2 c2, .string s3] rfl rfl hbn ?s0 ?s1 ?s2 ?_))
  case s0 => kernel_rfl
  case s1 => simp [Value.oneCell']
  case s2 => simp
  intro w8 hb8 ho8
  rw [putCells_all #[V ⟨#[]⟩, C none 0 0, C none 0 0, V ⟨#[]⟩] #[.string s0, C p1 n1 c1, C p2 n2 c2, .string s3] rfl] at hb8
  obtain ⟨z0, z1, z2, z3, -⟩ := hb8.cc
  have hlw := HS2.out
  have HT8 := Lib.hid ((hT4.only ho8 fun b hb => by have := hb.1; omega).imp (Q := Bt w.heap.size w8.heap.size none) fun b hb => ⟨by have := hb.1; omega, by rw [ho8.size]; exact hb.2.1, by simp⟩)
  have HBW := Lib.hid ((B2.out.trans (hb3.mono B2.out.size)).trans (ho8.below (by omega : w.heap.size ≤ w.heap.size + 1)))
  clear hb8 ho8 hT4 hbn hb3
  go_wp2_with fail
  refine bodyPost_ret (v := .tuple #[D #[.string s0, C p1 n1 c1, C p2 n2 c2, .string s3], errV E (exN o)]) (by simp [results, Tryz.results48, go_sem, z0, z1, z2, z3]) rfl ?_
  exact ⟨HBW.out, _, _, _, _, _, _, _, _, rfl, HT8.out⟩
end
end Go.Proofs.YthboiahdheehkaaGreatDoor
