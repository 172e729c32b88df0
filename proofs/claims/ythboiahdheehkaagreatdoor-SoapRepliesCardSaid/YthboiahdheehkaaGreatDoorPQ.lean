/- PqE -/
import Derived.Test.YthboiahdheehkaaGreatDoorSHI
import Derived.Deep.CutRange
open List renaming getD_cons_zero → lS, getD_cons_succ → lT
open Go.Lib renaming hid → hI
open Nat renaming le_refl → nR
open Go.Proofs.Tryz renaming prog → pG
open Go.Value renaming string → S
open Go.Value renaming slice → C
open Go.Value renaming agg → D
open Go.Obj renaming cells → F
namespace Go.Proofs.YthboiahdheehkaaGreatDoor
section
set_option maxHeartbeats 8000000
set_option maxRecDepth 20000
open Go.RowKit Go.Extern.Stop Go.Stop Go.Extern
attribute [local go_sem] bs_toList
def pieceT (q : List (List UInt8)) : Tr := .node [q.getD 0 [], q.getD 1 []] (if q.getD 3 [] = [] then [] else [[q.getD 2 [], q.getD 3 [], q.getD 4 []]]) (if q.getD 5 [] = [] then [] else [.node [[], []] [] [] (q.getD 5 [])]) []
def zeroT2 : Tr := .node [[], []] [] [] []
def bdyQ (qs : List (List (List UInt8))) : Tr := match qs with | [] => zeroT2 | q :: _ => pieceT q
def partsE (t0 t1 t2 t3 t4 : List UInt8) (qs : List (List (List UInt8))) : Env := ⟨t0, t1, t2, t3, t4, (qs.drop 1).map pieceT, bdyQ qs⟩
theorem six_of {l : List (List UInt8)} (h : l.length = 5 + 1) : ∃ a b c d e f, l = [a, b, c, d, e, f] := by
 match l, h with
 | [a, b, c, d, e, f], _ => exact ⟨a, b, c, d, e, f, rfl⟩
theorem at_6 {w : World} {p : Option Addr} {ats : List (List (List UInt8))} (h : Rd w p (acells ats)) (hk : ∀ a ∈ ats, a.length = 5 + 1) {i : Nat} (hi : i < ats.length) :
  ∃ b off x0 x1 x2 x3 x4 x5, p = some ⟨b, off, none⟩ ∧ ats[i] = [x0, x1, x2, x3, x4, x5] ∧ w.cell? ⟨b, off + i * 6, none⟩ = some (S (bs x0)) ∧ w.cell? ⟨b, off + i * 6 + 1, none⟩ = some (S (bs x1)) ∧ w.cell? ⟨b, off + i * 6 + 2, none⟩ = some (S (bs x2)) ∧ w.cell? ⟨b, off + i * 6 + 3, none⟩ = some (S (bs x3)) ∧ w.cell? ⟨b, off + i * 6 + 4, none⟩ = some (S (bs x4)) ∧ w.cell? ⟨b, off + i * 6 + 5, none⟩ = some (S (bs x5)) := by
 obtain ⟨b, off, hp, hc⟩ := at_cell h hk hi
 obtain ⟨x0, x1, x2, x3, x4, x5, he⟩ := six_of (hk _ (List.getElem_mem hi))
 simp only [he] at hc
 exact ⟨b, off, x0, x1, x2, x3, x4, x5, hp, he, hc 0 (by omega), hc 1 (by omega), hc 2 (by omega), hc 3 (by omega), hc 4 (by omega), hc 5 (by omega)⟩
def PqL (w : World) (v : Value) (qs : List (List (List UInt8))) : Prop := ∃ p cap, v = C p qs.length cap ∧ qs.length ≤ cap ∧ cap ≤ maxLen ∧ Rd w p (acells qs) ∧ ∀ q ∈ qs, q.length = 5 + 1
theorem PqL.keep {w w' : World} {v : Value} {qs : List (List (List UInt8))} (h : PqL w v qs) (hb : Below w.heap.size w w') : PqL w' v qs := by
 obtain ⟨p, cap, h1, h2, h3, h4, h5⟩ := h
 exact ⟨p, cap, h1, h2, h3, h4.keep (Below.keeps hb), h5⟩
def Sl (w : World) (lo : Nat) (p : Option Addr) (n c m : Nat) (xs : List Value) : Prop := n = m ∧ n ≤ c ∧ c ≤ maxLen ∧ Rd w p xs ∧ ∀ a, p = some a → lo ≤ a.block ∧ a.block < w.heap.size
theorem Sl.nil (w : World) (lo : Nat) : Sl w lo none 0 0 0 [] := ⟨rfl, nR _, by decide, .inl rfl, fun a h => by cases h⟩
theorem Sl.own {w : World} {lo size n c : Nat} {e : TypeId} {p : Option Addr} {xs : List Value} (h : w.ownsRow lo e size (C p n c) n xs) : Sl w lo p n c n xs := by
 obtain ⟨p', c', he, h1, h2, h3, h4⟩ := owns_rdP h
 cases he
 exact ⟨rfl, h1, h2, h3, h4⟩
theorem Sl.below {w w' : World} {lo : Nat} {p : Option Addr} {n c m : Nat} {xs : List Value} (h : Sl w lo p n c m xs) (hb : Below w.heap.size w w') : Sl w' lo p n c m xs :=
 ⟨h.1, h.2.1, h.2.2.1, h.2.2.2.1.keep (Below.keeps hb), fun a ha => ⟨(h.2.2.2.2 a ha).1, Nat.lt_of_lt_of_le (h.2.2.2.2 a ha).2 hb.size⟩⟩
theorem Sl.only {w w' : World} {g lo : Nat} {p : Option Addr} {n c m : Nat} {xs : List Value} (h : Sl w lo p n c m xs) (k : Only g w w') (hg : g < lo) : Sl w' lo p n c m xs :=
 ⟨h.1, h.2.1, h.2.2.1, h.2.2.2.1.keepP (P := fun b => lo ≤ b) (fun a ha => (h.2.2.2.2 a ha).1) (fun a v hp hc => (World.cell?_of_block (k.block a.block (by omega))).trans hc), fun a ha => ⟨(h.2.2.2.2 a ha).1, by rw [k.size]; exact (h.2.2.2.2 a ha).2⟩⟩
theorem piece_trx {w : World} {lo : Nat} {x0 x1 x2 x3 x4 x5 : List UInt8} {pA pK : Option Addr} {nA cA nK cK : Nat}
  (hA : Sl w lo pA nA cA (if x3 = [] then 0 else 1) (if x3 = [] then [] else [S (bs x2), S (bs x3), S (bs x4)]))
  (hK : Sl w lo pK nK cK (if x5 = [] then 0 else 1) (if x5 = [] then [] else [S (bs []), S (bs []), C none 0 0, C none 0 0, S (bs x5)])) :
  TrX w (Bt lo w.heap.size none) (pieceT [x0, x1, x2, x3, x4, x5]) [S (bs x0), S (bs x1), C pA nA cA, C pK nK cK, S (bs [])] := by
 obtain ⟨a1, a2, a3, a4, a5⟩ := hA
 obtain ⟨b1, b2, b3, b4, b5⟩ := hK
 unfold pieceT TrX
 simp only [lS, lT]
 by_cases h3 : x3 = []
 ·rw [if_pos h3] at a1 a4
  subst a1
  by_cases h5 : x5 = []
  ·rw [if_pos h5] at b1 b4
   subst b1
   rw [if_pos h3, if_pos h5]
   exact ⟨pA, cA, pK, cK, [], rfl, ⟨a2, a3, a4, fun _ a ha => ⟨(a5 a ha).1, (a5 a ha).2, by simp⟩⟩, ⟨b2, b3, b4, fun a ha => ⟨(b5 a ha).1, (b5 a ha).2, by simp⟩⟩, rfl⟩
  ·rw [if_neg h5] at b1 b4
   subst b1
   rw [if_pos h3, if_neg h5]
   exact ⟨pA, cA, pK, cK, [[S (bs []), S (bs []), C none 0 0, C none 0 0, S (bs x5)]], rfl, ⟨a2, a3, a4, fun _ a ha => ⟨(a5 a ha).1, (a5 a ha).2, by simp⟩⟩, ⟨b2, b3, b4, fun a ha => ⟨(b5 a ha).1, (b5 a ha).2, by simp⟩⟩, TrXL.one (text_trx w _ x5)⟩
 ·rw [if_neg h3] at a1 a4
  subst a1
  by_cases h5 : x5 = []
  ·rw [if_pos h5] at b1 b4
   subst b1
   rw [if_neg h3, if_pos h5]
   exact ⟨pA, cA, pK, cK, [], rfl, ⟨a2, a3, a4, fun _ a ha => ⟨(a5 a ha).1, (a5 a ha).2, by simp⟩⟩, ⟨b2, b3, b4, fun a ha => ⟨(b5 a ha).1, (b5 a ha).2, by simp⟩⟩, rfl⟩
  ·rw [if_neg h5] at b1 b4
   subst b1
   rw [if_neg h3, if_neg h5]
   exact ⟨pA, cA, pK, cK, [[S (bs []), S (bs []), C none 0 0, C none 0 0, S (bs x5)]], rfl, ⟨a2, a3, a4, fun _ a ha => ⟨(a5 a ha).1, (a5 a ha).2, by simp⟩⟩, ⟨b2, b3, b4, fun a ha => ⟨(b5 a ha).1, (b5 a ha).2, by simp⟩⟩, TrXL.one (text_trx w _ x5)⟩
structure RQ (g3 hi : Nat) (ev : Array Value) (hv : Value) (m : Nat) (css : List (List Value)) (hl : List Tr) (bt : Tr) (bc : List Value) (w W : World) : Prop where
 evb : Blk W g3 46 ev
 row : W.ownsRow (g3 + 1) ELT 5 hv m css.flatten
 kids : TrXL W (Bt (g3 + 1) hi hv.ownBlock) hl css
 bdy : TrX W (Bt (g3 + 1) hi hv.ownBlock) bt bc
 low : Below w.heap.size w W
 res : Blk W (w.heap.size + 1) 46 #[S ⟨#[]⟩, S ⟨#[]⟩, S ⟨#[]⟩, S ⟨#[]⟩, S ⟨#[]⟩, C none 0 0, S ⟨#[]⟩, S ⟨#[]⟩, C none 0 0, C none 0 0, S ⟨#[]⟩]
 hsz : hi ≤ W.heap.size
 hown : ∀ g, hv.ownBlock = some g → g3 + 1 ≤ g ∧ g < hi
 g3w : w.heap.size + 2 = g3
theorem RQ.below {g3 hi : Nat} {ev : Array Value} {hv : Value} {m : Nat} {css : List (List Value)} {hl : List Tr} {bt : Tr} {bc : List Value} {w W W' : World} (h : RQ g3 hi ev hv m css hl bt bc w W) (hb : Below W.heap.size W W') : RQ g3 hi ev hv m css hl bt bc w W' :=
 ⟨h.evb.below hb h.evb.lt, owns_below h.row hb, h.kids.below hb, h.bdy.below hb, h.low.trans (hb.mono h.low.size), h.res.below hb h.res.lt, Nat.le_trans h.hsz hb.size, h.hown, h.g3w⟩
theorem RQ.only {g3 hi g : Nat} {ev : Array Value} {hv : Value} {m : Nat} {css : List (List Value)} {hl : List Tr} {bt : Tr} {bc : List Value} {w W W' : World} (h : RQ g3 hi ev hv m css hl bt bc w W) (k : Only g W W') (hg : hi ≤ g) (h3 : g3 < hi) : RQ g3 hi ev hv m css hl bt bc w W' := by
 have hw := h.g3w
 exact ⟨k.blk h.evb (by omega), owns_only k h.row (fun b hb => by have := (h.hown b hb).2; omega), h.kids.only k (fun b hb => by have := hb.2.1; omega), TrX.only h.bdy k (fun b hb => by have := hb.2.1; omega), h.low.trans (k.below (by omega)), k.blk h.res (by omega), by rw [k.size]; exact h.hsz, h.hown, hw⟩
def EnvX (w : World) (P : Nat → Prop) (e : Env) (cs : Array Value) : Prop :=
 ∃ (ph : Option Addr) (ch : Nat) (cssH : List (List Value)) (b0 b1 bt : List UInt8) (pa : Option Addr) (na ca : Nat) (pk : Option Addr) (nk ck : Nat),
  cs = #[S (bs e.act), S (bs e.to), S (bs e.id), S (bs e.frm), S (bs e.rel), C ph e.hds.length ch, S (bs b0), S (bs b1), C pa na ca, C pk nk ck, S (bs bt)] ∧
  e.bdy.nm = [b0, b1] ∧ e.hds.length ≤ ch ∧ ch ≤ maxLen ∧ Rd w ph cssH.flatten ∧ (∀ a, ph = some a → P a.block) ∧ TrXL w P e.hds cssH ∧
  TrX w P e.bdy [S (bs b0), S (bs b1), C pa na ca, C pk nk ck, S (bs bt)]
theorem EnvX.plain {w : World} {P : Nat → Prop} {e : Env} {cs : Array Value} (h : EnvX w P e cs) (hP : ∀ b, P b → b < w.heap.size) : EnvC w e cs := by
 obtain ⟨ph, ch, cssH, b0, b1, bt, pa, na, ca, pk, nk, ck, h1, h2, h3, h4, h5, _, h6, h7⟩ := h
 exact ⟨ph, ch, cssH, b0, b1, bt, pa, na, ca, pk, nk, ck, h1, h2, h3, h4, h5, TrXL.imp hP _ _ h6, TrX.imp hP _ _ h7⟩
theorem attr25q_info : (pG.info? 87).map (fun i => (i.zero, i.size, i.bytes)) = some (some (D #[S ⟨#[]⟩, S ⟨#[]⟩, S ⟨#[]⟩]), 3, 48) := by kernel_rfl
theorem penvX_any (t0 t1 t2 t3 t4 : List UInt8) (qs : List (List (List UInt8))) (hlen : qs.length ≤ 1000) (pv : Value) (w : World) (hq : PqL w pv qs) :
  Calls pG 12 #[D #[S (bs t0), S (bs t1), S (bs t2), S (bs t3), S (bs t4), pv]] w fun en w' => ∃ cs, en = .returned (.agg cs) ∧ EnvX w' (fun b => w.heap.size ≤ b ∧ b < w'.heap.size) (partsE t0 t1 t2 t3 t4 qs) cs ∧ Below w.heap.size w w' := by
 obtain ⟨p, cap, rfl, hc1, hc2, hrd, h6⟩ := hq
 obtain ⟨i8, hi8, hv0, hv1, hv2⟩ := info_parts attr25q_info
 obtain ⟨i9, hi9, hy0, hy1, hy2⟩ := info_parts elem25_info
 obtain ⟨wa, hwa⟩ : ∃ wa, ((w.alloc (F #[S (bs t0), S (bs t1), S (bs t2), S (bs t3), S (bs t4), C p qs.length cap] 38)).alloc (F #[S ⟨#[]⟩, S ⟨#[]⟩, S ⟨#[]⟩, S ⟨#[]⟩, S ⟨#[]⟩, C none 0 0, S ⟨#[]⟩, S ⟨#[]⟩, C none 0 0, C none 0 0, S ⟨#[]⟩] 46)).alloc (F #[S (bs t0), S (bs t1), S (bs t2), S (bs t3), S (bs t4), C none 0 0, S ⟨#[]⟩, S ⟨#[]⟩, C none 0 0, C none 0 0, S ⟨#[]⟩] 46) = wa := ⟨_, rfl⟩
 have hba : Below w.heap.size w wa := by rw [← hwa]; exact below_alloc (below_alloc (below_alloc1 w _) _) _
 have hn1 : Blk wa w.heap.size 38 #[S (bs t0), S (bs t1), S (bs t2), S (bs t3), S (bs t4), C p qs.length cap] := by rw [← hwa]; exact ((Blk.new w _ _).alloc _).alloc _
 have hn2 : Blk wa (w.heap.size + 1) 46 #[S ⟨#[]⟩, S ⟨#[]⟩, S ⟨#[]⟩, S ⟨#[]⟩, S ⟨#[]⟩, C none 0 0, S ⟨#[]⟩, S ⟨#[]⟩, C none 0 0, C none 0 0, S ⟨#[]⟩] := by
  rw [← hwa]
  have := (Blk.new (w.alloc (F #[S (bs t0), S (bs t1), S (bs t2), S (bs t3), S (bs t4), C p qs.length cap] 38)) 46 #[S ⟨#[]⟩, S ⟨#[]⟩, S ⟨#[]⟩, S ⟨#[]⟩, S ⟨#[]⟩, C none 0 0, S ⟨#[]⟩, S ⟨#[]⟩, C none 0 0, C none 0 0, S ⟨#[]⟩]).alloc (F #[S (bs t0), S (bs t1), S (bs t2), S (bs t3), S (bs t4), C none 0 0, S ⟨#[]⟩, S ⟨#[]⟩, C none 0 0, C none 0 0, S ⟨#[]⟩] 46)
  rwa [World.size_alloc] at this
 have hn3 : Blk wa (w.heap.size + 1 + 1) 46 #[S (bs t0), S (bs t1), S (bs t2), S (bs t3), S (bs t4), C none 0 0, S ⟨#[]⟩, S ⟨#[]⟩, C none 0 0, C none 0 0, S ⟨#[]⟩] := by
  rw [← hwa]
  have := Blk.new ((w.alloc (F #[S (bs t0), S (bs t1), S (bs t2), S (bs t3), S (bs t4), C p qs.length cap] 38)).alloc (F #[S ⟨#[]⟩, S ⟨#[]⟩, S ⟨#[]⟩, S ⟨#[]⟩, S ⟨#[]⟩, C none 0 0, S ⟨#[]⟩, S ⟨#[]⟩, C none 0 0, C none 0 0, S ⟨#[]⟩] 46)) 46 #[S (bs t0), S (bs t1), S (bs t2), S (bs t3), S (bs t4), C none 0 0, S ⟨#[]⟩, S ⟨#[]⟩, C none 0 0, C none 0 0, S ⟨#[]⟩]
  rwa [World.size_alloc, World.size_alloc] at this
 have hsa : wa.heap.size = w.heap.size + 3 := by rw [← hwa]; simp
 have N2 := hI hn2
 have N3 := hI hn3
 have HBA := hI hba
 have HRD := hI hrd
 have H6 := hI h6
 have k5 : wa.cell? ⟨w.heap.size, 5, none⟩ = some (C p qs.length cap) := (hn1.cell 5).trans rfl
 have HK5 := hI k5
 have m := (Blk.new w 38 #[S (bs t0), S (bs t1), S (bs t2), S (bs t3), S (bs t4), C p qs.length cap]).alloc (F #[S ⟨#[]⟩, S ⟨#[]⟩, S ⟨#[]⟩, S ⟨#[]⟩, S ⟨#[]⟩, C none 0 0, S ⟨#[]⟩, S ⟨#[]⟩, C none 0 0, C none 0 0, S ⟨#[]⟩] 46)
 obtain ⟨m0, m1, m2, m3, m4, -⟩ := m.cc
 have k5' := k5
 rw [← hwa] at k5'
 have HWA := hI hwa
 have HSA := hI hsa
 clear hba hn1 hn2 hn3 hrd h6 k5 m hwa hsa
 go_enter Tryz.func12, Tryz.ntmps12
 go_wp2_with fail
 rw [HWA.out]
 clear k5' m0 m1 m2 m3 m4
 obtain ⟨g3, hg3⟩ : ∃ g3, w.heap.size + 1 + 1 = g3 := ⟨_, rfl⟩
 rw [hg3]
 have HG3 := hI hg3
 rw [hg3] at N3
 go_loopw [26] (fun iv wr => ∃ (k : Nat) (hv : Value) (m : Nat) (css : List (List Value)) (b0 b1 : List UInt8) (pa : Option Addr) (na ca : Nat) (pk : Option Addr) (nk ck : Nat), k ≤ qs.length ∧ iv = .int .i64 k ∧ m ≤ k ∧ Blk wr g3 46 #[S (bs t0), S (bs t1), S (bs t2), S (bs t3), S (bs t4), hv, S (bs b0), S (bs b1), C pa na ca, C pk nk ck, S (bs [])] ∧
  wr.ownsRow (g3 + 1) ELT 5 hv m css.flatten ∧ TrXL wr (Bt (g3 + 1) wr.heap.size hv.ownBlock) (((qs.take k).drop 1).map pieceT) css ∧ (((qs.take k).drop 1).map pieceT).length = m ∧ (bdyQ (qs.take k)).nm = [b0, b1] ∧ TrX wr (Bt (g3 + 1) wr.heap.size hv.ownBlock) (bdyQ (qs.take k)) [S (bs b0), S (bs b1), C pa na ca, C pk nk ck, S (bs [])] ∧
  Below w.heap.size w wr ∧ Blk wr (w.heap.size + 1) 46 #[S ⟨#[]⟩, S ⟨#[]⟩, S ⟨#[]⟩, S ⟨#[]⟩, S ⟨#[]⟩, C none 0 0, S ⟨#[]⟩, S ⟨#[]⟩, C none 0 0, C none 0 0, S ⟨#[]⟩] ∧ wa.heap.size ≤ wr.heap.size) (fun iv _ => qs.length - (intOf iv).toNat)
 case atStart => exact ⟨0, C none 0 0, 0, [], [], [], none, 0, 0, none, 0, 0, by omega, rfl, by omega, N3.out, ⟨rfl, .inl ⟨rfl, rfl⟩⟩, rfl, rfl, rfl, text_trx wa _ [], HBA.out, N2.out, nR _⟩
 case round =>
  clear N3
  obtain ⟨k, hv, m, css, b0, b1, pa, na, ca, pk, nk, ck, hk, rfl, hmk, hev, hrow, hkids, hkm, hbnm, hbdy, hbw, hres, hsr⟩ := hrel
  obtain ⟨pv, cv, rfl, _, _, _⟩ := owns_rd hrow
  by_cases hlt : k < qs.length
  ·obtain ⟨b, off, x0, x1, x2, x3, x4, x5, rfl, hgx, y0, y1, y2, y3, y4, y5⟩ := at_6 HRD.out H6.out hlt
   have y0 := Below.keeps hbw _ _ y0; have y1 := Below.keeps hbw _ _ y1; have y2 := Below.keeps hbw _ _ y2; have y3 := Below.keeps hbw _ _ y3; have y4 := Below.keeps hbw _ _ y4; have y5 := Below.keeps hbw _ _ y5
   have hlt' : (k : Int) < (qs.length : Int) := by omega
   have htk : qs.take (k + 1) = qs.take k ++ [[x0, x1, x2, x3, x4, x5]] := by rw [List.take_succ_eq_append_getElem hlt, hgx]
   have HTK := hI htk
   have hsr2 : g3 < wr.heap.size := hev.lt
   have R0 := hI (show RQ g3 wr.heap.size #[S (bs t0), S (bs t1), S (bs t2), S (bs t3), S (bs t4), C pv m cv, S (bs b0), S (bs b1), C pa na ca, C pk nk ck, S (bs [])] (C pv m cv) m css (((qs.take k).drop 1).map pieceT) (bdyQ (qs.take k)) [S (bs b0), S (bs b1), C pa na ca, C pk nk ck, S (bs [])] w wr from
    ⟨hev, hrow, hkids, hbdy, hbw, hres, nR _, fun g hg => hrow.lt g hg, by have := HG3.out; omega⟩)
   have hal5 := below_alloc1 wr (F #[S (bs x0), S (bs x1), S (bs x2), S (bs x3), S (bs x4), S (bs x5)] 85)
   have hal6 := below_alloc1 (wr.alloc (F #[S (bs x0), S (bs x1), S (bs x2), S (bs x3), S (bs x4), S (bs x5)] 85)) (F #[S (bs x0), S (bs x1), C none 0 0, C none 0 0, S ⟨#[]⟩] ELT)
   have P5 := (Blk.new wr 85 #[S (bs x0), S (bs x1), S (bs x2), S (bs x3), S (bs x4), S (bs x5)])
   have P6 := P5.alloc (F #[S (bs x0), S (bs x1), C none 0 0, C none 0 0, S ⟨#[]⟩] ELT)
   have Y6 := Blk.new (wr.alloc (F #[S (bs x0), S (bs x1), S (bs x2), S (bs x3), S (bs x4), S (bs x5)] 85)) ELT #[S (bs x0), S (bs x1), C none 0 0, C none 0 0, S ⟨#[]⟩]
   rw [World.size_alloc] at Y6
   obtain ⟨p0, p1, -⟩ := P5.cc
   have RB := (R0.out.below hal5).below hal6
   have hszb : (((wr.alloc (F #[S (bs x0), S (bs x1), S (bs x2), S (bs x3), S (bs x4), S (bs x5)] 85)).alloc (F #[S (bs x0), S (bs x1), C none 0 0, C none 0 0, S ⟨#[]⟩] ELT))).heap.size = wr.heap.size + 2 := by simp
   obtain ⟨WB, hWB⟩ : ∃ W, ((wr.alloc (F #[S (bs x0), S (bs x1), S (bs x2), S (bs x3), S (bs x4), S (bs x5)] 85)).alloc (F #[S (bs x0), S (bs x1), C none 0 0, C none 0 0, S ⟨#[]⟩] ELT)) = W := ⟨_, rfl⟩
   rw [hWB] at RB P6 Y6 hszb
   obtain ⟨ve, hve⟩ : ∃ v : Value, C none 0 0 = v := ⟨_, rfl⟩
   have HP6 := hI P6
   have HY6 := hI (show Blk WB (wr.heap.size + 1) ELT #[S (bs x0), S (bs x1), ve, ve, S ⟨#[]⟩] by rw [← hve]; exact Y6)
   have HZB := hI (Nat.le_of_eq hszb.symm)
   have HKM := hI hkm; have HBN := hI hbnm; have HLT := hI hlt; have HMK := hI hmk; have HVE := hI hve; have HWB := hI hWB
   have HRB := hI RB
   clear RB
   have RB := HRB
   clear hal5 hal6 P5 P6 Y6 hev hrow hkids hkm hbnm hbdy hbw hres hsr htk hszb hgx hlt hmk hve hWB
   go_upto_if 37 with fail
   rw [HWB.out]
   clear p0 p1 y0 y1 y2 y3 y4 y5 HWB
   go_cut [] from 27 to 69 (fun W => ∃ (pA : Option Addr) (nA cA : Nat), RQ g3 wr.heap.size #[S (bs t0), S (bs t1), S (bs t2), S (bs t3), S (bs t4), C pv m cv, S (bs b0), S (bs b1), C pa na ca, C pk nk ck, S (bs [])] (C pv m cv) m css (((qs.take k).drop 1).map pieceT) (bdyQ (qs.take k)) [S (bs b0), S (bs b1), C pa na ca, C pk nk ck, S (bs [])] w W ∧ Blk W wr.heap.size 85 #[S (bs x0), S (bs x1), S (bs x2), S (bs x3), S (bs x4), S (bs x5)] ∧ Blk W (wr.heap.size + 1) ELT #[S (bs x0), S (bs x1), C pA nA cA, ve, S ⟨#[]⟩] ∧ Sl W (wr.heap.size + 2) pA nA cA (if x3 = [] then 0 else 1) (if x3 = [] then [] else [S (bs x2), S (bs x3), S (bs x4)]) ∧ wr.heap.size + 2 ≤ W.heap.size)
   case first =>
    cases x3 with
    | nil =>
     go_wp2_with fail
     go_meet
     case rel => exact ⟨none, 0, 0, RB.out, HP6.out, by rw [HVE.out]; exact HY6.out, by (try simp only [if_true]); (try rw [if_pos rfl, if_pos rfl]); exact Sl.nil _ _, HZB.out⟩
    | cons c3 l3 =>
     obtain ⟨-, r1, r2, r3, r4, -⟩ := HP6.out.cc
     have hzb := HZB.out
     have s2 := (HY6.out.cell 2).trans rfl
     go_wp2_with (at_builtin; refine wpList_appAt (.tmp 39) (.tmp 45) 42 rfl rfl (wr.heap.size + 2) 87 i8 (D #[S ⟨#[]⟩, S ⟨#[]⟩, S ⟨#[]⟩]) 3 48 Tryz.underlying42 hi8 hv0 hv1 hv2 rfl (by decide) _ 0 [] rfl (by rw [← HVE.out]; exact ⟨rfl, .inl ⟨rfl, rfl⟩⟩) _ _ _ [S (bs x2), S (bs (c3 :: l3)), S (bs x4)] rfl rfl (rd_at _ #[_, _, _] _ _ _ (by simp)) (by simp [Value.oneCell']) (by unfold maxLen; omega) (by omega) (by rw [World.size_alloc]; have := HZB.out; omega) ?_)
     intro vA wA ho hg _
     rw [← HVE.out] at hg
     obtain ⟨pA, cA, rfl, _, _, _⟩ := owns_rd ho
     have hb := (below_alloc1 WB (F #[S (bs x2), S (bs (c3 :: l3)), S (bs x4)] 87)).trans ((below_grownBy hg (fun g h => by cases h) (nR _)).mono (by simp))
     have ya := HY6.out.below hb HY6.out.lt
     have pa6 := HP6.out.below hb HP6.out.lt
     have rb := RB.out.below hb
     have fA := ya.frozen 2
     have kA := (ya.cell 2).trans rfl
     have O := (Only.refl (wr.heap.size + 1) wA).set_ 2 (C pA 1 cA)
     have HR := hI (show ∃ (p : Option Addr) (n c : Nat), RQ g3 wr.heap.size #[S (bs t0), S (bs t1), S (bs t2), S (bs t3), S (bs t4), C pv m cv, S (bs b0), S (bs b1), C pa na ca, C pk nk ck, S (bs [])] (C pv m cv) m css (((qs.take k).drop 1).map pieceT) (bdyQ (qs.take k)) [S (bs b0), S (bs b1), C pa na ca, C pk nk ck, S (bs [])] w (wA.setCell ⟨wr.heap.size + 1, 2, none⟩ (C pA 1 cA)) ∧ Blk (wA.setCell ⟨wr.heap.size + 1, 2, none⟩ (C pA 1 cA)) wr.heap.size 85 #[S (bs x0), S (bs x1), S (bs x2), S (bs (c3 :: l3)), S (bs x4), S (bs x5)] ∧ Blk (wA.setCell ⟨wr.heap.size + 1, 2, none⟩ (C pA 1 cA)) (wr.heap.size + 1) ELT #[S (bs x0), S (bs x1), C p n c, ve, S ⟨#[]⟩] ∧ Sl (wA.setCell ⟨wr.heap.size + 1, 2, none⟩ (C pA 1 cA)) (wr.heap.size + 2) p n c 1 [S (bs x2), S (bs (c3 :: l3)), S (bs x4)] ∧ wr.heap.size + 2 ≤ (wA.setCell ⟨wr.heap.size + 1, 2, none⟩ (C pA 1 cA)).heap.size from
      ⟨pA, 1, cA, rb.only O (by omega) hsr2, O.blk pa6 (by omega), ya.set_ 2 _, Sl.own (lo := wr.heap.size + 2) (O.owns2 ho (by omega)), by have := O.size; have := hb.size; omega⟩)
     clear ho hg hb ya pa6 rb O hzb r1 r2 r3 r4 s2
     go_wp2_with fail
     go_meet
     case rel =>
      (try simp only [if_false]); (try rw [if_neg (List.cons_ne_nil _ _), if_neg (List.cons_ne_nil _ _)])
      exact HR.out
   case rest =>
    clear HP6 HY6 HZB RB HRB
    obtain ⟨pA, nA, cA, hrb, hp6, hy6, hsa, hzb⟩ := hcut
    have RB := hI hrb; have HP6 := hI hp6; have HY6 := hI hy6; have SA := hI hsa; have HZB := hI hzb
    have r5 := (hp6.cell 5).trans rfl
    clear hrb hp6 hy6 hsa hzb
    clear WB
    obtain ⟨WB, rfl⟩ : ∃ W, W = wc := ⟨_, rfl⟩
    go_upto_if 50 with fail
    clear r5
    go_cut [] from 27 to 69 (fun W => ∃ (pK : Option Addr) (nK cK : Nat), RQ g3 wr.heap.size #[S (bs t0), S (bs t1), S (bs t2), S (bs t3), S (bs t4), C pv m cv, S (bs b0), S (bs b1), C pa na ca, C pk nk ck, S (bs [])] (C pv m cv) m css (((qs.take k).drop 1).map pieceT) (bdyQ (qs.take k)) [S (bs b0), S (bs b1), C pa na ca, C pk nk ck, S (bs [])] w W ∧ Blk W (wr.heap.size + 1) ELT #[S (bs x0), S (bs x1), C pA nA cA, C pK nK cK, S ⟨#[]⟩] ∧ Sl W (wr.heap.size + 2) pA nA cA (if x3 = [] then 0 else 1) (if x3 = [] then [] else [S (bs x2), S (bs x3), S (bs x4)]) ∧ Sl W (wr.heap.size + 2) pK nK cK (if x5 = [] then 0 else 1) (if x5 = [] then [] else [S (bs []), S (bs []), C none 0 0, C none 0 0, S (bs x5)]) ∧ wr.heap.size + 2 ≤ W.heap.size)
    case first =>
     cases x5 with
     | nil =>
      go_wp2_with fail
      go_meet
      case rel => exact ⟨none, 0, 0, RB.out, by rw [HVE.out]; exact HY6.out, SA.out, by (try simp only [if_true]); (try rw [if_pos rfl, if_pos rfl]); exact Sl.nil _ _, HZB.out⟩
     | cons c5 l5 =>
      have hzb := HZB.out
      have r5 := (HP6.out.cell 5).trans rfl; have s3 := (HY6.out.cell 3).trans rfl
      go_wp2_with (at_builtin; refine wpList_appAt (.tmp 52) (.tmp 56) 39 rfl rfl (wr.heap.size + 2) ELT i9 (D #[S ⟨#[]⟩, S ⟨#[]⟩, C none 0 0, C none 0 0, S ⟨#[]⟩]) 5 96 Tryz.underlying39 hi9 hy0 hy1 hy2 rfl (by decide) _ 0 [] rfl (by rw [← HVE.out]; exact ⟨rfl, .inl ⟨rfl, rfl⟩⟩) _ _ _ [S ⟨#[]⟩, S ⟨#[]⟩, C none 0 0, C none 0 0, S (bs (c5 :: l5))] rfl rfl (rd_at _ #[_, _, _, _, _] _ _ _ (by simp)) (by simp [Value.oneCell']) (by unfold maxLen; omega) (by omega) (by rw [World.size_alloc]; have := HZB.out; omega) ?_)
      intro vK wK ho hg _
      rw [← HVE.out] at hg
      obtain ⟨pK, cK, rfl, _, _, _⟩ := owns_rd ho
      have hb := (below_alloc1 WB (F #[S ⟨#[]⟩, S ⟨#[]⟩, C none 0 0, C none 0 0, S (bs (c5 :: l5))] ELT)).trans ((below_grownBy hg (fun g h => by cases h) (nR _)).mono (by simp))
      have ya := HY6.out.below hb HY6.out.lt
      have rb := RB.out.below hb
      have sa := SA.out.below hb
      have fA := ya.frozen 3
      have kA := (ya.cell 3).trans rfl
      have O := (Only.refl (wr.heap.size + 1) wK).set_ 3 (C pK 1 cK)
      have HR := hI (show ∃ (p : Option Addr) (n c : Nat), RQ g3 wr.heap.size #[S (bs t0), S (bs t1), S (bs t2), S (bs t3), S (bs t4), C pv m cv, S (bs b0), S (bs b1), C pa na ca, C pk nk ck, S (bs [])] (C pv m cv) m css (((qs.take k).drop 1).map pieceT) (bdyQ (qs.take k)) [S (bs b0), S (bs b1), C pa na ca, C pk nk ck, S (bs [])] w (wK.setCell ⟨wr.heap.size + 1, 3, none⟩ (C pK 1 cK)) ∧ Blk (wK.setCell ⟨wr.heap.size + 1, 3, none⟩ (C pK 1 cK)) (wr.heap.size + 1) ELT #[S (bs x0), S (bs x1), C pA nA cA, C p n c, S ⟨#[]⟩] ∧ Sl (wK.setCell ⟨wr.heap.size + 1, 3, none⟩ (C pK 1 cK)) (wr.heap.size + 2) pA nA cA (if x3 = [] then 0 else 1) (if x3 = [] then [] else [S (bs x2), S (bs x3), S (bs x4)]) ∧ Sl (wK.setCell ⟨wr.heap.size + 1, 3, none⟩ (C pK 1 cK)) (wr.heap.size + 2) p n c 1 [S (bs []), S (bs []), C none 0 0, C none 0 0, S (bs (c5 :: l5))] ∧ wr.heap.size + 2 ≤ (wK.setCell ⟨wr.heap.size + 1, 3, none⟩ (C pK 1 cK)).heap.size from
       ⟨pK, 1, cK, rb.only O (by omega) hsr2, ya.set_ 3 _, sa.only O (by omega), Sl.own (lo := wr.heap.size + 2) (O.owns2 ho (by omega)), by have := O.size; have := hb.size; omega⟩)
      clear ho hg hb ya rb sa O hzb r5 s3
      go_wp2_with fail
      go_meet
      case rel =>
       (try simp only [if_false]); (try rw [if_neg (List.cons_ne_nil c5 l5), if_neg (List.cons_ne_nil c5 l5)])
       exact HR.out
    case rest =>
     clear HP6 HY6 HZB RB SA
     obtain ⟨pK, nK, cK, hrb, hy6, hsa, hsk, hzb⟩ := hcut
     have RB := hI hrb; have HY6 := hI hy6; have TY := hI (show TrX wc (Bt (wr.heap.size + 2) wc.heap.size none) (pieceT [x0, x1, x2, x3, x4, x5]) (#[S (bs x0), S (bs x1), C pA nA cA, C pK nK cK, S ⟨#[]⟩] : Array Value).toList from piece_trx hsa hsk); have HZB := hI hzb
     obtain ⟨s0, s1, s2, s3, s4, -⟩ := hy6.cc
     clear hrb hy6 hsa hsk hzb
     clear WB
     obtain ⟨WK, rfl⟩ : ∃ W, W = wc := ⟨_, rfl⟩
     by_cases hk0 : k = 0
     ·subst hk0
      obtain rfl : m = 0 := by have := HMK.out; omega
      go_wp2_with (refine wpList_store (.tmp 62) (.tmp 61) ELT rfl rfl g3 6 46 #[S (bs t0), S (bs t1), S (bs t2), S (bs t3), S (bs t4), C pv 0 cv, S (bs b0), S (bs b1), C pa na ca, C pk nk ck, S (bs [])] #[S (bs x0), S (bs x1), C pA nA cA, C pK nK cK, S ⟨#[]⟩] rfl rfl RB.out.evb (by kernel_rfl) (by simp [Value.oneCell']) (by simp) ?_)
      intro wZ hbZ hoZ
      have hry := RB.out
      have hz7 := HZB.out
      have hzz := hoZ.size
      have e1 : ((qs.take (0 + 1)).drop 1).map pieceT = [] := by rw [HTK.out]; rfl
      have e2 : bdyQ (qs.take (0 + 1)) = pieceT [x0, x1, x2, x3, x4, x5] := by rw [HTK.out]; rfl
      have hcss : css = [] := hry.kids
      have F1 := hI (show Blk wZ g3 46 #[S (bs t0), S (bs t1), S (bs t2), S (bs t3), S (bs t4), C pv 0 cv, S (bs x0), S (bs x1), C pA nA cA, C pK nK cK, S (bs [])] from hbZ)
      have F2 := hI (hoZ.owns2 hry.row (by omega))
      have F3 := hI (show TrX wZ (Bt (g3 + 1) wZ.heap.size (C pv 0 cv).ownBlock) (pieceT [x0, x1, x2, x3, x4, x5]) (#[S (bs x0), S (bs x1), C pA nA cA, C pK nK cK, S ⟨#[]⟩] : Array Value).toList from TrX.imp (fun b hb => ⟨by have := hb.1; omega, by have := hb.2.1; omega, fun e => by have := (hry.hown b e).2; have := hb.1; omega⟩) _ _ (TrX.only TY.out hoZ (fun b hb => by have := hb.1; omega)))
      have F4 := hI (show Below w.heap.size w wZ ∧ Blk wZ (w.heap.size + 1) 46 #[S ⟨#[]⟩, S ⟨#[]⟩, S ⟨#[]⟩, S ⟨#[]⟩, S ⟨#[]⟩, C none 0 0, S ⟨#[]⟩, S ⟨#[]⟩, C none 0 0, C none 0 0, S ⟨#[]⟩] ∧ wa.heap.size ≤ wZ.heap.size from by have hg := hry.g3w; exact ⟨hry.low.trans (hoZ.below (by omega)), hoZ.blk hry.res (by omega), by have := HSA.out; omega⟩)
      clear hbZ hoZ hry hz7 hzz TY s0 s1 s2 s3 s4
      go_wp2_with fail
      go_roundw
      case rel => exact ⟨0 + 1, C pv 0 cv, 0, css, x0, x1, pA, nA, cA, pK, nK, cK, HLT.out, by go_num, by omega, F1.out, F2.out, by rw [e1, hcss]; rfl, by rw [e1]; rfl, by rw [e2]; rfl, by rw [e2]; exact F3.out, F4.out.1, F4.out.2.1, F4.out.2.2⟩
      case measure => have := HLT.out; simp [intOf] <;> omega
     ·have hkp : ¬ (k : Int) = 0 := by omega
      have h5 := (RB.out.evb.cell 5).trans rfl
      have hyr := owns_below RB.out.row (below_alloc1 WK (F #[S (bs x0), S (bs x1), C pA nA cA, C pK nK cK, S ⟨#[]⟩] ELT))
      have HROW := hI hyr
      have hz7 := HZB.out
      have hmk9 := HMK.out
      clear hyr
      go_wp2_with (at_builtin; refine wpList_appAt (.tmp 64) (.tmp 66) 39 rfl rfl (g3 + 1) ELT i9 (D #[S ⟨#[]⟩, S ⟨#[]⟩, C none 0 0, C none 0 0, S ⟨#[]⟩]) 5 96 Tryz.underlying39 hi9 hy0 hy1 hy2 rfl (by decide) _ _ _ rfl HROW.out _ _ _ (#[S (bs x0), S (bs x1), C pA nA cA, C pK nK cK, S ⟨#[]⟩] : Array Value).toList rfl rfl (rd_at _ #[_, _, _, _, _] _ _ _ (by simp)) (by simp [Value.oneCell']) (by unfold maxLen; omega) (by omega) (by rw [World.size_alloc]; omega) ?_)
      intro vH wH hoH hgH hatH
      obtain ⟨pH, cH, rfl, _, _, _⟩ := owns_rd hoH
      have hry := RB.out
      have hba := below_alloc1 WK (F #[S (bs x0), S (bs x1), C pA nA cA, C pK nK cK, S ⟨#[]⟩] ELT)
      have hrx := hry.below hba
      have hR : rT 0 (g3 + 1) 5 ELT (C pv m cv) m 0 (WK.alloc (F #[S (bs x0), S (bs x1), C pA nA cA, C pK nK cK, S ⟨#[]⟩] ELT)) wH := by rw [rT_at]; exact ⟨⟨_, HROW.out⟩, hgH⟩
      have ev9 := rT_blklo hR hrx.evb (by omega)
      have f5 := ev9.frozen 5
      have k5 := (ev9.cell 5).trans rfl
      have O := (Only.refl g3 wH).set_ 5 (C pH (m + 1) cH)
      have hgw := hry.g3w
      have hsg := hgH.size
      rw [World.size_alloc] at hsg
      obtain ⟨css9, ho9, hk9⟩ : (PRowG 0 (g3 + 1) 5 ELT (m + 1) ((((qs.take k).drop 1).map pieceT) ++ [pieceT [x0, x1, x2, x3, x4, x5]])).fact wH (C pH (m + 1) cH) := prow_stepG (B0 := wr.heap.size) (css := css) (dss := [(#[S (bs x0), S (bs x1), C pA nA cA, C pK nK cK, S ⟨#[]⟩] : Array Value).toList]) (B := (WK.alloc (F #[S (bs x0), S (bs x1), C pA nA cA, C pK nK cK, S ⟨#[]⟩] ELT)).heap.size) hgH (by rw [World.size_alloc]; exact hatH) (fun g hg => ⟨Nat.zero_le _, (hry.hown g hg).2⟩) (by omega) (by rw [World.size_alloc]; omega) (Nat.zero_le _) (TrXL.imp (fun b hb => .inr hb) _ _ hrx.kids) (TrXL.one (TrX.imp (fun b hb => .inr ⟨by have := hb.1; omega, by have := hb.2.1; rw [World.size_alloc]; omega, by simp⟩) _ _ (TrX.below TY.out hba))) (nR _) (by rw [List.flatten_append]; exact hoH)
      have e1 : ((qs.take (k + 1)).drop 1).map pieceT = (((qs.take k).drop 1).map pieceT) ++ [pieceT [x0, x1, x2, x3, x4, x5]] := by
       rw [HTK.out, List.drop_append_of_le_length (by rw [List.length_take]; have := HLT.out; omega), List.map_append]
       rfl
      have e2 : bdyQ (qs.take (k + 1)) = bdyQ (qs.take k) := by
       cases qs with
       | nil => simp
       | cons q0 ql =>
        obtain ⟨k', rfl⟩ : ∃ k', k = k' + 1 := ⟨k - 1, by omega⟩
        rfl
      have F1 := hI (show Blk (wH.setCell ⟨g3, 5, none⟩ (C pH (m + 1) cH)) g3 46 #[S (bs t0), S (bs t1), S (bs t2), S (bs t3), S (bs t4), C pH (m + 1) cH, S (bs b0), S (bs b1), C pa na ca, C pk nk ck, S (bs [])] from ev9.set_ 5 _)
      have F2 := hI (O.owns2 ho9 (by omega))
      have hoz := O.size
      have F3 := hI (TrXL.imp (Q := Bt (g3 + 1) (wH.setCell ⟨g3, 5, none⟩ (C pH (m + 1) cH)).heap.size (C pH (m + 1) cH).ownBlock) (fun b hb => by rcases hb with hb | hb; omega; exact ⟨hb.1, by rw [hoz]; exact hb.2.1, hb.2.2⟩) _ _ (hk9.only O (fun b hb => by rcases hb with hb | hb; omega; (have := hb.1; omega))))
      have F5 := hI (TrX.imp (Q := Bt (g3 + 1) (wH.setCell ⟨g3, 5, none⟩ (C pH (m + 1) cH)).heap.size (C pH (m + 1) cH).ownBlock) (fun b hb => ⟨hb.1, by have := hb.2.1; omega, fun e => by
       rcases hatH with h | h
       ·exact hb.2.2 (h ▸ e)
       ·rw [h] at e
        cases e
        have := hb.2.1
        try rw [World.size_alloc] at this
        omega⟩) _ _ (TrX.only (TrX.grown hrx.bdy hgH (fun b hb => hb.2.2)) O (fun b hb => by have := hb.1; omega)))
      have F4 := hI (show Below w.heap.size w (wH.setCell ⟨g3, 5, none⟩ (C pH (m + 1) cH)) ∧ Blk (wH.setCell ⟨g3, 5, none⟩ (C pH (m + 1) cH)) (w.heap.size + 1) 46 #[S ⟨#[]⟩, S ⟨#[]⟩, S ⟨#[]⟩, S ⟨#[]⟩, S ⟨#[]⟩, C none 0 0, S ⟨#[]⟩, S ⟨#[]⟩, C none 0 0, C none 0 0, S ⟨#[]⟩] ∧ wa.heap.size ≤ (wH.setCell ⟨g3, 5, none⟩ (C pH (m + 1) cH)).heap.size from
       ⟨(rT_below hR hrx.low (by omega) (by rw [World.size_alloc]; omega)).trans (O.below (by omega)), O.blk (rT_blklo hR hrx.res (by omega)) (by omega), by have := HSA.out; omega⟩)
      clear hoH hgH hatH hry hba hrx hR ev9 O hk9 ho9 TY HROW s0 s1 s2 s3 s4 h5
      go_wp2_with fail
      go_roundw
      case rel => exact ⟨k + 1, C pH (m + 1) cH, m + 1, css9, b0, b1, pa, na, ca, pk, nk, ck, HLT.out, by go_num, by omega, F1.out, F2.out, by rw [e1]; exact F3.out, by rw [e1, List.length_append, HKM.out]; rfl, by rw [e2]; exact HBN.out, by rw [e2]; exact F5.out, F4.out.1, F4.out.2.1, F4.out.2.2⟩
      case measure => have := HLT.out; simp [intOf] <;> omega
  ·obtain rfl : k = qs.length := by omega
   obtain ⟨z0, z1, z2, z3, z4, z5, z6, z7, z8, z9, z10⟩ := hev.cc
   have HEV := hI hev; have HRES := hI hres; have HROW := hI hrow; have HKD := hI hkids; have HBD := hI hbdy; have HBW := hI hbw; have HKM := hI hkm; have HBN := hI hbnm
   clear hev hrow hkids hkm hbnm hbdy hbw hres hlt
   go_wp2_with (refine wpList_store (.tmp 2) (.tmp 70) 46 rfl rfl (w.heap.size + 1) 0 _ _ #[S (bs t0), S (bs t1), S (bs t2), S (bs t3), S (bs t4), C pv m cv, S (bs b0), S (bs b1), C pa na ca, C pk nk ck, S (bs [])] rfl rfl HRES.out (by kernel_rfl) (by simp [Value.oneCell']) (by simp) ?_)
   intro wF hbF hoF
   rw [putCells_all #[S ⟨#[]⟩, S ⟨#[]⟩, S ⟨#[]⟩, S ⟨#[]⟩, S ⟨#[]⟩, C none 0 0, S ⟨#[]⟩, S ⟨#[]⟩, C none 0 0, C none 0 0, S ⟨#[]⟩] #[S (bs t0), S (bs t1), S (bs t2), S (bs t3), S (bs t4), C pv m cv, S (bs b0), S (bs b1), C pa na ca, C pk nk ck, S (bs [])] rfl] at hbF
   obtain ⟨u0, u1, u2, u3, u4, u5, u6, u7, u8, u9, u10⟩ := hbF.cc
   have hg3 := HG3.out
   have hsF := hoF.size
   have HFIN := hI (show EnvX wF (fun b => w.heap.size ≤ b ∧ b < wF.heap.size) (partsE t0 t1 t2 t3 t4 qs) #[S (bs t0), S (bs t1), S (bs t2), S (bs t3), S (bs t4), C pv m cv, S (bs b0), S (bs b1), C pa na ca, C pk nk ck, S (bs [])] from by
    have hkm := HKM.out
    have hkd := HKD.out
    have hbd := HBD.out
    have hbn := HBN.out
    rw [List.take_length] at hkm hkd hbd hbn
    obtain ⟨c1, c2, c3, c4, c5⟩ := Sl.own HROW.out
    have hm : m = (partsE t0 t1 t2 t3 t4 qs).hds.length := hkm.symm
    refine ⟨pv, cv, css, b0, b1, [], pa, na, ca, pk, nk, ck, by rw [← hm]; rfl, hbn, by rw [← hm]; exact c2, c3, c4.keepP (P := fun b => g3 + 1 ≤ b) (fun a ha => (c5 a ha).1) (fun a v hp hc => (World.cell?_of_block (hoF.block a.block (by omega))).trans hc), fun a ha => ⟨by have := (c5 a ha).1; omega, by rw [hsF]; exact (c5 a ha).2⟩, ?_, ?_⟩
    ·exact TrXL.imp (fun b hb => by have := hb.2.1; have := hb.1; omega) _ _ (hkd.only hoF (fun b hb => by have := hb.1; omega))
    ·exact TrX.imp (fun b hb => by have := hb.2.1; have := hb.1; omega) _ _ (TrX.only hbd hoF (fun b hb => by have := hb.1; omega)))
   have HBF := hI (HBW.out.trans (hoF.below (by omega : w.heap.size ≤ w.heap.size + 1)))
   clear hbF hoF z0 z1 z2 z3 z4 z5 z6 z7 z8 z9 z10
   go_wp2_with fail
   refine bodyPost_ret (v := D #[S (bs t0), S (bs t1), S (bs t2), S (bs t3), S (bs t4), C pv m cv, S (bs b0), S (bs b1), C pa na ca, C pk nk ck, S (bs [])]) (by simp [results, Tryz.results12, go_sem, u0, u1, u2, u3, u4, u5, u6, u7, u8, u9, u10]) rfl ?_
   exact ⟨_, rfl, HFIN.out, HBF.out⟩
theorem penv_any (t0 t1 t2 t3 t4 : List UInt8) (qs : List (List (List UInt8))) (hlen : qs.length ≤ 1000) (pv : Value) (w : World) (hq : PqL w pv qs) :
  Calls pG 12 #[D #[S (bs t0), S (bs t1), S (bs t2), S (bs t3), S (bs t4), pv]] w fun en w' => ∃ cs, en = .returned (.agg cs) ∧ EnvC w' (partsE t0 t1 t2 t3 t4 qs) cs ∧ Below w.heap.size w w' := by
 refine (penvX_any t0 t1 t2 t3 t4 qs hlen pv w hq).mono ?_
 rintro en w' ⟨cs, rfl, hc, hb⟩
 exact ⟨cs, rfl, hc.plain (fun b hb => hb.2), hb⟩
end
section
set_option maxHeartbeats 8000000
set_option maxRecDepth 20000
open Go.RowKit
attribute [local go_sem] bs_toList
def pieceBig (q : List (List UInt8)) : Bool := decide (100 < (q.getD 1 []).length) || (decide (200 < (q.getD 0 []).length) || (decide (100 < (q.getD 3 []).length) || (decide (200 < (q.getD 2 []).length) || (decide (200 < (q.getD 4 []).length) || decide (300 < (q.getD 5 []).length)))))
def txBig (s : List UInt8) : Bool := decide (300 < s.length)
def bigP (ts : List (List UInt8)) (qs : List (List (List UInt8))) : Bool := decide (25 < qs.length) || (ts.any txBig || qs.any pieceBig)
theorem q_any_drop {α : Type} {f : α → Bool} {xs : List α} {j : Nat} (h : j < xs.length) : (xs.drop j).any f = (f xs[j] || (xs.drop (j + 1)).any f) := by
 rw [List.drop_eq_getElem_cons h, List.any_cons]
theorem sz_dec100 (l : List UInt8) : decide ((100 : Int) < ((bs l).size : Int)) = decide (100 < l.length) := by rw [bs_size]; exact decide_eq_decide.2 (by omega)
theorem sz_dec200 (l : List UInt8) : decide ((200 : Int) < ((bs l).size : Int)) = decide (200 < l.length) := by rw [bs_size]; exact decide_eq_decide.2 (by omega)
theorem sz_dec300 (l : List UInt8) : decide ((300 : Int) < ((bs l).size : Int)) = decide (300 < l.length) := by rw [bs_size]; exact decide_eq_decide.2 (by omega)
theorem pbig_any (t0 t1 t2 t3 t4 : List UInt8) (qs : List (List (List UInt8))) (pv : Value) (w : World) (hq : PqL w pv qs) :
  Calls pG 11 #[D #[S (bs t0), S (bs t1), S (bs t2), S (bs t3), S (bs t4), pv]] w (Gives w (.bool (bigP [t0, t1, t2, t3, t4] qs))) := by
 obtain ⟨p, cap, rfl, hc1, hc2, hrd, h6⟩ := hq
 unfold maxLen at hc2
 have hba := below_alloc1 w (F #[S (bs t0), S (bs t1), S (bs t2), S (bs t3), S (bs t4), C p qs.length cap] 38)
 have hn := Blk.new w 38 #[S (bs t0), S (bs t1), S (bs t2), S (bs t3), S (bs t4), C p qs.length cap]
 obtain ⟨wa, hwa⟩ : ∃ wa, w.alloc (F #[S (bs t0), S (bs t1), S (bs t2), S (bs t3), S (bs t4), C p qs.length cap] 38) = wa := ⟨_, rfl⟩
 obtain ⟨z0, z1, z2, z3, z4, z5, -⟩ := hn.cc
 by_cases g1 : 25 < qs.length
 ·have d1 : decide (25 < (qs.length : Int)) = true := decide_eq_true (by omega)
  have hB : RowKit.Hid (bigP [t0, t1, t2, t3, t4] qs = true) := hI (by unfold bigP; rw [decide_eq_true g1]; rfl)
  have HBA := hI hba
  clear g1 hba hn hwa hrd h6 z0 z1 z2 z3 z4
  generalize bigP [t0, t1, t2, t3, t4] qs = B at *
  go_enter Tryz.func11, Tryz.ntmps11
  go_wp2_with fail
  go_ret
  exact ⟨by rw [hB.out] <;> rfl, HBA.out⟩
 have d1 : decide (25 < (qs.length : Int)) = false := decide_eq_false (by omega)
 obtain ⟨B, hB⟩ : ∃ B, ([t0, t1, t2, t3, t4].any txBig || qs.any pieceBig) = B := ⟨_, rfl⟩
 rw [show bigP [t0, t1, t2, t3, t4] qs = B by unfold bigP; rw [decide_eq_false g1, hB]; rfl]
 have HB := hI hB
 have HBA := hI (hwa ▸ hba)
 have HN := hI (show Blk wa w.heap.size 38 #[S (bs t0), S (bs t1), S (bs t2), S (bs t3), S (bs t4), C p qs.length cap] by rw [← hwa]; exact hn)
 have HRD := hI (show Rd wa p (acells qs) from hrd.keep (Below.keeps (hwa ▸ hba)))
 have H6 := hI h6
 have HWA := hI hwa
 clear hba hn hwa hrd h6 hB g1
 go_enter Tryz.func11, Tryz.ntmps11
 go_wp2_with fail
 rw [HWA.out]
 clear z0 z1 z2 z3 z4 z5 d1
 go_loopw [13] (fun i wr => ∃ j : Nat, j ≤ 5 ∧ i = .int .i64 j ∧ (([t0, t1, t2, t3, t4].drop j).any txBig || qs.any pieceBig) = B ∧ wr = wa) (fun i _ => 5 - (intOf i).toNat)
 case atStart => exact ⟨0, by omega, rfl, HB.out, rfl⟩
 case round =>
  clear HB
  obtain ⟨j, hj, rfl, hd, rfl⟩ := hrel
  by_cases hlt : j < 5
  ·rcases (by omega : j = 0 ∨ j = 1 ∨ j = 2 ∨ j = 3 ∨ j = 4) with rfl | rfl | rfl | rfl | rfl
   ·have z := sz_dec300 t0
    have hix := fun w => (show (Instr.index 35 (D #[S (bs t0), S (bs t1), S (bs t2), S (bs t3), S (bs t4)]) (.int .i64 0)).run pG w = .ok (S (bs t0)) w from by kernel_rfl)
    have hd' := hd
    rw [q_any_drop (show 0 < [t0, t1, t2, t3, t4].length by simp)] at hd'
    have he : ([t0, t1, t2, t3, t4] : List (List UInt8))[0]'(by simp) = t0 := rfl
    rw [he] at hd'
    generalize hY : ([t0, t1, t2, t3, t4].drop (0 + 1)).any txBig = Y at *
    have HY := hI hY
    unfold txBig at hd'
    generalize decide (300 < t0.length) = b0 at *
    have HD := hI hd'
    clear hd hd' he hY
    cases b0
    rotate_left 1
    ·go_wp2_with fail
     go_ret
     exact ⟨by rw [← HD.out] <;> simp, HBA.out⟩
    go_wp2_with fail
    go_roundw
    case rel => exact ⟨0 + 1, by omega, by go_num, by rw [HY.out, ← HD.out] <;> simp, by first | trivial | rfl⟩
    case measure => simp [intOf]
   ·have z := sz_dec300 t1
    have hix := fun w => (show (Instr.index 35 (D #[S (bs t0), S (bs t1), S (bs t2), S (bs t3), S (bs t4)]) (.int .i64 1)).run pG w = .ok (S (bs t1)) w from by kernel_rfl)
    have hd' := hd
    rw [q_any_drop (show 1 < [t0, t1, t2, t3, t4].length by simp)] at hd'
    have he : ([t0, t1, t2, t3, t4] : List (List UInt8))[1]'(by simp) = t1 := rfl
    rw [he] at hd'
    generalize hY : ([t0, t1, t2, t3, t4].drop (1 + 1)).any txBig = Y at *
    have HY := hI hY
    unfold txBig at hd'
    generalize decide (300 < t1.length) = b0 at *
    have HD := hI hd'
    clear hd hd' he hY
    cases b0
    rotate_left 1
    ·go_wp2_with fail
     go_ret
     exact ⟨by rw [← HD.out] <;> simp, HBA.out⟩
    go_wp2_with fail
    go_roundw
    case rel => exact ⟨1 + 1, by omega, by go_num, by rw [HY.out, ← HD.out] <;> simp, by first | trivial | rfl⟩
    case measure => simp [intOf]
   ·have z := sz_dec300 t2
    have hix := fun w => (show (Instr.index 35 (D #[S (bs t0), S (bs t1), S (bs t2), S (bs t3), S (bs t4)]) (.int .i64 2)).run pG w = .ok (S (bs t2)) w from by kernel_rfl)
    have hd' := hd
    rw [q_any_drop (show 2 < [t0, t1, t2, t3, t4].length by simp)] at hd'
    have he : ([t0, t1, t2, t3, t4] : List (List UInt8))[2]'(by simp) = t2 := rfl
    rw [he] at hd'
    generalize hY : ([t0, t1, t2, t3, t4].drop (2 + 1)).any txBig = Y at *
    have HY := hI hY
    unfold txBig at hd'
    generalize decide (300 < t2.length) = b0 at *
    have HD := hI hd'
    clear hd hd' he hY
    cases b0
    rotate_left 1
    ·go_wp2_with fail
     go_ret
     exact ⟨by rw [← HD.out] <;> simp, HBA.out⟩
    go_wp2_with fail
    go_roundw
    case rel => exact ⟨2 + 1, by omega, by go_num, by rw [HY.out, ← HD.out] <;> simp, by first | trivial | rfl⟩
    case measure => simp [intOf]
   ·have z := sz_dec300 t3
    have hix := fun w => (show (Instr.index 35 (D #[S (bs t0), S (bs t1), S (bs t2), S (bs t3), S (bs t4)]) (.int .i64 3)).run pG w = .ok (S (bs t3)) w from by kernel_rfl)
    have hd' := hd
    rw [q_any_drop (show 3 < [t0, t1, t2, t3, t4].length by simp)] at hd'
    have he : ([t0, t1, t2, t3, t4] : List (List UInt8))[3]'(by simp) = t3 := rfl
    rw [he] at hd'
    generalize hY : ([t0, t1, t2, t3, t4].drop (3 + 1)).any txBig = Y at *
    have HY := hI hY
    unfold txBig at hd'
    generalize decide (300 < t3.length) = b0 at *
    have HD := hI hd'
    clear hd hd' he hY
    cases b0
    rotate_left 1
    ·go_wp2_with fail
     go_ret
     exact ⟨by rw [← HD.out] <;> simp, HBA.out⟩
    go_wp2_with fail
    go_roundw
    case rel => exact ⟨3 + 1, by omega, by go_num, by rw [HY.out, ← HD.out] <;> simp, by first | trivial | rfl⟩
    case measure => simp [intOf]
   ·have z := sz_dec300 t4
    have hix := fun w => (show (Instr.index 35 (D #[S (bs t0), S (bs t1), S (bs t2), S (bs t3), S (bs t4)]) (.int .i64 4)).run pG w = .ok (S (bs t4)) w from by kernel_rfl)
    have hd' := hd
    rw [q_any_drop (show 4 < [t0, t1, t2, t3, t4].length by simp)] at hd'
    have he : ([t0, t1, t2, t3, t4] : List (List UInt8))[4]'(by simp) = t4 := rfl
    rw [he] at hd'
    generalize hY : ([t0, t1, t2, t3, t4].drop (4 + 1)).any txBig = Y at *
    have HY := hI hY
    unfold txBig at hd'
    generalize decide (300 < t4.length) = b0 at *
    have HD := hI hd'
    clear hd hd' he hY
    cases b0
    rotate_left 1
    ·go_wp2_with fail
     go_ret
     exact ⟨by rw [← HD.out] <;> simp, HBA.out⟩
    go_wp2_with fail
    go_roundw
    case rel => exact ⟨4 + 1, by omega, by go_num, by rw [HY.out, ← HD.out] <;> simp, by first | trivial | rfl⟩
    case measure => simp [intOf]
  ·obtain rfl : j = 5 := by omega
   have HD := hI (show qs.any pieceBig = B by rw [← hd]; rfl)
   have k5 := (HN.out.cell 5).trans rfl
   obtain ⟨wb, hwb⟩ : ∃ wb, wb = wr := ⟨_, rfl⟩
   clear hd hlt
   subst hwb
   go_wp2_with fail
   clear k5
   go_loopw [23] (fun i wr => ∃ j : Nat, j ≤ qs.length ∧ i = .int .i64 j ∧ (qs.drop j).any pieceBig = B ∧ Below wb.heap.size wb wr) (fun i _ => qs.length - (intOf i).toNat)
   case atStart => exact ⟨0, by omega, rfl, HD.out, Below.refl _ _⟩
   case round =>
    clear HD
    obtain ⟨k, hk, rfl, hd, hbm⟩ := hrel
    by_cases hlk : k < qs.length
    ·rw [q_any_drop hlk] at hd
     obtain ⟨b, off, x0, x1, x2, x3, x4, x5, rfl, hgx, y0, y1, y2, y3, y4, y5⟩ := at_6 HRD.out H6.out hlk
     rw [hgx] at hd
     replace y0 := Below.keeps hbm _ _ y0; replace y1 := Below.keeps hbm _ _ y1; replace y2 := Below.keeps hbm _ _ y2; replace y3 := Below.keeps hbm _ _ y3; replace y4 := Below.keeps hbm _ _ y4; replace y5 := Below.keeps hbm _ _ y5
     generalize hY : (qs.drop (k + 1)).any pieceBig = Y at *
     have HY := hI hY
     have hlk' : (k : Int) < (qs.length : Int) := by omega
     have hM := Blk.new wr 85 #[S (bs x0), S (bs x1), S (bs x2), S (bs x3), S (bs x4), S (bs x5)]
     obtain ⟨r0, r1, r2, r3, r4, r5, -⟩ := hM.cc
     have HBM := hI (hbm.alloc hbm.size (F #[S (bs x0), S (bs x1), S (bs x2), S (bs x3), S (bs x4), S (bs x5)] 85))
     unfold pieceBig at hd
     simp only [lS, lT] at hd
     have d0 := sz_dec200 x0; have d1 := sz_dec100 x1; have d2 := sz_dec200 x2; have d3 := sz_dec100 x3; have d4 := sz_dec200 x4; have d5 := sz_dec300 x5
     generalize decide (200 < x0.length) = b0 at *
     generalize decide (100 < x1.length) = b1 at *
     generalize decide (200 < x2.length) = b2 at *
     generalize decide (100 < x3.length) = b3 at *
     generalize decide (200 < x4.length) = b4 at *
     generalize decide (300 < x5.length) = b5 at *
     have HD := hI hd
     clear hd hY hM hbm hgx
     cases b1
     rotate_left 1
     ·go_wp2_with fail
      go_ret
      exact ⟨by rw [← HD.out] <;> simp, HBA.out.trans (HBM.out.mono HBA.out.size)⟩
     cases b0
     rotate_left 1
     ·go_wp2_with fail
      go_ret
      exact ⟨by rw [← HD.out] <;> simp, HBA.out.trans (HBM.out.mono HBA.out.size)⟩
     cases b3
     rotate_left 1
     ·go_wp2_with fail
      go_ret
      exact ⟨by rw [← HD.out] <;> simp, HBA.out.trans (HBM.out.mono HBA.out.size)⟩
     cases b2
     rotate_left 1
     ·go_wp2_with fail
      go_ret
      exact ⟨by rw [← HD.out] <;> simp, HBA.out.trans (HBM.out.mono HBA.out.size)⟩
     cases b4
     rotate_left 1
     ·go_wp2_with fail
      go_ret
      exact ⟨by rw [← HD.out] <;> simp, HBA.out.trans (HBM.out.mono HBA.out.size)⟩
     cases b5
     rotate_left 1
     ·go_wp2_with fail
      go_ret
      exact ⟨by rw [← HD.out] <;> simp, HBA.out.trans (HBM.out.mono HBA.out.size)⟩
     go_wp2_with fail
     go_roundw
     case rel => exact ⟨k + 1, by omega, by go_num, by rw [HY.out, ← HD.out] <;> simp, HBM.out⟩
     case measure => simp [intOf] <;> omega
    ·obtain rfl : k = qs.length := by omega
     rw [List.drop_of_length_le (nR _)] at hd
     have HD := hI (show false = B from hd)
     have HBM := hI (HBA.out.trans (hbm.mono HBA.out.size))
     clear hd hbm
     go_wp2_with fail
     go_ret
     exact ⟨by rw [← HD.out] <;> rfl, HBM.out⟩
end
end Go.Proofs.YthboiahdheehkaaGreatDoor
