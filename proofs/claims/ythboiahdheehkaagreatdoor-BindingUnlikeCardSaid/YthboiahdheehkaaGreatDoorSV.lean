/- BndV -/
import Derived.Test.YthboiahdheehkaaGreatDoorSU
import Derived.Test.YthboiahdheehkaaGreatDoorBT
import Derived.Test.YthboiahdheehkaaGreatDoorBS
namespace Go.Proofs.YthboiahdheehkaaGreatDoor
set_option maxHeartbeats 8000000
set_option maxRecDepth 20000
open Go.RowKit Go.Extern.Stop Go.Stop Go.Extern
attribute [local go_sem] bs_toList
def EnR (E : Nat → Addr) (o : Option Tr) (w : World) (e : Ending) (w' : World) : Prop :=
  Below w.heap.size w w' ∧ ∃ v0 v1 v2 v3 v4 v5 v6 v7 v8 v9 v10, e = .returned (.agg #[v0, v1, v2, v3, v4, v5, v6, v7, v8, v9, v10]) ∧ ∀ w1, Below w'.heap.size w' w1 → Calls Tryz.prog 39 #[.agg #[v0, v1, v2, v3, v4, v5, v6, v7, v8, v9, v10]] w1 (FmR E o w1)
theorem wrap1_of (E : Nat → Addr) (gb : Nat) (k f t n s r p q c i j : Int) (o : Option Tr) (w : World) (hg : LibG w) (hE : Errs w E) (hfit : ∀ y, o = some y → y.ok 1 ∧ y.shr)
    (hk : Blk w gb 27 #[.int .i64 k, .int .i64 f, .int .i64 t, .int .i64 n, .int .i64 s, .int .i64 r, .int .i64 p, .int .i64 q, .int .i64 c, .int .i64 i, .int .i64 j])
    (hF : Calls Tryz.prog 30 #[.agg #[.int .i64 k, .int .i64 f, .int .i64 t, .int .i64 n, .int .i64 s, .int .i64 r, .int .i64 p, .int .i64 q, .int .i64 c, .int .i64 i, .int .i64 j]] w (EnR E o w)) :
    Calls Tryz.prog 28 #[.pointer (some ⟨gb, 0, none⟩)] w (TxR E (if foN o = 0 then foS o else []) (foN o) w) := by
  have z0 := (hk.cell 0).trans rfl
  have z1 := (hk.cell 1).trans rfl
  have z2 := (hk.cell 2).trans rfl
  have z3 := (hk.cell 3).trans rfl
  have z4 := (hk.cell 4).trans rfl
  have z5 := (hk.cell 5).trans rfl
  have z6 := (hk.cell 6).trans rfl
  have z7 := (hk.cell 7).trans rfl
  have z8 := (hk.cell 8).trans rfl
  have z9 := (hk.cell 9).trans rfl
  have z10 := (hk.cell 10).trans rfl
  have HF := Lib.hid hF
  have HSW := Lib.hid (fun v0 v1 v2 v3 v4 v5 v6 v7 v8 v9 v10 w1 (hb : Below w.heap.size w w1) (hf : ∀ w2, Below w1.heap.size w1 w2 → Calls Tryz.prog 39 #[.agg #[v0, v1, v2, v3, v4, v5, v6, v7, v8, v9, v10]] w2 (FmR E o w2)) => swrite_of E v0 v1 v2 v3 v4 v5 v6 v7 v8 v9 v10 o w1 (hg.below hb) (hE.below hb) hfit hf)
  have HLE := Lib.hid (foN_le o)
  generalize (if foN o = 0 then foS o else []) = tx at HSW ⊢
  generalize foN o = nn at *
  clear hk hF hfit hg hE
  go_enter Tryz.func28, Tryz.ntmps28
  go_wp2_with fail
  refine HF.out.mono ?_
  rintro e w1 ⟨hb1, v0, v1, v2, v3, v4, v5, v6, v7, v8, v9, v10, rfl, hf⟩
  have HS1 := Lib.hid (HSW.out v0 v1 v2 v3 v4 v5 v6 v7 v8 v9 v10 w1 hb1 hf)
  have HB1 := Lib.hid hb1
  clear hb1 hf z0 z1 z2 z3 z4 z5 z6 z7 z8 z9 z10 HSW
  go_wp2_with fail
  refine HS1.out.mono ?_
  rintro e w2 ⟨rfl, hb2⟩
  have HB2 := Lib.hid (HB1.out.trans (hb2.mono HB1.out.size))
  clear hb2
  go_wp2_with fail
  refine (must_txt E tx nn HLE.out w2).mono ?_
  rintro e w3 ⟨hb3, ⟨h0, rfl⟩ | ⟨k', hk', h14, rfl⟩⟩
  · have HB3 := Lib.hid (HB2.out.trans (hb3.mono HB2.out.size))
    have H0 := Lib.hid h0
    clear hb3 h0
    go_wp2_with fail
    go_ret
    exact ⟨HB3.out, .inl ⟨H0.out, rfl⟩⟩
  · have HB3 := Lib.hid (HB2.out.trans (hb3.mono HB2.out.size))
    have HK := Lib.hid hk'
    have H14 := Lib.hid h14
    clear hb3 hk' h14
    go_wp2_with fail
    exact ⟨rfl, HB3.out, .inr ⟨k', HK.out, H14.out, rfl⟩⟩
theorem Errs.rangeB {w : World} {E : Nat → Addr} (h : Errs w E) : w.cell? ⟨1, 0, none⟩ = some (.iface 313 (.pointer (some (E 0)))) := by
  have cE := h.cell 0 (by omega)
  simp only [errVar, errAt, List.getD_cons_zero, List.getD_cons_succ] at cE
  exact cE
def rangeB (i j : Int) : Bool := decide (i < 0) || decide (1000000000 ≤ i) || decide (j < -1) || decide (1000000000 ≤ j)
def wrN (m : Msg) (i j : Int) (o : Option Tr) : Nat := if rightM m = false then 4 else if rangeB i j = true then 1 else foN o
def wrS (m : Msg) (i j : Int) (o : Option Tr) : List UInt8 := if rightM m = false then [] else if rangeB i j = true then [] else if foN o = 0 then foS o else []
theorem wrap_of (E : Nat → Addr) (k f t n s r p q c i j : Int) (o : Option Tr) (w : World) (hm : (⟨k, f, t, n, s, r, p, q, c⟩ : Msg).wf) (hg : LibG w) (hi : IdsG w E) (hE : Errs w E) (hfit : ∀ y, o = some y → y.ok 1 ∧ y.shr)
    (hF : rightM ⟨k, f, t, n, s, r, p, q, c⟩ = true → rangeB i j = false → ∀ w1, Below w.heap.size w w1 → Calls Tryz.prog 30 #[.agg #[.int .i64 k, .int .i64 f, .int .i64 t, .int .i64 n, .int .i64 s, .int .i64 r, .int .i64 p, .int .i64 q, .int .i64 c, .int .i64 i, .int .i64 j]] w1 (EnR E o w1)) :
    Calls Tryz.prog 8 #[.agg #[.int .i64 k, .int .i64 f, .int .i64 t, .int .i64 n, .int .i64 s, .int .i64 r, .int .i64 p, .int .i64 q, .int .i64 c, .int .i64 i, .int .i64 j]] w fun e w' => e = .returned (.tuple #[.string (bs (wrS ⟨k, f, t, n, s, r, p, q, c⟩ i j o)), errV E (wrN ⟨k, f, t, n, s, r, p, q, c⟩ i j o)]) ∧ Below w.heap.size w w' := by
  have hb1 := below_alloc1 w (.cells #[.int .i64 k, .int .i64 f, .int .i64 t, .int .i64 n, .int .i64 s, .int .i64 r, .int .i64 p, .int .i64 q, .int .i64 c, .int .i64 i, .int .i64 j] 27)
  have hk := Blk.new w 27 #[.int .i64 k, .int .i64 f, .int .i64 t, .int .i64 n, .int .i64 s, .int .i64 r, .int .i64 p, .int .i64 q, .int .i64 c, .int .i64 i, .int .i64 j]
  have HLR := Lib.hid (lright_any ⟨k, f, t, n, s, r, p, q, c⟩ hm _ E (hi.below hb1))
  unfold msgV at HLR
  simp only at HLR
  have z0 := (hk.cell 0).trans rfl
  have z1 := (hk.cell 1).trans rfl
  have z2 := (hk.cell 2).trans rfl
  have z3 := (hk.cell 3).trans rfl
  have z4 := (hk.cell 4).trans rfl
  have z5 := (hk.cell 5).trans rfl
  have z6 := (hk.cell 6).trans rfl
  have z7 := (hk.cell 7).trans rfl
  have z8 := (hk.cell 8).trans rfl
  have z9 := (hk.cell 9).trans rfl
  have z10 := (hk.cell 10).trans rfl
  have HB1 := Lib.hid hb1
  have HK := Lib.hid hk
  have HE := Lib.hid hE
  unfold wrS wrN
  cases hr : rightM ⟨k, f, t, n, s, r, p, q, c⟩ with
  | false =>
    rw [hr] at HLR
    rw [if_pos rfl, if_pos rfl]
    clear hk hF hfit hg hE hi hm hb1 hr
    go_enter Tryz.func8, Tryz.ntmps8
    go_wp2_with fail
    refine HLR.out.mono ?_
    rintro e w2 ⟨rfl, hb2⟩
    have HB2 := Lib.hid (HB1.out.trans (hb2.mono HB1.out.size))
    have he4 := (HE.out.below HB2.out).formS
    clear hb2 z0 z1 z2 z3 z4 z5 z6 z7 z8 z9 z10
    go_wp2_with fail
    go_quiet (fail)
    go_wp2_with fail
    go_ret2
    exact ⟨rfl, HB2.out.trans ((below_drewN _ _).mono HB2.out.size)⟩
  | true =>
    rw [hr] at HLR
    rw [if_neg (show ¬ (true = false) by decide), if_neg (show ¬ (true = false) by decide)]
    have hcs : (i < 0) ∨ (¬ i < 0 ∧ 1000000000 ≤ i) ∨ (¬ i < 0 ∧ ¬ 1000000000 ≤ i ∧ j < -1) ∨ (¬ i < 0 ∧ ¬ 1000000000 ≤ i ∧ ¬ j < -1 ∧ 1000000000 ≤ j) ∨ (¬ i < 0 ∧ ¬ 1000000000 ≤ i ∧ ¬ j < -1 ∧ ¬ 1000000000 ≤ j) := by omega
    have hout : ((i < 0) ∨ (¬ i < 0 ∧ 1000000000 ≤ i) ∨ (¬ i < 0 ∧ ¬ 1000000000 ≤ i ∧ j < -1) ∨ (¬ i < 0 ∧ ¬ 1000000000 ≤ i ∧ ¬ j < -1 ∧ 1000000000 ≤ j)) → rangeB i j = true := fun h => by
      unfold rangeB
      simp only [Bool.or_eq_true, decide_eq_true_eq]
      omega
    rcases hcs with h | h | h | h | h
    rotate_left 4
    · have hin : rangeB i j = false := by
        unfold rangeB
        simp only [Bool.or_eq_false_iff, decide_eq_false_iff_not]
        omega
      rw [hin, if_neg (show ¬ (false = true) by decide), if_neg (show ¬ (false = true) by decide)]
      obtain ⟨q1, q2, q3, q4⟩ := h
      have hcf := fun xs w => (show (callFunc 28 xs).run Tryz.prog w = .ok (.enter 28 xs) w from by kernel_rfl)
      have hif : (if foN o = 0 then (if foN o = 0 then foS o else []) else []) = (if foN o = 0 then foS o else []) := by split <;> rfl
      have htr := (fun w2 (hb : Below (w.heap.size + 1) (w.alloc (.cells #[.int .i64 k, .int .i64 f, .int .i64 t, .int .i64 n, .int .i64 s, .int .i64 r, .int .i64 p, .int .i64 q, .int .i64 c, .int .i64 i, .int .i64 j] 27)) w2) => try_txt w2 E 28 #[.pointer (some ⟨w.heap.size, 0, none⟩)] (if foN o = 0 then foS o else []) (foN o) (hE.below (hb1.trans (hb.mono (by omega)))) (hcf _)
        (fun w3 hb3 => wrap1_of E w.heap.size k f t n s r p q c i j o w3 (hg.below ((hb1.trans (hb.mono (by omega))).trans (hb3.mono (hb1.trans (hb.mono (by omega))).size))) (hE.below ((hb1.trans (hb.mono (by omega))).trans (hb3.mono (hb1.trans (hb.mono (by omega))).size))) hfit ((hk.below (hb.mono (by simp)) hk.lt).below hb3 (by have := hb.size; rw [World.size_alloc] at this; omega)) (hF hr hin w3 ((hb1.trans (hb.mono (by omega))).trans (hb3.mono (hb1.trans (hb.mono (by omega))).size)))))
      simp only [hif] at htr
      have HTR := Lib.hid htr
      clear htr hif
      have hmf := @run_makeFunc Tryz.prog
      generalize (if foN o = 0 then foS o else []) = tx at *
      clear hout hk hF hfit hg hE hi hm hb1 hr hin hcf
      go_enter Tryz.func8, Tryz.ntmps8
      go_wp2_with fail
      refine HLR.out.mono ?_
      rintro e w2 ⟨rfl, hb2⟩
      have HB2 := Lib.hid (HB1.out.trans (hb2.mono HB1.out.size))
      have hk2 := HK.out.below hb2 HK.out.lt
      have HTW := Lib.hid (HTR.out w2 (hb2.mono (by simp)))
      clear hb2 z0 z1 z2 z3 z4 z5 z6 z7 z8 z9 z10 HTR
      have z9 := (hk2.cell 9).trans rfl
      have z10 := (hk2.cell 10).trans rfl
      clear hk2
      go_wp2_with (go_at_call 27; refine HTW.out.mono ?_; rintro e w3 ⟨rfl, hb3⟩; have HB3 := Lib.hid (HB2.out.trans (hb3.mono HB2.out.size)); clear hb3)
      go_ret2
      exact ⟨rfl, HB3.out⟩
    all_goals
      have h2 := hout (by omega)
      rw [if_pos h2, if_pos h2]
      clear hout h2 hk hF hfit hg hE hi hm hb1 hr z0 z1 z2 z3 z4 z5 z6 z7 z8
      go_enter Tryz.func8, Tryz.ntmps8
      go_wp2_with fail
      refine HLR.out.mono ?_
      rintro e w2 ⟨rfl, hb2⟩
      have HB2 := Lib.hid (HB1.out.trans (hb2.mono HB1.out.size))
      have hk2 := HK.out.below hb2 HK.out.lt
      have he1 := (HE.out.below HB2.out).rangeB
      clear hb2 z9 z10
      have z9 := (hk2.cell 9).trans rfl
      have z10 := (hk2.cell 10).trans rfl
      clear hk2
      go_wp2_with fail
      go_quiet (fail)
      go_wp2_with fail
      go_ret2
      exact ⟨rfl, HB2.out.trans ((below_drewN _ _).mono HB2.out.size)⟩
end Go.Proofs.YthboiahdheehkaaGreatDoor
namespace Go.Proofs.YthboiahdheehkaaGreatDoor
set_option maxHeartbeats 8000000
set_option maxRecDepth 20000
open Go.RowKit Go.Extern.Stop Go.Stop Go.Extern
attribute [local go_sem] bs_toList bs_size
attribute [local irreducible] wpPhi wpPhiU
def refA (aa rs ps : List UInt8) : Array Value := #[.string (bs []), .string (bs cAct), .string (bs aa), .string (bs []), .string (bs cReg), .string (bs rs), .string (bs []), .string (bs cPart), .string (bs ps)]
def refE (g : Nat) : Array Value := #[.string (bs ownL), .string (bs cRef), .slice (some ⟨g, 0, none⟩) 3 3, .slice none 0 0, .string (bs [])]
def PRefr (B0 : Nat) (aa rs ps : List UInt8) : Part :=
  ⟨fun v => ∃ g, v = .agg #[.string (bs ownL), .string (bs cRef), .slice (some ⟨g, 0, none⟩) 3 3, .slice none 0 0, .string (bs [])], fun w v => ∀ g, v = .agg #[.string (bs ownL), .string (bs cRef), .slice (some ⟨g, 0, none⟩) 3 3, .slice none 0 0, .string (bs [])] → B0 ≤ g ∧ Blk w g 87 (refA aa rs ps)⟩
def PSlR (B0 : Nat) (aa rs ps : List UInt8) : Part :=
  ⟨fun v => ∃ h, v = .slice (some ⟨h, 0, none⟩) 1 1, fun w v => ∀ h, v = .slice (some ⟨h, 0, none⟩) 1 1 → B0 ≤ h ∧ ∃ g, B0 ≤ g ∧ Blk w g 87 (refA aa rs ps) ∧ Blk w h 44 (refE g)⟩
theorem PRefr_stays {B0 : Nat} {aa rs ps : List UInt8} {w w' : World} {v : Value} (hb : Below w.heap.size w w') (h : (PRefr B0 aa rs ps).fact w v) : (PRefr B0 aa rs ps).fact w' v := fun g hg => ⟨(h g hg).1, (h g hg).2.below hb (h g hg).2.lt⟩
theorem PSlR_stays {B0 : Nat} {aa rs ps : List UInt8} {w w' : World} {v : Value} (hb : Below w.heap.size w w') (h : (PSlR B0 aa rs ps).fact w v) : (PSlR B0 aa rs ps).fact w' v := fun g hg => by
  obtain ⟨h1, g9, h2, h3, h4⟩ := h g hg
  exact ⟨h1, g9, h2, h3.below hb h3.lt, h4.below hb h4.lt⟩
theorem PRefr_mk {B0 g : Nat} {aa rs ps : List UInt8} {w : World} (h1 : B0 ≤ g) (h2 : Blk w g 87 (refA aa rs ps)) : (PRefr B0 aa rs ps).fact w (.agg #[.string (bs ownL), .string (bs cRef), .slice (some ⟨g, 0, none⟩) 3 3, .slice none 0 0, .string (bs [])]) := fun g' hg' => by
  obtain rfl : g = g' := by simpa using hg'
  exact ⟨h1, h2⟩
theorem Blk.ne {w : World} {g g' : Nat} {t t' : TypeId} {cs cs' : Array Value} (h : Blk w g t cs) (h' : Blk w g' t' cs') (hne : t ≠ t') : g ≠ g' := by
  intro e
  subst e
  unfold Blk at h h'
  rw [h] at h'
  injection h' with h'
  injection h' with _ h2 _
  exact hne h2
theorem refT_trx {w : World} {g : Nat} {P : Nat → Prop} (m : Msg) (hP : P g) (h : Blk w g 87 (refA ((actT m.n m.s).getD []) (dec m.r.toNat) (dec m.p.toNat))) :
    TrX w P (refT m) [.string (bs ownL), .string (bs cRef), .slice (some ⟨g, 0, none⟩) 3 3, .slice none 0 0, .string (bs [])] := by
  unfold refT TrX
  exact ⟨some ⟨g, 0, none⟩, 3, none, 0, [], rfl, ⟨Nat.le_refl _, by decide, rd_blk (xs := acells [[[], cAct, (actT m.n m.s).getD []], [[], cReg, dec m.r.toNat], [[], cPart, dec m.p.toNat]]) h, fun _ a ha => by cases ha; exact hP⟩, ⟨Nat.le_refl _, by decide, .inl rfl, fun a ha => by cases ha⟩, rfl⟩
theorem bodT_trx {w : World} {P : Nat → Prop} {m : Msg} {pa : Option Addr} {na ca : Nat} {xs : List Value} (h : ((saysF m).1 = [] ∧ pa = none ∧ na = 0 ∧ ca = 0) ∨ ((saysF m).1 ≠ [] ∧ na = 1 ∧ 1 ≤ ca ∧ ca ≤ maxLen ∧ xs = [.string (bs []), .string (bs (saysF m).1), .string (bs (saysF m).2)] ∧ Rd w pa xs ∧ ∀ a, pa = some a → P a.block)) :
    TrX w P (bodT m) [.string (bs (spaceF m.k)), .string (bs (kindF m.k)), .slice pa na ca, .slice none 0 0, .string ⟨#[]⟩] := by
  unfold bodT TrX
  rcases h with ⟨h1, rfl, rfl, rfl⟩ | ⟨h1, rfl, h2, h3, rfl, h4, h5⟩
  · rw [if_pos h1]
    exact ⟨none, 0, none, 0, [], rfl, ⟨Nat.le_refl _, by decide, .inl rfl, fun h => absurd rfl h⟩, ⟨Nat.le_refl _, by decide, .inl rfl, fun a ha => by cases ha⟩, rfl⟩
  · rw [if_neg h1]
    exact ⟨pa, ca, none, 0, [], rfl, ⟨h2, h3, h4, fun _ => h5⟩, ⟨Nat.le_refl _, by decide, .inl rfl, fun a ha => by cases ha⟩, rfl⟩
theorem attr25_info : (Tryz.prog.info? 87).map (fun i => (i.zero, i.size, i.bytes)) = some (some (.agg #[.string ⟨#[]⟩, .string ⟨#[]⟩, .string ⟨#[]⟩]), 3, 48) := by kernel_rfl
theorem envelope_any (E : Nat → Addr) (k q c : Int) (f t n s r p i : Nat) (j : Int) (w : World) (hi : IdsG w E) (ht : TabB w) (hk : 1 ≤ k ∧ k ≤ 19) (hf : f < 4) (htt : t < 4) (hn : n < 4 ∧ s < 1000000 ∧ r < 100 ∧ p < 100) (hij : i < 1000000000 ∧ -1 ≤ j ∧ j < 1000000000) :
    Calls Tryz.prog 30 #[.agg #[.int .i64 k, .int .i64 f, .int .i64 t, .int .i64 n, .int .i64 s, .int .i64 r, .int .i64 p, .int .i64 q, .int .i64 c, .int .i64 i, .int .i64 j]] w fun e w' => Below w.heap.size w w' ∧ ∃ cs, e = .returned (.agg cs) ∧ EnvC w' (Bnd.env ⟨⟨k, f, t, n, s, r, p, q, c⟩, i, j⟩) cs := by
  have HBO := Lib.hid (below_alloc (below_alloc (below_alloc1 w (.cells #[.int .i64 k, .int .i64 f, .int .i64 t, .int .i64 n, .int .i64 s, .int .i64 r, .int .i64 p, .int .i64 q, .int .i64 c, .int .i64 i, .int .i64 j] 27)) (.cells #[.string ⟨#[]⟩, .string ⟨#[]⟩, .string ⟨#[]⟩, .string ⟨#[]⟩, .string ⟨#[]⟩, .slice none 0 0, .string ⟨#[]⟩, .string ⟨#[]⟩, .slice none 0 0, .slice none 0 0, .string ⟨#[]⟩] 46)) (.cells #[.int .i64 k, .int .i64 f, .int .i64 t, .int .i64 n, .int .i64 s, .int .i64 r, .int .i64 p, .int .i64 q, .int .i64 c] 25))
  have hn1 := (Blk.new w 27 #[.int .i64 k, .int .i64 f, .int .i64 t, .int .i64 n, .int .i64 s, .int .i64 r, .int .i64 p, .int .i64 q, .int .i64 c, .int .i64 i, .int .i64 j]).alloc (.cells #[.string ⟨#[]⟩, .string ⟨#[]⟩, .string ⟨#[]⟩, .string ⟨#[]⟩, .string ⟨#[]⟩, .slice none 0 0, .string ⟨#[]⟩, .string ⟨#[]⟩, .slice none 0 0, .slice none 0 0, .string ⟨#[]⟩] 46)
  have hn2 := Blk.new (w.alloc (.cells #[.int .i64 k, .int .i64 f, .int .i64 t, .int .i64 n, .int .i64 s, .int .i64 r, .int .i64 p, .int .i64 q, .int .i64 c, .int .i64 i, .int .i64 j] 27)) 46 #[.string ⟨#[]⟩, .string ⟨#[]⟩, .string ⟨#[]⟩, .string ⟨#[]⟩, .string ⟨#[]⟩, .slice none 0 0, .string ⟨#[]⟩, .string ⟨#[]⟩, .slice none 0 0, .slice none 0 0, .string ⟨#[]⟩]
  have hn3 := Blk.new ((w.alloc (.cells #[.int .i64 k, .int .i64 f, .int .i64 t, .int .i64 n, .int .i64 s, .int .i64 r, .int .i64 p, .int .i64 q, .int .i64 c, .int .i64 i, .int .i64 j] 27)).alloc (.cells #[.string ⟨#[]⟩, .string ⟨#[]⟩, .string ⟨#[]⟩, .string ⟨#[]⟩, .string ⟨#[]⟩, .slice none 0 0, .string ⟨#[]⟩, .string ⟨#[]⟩, .slice none 0 0, .slice none 0 0, .string ⟨#[]⟩] 46)) 25 #[.int .i64 k, .int .i64 f, .int .i64 t, .int .i64 n, .int .i64 s, .int .i64 r, .int .i64 p, .int .i64 q, .int .i64 c]
  rw [World.size_alloc] at hn2
  rw [World.size_alloc, World.size_alloc] at hn3
  have z0 := (hn1.cell 0).trans rfl; have z1 := (hn1.cell 1).trans rfl; have z2 := (hn1.cell 2).trans rfl; have z3 := (hn1.cell 3).trans rfl; have z4 := (hn1.cell 4).trans rfl; have z5 := (hn1.cell 5).trans rfl; have z6 := (hn1.cell 6).trans rfl; have z7 := (hn1.cell 7).trans rfl; have z8 := (hn1.cell 8).trans rfl
  have y0 := (hn3.cell 0).trans rfl
  have N1 := Lib.hid (hn1.alloc (.cells #[.int .i64 k, .int .i64 f, .int .i64 t, .int .i64 n, .int .i64 s, .int .i64 r, .int .i64 p, .int .i64 q, .int .i64 c] 25))
  have N2 := Lib.hid (hn2.alloc (.cells #[.int .i64 k, .int .i64 f, .int .i64 t, .int .i64 n, .int .i64 s, .int .i64 r, .int .i64 p, .int .i64 q, .int .i64 c] 25))
  have N3 := Lib.hid hn3
  have HT0 := Lib.hid (ht.below HBO.out)
  have HI0 := Lib.hid (hi.below HBO.out)
  have HS0 := Lib.hid (show (((w.alloc (.cells #[.int .i64 k, .int .i64 f, .int .i64 t, .int .i64 n, .int .i64 s, .int .i64 r, .int .i64 p, .int .i64 q, .int .i64 c, .int .i64 i, .int .i64 j] 27)).alloc (.cells #[.string ⟨#[]⟩, .string ⟨#[]⟩, .string ⟨#[]⟩, .string ⟨#[]⟩, .string ⟨#[]⟩, .slice none 0 0, .string ⟨#[]⟩, .string ⟨#[]⟩, .slice none 0 0, .slice none 0 0, .string ⟨#[]⟩] 46)).alloc (.cells #[.int .i64 k, .int .i64 f, .int .i64 t, .int .i64 n, .int .i64 s, .int .i64 r, .int .i64 p, .int .i64 q, .int .i64 c] 25)).heap.size = w.heap.size + 3 by simp)
  have HRT := Lib.hid hn
  have HTW := Lib.hid ht
  have HIW := Lib.hid hi
  obtain ⟨i8, hi8, hv0, hv1, hv2⟩ := info_parts attr25_info
  have HAC := Lib.hid (fun w' (hi : IdsG w' E) (ht : TabB w') => (action_any k w' E (hi.errs.on [3] rfl) ht.kinds))
  have hac0 : errV E (actE k) = .nilIface := by
    unfold actE
    rw [if_neg (by rw [kind_nil]; omega)]
    rfl
  rw [hac0] at HAC
  have HAT := Lib.hid (fun w' (hi : IdsG w' E) => address_any t htt w' E hi)
  have HAF := Lib.hid (fun w' (hi : IdsG w' E) => address_any f hf w' E hi)
  have HID := Lib.hid (fun w' (hi : IdsG w' E) => id_any i hij.1 w' E hi)
  have HRF := Lib.hid (fun w' (hi : IdsG w' E) => reference_any k f t n s r p q c hn w' E hi)
  rw [show actS n s = (actT (n : Int) s).getD [] from by rw [actT_right (by omega)]; rfl] at HRF
  have HSY := Lib.hid (fun w' (ht : TabB w') => says_any ⟨k, f, t, n, s, r, p, q, c⟩ w' ht)
  have HKN := Lib.hid (fun w' (ht : TabB w') => kindName_any k w' ht.kinds)
  unfold msgV at HSY
  simp only at HSY
  have HSV := Lib.hid (show saysF ⟨k, f, t, n, s, r, p, q, c⟩ = ((saysF ⟨k, f, t, n, s, r, p, q, c⟩).1, (saysF ⟨k, f, t, n, s, r, p, q, c⟩).2) from rfl)
  clear hn1 hn2 hn3 hi ht hf htt hn hac0
  go_enter Tryz.func30, Tryz.ntmps30
  go_wp2_with fail
  refine (HKN.out _ HT0.out).mono ?_
  rintro e w4 ⟨rfl, hb4⟩
  have hz4 := hb4.size
  rw [HS0.out] at hz4
  have hal := below_alloc1 w4 (.cells #[.string (bs (spaceF k)), .string (bs (kindF k)), .slice none 0 0, .slice none 0 0, .string ⟨#[]⟩] 44)
  have n4 := Blk.new w4 44 #[.string (bs (spaceF k)), .string (bs (kindF k)), .slice none 0 0, .slice none 0 0, .string ⟨#[]⟩]
  have hn3 := (N3.out.below hb4 N3.out.lt).alloc (.cells #[.string (bs (spaceF k)), .string (bs (kindF k)), .slice none 0 0, .slice none 0 0, .string ⟨#[]⟩] 44)
  have N1' := Lib.hid ((N1.out.below hb4 N1.out.lt).alloc (.cells #[.string (bs (spaceF k)), .string (bs (kindF k)), .slice none 0 0, .slice none 0 0, .string ⟨#[]⟩] 44))
  have N2' := Lib.hid ((N2.out.below hb4 N2.out.lt).alloc (.cells #[.string (bs (spaceF k)), .string (bs (kindF k)), .slice none 0 0, .slice none 0 0, .string ⟨#[]⟩] 44))
  have N3' := Lib.hid hn3
  have N4 := Lib.hid n4
  have KB := Lib.hid (HBO.out.trans ((hb4.mono HBO.out.size).trans (hal.mono (by omega))))
  have HT4 := Lib.hid ((HT0.out.below hb4).below hal)
  have HI4 := Lib.hid ((HI0.out.below hb4).below hal)
  clear hb4 hal n4 z0 z1 z2 z3 z4 z5 z6 z7 z8 y0 HBO HT0 HI0 N1 N2 N3 HKN HS0
  have y0 := (hn3.cell 0).trans rfl; have y1 := (hn3.cell 1).trans rfl; have y2 := (hn3.cell 2).trans rfl; have y3 := (hn3.cell 3).trans rfl; have y4 := (hn3.cell 4).trans rfl; have y5 := (hn3.cell 5).trans rfl; have y6 := (hn3.cell 6).trans rfl; have y7 := (hn3.cell 7).trans rfl; have y8 := (hn3.cell 8).trans rfl
  clear hn3
  go_wp2_with fail
  generalize hgb : w4.heap.size = gb at *
  have hgl : gb < (w4.alloc (.cells #[.string (bs (spaceF k)), .string (bs (kindF k)), .slice none 0 0, .slice none 0 0, .string ⟨#[]⟩] 44)).heap.size := by rw [World.size_alloc]; omega
  generalize w4.alloc (.cells #[.string (bs (spaceF k)), .string (bs (kindF k)), .slice none 0 0, .slice none 0 0, .string ⟨#[]⟩] 44) = w5 at *
  have HGL := Lib.hid hgl
  have HGB := Lib.hid (show w.heap.size + 2 < gb by omega)
  clear hz4 hgb hgl
  refine (HSY.out w5 HT4.out).mono ?_
  rintro e wq ⟨rfl, hbq⟩
  have K1 := Lib.hid (N1'.out.below hbq N1'.out.lt)
  have K2 := Lib.hid (N2'.out.below hbq N2'.out.lt)
  have K3 := Lib.hid (N3'.out.below hbq N3'.out.lt)
  have K4 := Lib.hid (N4.out.below hbq N4.out.lt)
  have HT := Lib.hid (HT4.out.below hbq)
  have HI := Lib.hid (HI4.out.below hbq)
  have KBQ := Lib.hid (KB.out.trans (hbq.mono KB.out.size))
  have HGQ := Lib.hid (show gb < wq.heap.size from K4.out.lt)
  clear hbq y0 y1 y2 y3 y4 y5 y6 y7 y8 HT4 HI4 N1' N2' N3' N4 KB HSY
  have KB := KBQ
  clear KBQ
  by_cases hs1 : (saysF ⟨k, f, t, n, s, r, p, q, c⟩).1 = []
  · have HBT := Lib.hid (fun w' (_ : ∀ a v, a.block ≠ w.heap.size + 1 → a.block < wq.heap.size → wq.cell? a = some v → w'.cell? a = some v) => bodT_trx (w := w') (P := fun b => b < wq.heap.size) (m := ⟨k, f, t, n, s, r, p, q, c⟩) (pa := none) (na := 0) (ca := 0) (xs := []) (.inl ⟨hs1, rfl, rfl, rfl⟩))
    rw [hs1]
    go_wp2_with fail
    refine wp_phi_tail (List.take 21 _) (List.drop 21 _) (List.take_append_drop 21 _).symm (fun w' => (Blk w' w.heap.size 27 #[.int .i64 k, .int .i64 f, .int .i64 t, .int .i64 n, .int .i64 s, .int .i64 r, .int .i64 p, .int .i64 q, .int .i64 c, .int .i64 i, .int .i64 j]) ∧ (Blk w' (w.heap.size + 1 + 1) 25 #[.int .i64 k, .int .i64 f, .int .i64 t, .int .i64 n, .int .i64 s, .int .i64 r, .int .i64 p, .int .i64 q, .int .i64 c]) ∧ (Blk w' gb 44 #[.string (bs (spaceF k)), .string (bs (kindF k)), .slice (none) 0 (0), .slice none 0 0, .string ⟨#[]⟩]) ∧ (TabB w') ∧ (IdsG w' E) ∧ Below wq.heap.size wq w') [(2, PVal (.tuple #[.string (bs (actF k)), .nilIface])), (5, PVal (.string (bs (actF k)))), (8, PVal (.string (bs (addrS t)))), (11, PVal (.string (bs (addrS f)))), (14, PVal (.string (bs (idS i)))), (16, PRefr wq.heap.size ((actT n s).getD []) (dec r) (dec p)), (17, PSlR wq.heap.size ((actT n s).getD []) (dec r) (dec p)), (20, PNew (wq.heap.size) 46 #[.string ⟨#[]⟩, .string ⟨#[]⟩, .string ⟨#[]⟩, .string ⟨#[]⟩, .string ⟨#[]⟩, .slice none 0 0, .string ⟨#[]⟩, .string ⟨#[]⟩, .slice none 0 0, .slice none 0 0, .string ⟨#[]⟩])] [(17, [16])] (by kernel_rfl) (by kernel_rfl) ?_ ?_ ⟨K1.out, K3.out, K4.out, HT.out.below (Below.drew (Below.refl _ _)), HI.out.below (Below.drew (Below.refl _ _)), ((Below.refl _ wq)).drew⟩ ?_
    · rintro w1' w2' ⟨f1, f2, f3, f4, f5, hIB⟩ hb
      exact ⟨(by first | exact f1.below hb | exact f1.keep (Below.keeps hb) | exact Below.keeps hb _ _ f1 | exact Blk.below f1 hb (Blk.lt f1)), (by first | exact f2.below hb | exact f2.keep (Below.keeps hb) | exact Below.keeps hb _ _ f2 | exact Blk.below f2 hb (Blk.lt f2)), (by first | exact f3.below hb | exact f3.keep (Below.keeps hb) | exact Below.keeps hb _ _ f3 | exact Blk.below f3 hb (Blk.lt f3)), (by first | exact f4.below hb | exact f4.keep (Below.keeps hb) | exact Below.keeps hb _ _ f4 | exact Blk.below f4 hb (Blk.lt f4)), (by first | exact f5.below hb | exact f5.keep (Below.keeps hb) | exact Below.keeps hb _ _ f5 | exact Blk.below f5 hb (Blk.lt f5)), hIB.trans (hb.mono hIB.size)⟩
    · simp only [List.mem_cons, List.not_mem_nil, or_false, forall_eq_or_imp, forall_eq]
      exact ⟨fun _ _ _ _ h' h => PVal_stays _ _ _ _ h' h, fun _ _ _ _ h' h => PVal_stays _ _ _ _ h' h, fun _ _ _ _ h' h => PVal_stays _ _ _ _ h' h, fun _ _ _ _ h' h => PVal_stays _ _ _ _ h' h, fun _ _ _ _ h' h => PVal_stays _ _ _ _ h' h, fun _ _ _ _ h' h => PRefr_stays h' h, fun _ _ _ _ h' h => PSlR_stays h' h, fun _ _ _ _ h' h => PNew_stays h' h⟩
    simp only [List.take_succ_cons, List.take_zero, List.drop_succ_cons, List.drop_zero]
    repeat (first | (refine phi_skipK rfl (fun K hK => ?_); simp only [Act.put, List.setIfInBounds_toArray, List.set_cons_succ, List.set_cons_zero, List.cons_append, List.nil_append]; apply hK; clear hK K) | (refine phi_pureK rfl rfl (fun K hK => ?_); apply Exists.intro; constructor; (focus (rintro w' ⟨f1, f2, f3, f4, f5, hIB⟩; have m0 := (f2.cell 0).trans rfl; have m1 := (f2.cell 1).trans rfl; have m2 := (f2.cell 2).trans rfl; have m3 := (f2.cell 3).trans rfl; have m4 := (f2.cell 4).trans rfl; have m5 := (f2.cell 5).trans rfl; have m6 := (f2.cell 6).trans rfl; have m7 := (f2.cell 7).trans rfl; have m8 := (f2.cell 8).trans rfl; have c9 := (f1.cell 9).trans rfl; have b0 := (f3.cell 0).trans rfl; have b1 := (f3.cell 1).trans rfl; have b2 := (f3.cell 2).trans rfl; have b3 := (f3.cell 3).trans rfl; have b4 := (f3.cell 4).trans rfl; clear f1 f2 f3 f4 f5 hIB; first | (go_simp; done) | (go_simp; (try go_bits); (try go_simp); rfl) | go_simp)); simp only [Act.put, List.setIfInBounds_toArray, List.set_cons_succ, List.set_cons_zero, List.cons_append, List.nil_append]; apply hK; clear hK K))
    refine phi_partK (PVal (.tuple #[.string (bs (actF k)), .nilIface])) rfl rfl ⟨_, rfl⟩ ?_ (fun K hK v hv => ?_)
    · rintro w' ⟨f1, f2, f3, f4, f5, hIB⟩ hf
      unfold gives
      clear hf
      go_simp
      refine (HAC.out _ f5 f4).mono ?_
      rintro e w'' ⟨rfl, hb⟩
      exact ⟨_, rfl, rfl, trivial, hb⟩
    obtain rfl : v = _ := hv
    simp only [Act.put, List.setIfInBounds_toArray, List.set_cons_succ, List.set_cons_zero, List.cons_append, List.nil_append]
    apply hK
    clear hK K
    repeat (first | (refine phi_skipK rfl (fun K hK => ?_); simp only [Act.put, List.setIfInBounds_toArray, List.set_cons_succ, List.set_cons_zero, List.cons_append, List.nil_append]; apply hK; clear hK K) | (refine phi_pureK rfl rfl (fun K hK => ?_); apply Exists.intro; constructor; (focus (rintro w' ⟨f1, f2, f3, f4, f5, hIB⟩; have m0 := (f2.cell 0).trans rfl; have m1 := (f2.cell 1).trans rfl; have m2 := (f2.cell 2).trans rfl; have m3 := (f2.cell 3).trans rfl; have m4 := (f2.cell 4).trans rfl; have m5 := (f2.cell 5).trans rfl; have m6 := (f2.cell 6).trans rfl; have m7 := (f2.cell 7).trans rfl; have m8 := (f2.cell 8).trans rfl; have c9 := (f1.cell 9).trans rfl; have b0 := (f3.cell 0).trans rfl; have b1 := (f3.cell 1).trans rfl; have b2 := (f3.cell 2).trans rfl; have b3 := (f3.cell 3).trans rfl; have b4 := (f3.cell 4).trans rfl; clear f1 f2 f3 f4 f5 hIB; first | (go_simp; done) | (go_simp; (try go_bits); (try go_simp); rfl) | go_simp)); simp only [Act.put, List.setIfInBounds_toArray, List.set_cons_succ, List.set_cons_zero, List.cons_append, List.nil_append]; apply hK; clear hK K))
    refine phi_partK (PVal (.string (bs (actF k)))) rfl rfl ⟨_, rfl⟩ ?_ (fun K hK v hv => ?_)
    · rintro w' ⟨f1, f2, f3, f4, f5, hIB⟩ hf
      unfold gives
      clear hf
      go_simp
      refine (must_strG (actF k) _).mono ?_
      rintro e w'' ⟨rfl, hb⟩
      exact ⟨_, rfl, rfl, trivial, hb⟩
    obtain rfl : v = _ := hv
    simp only [Act.put, List.setIfInBounds_toArray, List.set_cons_succ, List.set_cons_zero, List.cons_append, List.nil_append]
    apply hK
    clear hK K
    repeat (first | (refine phi_skipK rfl (fun K hK => ?_); simp only [Act.put, List.setIfInBounds_toArray, List.set_cons_succ, List.set_cons_zero, List.cons_append, List.nil_append]; apply hK; clear hK K) | (refine phi_pureK rfl rfl (fun K hK => ?_); apply Exists.intro; constructor; (focus (rintro w' ⟨f1, f2, f3, f4, f5, hIB⟩; have m0 := (f2.cell 0).trans rfl; have m1 := (f2.cell 1).trans rfl; have m2 := (f2.cell 2).trans rfl; have m3 := (f2.cell 3).trans rfl; have m4 := (f2.cell 4).trans rfl; have m5 := (f2.cell 5).trans rfl; have m6 := (f2.cell 6).trans rfl; have m7 := (f2.cell 7).trans rfl; have m8 := (f2.cell 8).trans rfl; have c9 := (f1.cell 9).trans rfl; have b0 := (f3.cell 0).trans rfl; have b1 := (f3.cell 1).trans rfl; have b2 := (f3.cell 2).trans rfl; have b3 := (f3.cell 3).trans rfl; have b4 := (f3.cell 4).trans rfl; clear f1 f2 f3 f4 f5 hIB; first | (go_simp; done) | (go_simp; (try go_bits); (try go_simp); rfl) | go_simp)); simp only [Act.put, List.setIfInBounds_toArray, List.set_cons_succ, List.set_cons_zero, List.cons_append, List.nil_append]; apply hK; clear hK K))
    refine phi_partK (PVal (.string (bs (addrS t)))) rfl rfl ⟨_, rfl⟩ ?_ (fun K hK v hv => ?_)
    · rintro w' ⟨f1, f2, f3, f4, f5, hIB⟩ hf
      unfold gives
      clear hf
      go_simp
      refine (HAT.out _ f5).mono ?_
      rintro e w'' ⟨rfl, hb⟩
      exact ⟨_, rfl, rfl, trivial, hb⟩
    obtain rfl : v = _ := hv
    simp only [Act.put, List.setIfInBounds_toArray, List.set_cons_succ, List.set_cons_zero, List.cons_append, List.nil_append]
    apply hK
    clear hK K
    repeat (first | (refine phi_skipK rfl (fun K hK => ?_); simp only [Act.put, List.setIfInBounds_toArray, List.set_cons_succ, List.set_cons_zero, List.cons_append, List.nil_append]; apply hK; clear hK K) | (refine phi_pureK rfl rfl (fun K hK => ?_); apply Exists.intro; constructor; (focus (rintro w' ⟨f1, f2, f3, f4, f5, hIB⟩; have m0 := (f2.cell 0).trans rfl; have m1 := (f2.cell 1).trans rfl; have m2 := (f2.cell 2).trans rfl; have m3 := (f2.cell 3).trans rfl; have m4 := (f2.cell 4).trans rfl; have m5 := (f2.cell 5).trans rfl; have m6 := (f2.cell 6).trans rfl; have m7 := (f2.cell 7).trans rfl; have m8 := (f2.cell 8).trans rfl; have c9 := (f1.cell 9).trans rfl; have b0 := (f3.cell 0).trans rfl; have b1 := (f3.cell 1).trans rfl; have b2 := (f3.cell 2).trans rfl; have b3 := (f3.cell 3).trans rfl; have b4 := (f3.cell 4).trans rfl; clear f1 f2 f3 f4 f5 hIB; first | (go_simp; done) | (go_simp; (try go_bits); (try go_simp); rfl) | go_simp)); simp only [Act.put, List.setIfInBounds_toArray, List.set_cons_succ, List.set_cons_zero, List.cons_append, List.nil_append]; apply hK; clear hK K))
    refine phi_partK (PVal (.string (bs (addrS f)))) rfl rfl ⟨_, rfl⟩ ?_ (fun K hK v hv => ?_)
    · rintro w' ⟨f1, f2, f3, f4, f5, hIB⟩ hf
      unfold gives
      clear hf
      go_simp
      refine (HAF.out _ f5).mono ?_
      rintro e w'' ⟨rfl, hb⟩
      exact ⟨_, rfl, rfl, trivial, hb⟩
    obtain rfl : v = _ := hv
    simp only [Act.put, List.setIfInBounds_toArray, List.set_cons_succ, List.set_cons_zero, List.cons_append, List.nil_append]
    apply hK
    clear hK K
    repeat (first | (refine phi_skipK rfl (fun K hK => ?_); simp only [Act.put, List.setIfInBounds_toArray, List.set_cons_succ, List.set_cons_zero, List.cons_append, List.nil_append]; apply hK; clear hK K) | (refine phi_pureK rfl rfl (fun K hK => ?_); apply Exists.intro; constructor; (focus (rintro w' ⟨f1, f2, f3, f4, f5, hIB⟩; have m0 := (f2.cell 0).trans rfl; have m1 := (f2.cell 1).trans rfl; have m2 := (f2.cell 2).trans rfl; have m3 := (f2.cell 3).trans rfl; have m4 := (f2.cell 4).trans rfl; have m5 := (f2.cell 5).trans rfl; have m6 := (f2.cell 6).trans rfl; have m7 := (f2.cell 7).trans rfl; have m8 := (f2.cell 8).trans rfl; have c9 := (f1.cell 9).trans rfl; have b0 := (f3.cell 0).trans rfl; have b1 := (f3.cell 1).trans rfl; have b2 := (f3.cell 2).trans rfl; have b3 := (f3.cell 3).trans rfl; have b4 := (f3.cell 4).trans rfl; clear f1 f2 f3 f4 f5 hIB; first | (go_simp; done) | (go_simp; (try go_bits); (try go_simp); rfl) | go_simp)); simp only [Act.put, List.setIfInBounds_toArray, List.set_cons_succ, List.set_cons_zero, List.cons_append, List.nil_append]; apply hK; clear hK K))
    refine phi_partK (PVal (.string (bs (idS i)))) rfl rfl ⟨_, rfl⟩ ?_ (fun K hK v hv => ?_)
    · rintro w' ⟨f1, f2, f3, f4, f5, hIB⟩ hf
      unfold gives
      clear hf
      go_simp
      refine (HID.out _ f5).mono ?_
      rintro e w'' ⟨rfl, hb⟩
      exact ⟨_, rfl, rfl, trivial, hb⟩
    obtain rfl : v = _ := hv
    simp only [Act.put, List.setIfInBounds_toArray, List.set_cons_succ, List.set_cons_zero, List.cons_append, List.nil_append]
    apply hK
    clear hK K
    repeat (first | (refine phi_skipK rfl (fun K hK => ?_); simp only [Act.put, List.setIfInBounds_toArray, List.set_cons_succ, List.set_cons_zero, List.cons_append, List.nil_append]; apply hK; clear hK K) | (refine phi_pureK rfl rfl (fun K hK => ?_); apply Exists.intro; constructor; (focus (rintro w' ⟨f1, f2, f3, f4, f5, hIB⟩; have m0 := (f2.cell 0).trans rfl; have m1 := (f2.cell 1).trans rfl; have m2 := (f2.cell 2).trans rfl; have m3 := (f2.cell 3).trans rfl; have m4 := (f2.cell 4).trans rfl; have m5 := (f2.cell 5).trans rfl; have m6 := (f2.cell 6).trans rfl; have m7 := (f2.cell 7).trans rfl; have m8 := (f2.cell 8).trans rfl; have c9 := (f1.cell 9).trans rfl; have b0 := (f3.cell 0).trans rfl; have b1 := (f3.cell 1).trans rfl; have b2 := (f3.cell 2).trans rfl; have b3 := (f3.cell 3).trans rfl; have b4 := (f3.cell 4).trans rfl; clear f1 f2 f3 f4 f5 hIB; first | (go_simp; done) | (go_simp; (try go_bits); (try go_simp); rfl) | go_simp)); simp only [Act.put, List.setIfInBounds_toArray, List.set_cons_succ, List.set_cons_zero, List.cons_append, List.nil_append]; apply hK; clear hK K))
    refine phi_partK (PRefr wq.heap.size ((actT n s).getD []) (dec r) (dec p)) rfl rfl ⟨_, 0, rfl⟩ ?_ (fun K hK v hv => ?_)
    · rintro w' ⟨f1, f2, f3, f4, f5, hIB⟩ hf
      have HRR := Lib.hid (HRF.out w' f5)
      have HGS := Lib.hid hIB.size
      clear hf f1 f2 f3 f4 f5 hIB
      unfold gives
      go_simp
      refine HRR.out.mono ?_
      rintro e w'' ⟨g, rfl, h1, h2, h3, h4⟩
      exact ⟨_, rfl, ⟨g, rfl⟩, PRefr_mk (by have := HGS.out; omega) h3, h4⟩
    obtain ⟨gr, rfl⟩ := hv
    simp only [Act.put, List.setIfInBounds_toArray, List.set_cons_succ, List.set_cons_zero, List.cons_append, List.nil_append]
    apply hK
    clear hK K
    repeat (first | (refine phi_skipK rfl (fun K hK => ?_); simp only [Act.put, List.setIfInBounds_toArray, List.set_cons_succ, List.set_cons_zero, List.cons_append, List.nil_append]; apply hK; clear hK K) | (refine phi_pureK rfl rfl (fun K hK => ?_); apply Exists.intro; constructor; (focus (rintro w' ⟨f1, f2, f3, f4, f5, hIB⟩; have m0 := (f2.cell 0).trans rfl; have m1 := (f2.cell 1).trans rfl; have m2 := (f2.cell 2).trans rfl; have m3 := (f2.cell 3).trans rfl; have m4 := (f2.cell 4).trans rfl; have m5 := (f2.cell 5).trans rfl; have m6 := (f2.cell 6).trans rfl; have m7 := (f2.cell 7).trans rfl; have m8 := (f2.cell 8).trans rfl; have c9 := (f1.cell 9).trans rfl; have b0 := (f3.cell 0).trans rfl; have b1 := (f3.cell 1).trans rfl; have b2 := (f3.cell 2).trans rfl; have b3 := (f3.cell 3).trans rfl; have b4 := (f3.cell 4).trans rfl; clear f1 f2 f3 f4 f5 hIB; first | (go_simp; done) | (go_simp; (try go_bits); (try go_simp); rfl) | go_simp)); simp only [Act.put, List.setIfInBounds_toArray, List.set_cons_succ, List.set_cons_zero, List.cons_append, List.nil_append]; apply hK; clear hK K))
    refine phi_partK (PSlR wq.heap.size ((actT n s).getD []) (dec r) (dec p)) rfl rfl ⟨_, 0, rfl⟩ ?_ (fun K hK v hv => ?_)
    · rintro w' ⟨f1, f2, f3, f4, f5, hIB⟩ hf
      have hfr := hf (16, fun w1 => (PRefr wq.heap.size ((actT n s).getD []) (dec r) (dec p)).fact w1 (.agg #[.string (bs ownL), .string (bs cRef), .slice (some ⟨gr, 0, none⟩) 3 3, .slice none 0 0, .string (bs [])])) (by simp) (List.contains_iff_mem.1 rfl)
      have HFR := Lib.hid (hfr gr rfl)
      have HGS := Lib.hid hIB.size
      clear hfr hf f1 f2 f3 f4 f5 hIB
      unfold gives
      go_simp
      refine ⟨⟨_, rfl⟩, fun g hg => ?_, below_alloc1 _ _⟩
      obtain rfl : w'.heap.size = g := by simpa using hg
      exact ⟨HGS.out, gr, HFR.out.1, HFR.out.2.below (below_alloc1 _ _) HFR.out.2.lt, Blk.new _ _ _⟩
    obtain ⟨gs, rfl⟩ := hv
    simp only [Act.put, List.setIfInBounds_toArray, List.set_cons_succ, List.set_cons_zero, List.cons_append, List.nil_append]
    apply hK
    clear hK K
    repeat (first | (refine phi_skipK rfl (fun K hK => ?_); simp only [Act.put, List.setIfInBounds_toArray, List.set_cons_succ, List.set_cons_zero, List.cons_append, List.nil_append]; apply hK; clear hK K) | (refine phi_pureK rfl rfl (fun K hK => ?_); apply Exists.intro; constructor; (focus (rintro w' ⟨f1, f2, f3, f4, f5, hIB⟩; have m0 := (f2.cell 0).trans rfl; have m1 := (f2.cell 1).trans rfl; have m2 := (f2.cell 2).trans rfl; have m3 := (f2.cell 3).trans rfl; have m4 := (f2.cell 4).trans rfl; have m5 := (f2.cell 5).trans rfl; have m6 := (f2.cell 6).trans rfl; have m7 := (f2.cell 7).trans rfl; have m8 := (f2.cell 8).trans rfl; have c9 := (f1.cell 9).trans rfl; have b0 := (f3.cell 0).trans rfl; have b1 := (f3.cell 1).trans rfl; have b2 := (f3.cell 2).trans rfl; have b3 := (f3.cell 3).trans rfl; have b4 := (f3.cell 4).trans rfl; clear f1 f2 f3 f4 f5 hIB; first | (go_simp; done) | (go_simp; (try go_bits); (try go_simp); rfl) | go_simp)); simp only [Act.put, List.setIfInBounds_toArray, List.set_cons_succ, List.set_cons_zero, List.cons_append, List.nil_append]; apply hK; clear hK K))
    refine phi_partK (PNew (wq.heap.size) 46 #[.string ⟨#[]⟩, .string ⟨#[]⟩, .string ⟨#[]⟩, .string ⟨#[]⟩, .string ⟨#[]⟩, .slice none 0 0, .string ⟨#[]⟩, .string ⟨#[]⟩, .slice none 0 0, .slice none 0 0, .string ⟨#[]⟩]) rfl rfl ⟨_, 0, rfl⟩ ?_ (fun K hK v hv => ?_)
    · rintro w' ⟨f1, f2, f3, f4, f5, hIB⟩ hf
      have HGS := Lib.hid hIB.size
      clear hf f1 f2 f3 f4 f5 hIB
      unfold gives
      go_simp
      refine ⟨⟨_, rfl⟩, fun g hg => ?_, below_alloc1 _ _⟩
      obtain rfl : w'.heap.size = g := by simpa using hg
      exact ⟨HGS.out, Blk.new _ _ _⟩
    obtain ⟨g_20, rfl⟩ := hv
    simp only [Act.put, List.setIfInBounds_toArray, List.set_cons_succ, List.set_cons_zero, List.cons_append, List.nil_append]
    apply hK
    clear hK K
    repeat (first | (refine phi_skipK rfl (fun K hK => ?_); simp only [Act.put, List.setIfInBounds_toArray, List.set_cons_succ, List.set_cons_zero, List.cons_append, List.nil_append]; apply hK; clear hK K) | (refine phi_pureK rfl rfl (fun K hK => ?_); apply Exists.intro; constructor; (focus (rintro w' ⟨f1, f2, f3, f4, f5, hIB⟩; have m0 := (f2.cell 0).trans rfl; have m1 := (f2.cell 1).trans rfl; have m2 := (f2.cell 2).trans rfl; have m3 := (f2.cell 3).trans rfl; have m4 := (f2.cell 4).trans rfl; have m5 := (f2.cell 5).trans rfl; have m6 := (f2.cell 6).trans rfl; have m7 := (f2.cell 7).trans rfl; have m8 := (f2.cell 8).trans rfl; have c9 := (f1.cell 9).trans rfl; have b0 := (f3.cell 0).trans rfl; have b1 := (f3.cell 1).trans rfl; have b2 := (f3.cell 2).trans rfl; have b3 := (f3.cell 3).trans rfl; have b4 := (f3.cell 4).trans rfl; clear f1 f2 f3 f4 f5 hIB; first | (go_simp; done) | (go_simp; (try go_bits); (try go_simp); rfl) | go_simp)); simp only [Act.put, List.setIfInBounds_toArray, List.set_cons_succ, List.set_cons_zero, List.cons_append, List.nil_append]; apply hK; clear hK K))
    refine phi_done ?_
    rintro w5 ⟨f1, f2, f3, f4, f5, hb5⟩ hk9
    have hb_20 := hk9 (20, fun w1 => (PNew (wq.heap.size) 46 #[.string ⟨#[]⟩, .string ⟨#[]⟩, .string ⟨#[]⟩, .string ⟨#[]⟩, .string ⟨#[]⟩, .slice none 0 0, .string ⟨#[]⟩, .string ⟨#[]⟩, .slice none 0 0, .slice none 0 0, .string ⟨#[]⟩]).fact w1 (.pointer (some ⟨g_20, 0, none⟩))) (by simp) g_20 rfl
    have hfs := hk9 (17, fun w1 => (PSlR wq.heap.size ((actT n s).getD []) (dec r) (dec p)).fact w1 (.slice (some ⟨gs, 0, none⟩) 1 1)) (by simp) gs rfl
    obtain ⟨hgs, g9, hg9, hk9r, hk9s⟩ := hfs
    obtain ⟨hg20, hk20⟩ := hb_20
    generalize g_20 = ge at *
    have hne1 : gs ≠ ge := fun e => by
      unfold Blk at hk9s hk20
      rw [e, hk20] at hk9s
      cases hk9s
    have hne2 : g9 ≠ ge := fun e => by
      unfold Blk at hk9r hk20
      rw [e, hk20] at hk9r
      cases hk9r
    have hzq := HGB.out
    have hzg := HGQ.out
    have hz5 := hb5.size
    refine wpList_store (.tmp 7) (.tmp 48) 46 rfl rfl ge 0 _ _ #[.string (bs (actF k)), .string (bs (addrS t)), .string (bs (idS i)), .string (bs (addrS f)), .string ⟨#[]⟩, .slice (some ⟨gs, 0, none⟩) 1 1, .string (bs (spaceF k)), .string (bs (kindF k)), .slice (none) 0 (0), .slice none 0 0, .string ⟨#[]⟩] rfl rfl hk20 (by kernel_rfl) (by simp [Value.oneCell']) (by simp) ?_
    intro w6 hb6 ho6
    rw [putCells_all #[.string ⟨#[]⟩, .string ⟨#[]⟩, .string ⟨#[]⟩, .string ⟨#[]⟩, .string ⟨#[]⟩, .slice none 0 0, .string ⟨#[]⟩, .string ⟨#[]⟩, .slice none 0 0, .slice none 0 0, .string ⟨#[]⟩] #[.string (bs (actF k)), .string (bs (addrS t)), .string (bs (idS i)), .string (bs (addrS f)), .string ⟨#[]⟩, .slice (some ⟨gs, 0, none⟩) 1 1, .string (bs (spaceF k)), .string (bs (kindF k)), .slice (none) 0 (0), .slice none 0 0, .string ⟨#[]⟩] rfl] at hb6
    have X1 := Lib.hid (ho6.blk f1 (by omega))
    have X2 := Lib.hid (ho6.blk (K2.out.below hb5 K2.out.lt) (by omega))
    have XR := Lib.hid (ho6.blk hk9r hne2)
    have XS := Lib.hid (ho6.blk hk9s hne1)
    have XE := Lib.hid hb6
    have XB := Lib.hid (KB.out.trans ((hb5.mono (by have := KB.out.size; omega)).trans (ho6.below (by have := KB.out.size; omega))))
    have XQ := Lib.hid (hb5.trans (ho6.below (by omega)) : Below wq.heap.size wq w6)
    have XI := Lib.hid (HI.out.below XQ.out)
    have XZ := Lib.hid (show w.heap.size + 2 < wq.heap.size ∧ wq.heap.size ≤ ge from ⟨by omega, by omega⟩)
    clear f1 f2 f3 f4 f5 hb5 hk9 hgs hg9 hk9r hk9s hg20 hk20 hne1 hne2 hb6 ho6 K1 K2 K3 K4 HT HAC HAT HAF HID HRF hzq hzg hz5
    have c10 := (X1.out.cell 10).trans rfl
    by_cases hj : 0 ≤ j
    · obtain ⟨jn, rfl⟩ := Int.eq_ofNat_of_zero_le hj
      have HIJ := Lib.hid (id_any jn (by omega) w6 E XI.out)
      go_wp2_with fail
      refine HIJ.out.mono ?_
      rintro e w7 ⟨rfl, hb7⟩
      have e7 := XE.out.below hb7 XE.out.lt
      have f4 := e7.frozen 4
      have k4 := (e7.cell 4).trans rfl
      have e8 := e7.set_ 4 (.string (bs (idS (jn : Int))))
      have q0 := (e8.cell 0).trans rfl; have q1 := (e8.cell 1).trans rfl; have q2 := (e8.cell 2).trans rfl; have q3 := (e8.cell 3).trans rfl; have q4 := (e8.cell 4).trans rfl; have q5 := (e8.cell 5).trans rfl; have q6 := (e8.cell 6).trans rfl; have q7 := (e8.cell 7).trans rfl; have q8 := (e8.cell 8).trans rfl; have q9 := (e8.cell 9).trans rfl; have q10 := (e8.cell 10).trans rfl
      have hxz := XZ.out
      have O9 := ((Only.refl ge w7).set_ 4 (.string (bs (idS (jn : Int)))))
      have X27 := Lib.hid (O9.blk (X2.out.below hb7 X2.out.lt) (by omega))
      have XR7 := O9.blk (XR.out.below hb7 XR.out.lt) (XR.out.ne XE.out (by decide))
      have XS7 := O9.blk (XS.out.below hb7 XS.out.lt) (XS.out.ne XE.out (by decide))
      have XB7 := XB.out.trans ((hb7.mono XB.out.size).trans (O9.below (by omega)))
      have hz7 := hb7.size
      have hzo := O9.size
      have hzq := XQ.out.size
      have hne := Lib.hid (show g9 ≠ w.heap.size + 1 ∧ gs ≠ w.heap.size + 1 from ⟨XR.out.ne X2.out (by decide), XS.out.ne X2.out (by decide)⟩)
      have KQ7 : ∀ a v, a.block < wq.heap.size → wq.cell? a = some v → (w7.setCell ⟨ge, 4, none⟩ (.string (bs (idS (jn : Int))))).cell? a = some v := fun a v h1 h2 => (World.cell?_of_block (O9.block a.block (by omega))).trans (Below.keeps hb7 _ _ (Below.keeps XQ.out _ _ h2))
      have hn1 := hne.out.1
      have hn2 := hne.out.2
      have HIF := Lib.hid (if_pos hj : (if (0 : Int) ≤ (jn : Int) then idS (jn : Int) else []) = idS (jn : Int))
      clear hb7 e7 O9 XR XS XE X1 X2 XI XB XQ XZ KB hne
      go_wp2_with (refine wpList_store (.tmp 2) (.tmp 56) 46 rfl rfl (w.heap.size + 1) 0 _ _ #[.string (bs (actF k)), .string (bs (addrS t)), .string (bs (idS i)), .string (bs (addrS f)), .string (bs (idS (jn : Int))), .slice (some ⟨gs, 0, none⟩) 1 1, .string (bs (spaceF k)), .string (bs (kindF k)), .slice (none) 0 (0), .slice none 0 0, .string ⟨#[]⟩] rfl rfl X27.out (by kernel_rfl) (by simp [Value.oneCell']) (by simp) ?_)
      intro w8 hb8 ho8
      rw [putCells_all #[.string ⟨#[]⟩, .string ⟨#[]⟩, .string ⟨#[]⟩, .string ⟨#[]⟩, .string ⟨#[]⟩, .slice none 0 0, .string ⟨#[]⟩, .string ⟨#[]⟩, .slice none 0 0, .slice none 0 0, .string ⟨#[]⟩] #[.string (bs (actF k)), .string (bs (addrS t)), .string (bs (idS i)), .string (bs (addrS f)), .string (bs (idS (jn : Int))), .slice (some ⟨gs, 0, none⟩) 1 1, .string (bs (spaceF k)), .string (bs (kindF k)), .slice (none) 0 (0), .slice none 0 0, .string ⟨#[]⟩] rfl] at hb8
      have u0 := (hb8.cell 0).trans rfl; have u1 := (hb8.cell 1).trans rfl; have u2 := (hb8.cell 2).trans rfl; have u3 := (hb8.cell 3).trans rfl; have u4 := (hb8.cell 4).trans rfl; have u5 := (hb8.cell 5).trans rfl; have u6 := (hb8.cell 6).trans rfl; have u7 := (hb8.cell 7).trans rfl; have u8 := (hb8.cell 8).trans rfl; have u9 := (hb8.cell 9).trans rfl; have u10 := (hb8.cell 10).trans rfl
      have XF := Lib.hid (XB7.trans (ho8.below (by omega)))
      have hzf := ho8.size
      have YR := Lib.hid (ho8.blk XR7 (by omega))
      have YS := Lib.hid (ho8.blk XS7 (by omega))
      have YB := Lib.hid (HBT.out w8 (fun a v h1 h2 h3 => (World.cell?_of_block (ho8.block a.block h1)).trans (KQ7 a v h2 h3)))
      have YZ := Lib.hid (show wq.heap.size ≤ w8.heap.size ∧ g9 < w8.heap.size ∧ gs < w8.heap.size from ⟨by omega, YR.out.lt, YS.out.lt⟩)
      clear hb8 ho8 hzf XR7 XS7 KQ7
      go_wp2_with fail
      refine bodyPost_ret (v := .agg #[.string (bs (actF k)), .string (bs (addrS t)), .string (bs (idS i)), .string (bs (addrS f)), .string (bs (idS (jn : Int))), .slice (some ⟨gs, 0, none⟩) 1 1, .string (bs (spaceF k)), .string (bs (kindF k)), .slice (none) 0 (0), .slice none 0 0, .string ⟨#[]⟩]) (by simp [results, Tryz.results30, go_sem, u0, u1, u2, u3, u4, u5, u6, u7, u8, u9, u10]) rfl ?_
      refine ⟨XF.out, _, rfl, some ⟨gs, 0, none⟩, 1, [[.string (bs ownL), .string (bs cRef), .slice (some ⟨g9, 0, none⟩) 3 3, .slice none 0 0, .string (bs [])]], spaceF k, kindF k, [], none, 0, 0, none, 0, 0, ?_, rfl, Nat.le_refl _, by decide, rd_blk YS.out, ?_, ?_⟩
      · unfold Bnd.env
        simp only [HIF.out]
        rfl
      · exact TrXL.one (refT_trx ⟨k, f, t, n, s, r, p, q, c⟩ YZ.out.2.1 YR.out)
      · exact TrX.imp (fun b hb => by have := YZ.out.1; omega) _ _ YB.out
    · have q0 := (XE.out.cell 0).trans rfl; have q1 := (XE.out.cell 1).trans rfl; have q2 := (XE.out.cell 2).trans rfl; have q3 := (XE.out.cell 3).trans rfl; have q4 := (XE.out.cell 4).trans rfl; have q5 := (XE.out.cell 5).trans rfl; have q6 := (XE.out.cell 6).trans rfl; have q7 := (XE.out.cell 7).trans rfl; have q8 := (XE.out.cell 8).trans rfl; have q9 := (XE.out.cell 9).trans rfl; have q10 := (XE.out.cell 10).trans rfl
      have hxz := XZ.out
      have XR7 := XR.out
      have XS7 := XS.out
      have hzq := XQ.out.size
      have hne := Lib.hid (show g9 ≠ w.heap.size + 1 ∧ gs ≠ w.heap.size + 1 from ⟨XR.out.ne X2.out (by decide), XS.out.ne X2.out (by decide)⟩)
      have KQ7 : ∀ a v, a.block < wq.heap.size → wq.cell? a = some v → w6.cell? a = some v := fun a v h1 h2 => Below.keeps XQ.out _ _ h2
      have hn1 := hne.out.1
      have hn2 := hne.out.2
      have hj' : j < 0 := by omega
      have HIF := Lib.hid (if_neg hj : (if (0 : Int) ≤ j then idS j else []) = [])
      clear XR XS XE X1 XI XQ XZ KB hne
      go_wp2_with (refine wpList_store (.tmp 2) (.tmp 56) 46 rfl rfl (w.heap.size + 1) 0 _ _ #[.string (bs (actF k)), .string (bs (addrS t)), .string (bs (idS i)), .string (bs (addrS f)), .string ⟨#[]⟩, .slice (some ⟨gs, 0, none⟩) 1 1, .string (bs (spaceF k)), .string (bs (kindF k)), .slice (none) 0 (0), .slice none 0 0, .string ⟨#[]⟩] rfl rfl X2.out (by kernel_rfl) (by simp [Value.oneCell']) (by simp) ?_)
      intro w8 hb8 ho8
      rw [putCells_all #[.string ⟨#[]⟩, .string ⟨#[]⟩, .string ⟨#[]⟩, .string ⟨#[]⟩, .string ⟨#[]⟩, .slice none 0 0, .string ⟨#[]⟩, .string ⟨#[]⟩, .slice none 0 0, .slice none 0 0, .string ⟨#[]⟩] #[.string (bs (actF k)), .string (bs (addrS t)), .string (bs (idS i)), .string (bs (addrS f)), .string ⟨#[]⟩, .slice (some ⟨gs, 0, none⟩) 1 1, .string (bs (spaceF k)), .string (bs (kindF k)), .slice (none) 0 (0), .slice none 0 0, .string ⟨#[]⟩] rfl] at hb8
      have u0 := (hb8.cell 0).trans rfl; have u1 := (hb8.cell 1).trans rfl; have u2 := (hb8.cell 2).trans rfl; have u3 := (hb8.cell 3).trans rfl; have u4 := (hb8.cell 4).trans rfl; have u5 := (hb8.cell 5).trans rfl; have u6 := (hb8.cell 6).trans rfl; have u7 := (hb8.cell 7).trans rfl; have u8 := (hb8.cell 8).trans rfl; have u9 := (hb8.cell 9).trans rfl; have u10 := (hb8.cell 10).trans rfl
      have XF := Lib.hid (XB.out.trans (ho8.below (by omega)))
      have hzf := ho8.size
      have YR := Lib.hid (ho8.blk XR7 (by omega))
      have YS := Lib.hid (ho8.blk XS7 (by omega))
      have YB := Lib.hid (HBT.out w8 (fun a v h1 h2 h3 => (World.cell?_of_block (ho8.block a.block h1)).trans (KQ7 a v h2 h3)))
      have YZ := Lib.hid (show wq.heap.size ≤ w8.heap.size ∧ g9 < w8.heap.size ∧ gs < w8.heap.size from ⟨by omega, YR.out.lt, YS.out.lt⟩)
      clear hb8 ho8 hzf XR7 XS7 KQ7
      go_wp2_with fail
      refine bodyPost_ret (v := .agg #[.string (bs (actF k)), .string (bs (addrS t)), .string (bs (idS i)), .string (bs (addrS f)), .string ⟨#[]⟩, .slice (some ⟨gs, 0, none⟩) 1 1, .string (bs (spaceF k)), .string (bs (kindF k)), .slice (none) 0 (0), .slice none 0 0, .string ⟨#[]⟩]) (by simp [results, Tryz.results30, go_sem, u0, u1, u2, u3, u4, u5, u6, u7, u8, u9, u10]) rfl ?_
      refine ⟨XF.out, _, rfl, some ⟨gs, 0, none⟩, 1, [[.string (bs ownL), .string (bs cRef), .slice (some ⟨g9, 0, none⟩) 3 3, .slice none 0 0, .string (bs [])]], spaceF k, kindF k, [], none, 0, 0, none, 0, 0, ?_, rfl, Nat.le_refl _, by decide, rd_blk YS.out, ?_, ?_⟩
      · unfold Bnd.env
        simp only [HIF.out]
        rfl
      · exact TrXL.one (refT_trx ⟨k, f, t, n, s, r, p, q, c⟩ YZ.out.2.1 YR.out)
      · exact TrX.imp (fun b hb => by have := YZ.out.1; omega) _ _ YB.out
  · obtain ⟨c0, cl, hnm⟩ := List.exists_cons_of_ne_nil hs1
    rw [hnm]
    obtain ⟨vv, hvv⟩ : ∃ vv, (saysF ⟨k, f, t, n, s, r, p, q, c⟩).2 = vv := ⟨_, rfl⟩
    rw [hvv]
    have HNM := Lib.hid hnm
    have HVV := Lib.hid hvv
    have HS1 := Lib.hid hs1
    clear hs1 hnm hvv
    go_wp2_with fail
    refine wp_phiU_tail (List.take 7 _) (List.drop 7 _) (List.take_append_drop 7 _).symm (rT 6 (gb + 1) 3 87 (.slice none 0 0) 0)
      (fun w' => Blk w' gb 44 #[.string (bs (spaceF k)), .string (bs (kindF k)), .slice none 0 0, .slice none 0 0, .string ⟨#[]⟩] ∧ Below wq.heap.size wq w')
      [(4, PVal (.agg #[.string (bs []), .string (bs (c0 :: cl)), .string (bs vv)])), (5, PBlk wq.heap.size 87 #[.string (bs []), .string (bs (c0 :: cl)), .string (bs vv)] 1), (6, PApR (gb + 1) 3 87 1 ([] ++ [.string (bs []), .string (bs (c0 :: cl)), .string (bs vv)]))] [(6, [4, 5])] [] [] (by kernel_rfl) (by kernel_rfl) ?_ ?_ ?_ ?_ ?_ ?_
    · rintro p _ w1' w2' ⟨g1, g8⟩ hR
      refine ⟨rT_blklo hR g1 (by omega), ?_⟩
      by_cases hp : p.1 = 6
      · rw [hp, rT_at] at hR
        exact g8.trans (below_grownBy hR.2 (fun g hg => by cases hg) g8.size)
      · rw [rT_o hp] at hR
        exact g8.trans (hR.mono g8.size)
    · intro p hp p' hp' hne hks hns w1' w2' v hI hR hf
      simp only [List.mem_cons, List.not_mem_nil, or_false] at hp hp'
      rcases hp with rfl | rfl | rfl
      · trivial
      · exact fun g hg => ⟨(hf g hg).1, rT_blk hR (hf g hg).2 fun e => by cases e⟩
      · rcases hp' with rfl | rfl | rfl
        · exact absurd (show (4 : Nat) ∈ needs [(6, [4, 5])] 6 by decide) hns
        · exact absurd (show (5 : Nat) ∈ needs [(6, [4, 5])] 6 by decide) hns
        · exact absurd rfl hne
    · intro p hp u hu
      cases hu
    · intro u hu
      cases hu
    · exact ⟨K4.out, (Below.refl _ _).drew⟩
    simp only [List.take_succ_cons, List.take_zero, List.drop_succ_cons, List.drop_zero]
    repeat (first | (refine phiU_skipK rfl (fun K hK => ?_); simp only [Act.put, List.setIfInBounds_toArray, List.set_cons_succ, List.set_cons_zero, List.cons_append, List.nil_append]; apply hK; clear hK K) | (refine phiU_pureK rfl rfl (fun K hK => ?_); apply Exists.intro; constructor; (focus (rintro w' ⟨g1, g8⟩; have k2 := (g1.cell 2).trans rfl; clear g1 g8; first | (go_simp; done) | (go_simp; (try go_bits); (try go_simp); rfl) | go_simp)); simp only [Act.put, List.setIfInBounds_toArray, List.set_cons_succ, List.set_cons_zero, List.cons_append, List.nil_append]; apply hK; clear hK K))
    refine phiU_partK (PVal (.agg #[.string (bs []), .string (bs (c0 :: cl)), .string (bs vv)])) rfl rfl ⟨_, rfl⟩ ?_ (fun K hK v hv => ?_)
    · rintro w' ⟨g1, g8⟩ hf hu
      clear hf hu g1 g8
      unfold gives
      go_simp
      refine (attr_any (c0 :: cl) vv w').mono ?_
      rintro e w'' ⟨rfl, hb⟩
      exact ⟨_, rfl, rfl, trivial, by rw [rT_o (by decide)]; exact hb⟩
    obtain rfl : v = _ := hv
    simp only [Act.put, List.setIfInBounds_toArray, List.set_cons_succ, List.set_cons_zero, List.cons_append, List.nil_append]
    apply hK
    clear hK K
    refine phiU_partK (PBlk wq.heap.size 87 #[.string (bs []), .string (bs (c0 :: cl)), .string (bs vv)] 1) rfl rfl ⟨_, 0, rfl⟩ ?_ (fun K hK v hv => ?_)
    · rintro w' ⟨g1, g8⟩ hf hu
      have HGS := Lib.hid g8.size
      clear hf hu g1 g8
      unfold gives
      go_simp
      refine ⟨⟨_, rfl⟩, fun g hg => ?_, by rw [rT_o (by decide)]; exact below_alloc1 _ _⟩
      obtain rfl : w'.heap.size = g := by simpa using hg
      exact ⟨HGS.out, Blk.new _ _ _⟩
    obtain ⟨y5, rfl⟩ := hv
    simp only [Act.put, List.setIfInBounds_toArray, List.set_cons_succ, List.set_cons_zero, List.cons_append, List.nil_append]
    apply hK
    clear hK K
    refine phiU_partK (PApR (gb + 1) 3 87 1 ([] ++ [.string (bs []), .string (bs (c0 :: cl)), .string (bs vv)])) rfl rfl ⟨_, none, 0, rfl⟩ ?_ (fun K hK v hv => ?_)
    · rintro w' ⟨g1, g8⟩ hf hu
      have h4 := hf (5, fun w1 => (PBlk wq.heap.size 87 #[.string (bs []), .string (bs (c0 :: cl)), .string (bs vv)] 1).fact w1 (.slice (some ⟨y5, 0, none⟩) 1 1)) (by simp) (List.contains_iff_mem.1 rfl) rfl
      obtain ⟨h4b, b4⟩ := h4 y5 rfl
      have hu8 : w'.ownsRow (gb + 1) 87 3 (.slice none 0 0) 0 [] := ⟨rfl, .inl ⟨rfl, rfl⟩⟩
      have hgq := HGQ.out
      have hgs := g8.size
      clear hf hu h4
      refine gives_appAt (.tmp 22) (.tmp 26) 42 rfl (gb + 1) 87 i8 (.agg #[.string ⟨#[]⟩, .string ⟨#[]⟩, .string ⟨#[]⟩]) 3 48 Tryz.underlying42 hi8 hv0 hv1 hv2 rfl (by decide) _ _ _ rfl hu8 _ _ _ [.string (bs []), .string (bs (c0 :: cl)), .string (bs vv)] rfl rfl (rd_blk b4) (by simp [Value.oneCell']) (by unfold maxLen; omega) (by omega) (by omega) ?_
      intro v2 w2' ho2 hg2 hat2
      obtain ⟨p2, c2, rfl, _, _, _⟩ := owns_rd ho2
      refine ⟨⟨p2, c2, rfl⟩, ho2, ?_⟩
      rw [rT_at]
      exact ⟨⟨_, hu8⟩, hg2⟩
    obtain ⟨p6, c6, rfl⟩ := hv
    simp only [Act.put, List.setIfInBounds_toArray, List.set_cons_succ, List.set_cons_zero, List.cons_append, List.nil_append]
    apply hK
    clear hK K
    repeat (first | (refine phiU_skipK rfl (fun K hK => ?_); simp only [Act.put, List.setIfInBounds_toArray, List.set_cons_succ, List.set_cons_zero, List.cons_append, List.nil_append]; apply hK; clear hK K) | (refine phiU_pureK rfl rfl (fun K hK => ?_); apply Exists.intro; constructor; (focus (rintro w' ⟨g1, g8⟩; have k2 := (g1.cell 2).trans rfl; clear g1 g8; first | (go_simp; done) | (go_simp; (try go_bits); (try go_simp); rfl) | go_simp)); simp only [Act.put, List.setIfInBounds_toArray, List.set_cons_succ, List.set_cons_zero, List.cons_append, List.nil_append]; apply hK; clear hK K))
    refine phiU_done ?_
    rintro w9 ⟨g1, g8⟩ hf
    have h6 := hf (6, fun w1 => (PApR (gb + 1) 3 87 1 ([] ++ ([.string (bs []), .string (bs (c0 :: cl)), .string (bs vv)] : List Value))).fact w1 (.slice p6 1 c6)) (by simp) rfl
    have ho9 : w9.ownsRow (gb + 1) 87 3 (.slice p6 1 c6) 1 [.string (bs []), .string (bs (c0 :: cl)), .string (bs vv)] := h6
    clear h6
    have f2 := g1.frozen 2
    have k2 := (g1.cell 2).trans rfl
    have O9 := ((Only.refl gb w9).set_ 2 (.slice p6 1 c6))
    have hgb := HGB.out
    have hgq := HGQ.out
    have hg8 := g8.size
    have N4 := Lib.hid (show Blk (w9.setCell ⟨gb, 2, none⟩ (.slice p6 1 c6)) gb 44 #[.string (bs (spaceF k)), .string (bs (kindF k)), .slice p6 1 c6, .slice none 0 0, .string ⟨#[]⟩] from g1.set_ 2 _)
    have N1 := Lib.hid (O9.blk (K1.out.below g8 K1.out.lt) (by omega))
    have N2 := Lib.hid (O9.blk (K2.out.below g8 K2.out.lt) (by omega))
    have N3 := Lib.hid (O9.blk (K3.out.below g8 K3.out.lt) (by omega))
    have NB := Lib.hid (KB.out.trans ((g8.mono KB.out.size).trans (O9.below (by omega))))
    have NO := Lib.hid (O9.owns2 ho9 (by omega))
    clear hf g1 g8 O9 ho9 hgb hgq hg8 K1 K2 K3 K4 KB HT HI HGQ
    go_wp2_with fail
    clear f2 k2
    generalize w9.setCell ⟨gb, 2, none⟩ (.slice p6 1 c6) = wq at *
    have K1 := N1; have K2 := N2; have K3 := N3; have K4 := N4; have KB := NB
    have HT := Lib.hid (HTW.out.below KB.out)
    have HI := Lib.hid (HIW.out.below KB.out)
    have HGQ := Lib.hid K4.out.lt
    have HBT := Lib.hid (fun (w' : World) (hw : ∀ a v, a.block ≠ w.heap.size + 1 → a.block < wq.heap.size → wq.cell? a = some v → w'.cell? a = some v) => by
      obtain ⟨p', c', he, h1, h2, h3, h4⟩ := owns_rdP NO.out
      cases he
      have hgb := HGB.out
      exact bodT_trx (w := w') (P := fun b => b < wq.heap.size) (m := ⟨k, f, t, n, s, r, p, q, c⟩) (pa := p6) (na := 1) (ca := c6) (xs := [.string (bs []), .string (bs (c0 :: cl)), .string (bs vv)]) (.inr ⟨HS1.out, rfl, h1, h2, by rw [HNM.out, HVV.out], h3.keepP (P := fun b => gb + 1 ≤ b ∧ b < wq.heap.size) h4 (fun a v hp hc => hw a v (by omega) hp.2 hc), fun a ha => (h4 a ha).2⟩))
    clear N1 N2 N3 N4 NB NO HNM HVV HS1 HTW HIW
    refine wp_phi_tail (List.take 21 _) (List.drop 21 _) (List.take_append_drop 21 _).symm (fun w' => (Blk w' w.heap.size 27 #[.int .i64 k, .int .i64 f, .int .i64 t, .int .i64 n, .int .i64 s, .int .i64 r, .int .i64 p, .int .i64 q, .int .i64 c, .int .i64 i, .int .i64 j]) ∧ (Blk w' (w.heap.size + 1 + 1) 25 #[.int .i64 k, .int .i64 f, .int .i64 t, .int .i64 n, .int .i64 s, .int .i64 r, .int .i64 p, .int .i64 q, .int .i64 c]) ∧ (Blk w' gb 44 #[.string (bs (spaceF k)), .string (bs (kindF k)), .slice (p6) 1 (c6), .slice none 0 0, .string ⟨#[]⟩]) ∧ (TabB w') ∧ (IdsG w' E) ∧ Below wq.heap.size wq w') [(2, PVal (.tuple #[.string (bs (actF k)), .nilIface])), (5, PVal (.string (bs (actF k)))), (8, PVal (.string (bs (addrS t)))), (11, PVal (.string (bs (addrS f)))), (14, PVal (.string (bs (idS i)))), (16, PRefr wq.heap.size ((actT n s).getD []) (dec r) (dec p)), (17, PSlR wq.heap.size ((actT n s).getD []) (dec r) (dec p)), (20, PNew (wq.heap.size) 46 #[.string ⟨#[]⟩, .string ⟨#[]⟩, .string ⟨#[]⟩, .string ⟨#[]⟩, .string ⟨#[]⟩, .slice none 0 0, .string ⟨#[]⟩, .string ⟨#[]⟩, .slice none 0 0, .slice none 0 0, .string ⟨#[]⟩])] [(17, [16])] (by kernel_rfl) (by kernel_rfl) ?_ ?_ ⟨K1.out, K3.out, K4.out, HT.out.below (Below.drew (Below.refl _ _)), HI.out.below (Below.drew (Below.refl _ _)), ((Below.refl _ wq)).drew⟩ ?_
    · rintro w1' w2' ⟨f1, f2, f3, f4, f5, hIB⟩ hb
      exact ⟨(by first | exact f1.below hb | exact f1.keep (Below.keeps hb) | exact Below.keeps hb _ _ f1 | exact Blk.below f1 hb (Blk.lt f1)), (by first | exact f2.below hb | exact f2.keep (Below.keeps hb) | exact Below.keeps hb _ _ f2 | exact Blk.below f2 hb (Blk.lt f2)), (by first | exact f3.below hb | exact f3.keep (Below.keeps hb) | exact Below.keeps hb _ _ f3 | exact Blk.below f3 hb (Blk.lt f3)), (by first | exact f4.below hb | exact f4.keep (Below.keeps hb) | exact Below.keeps hb _ _ f4 | exact Blk.below f4 hb (Blk.lt f4)), (by first | exact f5.below hb | exact f5.keep (Below.keeps hb) | exact Below.keeps hb _ _ f5 | exact Blk.below f5 hb (Blk.lt f5)), hIB.trans (hb.mono hIB.size)⟩
    · simp only [List.mem_cons, List.not_mem_nil, or_false, forall_eq_or_imp, forall_eq]
      exact ⟨fun _ _ _ _ h' h => PVal_stays _ _ _ _ h' h, fun _ _ _ _ h' h => PVal_stays _ _ _ _ h' h, fun _ _ _ _ h' h => PVal_stays _ _ _ _ h' h, fun _ _ _ _ h' h => PVal_stays _ _ _ _ h' h, fun _ _ _ _ h' h => PVal_stays _ _ _ _ h' h, fun _ _ _ _ h' h => PRefr_stays h' h, fun _ _ _ _ h' h => PSlR_stays h' h, fun _ _ _ _ h' h => PNew_stays h' h⟩
    simp only [List.take_succ_cons, List.take_zero, List.drop_succ_cons, List.drop_zero]
    repeat (first | (refine phi_skipK rfl (fun K hK => ?_); simp only [Act.put, List.setIfInBounds_toArray, List.set_cons_succ, List.set_cons_zero, List.cons_append, List.nil_append]; apply hK; clear hK K) | (refine phi_pureK rfl rfl (fun K hK => ?_); apply Exists.intro; constructor; (focus (rintro w' ⟨f1, f2, f3, f4, f5, hIB⟩; have m0 := (f2.cell 0).trans rfl; have m1 := (f2.cell 1).trans rfl; have m2 := (f2.cell 2).trans rfl; have m3 := (f2.cell 3).trans rfl; have m4 := (f2.cell 4).trans rfl; have m5 := (f2.cell 5).trans rfl; have m6 := (f2.cell 6).trans rfl; have m7 := (f2.cell 7).trans rfl; have m8 := (f2.cell 8).trans rfl; have c9 := (f1.cell 9).trans rfl; have b0 := (f3.cell 0).trans rfl; have b1 := (f3.cell 1).trans rfl; have b2 := (f3.cell 2).trans rfl; have b3 := (f3.cell 3).trans rfl; have b4 := (f3.cell 4).trans rfl; clear f1 f2 f3 f4 f5 hIB; first | (go_simp; done) | (go_simp; (try go_bits); (try go_simp); rfl) | go_simp)); simp only [Act.put, List.setIfInBounds_toArray, List.set_cons_succ, List.set_cons_zero, List.cons_append, List.nil_append]; apply hK; clear hK K))
    refine phi_partK (PVal (.tuple #[.string (bs (actF k)), .nilIface])) rfl rfl ⟨_, rfl⟩ ?_ (fun K hK v hv => ?_)
    · rintro w' ⟨f1, f2, f3, f4, f5, hIB⟩ hf
      unfold gives
      clear hf
      go_simp
      refine (HAC.out _ f5 f4).mono ?_
      rintro e w'' ⟨rfl, hb⟩
      exact ⟨_, rfl, rfl, trivial, hb⟩
    obtain rfl : v = _ := hv
    simp only [Act.put, List.setIfInBounds_toArray, List.set_cons_succ, List.set_cons_zero, List.cons_append, List.nil_append]
    apply hK
    clear hK K
    repeat (first | (refine phi_skipK rfl (fun K hK => ?_); simp only [Act.put, List.setIfInBounds_toArray, List.set_cons_succ, List.set_cons_zero, List.cons_append, List.nil_append]; apply hK; clear hK K) | (refine phi_pureK rfl rfl (fun K hK => ?_); apply Exists.intro; constructor; (focus (rintro w' ⟨f1, f2, f3, f4, f5, hIB⟩; have m0 := (f2.cell 0).trans rfl; have m1 := (f2.cell 1).trans rfl; have m2 := (f2.cell 2).trans rfl; have m3 := (f2.cell 3).trans rfl; have m4 := (f2.cell 4).trans rfl; have m5 := (f2.cell 5).trans rfl; have m6 := (f2.cell 6).trans rfl; have m7 := (f2.cell 7).trans rfl; have m8 := (f2.cell 8).trans rfl; have c9 := (f1.cell 9).trans rfl; have b0 := (f3.cell 0).trans rfl; have b1 := (f3.cell 1).trans rfl; have b2 := (f3.cell 2).trans rfl; have b3 := (f3.cell 3).trans rfl; have b4 := (f3.cell 4).trans rfl; clear f1 f2 f3 f4 f5 hIB; first | (go_simp; done) | (go_simp; (try go_bits); (try go_simp); rfl) | go_simp)); simp only [Act.put, List.setIfInBounds_toArray, List.set_cons_succ, List.set_cons_zero, List.cons_append, List.nil_append]; apply hK; clear hK K))
    refine phi_partK (PVal (.string (bs (actF k)))) rfl rfl ⟨_, rfl⟩ ?_ (fun K hK v hv => ?_)
    · rintro w' ⟨f1, f2, f3, f4, f5, hIB⟩ hf
      unfold gives
      clear hf
      go_simp
      refine (must_strG (actF k) _).mono ?_
      rintro e w'' ⟨rfl, hb⟩
      exact ⟨_, rfl, rfl, trivial, hb⟩
    obtain rfl : v = _ := hv
    simp only [Act.put, List.setIfInBounds_toArray, List.set_cons_succ, List.set_cons_zero, List.cons_append, List.nil_append]
    apply hK
    clear hK K
    repeat (first | (refine phi_skipK rfl (fun K hK => ?_); simp only [Act.put, List.setIfInBounds_toArray, List.set_cons_succ, List.set_cons_zero, List.cons_append, List.nil_append]; apply hK; clear hK K) | (refine phi_pureK rfl rfl (fun K hK => ?_); apply Exists.intro; constructor; (focus (rintro w' ⟨f1, f2, f3, f4, f5, hIB⟩; have m0 := (f2.cell 0).trans rfl; have m1 := (f2.cell 1).trans rfl; have m2 := (f2.cell 2).trans rfl; have m3 := (f2.cell 3).trans rfl; have m4 := (f2.cell 4).trans rfl; have m5 := (f2.cell 5).trans rfl; have m6 := (f2.cell 6).trans rfl; have m7 := (f2.cell 7).trans rfl; have m8 := (f2.cell 8).trans rfl; have c9 := (f1.cell 9).trans rfl; have b0 := (f3.cell 0).trans rfl; have b1 := (f3.cell 1).trans rfl; have b2 := (f3.cell 2).trans rfl; have b3 := (f3.cell 3).trans rfl; have b4 := (f3.cell 4).trans rfl; clear f1 f2 f3 f4 f5 hIB; first | (go_simp; done) | (go_simp; (try go_bits); (try go_simp); rfl) | go_simp)); simp only [Act.put, List.setIfInBounds_toArray, List.set_cons_succ, List.set_cons_zero, List.cons_append, List.nil_append]; apply hK; clear hK K))
    refine phi_partK (PVal (.string (bs (addrS t)))) rfl rfl ⟨_, rfl⟩ ?_ (fun K hK v hv => ?_)
    · rintro w' ⟨f1, f2, f3, f4, f5, hIB⟩ hf
      unfold gives
      clear hf
      go_simp
      refine (HAT.out _ f5).mono ?_
      rintro e w'' ⟨rfl, hb⟩
      exact ⟨_, rfl, rfl, trivial, hb⟩
    obtain rfl : v = _ := hv
    simp only [Act.put, List.setIfInBounds_toArray, List.set_cons_succ, List.set_cons_zero, List.cons_append, List.nil_append]
    apply hK
    clear hK K
    repeat (first | (refine phi_skipK rfl (fun K hK => ?_); simp only [Act.put, List.setIfInBounds_toArray, List.set_cons_succ, List.set_cons_zero, List.cons_append, List.nil_append]; apply hK; clear hK K) | (refine phi_pureK rfl rfl (fun K hK => ?_); apply Exists.intro; constructor; (focus (rintro w' ⟨f1, f2, f3, f4, f5, hIB⟩; have m0 := (f2.cell 0).trans rfl; have m1 := (f2.cell 1).trans rfl; have m2 := (f2.cell 2).trans rfl; have m3 := (f2.cell 3).trans rfl; have m4 := (f2.cell 4).trans rfl; have m5 := (f2.cell 5).trans rfl; have m6 := (f2.cell 6).trans rfl; have m7 := (f2.cell 7).trans rfl; have m8 := (f2.cell 8).trans rfl; have c9 := (f1.cell 9).trans rfl; have b0 := (f3.cell 0).trans rfl; have b1 := (f3.cell 1).trans rfl; have b2 := (f3.cell 2).trans rfl; have b3 := (f3.cell 3).trans rfl; have b4 := (f3.cell 4).trans rfl; clear f1 f2 f3 f4 f5 hIB; first | (go_simp; done) | (go_simp; (try go_bits); (try go_simp); rfl) | go_simp)); simp only [Act.put, List.setIfInBounds_toArray, List.set_cons_succ, List.set_cons_zero, List.cons_append, List.nil_append]; apply hK; clear hK K))
    refine phi_partK (PVal (.string (bs (addrS f)))) rfl rfl ⟨_, rfl⟩ ?_ (fun K hK v hv => ?_)
    · rintro w' ⟨f1, f2, f3, f4, f5, hIB⟩ hf
      unfold gives
      clear hf
      go_simp
      refine (HAF.out _ f5).mono ?_
      rintro e w'' ⟨rfl, hb⟩
      exact ⟨_, rfl, rfl, trivial, hb⟩
    obtain rfl : v = _ := hv
    simp only [Act.put, List.setIfInBounds_toArray, List.set_cons_succ, List.set_cons_zero, List.cons_append, List.nil_append]
    apply hK
    clear hK K
    repeat (first | (refine phi_skipK rfl (fun K hK => ?_); simp only [Act.put, List.setIfInBounds_toArray, List.set_cons_succ, List.set_cons_zero, List.cons_append, List.nil_append]; apply hK; clear hK K) | (refine phi_pureK rfl rfl (fun K hK => ?_); apply Exists.intro; constructor; (focus (rintro w' ⟨f1, f2, f3, f4, f5, hIB⟩; have m0 := (f2.cell 0).trans rfl; have m1 := (f2.cell 1).trans rfl; have m2 := (f2.cell 2).trans rfl; have m3 := (f2.cell 3).trans rfl; have m4 := (f2.cell 4).trans rfl; have m5 := (f2.cell 5).trans rfl; have m6 := (f2.cell 6).trans rfl; have m7 := (f2.cell 7).trans rfl; have m8 := (f2.cell 8).trans rfl; have c9 := (f1.cell 9).trans rfl; have b0 := (f3.cell 0).trans rfl; have b1 := (f3.cell 1).trans rfl; have b2 := (f3.cell 2).trans rfl; have b3 := (f3.cell 3).trans rfl; have b4 := (f3.cell 4).trans rfl; clear f1 f2 f3 f4 f5 hIB; first | (go_simp; done) | (go_simp; (try go_bits); (try go_simp); rfl) | go_simp)); simp only [Act.put, List.setIfInBounds_toArray, List.set_cons_succ, List.set_cons_zero, List.cons_append, List.nil_append]; apply hK; clear hK K))
    refine phi_partK (PVal (.string (bs (idS i)))) rfl rfl ⟨_, rfl⟩ ?_ (fun K hK v hv => ?_)
    · rintro w' ⟨f1, f2, f3, f4, f5, hIB⟩ hf
      unfold gives
      clear hf
      go_simp
      refine (HID.out _ f5).mono ?_
      rintro e w'' ⟨rfl, hb⟩
      exact ⟨_, rfl, rfl, trivial, hb⟩
    obtain rfl : v = _ := hv
    simp only [Act.put, List.setIfInBounds_toArray, List.set_cons_succ, List.set_cons_zero, List.cons_append, List.nil_append]
    apply hK
    clear hK K
    repeat (first | (refine phi_skipK rfl (fun K hK => ?_); simp only [Act.put, List.setIfInBounds_toArray, List.set_cons_succ, List.set_cons_zero, List.cons_append, List.nil_append]; apply hK; clear hK K) | (refine phi_pureK rfl rfl (fun K hK => ?_); apply Exists.intro; constructor; (focus (rintro w' ⟨f1, f2, f3, f4, f5, hIB⟩; have m0 := (f2.cell 0).trans rfl; have m1 := (f2.cell 1).trans rfl; have m2 := (f2.cell 2).trans rfl; have m3 := (f2.cell 3).trans rfl; have m4 := (f2.cell 4).trans rfl; have m5 := (f2.cell 5).trans rfl; have m6 := (f2.cell 6).trans rfl; have m7 := (f2.cell 7).trans rfl; have m8 := (f2.cell 8).trans rfl; have c9 := (f1.cell 9).trans rfl; have b0 := (f3.cell 0).trans rfl; have b1 := (f3.cell 1).trans rfl; have b2 := (f3.cell 2).trans rfl; have b3 := (f3.cell 3).trans rfl; have b4 := (f3.cell 4).trans rfl; clear f1 f2 f3 f4 f5 hIB; first | (go_simp; done) | (go_simp; (try go_bits); (try go_simp); rfl) | go_simp)); simp only [Act.put, List.setIfInBounds_toArray, List.set_cons_succ, List.set_cons_zero, List.cons_append, List.nil_append]; apply hK; clear hK K))
    refine phi_partK (PRefr wq.heap.size ((actT n s).getD []) (dec r) (dec p)) rfl rfl ⟨_, 0, rfl⟩ ?_ (fun K hK v hv => ?_)
    · rintro w' ⟨f1, f2, f3, f4, f5, hIB⟩ hf
      have HRR := Lib.hid (HRF.out w' f5)
      have HGS := Lib.hid hIB.size
      clear hf f1 f2 f3 f4 f5 hIB
      unfold gives
      go_simp
      refine HRR.out.mono ?_
      rintro e w'' ⟨g, rfl, h1, h2, h3, h4⟩
      exact ⟨_, rfl, ⟨g, rfl⟩, PRefr_mk (by have := HGS.out; omega) h3, h4⟩
    obtain ⟨gr, rfl⟩ := hv
    simp only [Act.put, List.setIfInBounds_toArray, List.set_cons_succ, List.set_cons_zero, List.cons_append, List.nil_append]
    apply hK
    clear hK K
    repeat (first | (refine phi_skipK rfl (fun K hK => ?_); simp only [Act.put, List.setIfInBounds_toArray, List.set_cons_succ, List.set_cons_zero, List.cons_append, List.nil_append]; apply hK; clear hK K) | (refine phi_pureK rfl rfl (fun K hK => ?_); apply Exists.intro; constructor; (focus (rintro w' ⟨f1, f2, f3, f4, f5, hIB⟩; have m0 := (f2.cell 0).trans rfl; have m1 := (f2.cell 1).trans rfl; have m2 := (f2.cell 2).trans rfl; have m3 := (f2.cell 3).trans rfl; have m4 := (f2.cell 4).trans rfl; have m5 := (f2.cell 5).trans rfl; have m6 := (f2.cell 6).trans rfl; have m7 := (f2.cell 7).trans rfl; have m8 := (f2.cell 8).trans rfl; have c9 := (f1.cell 9).trans rfl; have b0 := (f3.cell 0).trans rfl; have b1 := (f3.cell 1).trans rfl; have b2 := (f3.cell 2).trans rfl; have b3 := (f3.cell 3).trans rfl; have b4 := (f3.cell 4).trans rfl; clear f1 f2 f3 f4 f5 hIB; first | (go_simp; done) | (go_simp; (try go_bits); (try go_simp); rfl) | go_simp)); simp only [Act.put, List.setIfInBounds_toArray, List.set_cons_succ, List.set_cons_zero, List.cons_append, List.nil_append]; apply hK; clear hK K))
    refine phi_partK (PSlR wq.heap.size ((actT n s).getD []) (dec r) (dec p)) rfl rfl ⟨_, 0, rfl⟩ ?_ (fun K hK v hv => ?_)
    · rintro w' ⟨f1, f2, f3, f4, f5, hIB⟩ hf
      have hfr := hf (16, fun w1 => (PRefr wq.heap.size ((actT n s).getD []) (dec r) (dec p)).fact w1 (.agg #[.string (bs ownL), .string (bs cRef), .slice (some ⟨gr, 0, none⟩) 3 3, .slice none 0 0, .string (bs [])])) (by simp) (List.contains_iff_mem.1 rfl)
      have HFR := Lib.hid (hfr gr rfl)
      have HGS := Lib.hid hIB.size
      clear hfr hf f1 f2 f3 f4 f5 hIB
      unfold gives
      go_simp
      refine ⟨⟨_, rfl⟩, fun g hg => ?_, below_alloc1 _ _⟩
      obtain rfl : w'.heap.size = g := by simpa using hg
      exact ⟨HGS.out, gr, HFR.out.1, HFR.out.2.below (below_alloc1 _ _) HFR.out.2.lt, Blk.new _ _ _⟩
    obtain ⟨gs, rfl⟩ := hv
    simp only [Act.put, List.setIfInBounds_toArray, List.set_cons_succ, List.set_cons_zero, List.cons_append, List.nil_append]
    apply hK
    clear hK K
    repeat (first | (refine phi_skipK rfl (fun K hK => ?_); simp only [Act.put, List.setIfInBounds_toArray, List.set_cons_succ, List.set_cons_zero, List.cons_append, List.nil_append]; apply hK; clear hK K) | (refine phi_pureK rfl rfl (fun K hK => ?_); apply Exists.intro; constructor; (focus (rintro w' ⟨f1, f2, f3, f4, f5, hIB⟩; have m0 := (f2.cell 0).trans rfl; have m1 := (f2.cell 1).trans rfl; have m2 := (f2.cell 2).trans rfl; have m3 := (f2.cell 3).trans rfl; have m4 := (f2.cell 4).trans rfl; have m5 := (f2.cell 5).trans rfl; have m6 := (f2.cell 6).trans rfl; have m7 := (f2.cell 7).trans rfl; have m8 := (f2.cell 8).trans rfl; have c9 := (f1.cell 9).trans rfl; have b0 := (f3.cell 0).trans rfl; have b1 := (f3.cell 1).trans rfl; have b2 := (f3.cell 2).trans rfl; have b3 := (f3.cell 3).trans rfl; have b4 := (f3.cell 4).trans rfl; clear f1 f2 f3 f4 f5 hIB; first | (go_simp; done) | (go_simp; (try go_bits); (try go_simp); rfl) | go_simp)); simp only [Act.put, List.setIfInBounds_toArray, List.set_cons_succ, List.set_cons_zero, List.cons_append, List.nil_append]; apply hK; clear hK K))
    refine phi_partK (PNew (wq.heap.size) 46 #[.string ⟨#[]⟩, .string ⟨#[]⟩, .string ⟨#[]⟩, .string ⟨#[]⟩, .string ⟨#[]⟩, .slice none 0 0, .string ⟨#[]⟩, .string ⟨#[]⟩, .slice none 0 0, .slice none 0 0, .string ⟨#[]⟩]) rfl rfl ⟨_, 0, rfl⟩ ?_ (fun K hK v hv => ?_)
    · rintro w' ⟨f1, f2, f3, f4, f5, hIB⟩ hf
      have HGS := Lib.hid hIB.size
      clear hf f1 f2 f3 f4 f5 hIB
      unfold gives
      go_simp
      refine ⟨⟨_, rfl⟩, fun g hg => ?_, below_alloc1 _ _⟩
      obtain rfl : w'.heap.size = g := by simpa using hg
      exact ⟨HGS.out, Blk.new _ _ _⟩
    obtain ⟨g_20, rfl⟩ := hv
    simp only [Act.put, List.setIfInBounds_toArray, List.set_cons_succ, List.set_cons_zero, List.cons_append, List.nil_append]
    apply hK
    clear hK K
    repeat (first | (refine phi_skipK rfl (fun K hK => ?_); simp only [Act.put, List.setIfInBounds_toArray, List.set_cons_succ, List.set_cons_zero, List.cons_append, List.nil_append]; apply hK; clear hK K) | (refine phi_pureK rfl rfl (fun K hK => ?_); apply Exists.intro; constructor; (focus (rintro w' ⟨f1, f2, f3, f4, f5, hIB⟩; have m0 := (f2.cell 0).trans rfl; have m1 := (f2.cell 1).trans rfl; have m2 := (f2.cell 2).trans rfl; have m3 := (f2.cell 3).trans rfl; have m4 := (f2.cell 4).trans rfl; have m5 := (f2.cell 5).trans rfl; have m6 := (f2.cell 6).trans rfl; have m7 := (f2.cell 7).trans rfl; have m8 := (f2.cell 8).trans rfl; have c9 := (f1.cell 9).trans rfl; have b0 := (f3.cell 0).trans rfl; have b1 := (f3.cell 1).trans rfl; have b2 := (f3.cell 2).trans rfl; have b3 := (f3.cell 3).trans rfl; have b4 := (f3.cell 4).trans rfl; clear f1 f2 f3 f4 f5 hIB; first | (go_simp; done) | (go_simp; (try go_bits); (try go_simp); rfl) | go_simp)); simp only [Act.put, List.setIfInBounds_toArray, List.set_cons_succ, List.set_cons_zero, List.cons_append, List.nil_append]; apply hK; clear hK K))
    refine phi_done ?_
    rintro w5 ⟨f1, f2, f3, f4, f5, hb5⟩ hk9
    have hb_20 := hk9 (20, fun w1 => (PNew (wq.heap.size) 46 #[.string ⟨#[]⟩, .string ⟨#[]⟩, .string ⟨#[]⟩, .string ⟨#[]⟩, .string ⟨#[]⟩, .slice none 0 0, .string ⟨#[]⟩, .string ⟨#[]⟩, .slice none 0 0, .slice none 0 0, .string ⟨#[]⟩]).fact w1 (.pointer (some ⟨g_20, 0, none⟩))) (by simp) g_20 rfl
    have hfs := hk9 (17, fun w1 => (PSlR wq.heap.size ((actT n s).getD []) (dec r) (dec p)).fact w1 (.slice (some ⟨gs, 0, none⟩) 1 1)) (by simp) gs rfl
    obtain ⟨hgs, g9, hg9, hk9r, hk9s⟩ := hfs
    obtain ⟨hg20, hk20⟩ := hb_20
    generalize g_20 = ge at *
    have hne1 : gs ≠ ge := fun e => by
      unfold Blk at hk9s hk20
      rw [e, hk20] at hk9s
      cases hk9s
    have hne2 : g9 ≠ ge := fun e => by
      unfold Blk at hk9r hk20
      rw [e, hk20] at hk9r
      cases hk9r
    have hzq := HGB.out
    have hzg := HGQ.out
    have hz5 := hb5.size
    refine wpList_store (.tmp 7) (.tmp 48) 46 rfl rfl ge 0 _ _ #[.string (bs (actF k)), .string (bs (addrS t)), .string (bs (idS i)), .string (bs (addrS f)), .string ⟨#[]⟩, .slice (some ⟨gs, 0, none⟩) 1 1, .string (bs (spaceF k)), .string (bs (kindF k)), .slice (p6) 1 (c6), .slice none 0 0, .string ⟨#[]⟩] rfl rfl hk20 (by kernel_rfl) (by simp [Value.oneCell']) (by simp) ?_
    intro w6 hb6 ho6
    rw [putCells_all #[.string ⟨#[]⟩, .string ⟨#[]⟩, .string ⟨#[]⟩, .string ⟨#[]⟩, .string ⟨#[]⟩, .slice none 0 0, .string ⟨#[]⟩, .string ⟨#[]⟩, .slice none 0 0, .slice none 0 0, .string ⟨#[]⟩] #[.string (bs (actF k)), .string (bs (addrS t)), .string (bs (idS i)), .string (bs (addrS f)), .string ⟨#[]⟩, .slice (some ⟨gs, 0, none⟩) 1 1, .string (bs (spaceF k)), .string (bs (kindF k)), .slice (p6) 1 (c6), .slice none 0 0, .string ⟨#[]⟩] rfl] at hb6
    have X1 := Lib.hid (ho6.blk f1 (by omega))
    have X2 := Lib.hid (ho6.blk (K2.out.below hb5 K2.out.lt) (by omega))
    have XR := Lib.hid (ho6.blk hk9r hne2)
    have XS := Lib.hid (ho6.blk hk9s hne1)
    have XE := Lib.hid hb6
    have XB := Lib.hid (KB.out.trans ((hb5.mono (by have := KB.out.size; omega)).trans (ho6.below (by have := KB.out.size; omega))))
    have XQ := Lib.hid (hb5.trans (ho6.below (by omega)) : Below wq.heap.size wq w6)
    have XI := Lib.hid (HI.out.below XQ.out)
    have XZ := Lib.hid (show w.heap.size + 2 < wq.heap.size ∧ wq.heap.size ≤ ge from ⟨by omega, by omega⟩)
    clear f1 f2 f3 f4 f5 hb5 hk9 hgs hg9 hk9r hk9s hg20 hk20 hne1 hne2 hb6 ho6 K1 K2 K3 K4 HT HAC HAT HAF HID HRF hzq hzg hz5
    have c10 := (X1.out.cell 10).trans rfl
    by_cases hj : 0 ≤ j
    · obtain ⟨jn, rfl⟩ := Int.eq_ofNat_of_zero_le hj
      have HIJ := Lib.hid (id_any jn (by omega) w6 E XI.out)
      go_wp2_with fail
      refine HIJ.out.mono ?_
      rintro e w7 ⟨rfl, hb7⟩
      have e7 := XE.out.below hb7 XE.out.lt
      have f4 := e7.frozen 4
      have k4 := (e7.cell 4).trans rfl
      have e8 := e7.set_ 4 (.string (bs (idS (jn : Int))))
      have q0 := (e8.cell 0).trans rfl; have q1 := (e8.cell 1).trans rfl; have q2 := (e8.cell 2).trans rfl; have q3 := (e8.cell 3).trans rfl; have q4 := (e8.cell 4).trans rfl; have q5 := (e8.cell 5).trans rfl; have q6 := (e8.cell 6).trans rfl; have q7 := (e8.cell 7).trans rfl; have q8 := (e8.cell 8).trans rfl; have q9 := (e8.cell 9).trans rfl; have q10 := (e8.cell 10).trans rfl
      have hxz := XZ.out
      have O9 := ((Only.refl ge w7).set_ 4 (.string (bs (idS (jn : Int)))))
      have X27 := Lib.hid (O9.blk (X2.out.below hb7 X2.out.lt) (by omega))
      have XR7 := O9.blk (XR.out.below hb7 XR.out.lt) (XR.out.ne XE.out (by decide))
      have XS7 := O9.blk (XS.out.below hb7 XS.out.lt) (XS.out.ne XE.out (by decide))
      have XB7 := XB.out.trans ((hb7.mono XB.out.size).trans (O9.below (by omega)))
      have hz7 := hb7.size
      have hzo := O9.size
      have hzq := XQ.out.size
      have hne := Lib.hid (show g9 ≠ w.heap.size + 1 ∧ gs ≠ w.heap.size + 1 from ⟨XR.out.ne X2.out (by decide), XS.out.ne X2.out (by decide)⟩)
      have KQ7 : ∀ a v, a.block < wq.heap.size → wq.cell? a = some v → (w7.setCell ⟨ge, 4, none⟩ (.string (bs (idS (jn : Int))))).cell? a = some v := fun a v h1 h2 => (World.cell?_of_block (O9.block a.block (by omega))).trans (Below.keeps hb7 _ _ (Below.keeps XQ.out _ _ h2))
      have hn1 := hne.out.1
      have hn2 := hne.out.2
      have HIF := Lib.hid (if_pos hj : (if (0 : Int) ≤ (jn : Int) then idS (jn : Int) else []) = idS (jn : Int))
      clear hb7 e7 O9 XR XS XE X1 X2 XI XB XQ XZ KB hne
      go_wp2_with (refine wpList_store (.tmp 2) (.tmp 56) 46 rfl rfl (w.heap.size + 1) 0 _ _ #[.string (bs (actF k)), .string (bs (addrS t)), .string (bs (idS i)), .string (bs (addrS f)), .string (bs (idS (jn : Int))), .slice (some ⟨gs, 0, none⟩) 1 1, .string (bs (spaceF k)), .string (bs (kindF k)), .slice (p6) 1 (c6), .slice none 0 0, .string ⟨#[]⟩] rfl rfl X27.out (by kernel_rfl) (by simp [Value.oneCell']) (by simp) ?_)
      intro w8 hb8 ho8
      rw [putCells_all #[.string ⟨#[]⟩, .string ⟨#[]⟩, .string ⟨#[]⟩, .string ⟨#[]⟩, .string ⟨#[]⟩, .slice none 0 0, .string ⟨#[]⟩, .string ⟨#[]⟩, .slice none 0 0, .slice none 0 0, .string ⟨#[]⟩] #[.string (bs (actF k)), .string (bs (addrS t)), .string (bs (idS i)), .string (bs (addrS f)), .string (bs (idS (jn : Int))), .slice (some ⟨gs, 0, none⟩) 1 1, .string (bs (spaceF k)), .string (bs (kindF k)), .slice (p6) 1 (c6), .slice none 0 0, .string ⟨#[]⟩] rfl] at hb8
      have u0 := (hb8.cell 0).trans rfl; have u1 := (hb8.cell 1).trans rfl; have u2 := (hb8.cell 2).trans rfl; have u3 := (hb8.cell 3).trans rfl; have u4 := (hb8.cell 4).trans rfl; have u5 := (hb8.cell 5).trans rfl; have u6 := (hb8.cell 6).trans rfl; have u7 := (hb8.cell 7).trans rfl; have u8 := (hb8.cell 8).trans rfl; have u9 := (hb8.cell 9).trans rfl; have u10 := (hb8.cell 10).trans rfl
      have XF := Lib.hid (XB7.trans (ho8.below (by omega)))
      have hzf := ho8.size
      have YR := Lib.hid (ho8.blk XR7 (by omega))
      have YS := Lib.hid (ho8.blk XS7 (by omega))
      have YB := Lib.hid (HBT.out w8 (fun a v h1 h2 h3 => (World.cell?_of_block (ho8.block a.block h1)).trans (KQ7 a v h2 h3)))
      have YZ := Lib.hid (show wq.heap.size ≤ w8.heap.size ∧ g9 < w8.heap.size ∧ gs < w8.heap.size from ⟨by omega, YR.out.lt, YS.out.lt⟩)
      clear hb8 ho8 hzf XR7 XS7 KQ7
      go_wp2_with fail
      refine bodyPost_ret (v := .agg #[.string (bs (actF k)), .string (bs (addrS t)), .string (bs (idS i)), .string (bs (addrS f)), .string (bs (idS (jn : Int))), .slice (some ⟨gs, 0, none⟩) 1 1, .string (bs (spaceF k)), .string (bs (kindF k)), .slice (p6) 1 (c6), .slice none 0 0, .string ⟨#[]⟩]) (by simp [results, Tryz.results30, go_sem, u0, u1, u2, u3, u4, u5, u6, u7, u8, u9, u10]) rfl ?_
      refine ⟨XF.out, _, rfl, some ⟨gs, 0, none⟩, 1, [[.string (bs ownL), .string (bs cRef), .slice (some ⟨g9, 0, none⟩) 3 3, .slice none 0 0, .string (bs [])]], spaceF k, kindF k, [], p6, 1, c6, none, 0, 0, ?_, rfl, Nat.le_refl _, by decide, rd_blk YS.out, ?_, ?_⟩
      · unfold Bnd.env
        simp only [HIF.out]
        rfl
      · exact TrXL.one (refT_trx ⟨k, f, t, n, s, r, p, q, c⟩ YZ.out.2.1 YR.out)
      · exact TrX.imp (fun b hb => by have := YZ.out.1; omega) _ _ YB.out
    · have q0 := (XE.out.cell 0).trans rfl; have q1 := (XE.out.cell 1).trans rfl; have q2 := (XE.out.cell 2).trans rfl; have q3 := (XE.out.cell 3).trans rfl; have q4 := (XE.out.cell 4).trans rfl; have q5 := (XE.out.cell 5).trans rfl; have q6 := (XE.out.cell 6).trans rfl; have q7 := (XE.out.cell 7).trans rfl; have q8 := (XE.out.cell 8).trans rfl; have q9 := (XE.out.cell 9).trans rfl; have q10 := (XE.out.cell 10).trans rfl
      have hxz := XZ.out
      have XR7 := XR.out
      have XS7 := XS.out
      have hzq := XQ.out.size
      have hne := Lib.hid (show g9 ≠ w.heap.size + 1 ∧ gs ≠ w.heap.size + 1 from ⟨XR.out.ne X2.out (by decide), XS.out.ne X2.out (by decide)⟩)
      have KQ7 : ∀ a v, a.block < wq.heap.size → wq.cell? a = some v → w6.cell? a = some v := fun a v h1 h2 => Below.keeps XQ.out _ _ h2
      have hn1 := hne.out.1
      have hn2 := hne.out.2
      have hj' : j < 0 := by omega
      have HIF := Lib.hid (if_neg hj : (if (0 : Int) ≤ j then idS j else []) = [])
      clear XR XS XE X1 XI XQ XZ KB hne
      go_wp2_with (refine wpList_store (.tmp 2) (.tmp 56) 46 rfl rfl (w.heap.size + 1) 0 _ _ #[.string (bs (actF k)), .string (bs (addrS t)), .string (bs (idS i)), .string (bs (addrS f)), .string ⟨#[]⟩, .slice (some ⟨gs, 0, none⟩) 1 1, .string (bs (spaceF k)), .string (bs (kindF k)), .slice (p6) 1 (c6), .slice none 0 0, .string ⟨#[]⟩] rfl rfl X2.out (by kernel_rfl) (by simp [Value.oneCell']) (by simp) ?_)
      intro w8 hb8 ho8
      rw [putCells_all #[.string ⟨#[]⟩, .string ⟨#[]⟩, .string ⟨#[]⟩, .string ⟨#[]⟩, .string ⟨#[]⟩, .slice none 0 0, .string ⟨#[]⟩, .string ⟨#[]⟩, .slice none 0 0, .slice none 0 0, .string ⟨#[]⟩] #[.string (bs (actF k)), .string (bs (addrS t)), .string (bs (idS i)), .string (bs (addrS f)), .string ⟨#[]⟩, .slice (some ⟨gs, 0, none⟩) 1 1, .string (bs (spaceF k)), .string (bs (kindF k)), .slice (p6) 1 (c6), .slice none 0 0, .string ⟨#[]⟩] rfl] at hb8
      have u0 := (hb8.cell 0).trans rfl; have u1 := (hb8.cell 1).trans rfl; have u2 := (hb8.cell 2).trans rfl; have u3 := (hb8.cell 3).trans rfl; have u4 := (hb8.cell 4).trans rfl; have u5 := (hb8.cell 5).trans rfl; have u6 := (hb8.cell 6).trans rfl; have u7 := (hb8.cell 7).trans rfl; have u8 := (hb8.cell 8).trans rfl; have u9 := (hb8.cell 9).trans rfl; have u10 := (hb8.cell 10).trans rfl
      have XF := Lib.hid (XB.out.trans (ho8.below (by omega)))
      have hzf := ho8.size
      have YR := Lib.hid (ho8.blk XR7 (by omega))
      have YS := Lib.hid (ho8.blk XS7 (by omega))
      have YB := Lib.hid (HBT.out w8 (fun a v h1 h2 h3 => (World.cell?_of_block (ho8.block a.block h1)).trans (KQ7 a v h2 h3)))
      have YZ := Lib.hid (show wq.heap.size ≤ w8.heap.size ∧ g9 < w8.heap.size ∧ gs < w8.heap.size from ⟨by omega, YR.out.lt, YS.out.lt⟩)
      clear hb8 ho8 hzf XR7 XS7 KQ7
      go_wp2_with fail
      refine bodyPost_ret (v := .agg #[.string (bs (actF k)), .string (bs (addrS t)), .string (bs (idS i)), .string (bs (addrS f)), .string ⟨#[]⟩, .slice (some ⟨gs, 0, none⟩) 1 1, .string (bs (spaceF k)), .string (bs (kindF k)), .slice (p6) 1 (c6), .slice none 0 0, .string ⟨#[]⟩]) (by simp [results, Tryz.results30, go_sem, u0, u1, u2, u3, u4, u5, u6, u7, u8, u9, u10]) rfl ?_
      refine ⟨XF.out, _, rfl, some ⟨gs, 0, none⟩, 1, [[.string (bs ownL), .string (bs cRef), .slice (some ⟨g9, 0, none⟩) 3 3, .slice none 0 0, .string (bs [])]], spaceF k, kindF k, [], p6, 1, c6, none, 0, 0, ?_, rfl, Nat.le_refl _, by decide, rd_blk YS.out, ?_, ?_⟩
      · unfold Bnd.env
        simp only [HIF.out]
        rfl
      · exact TrXL.one (refT_trx ⟨k, f, t, n, s, r, p, q, c⟩ YZ.out.2.1 YR.out)
      · exact TrX.imp (fun b hb => by have := YZ.out.1; omega) _ _ YB.out
end Go.Proofs.YthboiahdheehkaaGreatDoor
