/-
  Reader: the walks of package fields' reader: take and field.
-/
import Derived.Test.YtpbgappggmcmgaaDoorTryF
import Derived.Test.YtpbgappggmcmgaaDoorToNum
import Derived.Test.YtpbgappggmcmgaaDoorClone
import Derived.Test.YtpbgappggmcmgaaDoorErrOn
namespace Go.Proofs.YtpbgappggmcmgaaDoor
open Go.RowKit

theorem run_slice_full {P : Program} {t e : TypeId} {i : TypeInfo} (ht : P.underlying t = some (.slice e)) (hi : P.info? e = some i) (p : Option Addr) (n cap k : Nat) (hk : k ≤ cap) (w : World) :
    (Instr.slice t (.slice p n cap) none (some (.int .i64 (k : Int))) (some (.int .i64 (k : Int)))).run P w = .ok (.slice p k k) w := by
  have h1 : (0 : Int) ≤ (k : Int) ∧ (k : Int) ≤ (cap : Int) := by omega
  simp [Instr.slice, run_underlying ht, Instr.sliceBounds, run_sliceBound, sizeOf, typeInfo, hi, hk]
  intro _
  cases p <;> simp [Addr.add]
/-- block g is a reader of the slice v -/
def RB (w : World) (g : Nat) (v : Value) (last cnt : Int) : Prop := Blk w g 93 #[v, .int .i64 last, .int .i64 cnt]
def TakeR (w : World) (g : Nat) (p : Option Addr) (len c n : Nat) (last cnt : Int) (e : Ending) (w' : World) : Prop :=
  e = .returned (.slice p n n) ∧ RB w' g (.slice (cutp p n c 1) (len - n) (c - n)) last cnt ∧ Only g w w'
set_option maxRecDepth 20000 in
set_option maxHeartbeats 1000000 in
theorem take_any (w : World) (g : Nat) (p : Option Addr) (len c n : Nat) (last cnt : Int) (hb : RB w g (.slice p len c) last cnt) (hn : n ≤ len) (hc : len ≤ c) (hm : c ≤ maxLen) :
    Calls Tryd.prog 64 #[.pointer (some ⟨g, 0, none⟩), .int .i64 (n : Int)] w (TakeR w g p len c n last cnt) := by
  have HB := Lib.hid hb
  have c0 := (hb.cell 0).trans rfl
  have f0 := hb.frozen 0
  obtain ⟨i0, hi, hz0, hz1, hz2⟩ := info_parts byt8Info
  have d1 : decide ((len : Int) < (n : Int)) = false := by simp; omega
  have d1' : decide (len < n) = false := by simp; omega
  have hfull := fun w => run_slice_full (P := Tryd.prog) Tryd.underlying27 hi p len c n (by omega) w
  have hfrom := fun w => run_slice_from (P := Tryd.prog) Tryd.underlying27 hi p len c n hn w
  rw [hz1] at hfrom
  unfold maxLen at hm
  clear hb
  go_enter Tryd.func64, Tryd.ntmps64
  go_wp2_with fail
  first | go_quiet (fail) | skip
  go_wp2_with fail
  go_ret
  exact ⟨rfl, HB.out.set_ 0 _, (Only.refl _ _).set_ 0 _⟩
def Short (w : World) (E : Nat → Addr) (n : Nat) (e : Ending) (w' : World) : Prop := e = .panicked [{ v := errAt (E n), recovered := false }] ∧ w = w'
set_option maxRecDepth 20000 in
set_option maxHeartbeats 1000000 in
theorem take_short (w : World) (E : Nat → Addr) (g : Nat) (p : Option Addr) (len c : Nat) (n : Int) (last cnt : Int) (he : ErrsOn [1] w E) (hb : RB w g (.slice p len c) last cnt) (hn : (len : Int) < n) :
    Calls Tryd.prog 64 #[.pointer (some ⟨g, 0, none⟩), .int .i64 n] w (Short w E 1) := by
  have e1 := he.cell 1 rfl
  simp only [errVar, List.getD_cons_zero, List.getD_cons_succ, errAt] at e1
  have c0 := (hb.cell 0).trans rfl
  have d1 := decide_eq_true hn
  clear hb he hn
  go_enter Tryd.func64, Tryd.ntmps64
  go_wp2_with fail
  exact ⟨rfl, rfl, rfl⟩

/-! ### field -/
theorem RB.below {w w' : World} {g B : Nat} {v : Value} {last cnt : Int} (h : RB w g v last cnt) (hb : Below w.heap.size w w') : RB w' g v last cnt := Blk.below h hb h.lt
theorem byt_full {w : World} {p : Option Addr} {cap n : Nat} {l : List UInt8} (h : Byt w (.slice p l.length cap) l) (hn : n ≤ l.length) : Byt w (.slice p n n) (l.take n) := by
  obtain ⟨p', cap', he, h1, h2, h3⟩ := h
  cases he
  exact ⟨p, n, by rw [List.length_take, Nat.min_eq_left hn], by rw [List.length_take]; omega, by unfold maxLen at *; omega, by rw [bvs_take]; exact h3.take n⟩
/-- the error's number (less one) of a field's bytes -/
def tagOf (b : List UInt8) : Int := (b.getD 0 0).toNat
def sizeOfF (b : List UInt8) : Nat := 256 * (b.getD 1 0).toNat + (b.getD 2 0).toNat
def fieldBad (last : Int) (cnt : Nat) (b : List UInt8) : Option Nat :=
  if b.length < 3 then some 1 else if tagOf b ≤ last ∨ 200 < sizeOfF b ∨ 16 ≤ cnt then some 3 else if b.length - 3 < sizeOfF b then some 1 else none
def dataOf (b : List UInt8) : List UInt8 := (b.drop 3).take (sizeOfF b)
def restOf (b : List UInt8) : List UInt8 := (b.drop 3).drop (sizeOfF b)
def rdTs : List TypeId := [93]
/-- what field gives, W: the world of the bytes -/
def FieldR (W w : World) (E : Nat → Addr) (g : Nat) (last : Int) (cnt : Nat) (b : List UInt8) (e : Ending) (w' : World) : Prop :=
  Keeps W.heap.size rdTs w w' ∧
  match fieldBad last cnt b with
  | some n => e = .panicked [{ v := errAt (E n), recovered := false }]
  | none => ∃ vd p' c', e = .returned (.agg #[.int .i64 (tagOf b), vd]) ∧ w'.ownsRow W.heap.size 5 1 vd (dataOf b).length (bvs (dataOf b)) ∧
      RB w' g (.slice p' (restOf b).length c') (tagOf b) ((cnt + 1 : Nat) : Int) ∧ Byt W (.slice p' (restOf b).length c') (restOf b)
set_option maxRecDepth 20000 in
set_option maxHeartbeats 2000000 in
theorem field_any (W w : World) (E : Nat → Addr) (g : Nat) (p : Option Addr) (c : Nat) (last : Int) (cnt : Nat) (b : List UInt8) (he : ErrsOn [1, 3] W E) (hW : Below W.heap.size W w) (hg : W.heap.size ≤ g)
    (hy : Byt W (.slice p b.length c) b) (hb : RB w g (.slice p b.length c) last (cnt : Int)) (hcnt : cnt ≤ 16) (hlast : -1 ≤ last ∧ last ≤ 255) :
    Calls Tryd.prog 56 #[.pointer (some ⟨g, 0, none⟩)] w (FieldR W w E g last cnt b) := by
  have HE := Lib.hid he
  have HY := Lib.hid hy
  obtain ⟨q0, q1, hq, k1, k2, k3⟩ := hy
  cases hq
  have hw1 := below_alloc1 w (.cells #[.int .i64 0, .slice none 0 0] 57)
  have HB := Lib.hid (RB.below (B := 0) hb hw1)
  have hW1 := hW.trans (hw1.mono hW.size)
  have K0 := Lib.hid (show Keeps W.heap.size rdTs w (w.alloc (.cells #[.int .i64 0, .slice none 0 0] 57)) from Keeps.of_below hw1 hW.size)
  have hglt : g < w.heap.size := hb.lt
  have K1 := Keeps.refl W.heap.size rdTs (w.alloc (.cells #[.int .i64 0, .slice none 0 0] 57))
  have N1 := Lib.hid (Blk.new w 57 #[.int .i64 0, .slice none 0 0])
  clear he k3 hw1 hb
  by_cases h3 : b.length < 3
  · have hfb := Lib.hid (show fieldBad last cnt b = some 1 by unfold fieldBad; rw [if_pos h3])
    go_enter Tryd.func56, Tryd.ntmps56
    go_wp2_with fail
    refine (take_short _ E g p b.length c 3 last cnt (errs_sub (HE.out.below hW1) rfl) HB.out (by omega)).mono ?_
    rintro e w2 ⟨rfl, rfl⟩
    go_wp2_with fail
    refine ⟨rfl, K0.out, ?_⟩
    rw [hfb.out]
  · have hlen : 3 ≤ b.length := by omega
    have hh := byt_full HY.out hlen
    obtain ⟨x0, x1, x2, m, hbm⟩ : ∃ x0 x1 x2 m, b = x0 :: x1 :: x2 :: m := by
      match b, hlen with
      | x0 :: x1 :: x2 :: m, _ => exact ⟨x0, x1, x2, m, rfl⟩
    go_enter Tryd.func56, Tryd.ntmps56
    go_wp2_with fail
    refine (take_any _ g p b.length c 3 last cnt HB.out hlen k1 k2).mono ?_
    rintro e w2 ⟨rfl, hb2, ho2⟩
    have K2 := K1.only hg HB.out rfl ho2
    have hW2 := hW1.trans (ho2.below hg)
    have HB2 := Lib.hid hb2
    clear hb2 ho2
    have hrd : Rd W p (bvs [x0, x1, x2]) := by
      obtain ⟨_, _, he, _, _, h⟩ := hh
      injection he with e1 e2 e3
      subst e1
      rw [hbm] at h
      exact h
    obtain ⟨bb, off, rfl, hcell⟩ := hrd.has (by simp [bvs])
    have c0 : w2.cell? ⟨bb, off, none⟩ = some (.int .u8 (x0.toNat : Int)) := Below.keeps hW2 _ _ (hcell 0 _ rfl)
    have c1 : w2.cell? ⟨bb, off + 1, none⟩ = some (.int .u8 (x1.toNat : Int)) := Below.keeps hW2 _ _ (hcell 1 _ rfl)
    have c2 : w2.cell? ⟨bb, off + 2, none⟩ = some (.int .u8 (x2.toNat : Int)) := Below.keeps hW2 _ _ (hcell 2 _ rfl)
    have y0 := x0.toNat_lt
    have y1 := x1.toNat_lt
    have y2 := x2.toNat_lt
    have hor := or_byte x1.toNat x2.toNat y2 (by omega) (by omega)
    have ht : tagOf b = (x0.toNat : Int) := by rw [hbm]; rfl
    have hs : sizeOfF b = 256 * x1.toNat + x2.toNat := by rw [hbm]; rfl
    have HT := Lib.hid ht
    have HS := Lib.hid hs
    clear hcell hh hrd ht hs hbm
    generalize x0.toNat = n0 at *
    generalize x1.toNat = n1 at *
    generalize x2.toNat = n2 at *
    go_wp2_with fail
    go_quiet (fail)
    rw [show (256 * (n1 : Int) + (n2 : Int)) = ((256 * n1 + n2 : Nat) : Int) by omega]
    generalize 256 * n1 + n2 = sz at *
    have K3 := Lib.hid (K2.drewN nq)
    have hW3 := Lib.hid (hW2.trans (below_drewN _ nq |>.mono hW2.size))
    have HB3 := Lib.hid (show RB (w2.drewN nq) g _ last (cnt : Int) from HB2.out)
    clear c0 c1 c2 hor K2 hW2 HB2
    generalize w2.drewN nq = w3 at *
    have r1 := (HB3.out.cell 1).trans rfl
    have r2 := (HB3.out.cell 2).trans rfl
    by_cases hbad : (n0 : Int) ≤ last ∨ 200 < sz ∨ 16 ≤ cnt
    · have hfb := Lib.hid (show fieldBad last cnt b = some 3 by
        unfold fieldBad; rw [if_neg h3, if_pos]
        rw [HT.out, HS.out]; exact hbad)
      have e3 := (HE.out.below hW3.out).cell 3 rfl
      simp only [errVar, List.getD_cons_zero, List.getD_cons_succ, errAt] at e3
      have hways : (decide ((n0 : Int) ≤ last) = true) ∨ (decide ((n0 : Int) ≤ last) = false ∧ decide ((200 : Int) < (sz : Int)) = true ∧ decide (200 < sz) = true) ∨
          (decide ((n0 : Int) ≤ last) = false ∧ decide ((200 : Int) < (sz : Int)) = false ∧ decide (200 < sz) = false ∧ decide ((16 : Int) ≤ (cnt : Int)) = true ∧ decide (16 ≤ cnt) = true) := by
        simp only [decide_eq_true_eq, decide_eq_false_iff_not]; omega
      clear hbad
      rcases hways with a1 | ⟨a1, a2, a3⟩ | ⟨a1, a2, a3, a4, a5⟩
      all_goals
        go_wp2_with fail
        refine ⟨rfl, ?_⟩
        unfold FieldR
        rw [hfb.out]
        exact ⟨K0.out.trans K3.out, rfl⟩
    · have a1 : decide ((n0 : Int) ≤ last) = false := by simp; omega
      have a2 : decide ((200 : Int) < (sz : Int)) = false := by simp; omega
      have a3 : decide (200 < sz) = false := by simp; omega
      have a4 : decide ((16 : Int) ≤ (cnt : Int)) = false := by simp; omega
      have a5 : decide (16 ≤ cnt) = false := by simp; omega
      have g1 := HB3.out.frozen 1
      have g2 := HB3.out.frozen 2
      go_wp2_with fail
      have hrb := Blk.set_ (Blk.set_ HB3.out 1 (.int .i64 (n0 : Int))) 2 (.int .i64 ((cnt : Int) + 1))
      have hro : Only g w3 ((w3.setCell ⟨g, 1, none⟩ (.int .i64 (n0 : Int))).setCell ⟨g, 2, none⟩ (.int .i64 ((cnt : Int) + 1))) := ((Only.refl _ _).set_ 1 _).set_ 2 _
      have K4 := Lib.hid (K3.out.only hg HB3.out rfl hro)
      have hW4 := Lib.hid (hW3.out.trans (hro.below hg))
      have HB4 := Lib.hid (show RB ((w3.setCell ⟨g, 1, none⟩ (.int .i64 (n0 : Int))).setCell ⟨g, 2, none⟩ (.int .i64 ((cnt : Int) + 1))) g (.slice (cutp (some ⟨bb, off, none⟩) 3 c 1) (b.length - 3) (c - 3)) (n0 : Int) ((cnt : Int) + 1) from hrb)
      clear hrb hro r1 r2 g1 g2 a1 a2 a3 a4 a5 HB3
      generalize (w3.setCell ⟨g, 1, none⟩ (.int .i64 (n0 : Int))).setCell ⟨g, 2, none⟩ (.int .i64 ((cnt : Int) + 1)) = w4 at *
      have hyd := byt_drop HY.out 3 hlen
      by_cases hsz : b.length - 3 < sz
      · have hfb := Lib.hid (show fieldBad last cnt b = some 1 by
          unfold fieldBad; rw [if_neg h3, HT.out, HS.out, if_neg hbad, if_pos hsz])
        refine (take_short w4 E g _ _ _ (sz : Int) _ _ (errs_sub (HE.out.below hW4.out) rfl) HB4.out (by omega)).mono ?_
        rintro e w5 ⟨rfl, rfl⟩
        go_wp2_with fail
        refine ⟨rfl, ?_⟩
        unfold FieldR
        rw [hfb.out]
        exact ⟨K0.out.trans K4.out, rfl⟩
      · have hfb := Lib.hid (show fieldBad last cnt b = none by
          unfold fieldBad; rw [if_neg h3, HT.out, HS.out, if_neg hbad, if_neg hsz])
        have hdl : (b.drop 3).length = b.length - 3 := List.length_drop
        have hyr : Byt W (.slice (cutp (cutp (some ⟨bb, off, none⟩) 3 c 1) sz (c - 3) 1) (b.length - 3 - sz) (c - 3 - sz)) ((b.drop 3).drop sz) := by
          have := byt_drop (l := b.drop 3) (by rw [hdl]; exact hyd) sz (by omega)
          rwa [hdl] at this
        have hyt : Byt W (.slice (cutp (some ⟨bb, off, none⟩) 3 c 1) sz sz) ((b.drop 3).take sz) := by
          exact byt_full (by rw [hdl]; exact hyd) (by omega)
        have hRest := Lib.hid hyr
        have hData := Lib.hid hyt
        have hlr : (restOf b).length = b.length - 3 - sz := by unfold restOf; rw [List.length_drop, hdl, HS.out]
        have HLR := Lib.hid hlr
        have hs2 : sz ≤ 200 := by omega
        have hld : ((b.drop 3).take sz).length = sz := by rw [List.length_take, hdl]; omega
        have HLD := Lib.hid (show dataOf b = (b.drop 3).take sz by unfold dataOf; rw [HS.out])
        clear hyr hyt hyd hbad hlr
        generalize (b.drop 3).take sz = dd at *
        refine (take_any w4 g _ (b.length - 3) (c - 3) sz _ _ HB4.out (by omega) (by omega) (by unfold maxLen at *; omega)).mono ?_
        rintro e w5 ⟨rfl, hb5, ho5⟩
        have K5 := Lib.hid (K4.out.only hg HB4.out rfl ho5)
        have hW5 := Lib.hid (hW4.out.trans (ho5.below hg))
        have HB5 := Lib.hid hb5
        clear ho5 hb5
        go_wp2_with fail
        refine (clone_any _ dd w5 (by omega) (by have := hData.out.below hW5.out; exact this)).mono ?_
        rintro e w6 ⟨vd, rfl, hod, hb6⟩
        have K6 := Lib.hid (K5.out.call hW5.out.size hb6)
        have hW6 := Lib.hid (hW5.out.trans (hb6.mono hW5.out.size))
        have HB6 := Lib.hid (RB.below (B := 0) HB5.out hb6)
        have HOD := Lib.hid (owns_lower hod hW5.out.size)
        obtain ⟨pd, cd, rfl, _, _, _⟩ := owns_rd hod
        clear hod hb6
        have N6 := Lib.hid (K6.out.blk N1.out rfl)
        have HL := Lib.hid hld
        clear hld
        go_wp2_with (refine wpList_store (.tmp 2) (.tmp 56) 57 rfl rfl w.heap.size 0 _ _ #[.int .i64 (n0 : Int), .slice pd dd.length cd] rfl rfl N6.out (by kernel_rfl) ?s1 ?s2 ?_)
        case s1 => first | exact ⟨rfl, rfl⟩ | simp [Value.oneCell']
        case s2 => simp
        intro w7 hn7 ko7
        have h7 : Blk w7 w.heap.size 57 #[.int .i64 (n0 : Int), .slice pd dd.length cd] := hn7
        have q0 := (h7.cell 0).trans rfl
        have q1 := (h7.cell 1).trans rfl
        have hwN : W.heap.size ≤ w.heap.size := by omega
        go_wp2_with fail
        refine bodyPost_ret (v := .agg #[.int .i64 (n0 : Int), .slice pd dd.length cd]) (by simp [results, Tryd.results56, go_sem, q0, q1]) rfl ?_
        unfold FieldR
        rw [hfb.out]
        refine ⟨(K0.out.trans K6.out).new hwN (Nat.le_refl _) ko7, ?_⟩
        refine ⟨.slice pd dd.length cd, cutp (cutp (some ⟨bb, off, none⟩) 3 c 1) sz (c - 3) 1, c - 3 - sz, by rw [HT.out], ?_, ?_, ?_⟩
        · rw [HLD.out]; exact ko7.owns N6.out HOD.out (by decide)
        · rw [HLR.out, HT.out, show ((cnt + 1 : Nat) : Int) = (cnt : Int) + 1 from by omega]
          exact ko7.blk HB6.out (by omega)
        · have := hRest.out
          rw [HLR.out]
          unfold restOf
          rw [HS.out]
          exact this
end Go.Proofs.YtpbgappggmcmgaaDoor
