/-
  SplitW: the walks of fields.Split and of its closure.
-/
import Derived.Test.YtpbgappggmcmgaaDoorReader
import Derived.Test.YtpbgappggmcmgaaDoorFld
import Derived.Deep.LoopGhost
namespace Go.Proofs.YtpbgappggmcmgaaDoor
open Go.RowKit

theorem rest_lt {last : Int} {cnt : Nat} {b : List UInt8} (h : fieldBad last cnt b = none) : (restOf b).length < b.length := by
  unfold fieldBad at h
  split at h
  · cases h
  · unfold restOf
    simp only [List.length_drop]
    omega
def splitF (last : Int) (cnt : Nat) (b : List UInt8) : List (Int × List UInt8) × Option Nat :=
  if b = [] then ([], none) else
    match h : fieldBad last cnt b with
    | some n => ([], some n)
    | none => ((tagOf b, dataOf b) :: (splitF (tagOf b) (cnt + 1) (restOf b)).1, (splitF (tagOf b) (cnt + 1) (restOf b)).2)
termination_by b.length
decreasing_by all_goals exact rest_lt h
theorem splitF_nil (last : Int) (cnt : Nat) : splitF last cnt [] = ([], none) := by rw [splitF]; simp
theorem splitF_bad {last : Int} {cnt n : Nat} {b : List UInt8} (h0 : b ≠ []) (h : fieldBad last cnt b = some n) : splitF last cnt b = ([], some n) := by
  rw [splitF, if_neg h0]
  split
  · rename_i m hm; rw [h] at hm; cases hm; rfl
  · rename_i hm; rw [h] at hm; cases hm
theorem splitF_ok {last : Int} {cnt : Nat} {b : List UInt8} (h0 : b ≠ []) (h : fieldBad last cnt b = none) :
    splitF last cnt b = ((tagOf b, dataOf b) :: (splitF (tagOf b) (cnt + 1) (restOf b)).1, (splitF (tagOf b) (cnt + 1) (restOf b)).2) := by
  rw [splitF, if_neg h0]
  split
  · rename_i m hm; rw [h] at hm; cases hm
  · rfl
theorem fieldBad_lt {last : Int} {cnt n : Nat} {b : List UInt8} (h : fieldBad last cnt b = some n) : n < 14 := by
  unfold fieldBad at h
  repeat' split at h
  all_goals simp at h
  all_goals omega
theorem tagOf_bd (b : List UInt8) : 0 ≤ tagOf b ∧ tagOf b ≤ 255 := by
  unfold tagOf
  have := (b.getD 0 0).toNat_lt
  omega
theorem cnt_lt {last : Int} {cnt : Nat} {b : List UInt8} (h : fieldBad last cnt b = none) : cnt < 16 := by
  unfold fieldBad at h
  split at h
  · cases h
  · split at h
    · cases h
    · omega

/-- the row v of fields fs, whose data are rows of the call's own -/
def OutF (w : World) (B : Nat) (v : Value) (fs : List (Int × List UInt8)) : Prop :=
  ∃ us, us.length = fs.length ∧ w.ownsRow B 57 2 v fs.length (fcells fs us) ∧ ∀ (i : Nat) (f : Int × List UInt8), fs[i]? = some f → ∃ u, us[i]? = some u ∧ w.ownsRow B 5 1 u f.2.length (bvs f.2)
theorem fcells_app : ∀ (fs gs : List (Int × List UInt8)) (us vs : List Value), us.length = fs.length → fcells (fs ++ gs) (us ++ vs) = fcells fs us ++ fcells gs vs
  | [], _, [], _, _ => rfl
  | f :: fs, gs, u :: us, vs, h => by
    have := fcells_app fs gs us vs (by simpa using h)
    simp [fcells, this]
  | [], _, _ :: _, _, h => by simp at h
  | _ :: _, _, [], _, h => by simp at h
theorem OutF.keep {w w' : World} {B B' : Nat} {Ts : List TypeId} {v : Value} {fs : List (Int × List UInt8)} (h : OutF w B v fs) (k : Keeps B' Ts w w') (h1 : Ts.contains 57 = false) (h2 : Ts.contains 5 = false) : OutF w' B v fs := by
  obtain ⟨us, a, b, c⟩ := h
  exact ⟨us, a, k.owns b h1, fun i f hf => by obtain ⟨u, hu, ho⟩ := c i f hf; exact ⟨u, hu, k.owns ho h2⟩⟩
theorem OutF.below {w w' : World} {B : Nat} {v : Value} {fs : List (Int × List UInt8)} (h : OutF w B v fs) (k : Below w.heap.size w w') : OutF w' B v fs :=
  h.keep (Ts := []) (Keeps.of_below (B := 0) k (Nat.zero_le _)) rfl rfl
theorem OutF.lower {w : World} {B B' : Nat} {v : Value} {fs : List (Int × List UInt8)} (h : OutF w B v fs) (hB : B' ≤ B) : OutF w B' v fs := by
  obtain ⟨us, a, b, c⟩ := h
  exact ⟨us, a, owns_lower b hB, fun i f hf => by obtain ⟨u, hu, ho⟩ := c i f hf; exact ⟨u, hu, owns_lower ho hB⟩⟩
theorem OutF.fld {w : World} {B : Nat} {v : Value} {fs : List (Int × List UInt8)} (h : OutF w B v fs) : FldL w v fs := by
  obtain ⟨us, a, b, c⟩ := h
  obtain ⟨p, cap, hv, h1, h2, h3⟩ := owns_rd b
  exact ⟨p, cap, us, hv, h1, h2, a, h3, fun i f hf => by obtain ⟨u, hu, ho⟩ := c i f hf; exact ⟨u, hu, owns_byt ho⟩⟩
/-- a row of another type beside one that grows -/
theorem grown_owns {w w' : World} {base base' size size' n n' : Nat} {e e' : TypeId} {v v' : Value} {xs xs' : List Value} (hg : w.grownBy w' v.ownBlock) (ho : w.ownsRow base e size v n xs) (h : w.ownsRow base' e' size' v' n' xs') (hne : e ≠ e') : w'.ownsRow base' e' size' v' n' xs' := by
  refine ⟨h.1, ?_⟩
  rcases h.2 with h2 | ⟨g, cap, cur, hv, hb, hh, r⟩
  · exact .inl h2
  · refine .inr ⟨g, cap, cur, hv, hb, ?_, r⟩
    refine (hg.block g (Array.getElem?_eq_some_iff.1 hh).1 fun heq => ?_).trans hh
    rcases ho.2 with ⟨rfl, _⟩ | ⟨g', cap', cur', rfl, _, hh', _⟩
    · simp [Value.ownBlock] at heq
    · have e1 : g = g' := by simpa [Value.ownBlock] using heq
      subst e1
      exact Blk.ne_ (t := e) (cs := cur') hh' (show Blk w g e' cur from hh) hne rfl
theorem fldInfo : (Tryd.prog.info? 57).map (fun i => (i.zero, i.size, i.bytes)) = some (some (.agg #[.int .i64 0, .slice none 0 0]), 2, 32) := by kernel_rfl

def Split1R (w1 : World) (b : List UInt8) (v : Value) (w2 : World) : Prop := (splitF 0 0 b).2 = none ∧ OutF w2 w1.heap.size v (splitF 0 0 b).1
set_option maxRecDepth 20000 in
set_option maxHeartbeats 2000000 in
theorem split1_any (W : World) (E : Nat → Addr) (bx : Nat) (v : Value) (b : List UInt8) (he : ErrsOn [1, 3] W E) (hc : W.cell? ⟨bx, 0, none⟩ = some v) (hy : Byt W v b) :
    Calls Tryd.prog 55 #[.pointer (some ⟨bx, 0, none⟩)] W fun e w2 => May (Split1R W b) (fun n => (splitF 0 0 b).2 = some n) E e w2 ∧ Below W.heap.size W w2 := by
  have HE := Lib.hid he
  have HY := Lib.hid hy
  obtain ⟨p, c, rfl, k1, k2, k3⟩ := hy
  obtain ⟨i0, hi, hz0, hz1, hz2⟩ := info_parts fldInfo
  clear he k3
  go_enter Tryd.func55, Tryd.ntmps55
  go_wp2_with fail
  have hb0 := below_alloc1 W (.cells #[.slice p b.length c, .int .i64 0, .int .i64 0] 93)
  have hrb0 : RB (W.alloc (.cells #[.slice p b.length c, .int .i64 0, .int .i64 0] 93)) W.heap.size (.slice p b.length c) 0 ((0 : Nat) : Int) := Blk.new W _ _
  generalize W.alloc (.cells #[.slice p b.length c, .int .i64 0, .int .i64 0] 93) = w0 at *
  go_loopg [3] b.length (fun gk out wr => ∃ (fs : List (Int × List UInt8)) (rest : List UInt8) (last : Int) (p' : Option Addr) (c' : Nat), rest.length ≤ gk ∧ fs.length ≤ 16 ∧ (0 ≤ last ∧ last ≤ 255) ∧
    splitF 0 0 b = (fs ++ (splitF last fs.length rest).1, (splitF last fs.length rest).2) ∧ OutF wr W.heap.size out fs ∧ RB wr W.heap.size (.slice p' rest.length c') last ((fs.length : Nat) : Int) ∧ Byt W (.slice p' rest.length c') rest ∧ Below W.heap.size W wr)
  case atStart => exact ⟨[], b, 0, p, c, Nat.le_refl _, by simp, by decide, rfl, ⟨[], rfl, ⟨rfl, .inl ⟨rfl, rfl⟩⟩, by simp⟩, hrb0, HY.out, hb0⟩
  case round =>
    obtain ⟨fs, rest, last, p', c', hgk, hfl, hlast, heq, hout, hrb, hyr, hbw⟩ := hrel
    have HEQ := Lib.hid heq
    have HRB := Lib.hid hrb
    have HO := Lib.hid hout
    have HYR := Lib.hid hyr
    have r0 := (hrb.cell 0).trans rfl
    obtain ⟨_, _, hq, k1', k2', _⟩ := hyr
    cases hq
    unfold maxLen at k2'
    clear heq hrb hout hrb0 hb0
    by_cases hnil : rest = []
    · have HN := Lib.hid hnil
      have d0 : decide ((0 : Int) < (rest.length : Int)) = false := by simp [hnil]
      have d0' : decide (0 < rest.length) = false := by simp [hnil]
      clear hnil
      go_wp2_with fail
      go_ret
      refine ⟨.inl ⟨_, rfl, ?_⟩, hbw⟩
      have h := HEQ.out
      rw [HN.out, splitF_nil, List.append_nil] at h
      exact ⟨by rw [h], by rw [h]; exact HO.out⟩
    · have hpos : 0 < rest.length := List.length_pos_iff.2 hnil
      have HN := Lib.hid hnil
      have d0 : decide ((0 : Int) < (rest.length : Int)) = true := by simp; omega
      have d0' : decide (0 < rest.length) = true := by simp; omega
      clear hnil
      go_wp2_with fail
      refine (field_any W wr E W.heap.size p' c' last fs.length rest HE.out hbw (Nat.le_refl _) HYR.out HRB.out hfl ⟨by omega, hlast.2⟩).mono ?_
      rintro e w2 ⟨K2, hm⟩
      have hbw2 := hbw.trans K2.below
      have hO2 := HO.out.keep K2 rfl rfl
      cases hfb : fieldBad last fs.length rest with
      | some n =>
        rw [hfb] at hm
        obtain rfl := hm
        have hsp := splitF_bad HN.out hfb
        have HF := Lib.hid (show n < 14 ∧ (splitF 0 0 b).2 = some n from ⟨fieldBad_lt hfb, by rw [HEQ.out, hsp]⟩)
        clear hsp hfb
        go_wp2_with fail
        exact ⟨rfl, .inr ⟨n, HF.out.1, HF.out.2, rfl⟩, hbw2⟩
      | none =>
        rw [hfb] at hm
        obtain ⟨vd, p2, c2, rfl, hod, hrb2, hyr2⟩ := hm
        have hsp := splitF_ok HN.out hfb
        have hlt := rest_lt hfb
        have hc16 := cnt_lt hfb
        have htb := tagOf_bd rest
        have HH := Lib.hid (show splitF 0 0 b = ((fs ++ [(tagOf rest, dataOf rest)]) ++ (splitF (tagOf rest) (fs.length + 1) (restOf rest)).1, (splitF (tagOf rest) (fs.length + 1) (restOf rest)).2) by
          rw [HEQ.out, hsp]; simp)
        obtain ⟨us, hus, hown, hel⟩ := hO2
        obtain ⟨pd, cd, rfl, _, _, _⟩ := owns_rd hod
        have HOD := Lib.hid hod
        have HEL := Lib.hid hel
        have HRB2 := Lib.hid hrb2
        have HYR2 := Lib.hid hyr2
        clear hsp hfb hod hel hrb2 hyr2
        have hown1 := owns_below hown (below_alloc1 w2 (.cells #[.int .i64 (tagOf rest), .slice pd (dataOf rest).length cd] 57))
        have hs2 := (below_alloc hbw2 (.cells #[.int .i64 (tagOf rest), .slice pd (dataOf rest).length cd] 57)).size
        go_wp2_with (at_builtin; refine wpList_app (.tmp 13) (.tmp 16) 49 rfl rfl W.heap.size 57 i0 (.agg #[.int .i64 0, .slice none 0 0]) 2 32 Tryd.underlying49 hi hz0 hz1 hz2 rfl (by decide) _ _ _ rfl hown1 _ _ _ [.int .i64 (tagOf rest), .slice pd (dataOf rest).length cd] rfl rfl (rd_at _ #[_, _] _ _ _ rfl) ?b1 ?b2 ?b3 hs2 ?_)
        case b1 => first | exact ⟨rfl, rfl⟩ | simp [Value.oneCell']
        case b2 => unfold maxLen; omega
        case b3 => omega
        intro v3 w3 ho3 hg3
        have hal := below_alloc1 w2 (.cells #[.int .i64 (tagOf rest), .slice pd (dataOf rest).length cd] 57)
        have hbw3 := (below_alloc hbw2 (.cells #[.int .i64 (tagOf rest), .slice pd (dataOf rest).length cd] 57)).grown hg3 hs2 (fun j hj => (hown1.lt j hj).1)
        have HRB3 := Lib.hid (show RB w3 W.heap.size (.slice p2 (restOf rest).length c2) (tagOf rest) ((fs.length + 1 : Nat) : Int) from grown_blk hg3 hown1 (Blk.below HRB2.out hal (Blk.lt HRB2.out)) (by decide))
        have HO3 := Lib.hid (show OutF w3 W.heap.size v3 (fs ++ [(tagOf rest, dataOf rest)]) from by
          refine ⟨us ++ [.slice pd (dataOf rest).length cd], by simp [hus], ?_, fun i f hf => ?_⟩
          · rw [fcells_app _ _ _ _ hus, List.length_append]
            exact ho3
          · by_cases hi : i < fs.length
            · rw [List.getElem?_append_left hi] at hf
              obtain ⟨u, hu, ho⟩ := HEL.out i f hf
              exact ⟨u, by rw [List.getElem?_append_left (by omega)]; exact hu, grown_owns hg3 hown1 (owns_below ho hal) (by decide)⟩
            · rw [List.getElem?_append_right (by omega)] at hf
              have hi0 : i - fs.length = 0 := by
                have := (List.getElem?_eq_some_iff.1 hf).1
                simp at this; omega
              rw [hi0] at hf
              obtain rfl : (tagOf rest, dataOf rest) = f := by simpa using hf
              exact ⟨_, by rw [List.getElem?_append_right (by omega), hus, hi0]; rfl, grown_owns hg3 hown1 (owns_below HOD.out hal) (by decide)⟩)
        clear hown hown1 ho3 hg3 hal
        go_wp2_with fail
        go_roundg (restOf rest).length
        case measure => omega
        case rel => exact ⟨fs ++ [(tagOf rest, dataOf rest)], restOf rest, tagOf rest, p2, c2, Nat.le_refl _, by simp; omega, htb, by rw [List.length_append]; exact HH.out, HO3.out, by rw [List.length_append]; exact HRB3.out, HYR2.out, hbw3⟩
/-- fields.Split -/
def splitE (b : List UInt8) : Nat := match (splitF 0 0 b).2 with | none => 0 | some n => n + 1
def splitL (b : List UInt8) : List (Int × List UInt8) := match (splitF 0 0 b).2 with | none => (splitF 0 0 b).1 | some _ => []
def SplitR (w : World) (E : Nat → Addr) (b : List UInt8) (e : Ending) (w' : World) : Prop :=
  ∃ v, e = .returned (.tuple #[v, errV E (splitE b)]) ∧ FldL w' v (splitL b) ∧ Below w.heap.size w w'
set_option maxRecDepth 20000 in
set_option maxHeartbeats 2000000 in
theorem split_any (w : World) (E : Nat → Addr) (v : Value) (b : List UInt8) (he : Errs w E) (hy : Byt w v b) :
    Calls Tryd.prog 39 #[v] w (SplitR w E b) := by
  have HE := Lib.hid he
  have HY := Lib.hid hy
  have hmf := @run_makeFunc Tryd.prog
  obtain ⟨p, c, rfl, k1, k2, k3⟩ := hy
  clear he k3
  go_enter Tryd.func39, Tryd.ntmps39
  go_wp2_with fail
  have hb1 := below_alloc1 w (.cells #[.slice p b.length c] 27)
  have hc1 : (w.alloc (.cells #[.slice p b.length c] 27)).cell? ⟨w.heap.size, 0, none⟩ = some (.slice p b.length c) := (Blk.new w _ _).cell 0
  refine (tryF_any _ E 55 #[.pointer (some ⟨w.heap.size, 0, none⟩)] (fun w1 => Split1R w1 b) (fun n => (splitF 0 0 b).2 = some n) (HE.out.below hb1) ?_ (fun w => by kernel_rfl) ?_).mono ?_
  · rintro w1 v w2 ⟨_, h⟩
    obtain ⟨p, c, us, rfl, _⟩ := h.fld
    exact ⟨_, _, _, rfl⟩
  · intro w1 hbw _
    exact split1_any w1 E w.heap.size _ b (((HE.out.below hb1).below hbw).on [1, 3] rfl) (Below.keeps hbw _ _ hc1) ((HY.out.below hb1).below hbw)
  · rintro e w2 ⟨hb2, ⟨v, w1, w2', rfl, hs1, hbw1, hbw2, ⟨hn, hO⟩, hBut⟩ | ⟨n, hn, hS, rfl⟩⟩
    · have hB2 := Lib.hid (hb1.trans (hb2.mono hb1.size))
      simp only [World.size_alloc] at hs1
      have hF : FldL w2 v (splitF 0 0 b).1 := by
        have hO' : OutF w2 (w1.heap.size) v (splitF 0 0 b).1 := by
          have keep : ∀ {size n : Nat} {e : TypeId} {u : Value} {xs : List Value}, w2'.ownsRow w1.heap.size e size u n xs → w2.ownsRow w1.heap.size e size u n xs := by
            intro size n e u xs h
            refine ⟨h.1, ?_⟩
            rcases h.2 with h2 | ⟨g, cap, cur, hv, hg, hh, r⟩
            · exact .inl h2
            · exact .inr ⟨g, cap, cur, hv, hg, (hBut.block g (Array.getElem?_eq_some_iff.1 hh).1 (by simp; omega)).trans hh, r⟩
          obtain ⟨us, a, b', c'⟩ := hO
          exact ⟨us, a, keep b', fun i f hf => by obtain ⟨u, hu, ho⟩ := c' i f hf; exact ⟨u, hu, keep ho⟩⟩
        exact hO'.fld
      have HF := Lib.hid hF
      have HN := Lib.hid (show splitE b = 0 ∧ splitL b = (splitF 0 0 b).1 by unfold splitE splitL; rw [hn]; exact ⟨rfl, rfl⟩)
      clear hF hO hBut hb1 hc1 hb2 hbw1 hbw2 hn hs1
      obtain ⟨p3, c3, us, rfl, _⟩ := id HF.out
      go_wp2_with fail
      go_ret2
      exact ⟨_, by rw [HN.out.1]; rfl, by rw [HN.out.2]; exact HF.out, hB2.out⟩
    · have hB2 := Lib.hid (hb1.trans (hb2.mono hb1.size))
      have HN := Lib.hid (show splitE b = n + 1 ∧ splitL b = [] by unfold splitE splitL; rw [hS]; exact ⟨rfl, rfl⟩)
      clear hb1 hc1 hb2 hS
      unfold errAt
      go_wp2_with fail
      go_ret2
      exact ⟨.slice none 0 0, by rw [HN.out.1]; rfl, by rw [HN.out.2]; exact ⟨none, 0, [], rfl, Nat.le_refl _, by unfold maxLen; omega, rfl, .inl rfl, by simp⟩, hB2.out⟩
end Go.Proofs.YtpbgappggmcmgaaDoor
