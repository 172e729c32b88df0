/-
  JourA: journal.all: rows' frames.
-/
import Derived.Test.YtoiknidlincdkaaDoorJourF
import Derived.Test.YtoiknidlincdkaaDoorJA
namespace Go.Proofs.YtoiknidlincdkaaDoor
open Go.RowKit Go.Extern.Stop Go.Stop Go.Extern

theorem okRows_step (rs : List (List UInt8)) (k : Nat) (hk : k < rs.length) : okRows (rs.take (k + 1)) = (okRows (rs.take k) && okRow rs[k]) := by
  rw [List.take_succ_eq_append_getElem hk, okRows_app]
  unfold okRows
  simp
theorem okRows_hit {rs : List (List UInt8)} {k : Nat} (hk : k < rs.length) (h : okRow rs[k] = false) : okRows rs = false := by
  rw [Bool.eq_false_iff]
  intro h9
  have := (okRows_iff rs).1 h9 _ (List.getElem_mem hk)
  rw [h] at this
  cases this
theorem framesJ_le {rs : List (List UInt8)} {k : Nat} (h : okRows (rs.take k) = true) : (framesJ (rs.take k)).length ≤ 206 * k := by
  have h1 := okRows_bound h
  have h2 : (rs.take k).length ≤ k := List.length_take_le ..
  have := Nat.mul_le_mul_left 206 h2
  omega
set_option maxRecDepth 20000 in
set_option maxHeartbeats 4000000 in
theorem all1_any (rs : List (List UInt8)) (hle : rs.length ≤ 1000) (g : Nat) (v : Value) (w : World) (E : Nat → Addr) (ht : HalfTab w) (h : Errs w E) (hc : w.cell? ⟨g, 0, none⟩ = some v) (hv : BytL w v rs) :
    Calls Tryd.prog 60 #[.pointer (some ⟨g, 0, none⟩)] w
      (PanR E (fun v w' => okRows rs = true ∧ w'.ownsRow w.heap.size 5 1 v (framesJ rs).length (bvs (framesJ rs))) (fun n => n = 3 ∧ okRows rs = false) w) := by
  have HG := Lib.hid (fun w' (hb : Below w.heap.size w w') => (h.below hb).on [3] rfl)
  have HTB := Lib.hid (fun w' (hb : Below w.heap.size w w') => ht.keep (Below.keeps hb))
  obtain ⟨p, cap, vs, rfl, h1, h2, h3, h4, h5⟩ := hv
  obtain ⟨i0, hi, hz0, hz1, hz2⟩ := info_parts byt8Info
  have H3 := Lib.hid h3
  have H5 := Lib.hid h5
  unfold maxLen at h2
  clear h ht h3 h4 h5
  go_enter Tryd.func60, Tryd.ntmps60
  go_wp2_with fail
  clear hc
  go_loopw [2, 7] (fun o i wr => ∃ k : Nat, k ≤ rs.length ∧ i = .int .i64 k ∧ okRows (rs.take k) = true ∧ wr.ownsRow w.heap.size 5 1 o (framesJ (rs.take k)).length (bvs (framesJ (rs.take k))) ∧ Below w.heap.size w wr) (fun _ i _ => rs.length - (intOf i).toNat)
  case atStart =>
    exact ⟨0, by omega, rfl, rfl, ⟨rfl, .inl ⟨rfl, rfl⟩⟩, Below.refl _ _⟩
  case round =>
    obtain ⟨k, hk, rfl, hall, hout, hbw⟩ := hrel
    obtain ⟨po, co, rfl, _, _, _⟩ := owns_rd hout
    have HALL := Lib.hid hall
    have HO := Lib.hid hout
    have hlen := framesJ_le hall
    clear hall hout
    by_cases hlt : k < rs.length
    · obtain ⟨b, off, pu, cu, rfl, hcell', hq1, hq2, hq3⟩ := bytL_cell H3.out H5.out hlt
      have hcell := Below.keeps hbw _ _ hcell'
      have HBY := Lib.hid (show Byt wr (.slice pu rs[k].length cu) rs[k] from ⟨pu, cu, rfl, hq1, hq2, hq3.keep (Below.keeps hbw)⟩)
      have HST := Lib.hid (okRows_step rs k hlt)
      have HFJ := Lib.hid (framesJ_take rs k hlt)
      have HFA := Lib.hid (fun hf => okRows_hit hlt hf)
      clear hcell' hq1 hq2 hq3
      generalize rs[k] = l at *
      have HFR := Lib.hid (frame_any wr E _ l (HTB.out _ hbw) (HG.out _ hbw) HBY.out)
      unfold FramedJ frameE frameR at HFR
      cases hr : okRow l
      · have HF := Lib.hid (HFA.out hr)
        rw [hr] at HFR
        rw [show errV E (if false = true then 0 else 4) = .iface 117 (.pointer (some (E 3))) from rfl] at HFR
        have HMB := Lib.hid (fun v w' => mustB_err w' E 3 v)
        rw [show errV E (3 + 1) = .iface 117 (.pointer (some (E 3))) from rfl] at HMB
        unfold panE at HMB
        clear hr HFA HST HFJ
        go_wp2_with fail
        refine HFR.out.mono ?_
        rintro e w2 ⟨v, rfl, ho2, hb2⟩
        have B2 := Lib.hid (hbw.trans (hb2.mono hbw.size))
        clear hb2 ho2
        go_wp2_with fail
        refine (HMB.out _ _).mono ?_
        rintro e w2' ⟨rfl, rfl⟩
        go_wp2_with fail
        exact ⟨rfl, B2.out, .inr ⟨3, by omega, ⟨rfl, HF.out⟩, rfl⟩⟩
      · rw [hr, HALL.out] at HST
        rw [hr] at HFR
        rw [show errV E (if true = true then 0 else 4) = .nilIface from rfl, if_pos rfl] at HFR
        have hl2 : (frameJ l).length ≤ 206 := by have := (okRow_iff l).1 hr; rw [frameJ_len]; omega
        clear hr HFA
        generalize frameJ l = f at *
        go_wp2_with fail
        refine HFR.out.mono ?_
        rintro e w2 ⟨v, rfl, ho2, hb2⟩
        have hbw2 := hbw.trans (hb2.mono hbw.size)
        have hown := owns_below HO.out hb2
        obtain ⟨p2, c2, rfl, hp1, hp2, hp3⟩ := owns_rd ho2
        have HD := Lib.hid hp3
        have hs3 := hbw2.size
        clear hb2 hp1 hp2 hp3 ho2 HO HFR
        go_wp2_with fail
        refine (mustB_any _ _ _ _).mono ?_
        rintro e w2' ⟨rfl, rfl⟩
        go_wp2_with (at_builtin; refine wpList_app (.tmp 11) (.tmp 16) 22 rfl rfl w.heap.size 5 i0 (.int .u8 0) 1 1 Tryd.underlying22 hi hz0 hz1 hz2 rfl (by decide) _ _ _ rfl hown _ _ _ (bvs f) rfl ?b0 HD.out bvs_one ?b2 ?b3 hs3 ?_)
        case b0 => rw [bvs_len]; (try omega)
        case b2 => unfold maxLen; omega
        case b3 => omega
        intro v4 w4 ho4 hg4
        have hbw4 := hbw2.grown hg4 hs3 (fun j hj => (hown.lt j hj).1)
        obtain ⟨p4, c4, rfl, _, _, _⟩ := owns_rd ho4
        have HO4 := Lib.hid ho4
        clear hown ho4 hg4 hs3
        go_wp2_with fail
        go_roundw
        case rel => exact ⟨k + 1, by omega, by go_num, HST.out, by rw [HFJ.out, bvs_app, List.length_append]; exact HO4.out, hbw4⟩
        case measure => simp [intOf]; omega
    · obtain rfl : k = rs.length := by omega
      go_wp2_with fail
      go_ret
      have hl9 : rs.take rs.length = rs := List.take_of_length_le (Nat.le_refl _)
      have HA := HALL.out
      have HO9 := HO.out
      rw [hl9] at HA HO9
      refine ⟨hbw, .inl ⟨.slice po (framesJ (rs.take rs.length)).length co, rfl, HA, ?_⟩⟩
      rw [hl9]
      exact HO9
/-- ALL frames of rows; where one is no row: none, and the form's error -/
def AllJ (E : Nat → Addr) (rs : List (List UInt8)) (w : World) (e : Ending) (w' : World) : Prop :=
  Below w.heap.size w w' ∧ ((okRows rs = true ∧ ∃ v, e = .returned (.tuple #[v, .nilIface]) ∧ w'.ownsRow w.heap.size 5 1 v (framesJ rs).length (bvs (framesJ rs))) ∨ (okRows rs = false ∧ e = .returned (.tuple #[.slice none 0 0, errAt (E 3)])))
set_option maxRecDepth 20000 in
set_option maxHeartbeats 4000000 in
theorem all_any (rs : List (List UInt8)) (hle : rs.length ≤ 1000) (v : Value) (w : World) (E : Nat → Addr) (ht : HalfTab w) (h : Errs w E) (hv : BytL w v rs) :
    Calls Tryd.prog 41 #[v] w (AllJ E rs w) := by
  have B := Lib.hid (below_alloc1 w (.cells #[v] 39))
  have N := Lib.hid (Blk.new w 39 #[v])
  have HV := Lib.hid (hv.keep (keep_alloc w (.cells #[v] 39)))
  have G' := Lib.hid (h.below B.out)
  have T' := Lib.hid (ht.keep (Below.keeps B.out))
  obtain ⟨p, cap, vs, rfl, h1, h2, h3, h4, h5⟩ := hv
  clear h ht h1 h2 h3 h4 h5
  go_enter Tryd.func41, Tryd.ntmps41
  have hmf := @run_makeFunc Tryd.prog
  go_wp2_with fail
  generalize hw1 : w.alloc (.cells #[.slice p rs.length cap] 39) = w1 at *
  refine (tryY_any w1 E 60 #[.pointer (some ⟨w.heap.size, 0, none⟩)] [] (fun w1 v w2 => okRows rs = true ∧ w2.ownsRow w1.heap.size 5 1 v (framesJ rs).length (bvs (framesJ rs))) (fun n _ _ => n = 3 ∧ okRows rs = false) (by simp) (fun w2 hb => G'.out.below hb.nil_below) ?_ ?_ ?_).mono ?_
  · intro w1 v w2 ho
    obtain ⟨p, c9, rfl, _⟩ := owns_rd ho.2
    exact ⟨_, _, _, rfl⟩
  · intro w; rfl
  · intro w2 hb hs
    refine (all1_any rs hle w.heap.size _ w2 E (T'.out.keep (Below.keeps hb)) (G'.out.below hb) ((N.out.below hb N.out.lt).cell 0) (HV.out.keep (Below.keeps hb))).mono ?_
    intro e w3 hp
    exact hp.may
  · rintro e w3 ⟨hb0, w2, w4, hs, hb1, hb2, hb3, hor⟩
    have B3 := Lib.hid (B.out.trans (hb0.nil_below.mono B.out.size))
    rcases hor with ⟨v, rfl, hq, ho⟩ | ⟨n, _, ⟨rfl, hq⟩, rfl⟩
    · have HO := Lib.hid (owns_lower (But.owns (S := [w1.heap.size, w1.heap.size + 1, w1.heap.size + 2]) hb3 (by simp; omega) ho) (show w.heap.size ≤ w2.heap.size by have := B.out.size; omega))
      have HQ := Lib.hid hq
      obtain ⟨p9, c9, rfl, _⟩ := owns_rd ho
      clear hb0 hb1 hb2 hb3 hs hq ho
      go_wp2_with fail
      go_ret2
      exact ⟨B3.out, .inl ⟨HQ.out, _, rfl, HO.out⟩⟩
    · have HQ := Lib.hid hq
      clear hb0 hb1 hb2 hb3 hs hq
      unfold errAt
      go_wp2_with fail
      go_ret2
      exact ⟨B3.out, .inr ⟨HQ.out, rfl⟩⟩
end Go.Proofs.YtoiknidlincdkaaDoor
