/-
  RefAl: the document's All: rows' frames.
-/
import Derived.Test.YtoiknidlincdkaaDoorJourA
namespace Go.Proofs.YtoiknidlincdkaaDoor
open Go.RowKit

def AllR (ls : List (List UInt8)) (w : World) (e : Ending) (w' : World) : Prop :=
  Below w.heap.size w w' ∧ ((okRows ls = true ∧ ∃ v, e = .returned (.tuple #[v, .bool true]) ∧ w'.ownsRow w.heap.size 5 1 v (framesJ ls).length (bvs (framesJ ls))) ∨ (okRows ls = false ∧ e = .returned (.tuple #[.slice none 0 0, .bool false])))
set_option maxRecDepth 20000 in
set_option maxHeartbeats 4000000 in
theorem refall_any (ls : List (List UInt8)) (hle : ls.length ≤ 100000) (v : Value) (w : World) (hv : BytL w v ls) :
    Calls Tryd.prog 31 #[v] w (AllR ls w) := by
  obtain ⟨p, cap, vs, rfl, h1, h2, h3, h4, h5⟩ := hv
  obtain ⟨i0, hi, hz0, hz1, hz2⟩ := info_parts byt8Info
  have H3 := Lib.hid h3
  have H5 := Lib.hid h5
  unfold maxLen at h2
  clear h3 h4 h5
  go_enter Tryd.func31, Tryd.ntmps31
  go_wp2_with fail
  go_loopw [4, 12] (fun o i wr => ∃ k : Nat, k ≤ ls.length ∧ i = .int .i64 k ∧ okRows (ls.take k) = true ∧ wr.ownsRow w.heap.size 5 1 o (framesJ (ls.take k)).length (bvs (framesJ (ls.take k))) ∧ Below w.heap.size w wr) (fun _ i _ => ls.length - (intOf i).toNat)
  case atStart =>
    have ho := World.ownsRow_lit (base := w.heap.size) (e := 5) (size := 1) w #[] 0 (Nat.le_refl _) (by unfold maxLen; omega) rfl
    exact ⟨0, by omega, rfl, rfl, by simpa [framesJ, bvs] using ho, below_alloc1 _ _⟩
  case round =>
    obtain ⟨k, hk, rfl, hall, hout, hbw⟩ := hrel
    obtain ⟨po, co, rfl, _, _, _⟩ := owns_rd hout
    have HALL := Lib.hid hall
    have HO := Lib.hid hout
    have hlen := framesJ_le hall
    clear hall hout
    by_cases hlt : k < ls.length
    · obtain ⟨b, off, pu, cu, rfl, hcell', hq1, hq2, hq3⟩ := bytL_cell H3.out H5.out hlt
      have hcell := Below.keeps hbw _ _ hcell'
      have HBY := Lib.hid (show Byt wr (.slice pu ls[k].length cu) ls[k] from ⟨pu, cu, rfl, hq1, hq2, hq3.keep (Below.keeps hbw)⟩)
      have HST := Lib.hid (okRows_step ls k hlt)
      have HFJ := Lib.hid (framesJ_take ls k hlt)
      have HFA := Lib.hid (fun hf => okRows_hit hlt hf)
      clear hcell' hq1 hq2 hq3
      generalize ls[k] = l at *
      have HFR := Lib.hid (refframe_any wr _ l HBY.out)
      unfold FramedR frameR at HFR
      cases hr : okRow l
      · have HF := Lib.hid (HFA.out hr)
        rw [hr] at HFR
        clear hr HFA HST HFJ
        go_wp2_with fail
        refine HFR.out.mono ?_
        rintro e w2 ⟨v, rfl, ho2, hb2⟩
        have B2 := Lib.hid (hbw.trans (hb2.mono hbw.size))
        obtain ⟨p2, c2, rfl, _, _, _⟩ := owns_rd ho2
        clear hb2 ho2
        go_wp2_with fail
        go_ret2
        exact ⟨B2.out, .inr ⟨HF.out, rfl⟩⟩
      · rw [hr, HALL.out] at HST
        rw [hr, if_pos rfl] at HFR
        have hl2 : (frameJ l).length ≤ 206 := by have := (okRow_iff l).1 hr; rw [frameJ_len]; omega
        clear hr HFA
        generalize frameJ l = f at *
        go_wp2_with fail
        refine HFR.out.mono ?_
        rintro e w2 ⟨v, rfl, ho2, hb2⟩
        have hbw2 := hbw.trans (hb2.mono hbw.size)
        have hown := owns_below HO.out hb2
        obtain ⟨p2, c2, rfl, hp1, hp2, hp3⟩ := owns_rd ho2
        have HD := Lib.hid hp3
        have hs3 := hbw2.size
        clear hb2 hp1 hp2 hp3 ho2 HO HFR
        go_wp2_with (at_builtin; refine wpList_app (.tmp 23) (.tmp 24) 22 rfl rfl w.heap.size 5 i0 (.int .u8 0) 1 1 Tryd.underlying22 hi hz0 hz1 hz2 rfl (by decide) _ _ _ rfl hown _ _ _ (bvs f) rfl ?b0 HD.out bvs_one ?b2 ?b3 hs3 ?_)
        case b0 => rw [bvs_len]; (try omega)
        case b2 => unfold maxLen; omega
        case b3 => omega
        intro v4 w4 ho4 hg4
        have hbw4 := hbw2.grown hg4 hs3 (fun j hj => (hown.lt j hj).1)
        obtain ⟨p4, c4, rfl, _, _, _⟩ := owns_rd ho4
        have HO4 := Lib.hid ho4
        clear hown ho4 hg4 hs3
        go_wp2_with fail
        go_roundw
        case rel => exact ⟨k + 1, by omega, by go_num, HST.out, by rw [HFJ.out, bvs_app, List.length_append]; exact HO4.out, hbw4⟩
        case measure => simp [intOf]; omega
    · obtain rfl : k = ls.length := by omega
      go_wp2_with fail
      go_ret2
      have hl9 : ls.take ls.length = ls := List.take_of_length_le (Nat.le_refl _)
      have HA := HALL.out
      have HO9 := HO.out
      rw [hl9] at HA HO9
      refine ⟨hbw, .inl ⟨HA, .slice po (framesJ (ls.take ls.length)).length co, rfl, ?_⟩⟩
      rw [hl9]
      exact HO9
end Go.Proofs.YtoiknidlincdkaaDoor
