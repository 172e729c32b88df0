/-
  LawSums: the walks of alive and CheckSums.
-/
import Derived.Test.YtdbgdmhlnaldoaaDoorCrc
namespace Go.Proofs.YtdbgdmhlnaldoaaDoor
open Go.RowKit

def nine : List UInt8 := [49, 50, 51, 52, 53, 54, 55, 56, 57]
theorem nine_sum : csums 0 [nine] = 0xcbf43926#32 := by decide +kernel
theorem nine_u32 : (n32 (csums 0 [nine]) == 3421780262) = true := by rw [nine_sum]; decide

set_option maxHeartbeats 400000 in
theorem alive_any (w : World) (ht : HalfTab w) :
    Calls Tryd.prog 8 #[] w fun e w' => e = .returned (.bool true) ∧ Below w.heap.size w w' := by
  have hcv := fun (w : World) (C : Array Value) (n c : Nat) => Lib.run_convert_bytes_const (P := Tryd.prog) w 24 5 C n c Tryd.underlying24 Tryd.underlying5
  have hn := nine_u32
  go_enter Tryd.func8, Tryd.ntmps8
  go_wp2_with fail
  clear hcv
  have hb : Below w.heap.size w (w.alloc (Obj.cells (bvs nine).toArray 5 (9, 10))) := (Below.refl _ _).alloc (Nat.le_refl _) _
  refine (sum_any _ [nine] _ ?_ ?_).mono ?_
  · exact (ht.keep (keep_alloc _ _)).keep (keep_alloc _ _)
  · refine ⟨_, _, [.slice (some ⟨w.heap.size, 0, none⟩) 9 9], rfl, by decide, by decide, rd_at _ #[_] _ _ _ (by simp), rfl, ?_⟩
    rintro i l hl
    cases i with
    | succ i => simp at hl
    | zero =>
      obtain rfl : nine = l := by simpa using hl
      exact ⟨_, rfl, _, _, rfl, by decide, by decide, (rd_new w _ _ _).keep (keep_alloc _ _)⟩
  · rintro e w' ⟨rfl, rfl⟩
    go_wp2_with fail
    go_ret
    exact ⟨by rfl, hb.alloc (by simp) _⟩

theorem uint8Info : (Tryd.prog.info? 5).map (fun i => (i.zero, i.size, i.bytes)) = some (some (.int .u8 0), 1, 1) := by kernel_rfl

theorem flat_take (ls : List (List UInt8)) (k : Nat) (h : k < ls.length) : (ls.take (k + 1)).flatten = (ls.take k).flatten ++ ls[k] := by
  rw [List.take_succ_eq_append_getElem h, List.flatten_append]; simp only [List.flatten_cons, List.flatten_nil, List.append_nil]
theorem flat_bound (ls : List (List UInt8)) (k : Nat) (h : ∀ l ∈ ls.take k, l.length ≤ 200) (hk : ls.length ≤ 20) : (ls.take k).flatten.length ≤ 4000 := by
  have h1 : ∀ m : List (List UInt8), (∀ l ∈ m, l.length ≤ 200) → m.flatten.length ≤ m.length * 200 := by
    intro m hm
    induction m with
    | nil => simp
    | cons x m ih =>
      have h1 := hm x (by simp)
      have h2 := ih (fun l hl => hm l (by simp [hl]))
      rw [List.flatten_cons, List.length_append, List.length_cons]
      omega
  have h2 := h1 _ h
  have h3 : (ls.take k).length ≤ ls.length := List.length_take_le' _ _
  omega

set_option maxHeartbeats 1000000 in
theorem sums_any (v : Value) (ls : List (List UInt8)) (m : UInt8) (w : World) (ht : HalfTab w) (hv : BytL w v ls) :
    Calls Tryd.prog 3 #[v, .int .u8 m.toNat] w fun e w' => e = .returned (.bool true) ∧ Below w.heap.size w w' := by
  have HV := Lib.hid hv
  obtain ⟨p, cap, vs, rfl, h1, h2, h3, h4, h5⟩ := hv
  have H5 := Lib.hid h5; clear h5
  have H4 := Lib.hid h4; clear h4
  have H3 := Lib.hid h3; clear h3
  unfold maxLen at h2
  obtain ⟨i0, hi, hz0, hz1, hz2⟩ := info_parts uint8Info
  go_enter Tryd.func3, Tryd.ntmps3
  go_wp2_with fail
  refine (alive_any _ ht).mono ?_
  rintro e w1 ⟨rfl, hb1⟩
  have HW1 := Lib.hid (fun (a : Addr) (v : Value) => Below.keeps hb1 a v)
  by_cases hl : ls.length ≤ 20
  · have hld : decide (20 < (ls.length : Int)) = false := by simp; omega
    go_wp2_with fail
    go_loopw [5, 17] (fun v i wr => ∃ k : Nat, k ≤ ls.length ∧ i = .int .i64 k ∧ wr.ownsRow w.heap.size 5 1 v (ls.take k).flatten.length (bvs (ls.take k).flatten) ∧ Below w.heap.size w wr ∧ ∀ l ∈ ls.take k, l.length ≤ 200) (fun _ i _ => ls.length - (intOf i).toNat)
    case atStart =>
      exact ⟨0, by omega, rfl, by simpa [bvs] using World.ownsRow_lit (base := w.heap.size) (e := 5) (size := 1) w1 #[] 0 hb1.size (by unfold maxLen; omega) rfl, hb1.alloc hb1.size _, by simp⟩
    case round =>
      obtain ⟨k, hk, rfl, hown, hbw, hsm⟩ := hrel
      have hfb := flat_bound ls k hsm hl
      have hwr := hbw.size
      by_cases hlt : k < ls.length
      · obtain ⟨b, off, q, cq, rfl, hc, hq1, hq2, hq3⟩ := bytL_cell H3.out H5.out hlt
        have hcr : wr.cell? ⟨b, off + k, none⟩ = some (.slice q ls[k].length cq) := Below.keeps hbw _ _ hc
        have hqr := Lib.hid (hq3.keep (Below.keeps hbw))
        have hfl := Lib.hid (flat_take ls k hlt)
        have hsm2 := Lib.hid (fun h200 : ls[k].length ≤ 200 => show ∀ l ∈ ls.take (k + 1), l.length ≤ 200 by
          rw [List.take_succ_eq_append_getElem hlt]
          intro l hl
          rcases List.mem_append.1 hl with hl | hl
          · exact hsm l hl
          · rw [List.mem_singleton.1 hl]; exact h200)
        clear hc hq3 hsm
        generalize (ls.take k).flatten = F at *
        generalize ls[k] = l at *
        unfold maxLen at hq2
        by_cases h200 : l.length ≤ 200
        · go_wp2_with (at_builtin; refine wpList_app (.tmp 24) (.tmp 25) 24 rfl rfl w.heap.size 5 i0 (.int .u8 0) 1 1 Tryd.underlying24 hi hz0 hz1 hz2 rfl (by decide) _ _ _ rfl hown _ _ _ (bvs l) rfl ?c0 hqr.out bvs_one ?c1 ?c2 hwr ?_)
          case c0 => simp [bvs_len]
          case c1 => unfold maxLen; omega
          case c2 => omega
          intro v' w' ho hg
          have hbw' := hbw.grown hg hwr (fun j hj => (hown.lt j hj).1)
          clear hown hg
          go_wp2_with fail
          go_roundw
          case rel => exact ⟨k + 1, by omega, by go_num, by rw [hfl.out, List.length_append, bvs_app]; exact ho, hbw', hsm2.out h200⟩
          case measure => simp [intOf]; omega
        · go_wp2_with fail
          go_ret
          exact ⟨rfl, hbw⟩
      · obtain rfl : k = ls.length := by omega
        rw [List.take_of_length_le (Nat.le_refl _)] at hown hsm hfb
        have hcr := csums_rsum ls
        generalize ls.flatten = F at *
        have HCR := Lib.hid hcr; clear hcr hsm
        have htr := ht.keep (Below.keeps hbw)
        have hvr := HV.out.keep (Below.keeps hbw)
        have hrn := Lib.hid (cnext_rsum F m)
        go_wp2_with fail
        refine (sum_any _ ls _ htr hvr).mono ?_
        rintro e w' ⟨rfl, rfl⟩
        rw [HCR.out]
        go_wp2_with fail
        refine (refsum_any _ F _ (owns_byt hown)).mono ?_
        rintro e w' ⟨rfl, rfl⟩
        go_wp2_with fail
        refine (next_any _ _ _ htr).mono ?_
        rintro e w' ⟨rfl, rfl⟩
        rw [hrn.out]
        go_wp2_with (at_builtin; refine wpList_app (.tmp 38) (.tmp 40) 24 rfl rfl w.heap.size 5 i0 (.int .u8 0) 1 1 Tryd.underlying24 hi hz0 hz1 hz2 rfl (by decide) _ _ _ rfl (hown.alloc _) _ _ _ (bvs [m]) rfl ?c0 (rd_at _ #[_] _ _ _ rfl) bvs_one ?c1 ?c2 ?c3 ?_)
        case c0 => rfl
        case c1 => unfold maxLen; omega
        case c2 => omega
        case c3 => simp; omega
        intro v' w' ho hg
        have hbw' := (hbw.alloc hwr _).grown hg (by simp; omega) (fun j hj => (hown.lt j hj).1)
        go_wp2_with fail
        refine (refsum_any _ (F ++ [m]) _ (owns_byt (by rw [List.length_append, bvs_app]; exact ho))).mono ?_
        rintro e w'' ⟨rfl, rfl⟩
        go_wp2_with fail
        go_ret
        exact ⟨rfl, hbw'⟩
  · go_wp2_with fail
    go_ret
    exact ⟨rfl, hb1⟩
end Go.Proofs.YtdbgdmhlnaldoaaDoor
