/-
  RefNumA: the walk of liaisonref03.Number.
  FloatBA: a float's eight bytes: the document's.
  RefJoin: the walk of liaisonref03.Join.
-/
import Derived.Test.YtjklcbdlfmmllaaGreatDoorYC
import Derived.Test.YtjklcbdlfmmllaaGreatDoorYE
import Derived.Test.YtjklcbdlfmmllaaGreatDoorYD
namespace Go.Proofs.YtjklcbdlfmmllaaGreatDoor
open Go.RowKit

set_option maxRecDepth 20000 in
set_option maxHeartbeats 1000000 in
theorem refnumber_any (n : Nat) : ∀ (w : World) (_ : n ≤ 9223372036854775807),
    Calls Tryz.prog 36 #[.int .i64 (n : Int)] w (GivesO w (numB n)) := by
  induction n using Nat.strongRecOn with
  | ind n ih =>
    intro w hn
    obtain ⟨i0, hi, hz0, hz1, hz2⟩ := info_parts byt8Info
    by_cases h0 : n = 0
    · subst h0
      rw [numB_zero]
      go_enter Tryz.func36, Tryz.ntmps36
      go_wp2_with fail
      go_ret
      exact ⟨_, rfl, ⟨rfl, .inl ⟨rfl, rfl⟩⟩, Below.refl _ _⟩
    · have d0 : ((n : Int) == 0) = false := by simp [h0]
      have HP := Lib.hid (numB_pos h0)
      have HI := Lib.hid (ih (n / 256) (by omega))
      have hlen := numB_len (n := n / 256) 8 (by omega)
      clear ih h0
      go_enter Tryz.func36, Tryz.ntmps36
      go_wp2_with fail
      rw [show (n : Int) / 256 = ((n / 256 : Nat) : Int) by omega]
      refine (HI.out w (by omega)).mono ?_
      rintro e w1 ⟨v1, rfl, ho1, hb1⟩
      have hs1 := (below_alloc hb1 (.cells #[.int .u8 ((n : Int) % 256)] 5)).size
      have ho1' := owns_below ho1 (below_alloc1 w1 (.cells #[.int .u8 ((n : Int) % 256)] 5))
      generalize numB (n / 256) = x at *
      go_wp2_with (at_builtin; refine wpList_app (.tmp 7) (.tmp 11) 29 rfl rfl w.heap.size 5 i0 (.int .u8 0) 1 1 Tryz.underlying29 hi hz0 hz1 hz2 rfl (by decide) _ _ _ rfl ho1' _ _ _ (bvs [UInt8.ofNat n]) rfl ?c0 ?cr bvs_one ?c1 ?c2 hs1 ?_)
      case c0 => rfl
      case cr =>
        have hb : bvs [UInt8.ofNat n] = [.int .u8 ((n : Int) % 256)] := by
          simp only [bvs, List.map_cons, List.map_nil, bv, byte_wrap]; simp
        rw [hb]; exact rd_at _ #[_] _ _ _ rfl
      case c1 => unfold maxLen; omega
      case c2 => omega
      intro v2 w2 ho2 hg2
      have hb2 := (below_alloc hb1 (.cells #[.int .u8 ((n : Int) % 256)] 5)).grown hg2 hs1 (fun j hj => (ho1'.lt j hj).1)
      clear ho1 ho1' hg2
      go_wp2_with fail
      go_ret
      exact ⟨_, rfl, by rw [HP.out, bvs_app, List.length_append]; simpa using ho2, hb2⟩
end Go.Proofs.YtjklcbdlfmmllaaGreatDoor

namespace Go.Proofs.YtjklcbdlfmmllaaGreatDoor
open Go.RowKit

set_option maxRecDepth 20000 in
set_option maxHeartbeats 2000000 in
theorem reffloat_any (x : Nat) (hx : x < 18446744073709551616) (w : World) :
    Calls Tryz.prog 37 #[.float .f64 x] w (GivesO w (eightB (plainN x))) := by
  obtain ⟨i0, hi, hz0, hz1, hz2⟩ := info_parts byt8Info
  go_enter Tryz.func37, Tryz.ntmps37
  go_wp2_with fail
  have ho0 := World.ownsRow_lit (base := w.heap.size) (e := 5) (size := 1) w #[] 0 (Nat.le_refl _) (by unfold maxLen; omega) rfl
  have hb0 := below_alloc1 w (.cells #[] 5)
  refine (refbits_any x hx _).mono ?_
  rintro e w1 ⟨rfl, hb1'⟩
  have hown0 := owns_below ho0 hb1'
  have hbw0 := hb0.trans (hb1'.mono hb0.size)
  have hs0 := hbw0.size
  clear hb1' ho0 hb0
  generalize plainN x = n at *
  go_wp2_with fail
  refine wp_loop_rounds 9 ?_
  rw [rounds_succ]
  go_wp2_with (at_builtin; refine wpList_app (.tmp 13) (.tmp 20) 29 rfl rfl w.heap.size 5 i0 (.int .u8 0) 1 1 Tryz.underlying29 hi hz0 hz1 hz2 rfl (by decide) _ _ _ rfl (owns_below hown0 (below_alloc1 _ _)) _ _ _ _ rfl rfl (rd_at _ _ _ _ _ rfl) (by intro u hu; simp at hu; subst hu; rfl) (by unfold maxLen; omega) (by omega) (by simp; omega) ?_)
  intro v1 w1 hown1 hg1
  have hbw1 := (below_alloc hbw0 (.cells _ 5)).grown hg1 (by simp; omega) (fun j hj => (hown0.lt j hj).1)
  have hs1 := hbw1.size
  clear hown0 hg1 hbw0 hs0
  go_wp2_with fail
  rw [rounds_succ]
  go_wp2_with (at_builtin; refine wpList_app (.tmp 13) (.tmp 20) 29 rfl rfl w.heap.size 5 i0 (.int .u8 0) 1 1 Tryz.underlying29 hi hz0 hz1 hz2 rfl (by decide) _ _ _ rfl (owns_below hown1 (below_alloc1 _ _)) _ _ _ _ rfl rfl (rd_at _ _ _ _ _ rfl) (by intro u hu; simp at hu; subst hu; rfl) (by unfold maxLen; omega) (by omega) (by simp; omega) ?_)
  intro v2 w2 hown2 hg2
  have hbw2 := (below_alloc hbw1 (.cells _ 5)).grown hg2 (by simp; omega) (fun j hj => (hown1.lt j hj).1)
  have hs2 := hbw2.size
  clear hown1 hg2 hbw1 hs1
  go_wp2_with fail
  rw [rounds_succ]
  go_wp2_with (at_builtin; refine wpList_app (.tmp 13) (.tmp 20) 29 rfl rfl w.heap.size 5 i0 (.int .u8 0) 1 1 Tryz.underlying29 hi hz0 hz1 hz2 rfl (by decide) _ _ _ rfl (owns_below hown2 (below_alloc1 _ _)) _ _ _ _ rfl rfl (rd_at _ _ _ _ _ rfl) (by intro u hu; simp at hu; subst hu; rfl) (by unfold maxLen; omega) (by omega) (by simp; omega) ?_)
  intro v3 w3 hown3 hg3
  have hbw3 := (below_alloc hbw2 (.cells _ 5)).grown hg3 (by simp; omega) (fun j hj => (hown2.lt j hj).1)
  have hs3 := hbw3.size
  clear hown2 hg3 hbw2 hs2
  go_wp2_with fail
  rw [rounds_succ]
  go_wp2_with (at_builtin; refine wpList_app (.tmp 13) (.tmp 20) 29 rfl rfl w.heap.size 5 i0 (.int .u8 0) 1 1 Tryz.underlying29 hi hz0 hz1 hz2 rfl (by decide) _ _ _ rfl (owns_below hown3 (below_alloc1 _ _)) _ _ _ _ rfl rfl (rd_at _ _ _ _ _ rfl) (by intro u hu; simp at hu; subst hu; rfl) (by unfold maxLen; omega) (by omega) (by simp; omega) ?_)
  intro v4 w4 hown4 hg4
  have hbw4 := (below_alloc hbw3 (.cells _ 5)).grown hg4 (by simp; omega) (fun j hj => (hown3.lt j hj).1)
  have hs4 := hbw4.size
  clear hown3 hg4 hbw3 hs3
  go_wp2_with fail
  rw [rounds_succ]
  go_wp2_with (at_builtin; refine wpList_app (.tmp 13) (.tmp 20) 29 rfl rfl w.heap.size 5 i0 (.int .u8 0) 1 1 Tryz.underlying29 hi hz0 hz1 hz2 rfl (by decide) _ _ _ rfl (owns_below hown4 (below_alloc1 _ _)) _ _ _ _ rfl rfl (rd_at _ _ _ _ _ rfl) (by intro u hu; simp at hu; subst hu; rfl) (by unfold maxLen; omega) (by omega) (by simp; omega) ?_)
  intro v5 w5 hown5 hg5
  have hbw5 := (below_alloc hbw4 (.cells _ 5)).grown hg5 (by simp; omega) (fun j hj => (hown4.lt j hj).1)
  have hs5 := hbw5.size
  clear hown4 hg5 hbw4 hs4
  go_wp2_with fail
  rw [rounds_succ]
  go_wp2_with (at_builtin; refine wpList_app (.tmp 13) (.tmp 20) 29 rfl rfl w.heap.size 5 i0 (.int .u8 0) 1 1 Tryz.underlying29 hi hz0 hz1 hz2 rfl (by decide) _ _ _ rfl (owns_below hown5 (below_alloc1 _ _)) _ _ _ _ rfl rfl (rd_at _ _ _ _ _ rfl) (by intro u hu; simp at hu; subst hu; rfl) (by unfold maxLen; omega) (by omega) (by simp; omega) ?_)
  intro v6 w6 hown6 hg6
  have hbw6 := (below_alloc hbw5 (.cells _ 5)).grown hg6 (by simp; omega) (fun j hj => (hown5.lt j hj).1)
  have hs6 := hbw6.size
  clear hown5 hg6 hbw5 hs5
  go_wp2_with fail
  rw [rounds_succ]
  go_wp2_with (at_builtin; refine wpList_app (.tmp 13) (.tmp 20) 29 rfl rfl w.heap.size 5 i0 (.int .u8 0) 1 1 Tryz.underlying29 hi hz0 hz1 hz2 rfl (by decide) _ _ _ rfl (owns_below hown6 (below_alloc1 _ _)) _ _ _ _ rfl rfl (rd_at _ _ _ _ _ rfl) (by intro u hu; simp at hu; subst hu; rfl) (by unfold maxLen; omega) (by omega) (by simp; omega) ?_)
  intro v7 w7 hown7 hg7
  have hbw7 := (below_alloc hbw6 (.cells _ 5)).grown hg7 (by simp; omega) (fun j hj => (hown6.lt j hj).1)
  have hs7 := hbw7.size
  clear hown6 hg7 hbw6 hs6
  go_wp2_with fail
  rw [rounds_succ]
  go_wp2_with (at_builtin; refine wpList_app (.tmp 13) (.tmp 20) 29 rfl rfl w.heap.size 5 i0 (.int .u8 0) 1 1 Tryz.underlying29 hi hz0 hz1 hz2 rfl (by decide) _ _ _ rfl (owns_below hown7 (below_alloc1 _ _)) _ _ _ _ rfl rfl (rd_at _ _ _ _ _ rfl) (by intro u hu; simp at hu; subst hu; rfl) (by unfold maxLen; omega) (by omega) (by simp; omega) ?_)
  intro v8 w8 hown8 hg8
  have hbw8 := (below_alloc hbw7 (.cells _ 5)).grown hg8 (by simp; omega) (fun j hj => (hown7.lt j hj).1)
  have hs8 := hbw8.size
  clear hown7 hg8 hbw7 hs7
  go_wp2_with fail
  rw [rounds_succ]
  go_wp2_with fail
  go_ret
  exact ⟨_, rfl, by rw [eight_bvs, eightB_len]; simpa using hown8, hbw8⟩

end Go.Proofs.YtjklcbdlfmmllaaGreatDoor

namespace Go.Proofs.YtjklcbdlfmmllaaGreatDoor
open Go.RowKit

/-- what gives bytes -/
def Bytes1 (w : World) (l : List UInt8) (e : Ending) (w' : World) : Prop := ∃ p c, e = .returned (.slice p l.length c) ∧ Byt w' (.slice p l.length c) l ∧ Below w.heap.size w w'
theorem fieldB_head' (tag : Int) (n : Nat) (h0 : 0 ≤ tag) (h1 : tag ≤ 255) (h2 : n ≤ 200) :
    bvs [UInt8.ofNat (tag % 256).toNat, UInt8.ofNat (n / 256), UInt8.ofNat n] = [.int .u8 tag, .int .u8 ((n : Int) / 256), .int .u8 ((n : Int) % 256)] := by
  have a1 : (((tag % 256).toNat % 256 : Nat) : Int) = tag := by omega
  have a2 : ((n / 256 % 256 : Nat) : Int) = (n : Int) / 256 := by omega
  have a3 : ((n % 256 : Nat) : Int) = (n : Int) % 256 := by omega
  simp only [bvs, List.map_cons, List.map_nil, bv, byte_wrap]
  rw [a1, a2, a3]
set_option maxRecDepth 20000 in
set_option maxHeartbeats 2000000 in
theorem refjoin_any (v : Value) (fs : List (Int × List UInt8)) (w : World) (hv : FldL w v fs) (hr : rightRow fs = true) :
    Calls Tryz.prog 38 #[v] w (Bytes1 w (joinL fs)) := by
  obtain ⟨i0, hi, hz0, hz1, hz2⟩ := info_parts byt8Info
  obtain ⟨i9, hi9, hz09, hz19, hz29⟩ := info_parts fldInfo
  obtain ⟨p, cap, us, rfl, h1, h2, h3, h4, h5⟩ := hv
  have H4 := Lib.hid h4
  have H5 := Lib.hid h5
  have H3 := Lib.hid h3
  obtain ⟨hr16, hrow⟩ := right_parts hr
  have HROW := Lib.hid hrow
  clear h3 h4 h5 hrow hr
  unfold maxLen at h2
  have hown0 := World.ownsRow_lit (base := w.heap.size) (e := 5) (size := 1) w #[] 0 (Nat.le_refl _) (by unfold maxLen; omega) rfl
  have HOWN0 := Lib.hid hown0
  clear hown0
  go_enter Tryz.func38, Tryz.ntmps38
  go_wp2_with fail
  go_loopw [3, 9] (fun o i wr => ∃ k : Nat, k ≤ fs.length ∧ i = .int .i64 k ∧ wr.ownsRow w.heap.size 5 1 o (joinL (fs.take k)).length (bvs (joinL (fs.take k))) ∧ Below w.heap.size w wr) (fun _ i _ => fs.length - (intOf i).toNat)
  case atStart => exact ⟨0, by omega, rfl, by simpa [joinL, bvs] using HOWN0.out, below_alloc1 _ _⟩
  case round =>
    obtain ⟨k, hk, rfl, hown, hbw⟩ := hrel
    by_cases hlt : k < fs.length
    · obtain ⟨b, off, q, c, rfl, hc1, hc2, hby⟩ := fldL_cell H4.out H5.out hlt
      have g1 := Below.keeps hbw _ _ hc1
      have g2 := Below.keeps hbw _ _ hc2
      have hrk : rowOk 0 (fs.take (k + 1)) = true := by
        have e : fs = fs.take (k + 1) ++ fs.drop (k + 1) := (List.take_append_drop _ _).symm
        have := HROW.out
        rw [e, rowOk_app, Bool.and_eq_true] at this
        exact this.1
      have hst := rowOk_take fs k hlt
      rw [hrk] at hst
      have hst2 := hst.symm
      rw [Bool.and_eq_true] at hst2
      have hjl := joinL_len (fs.take k) 0 hst2.1
      have hlk : (fs.take k).length ≤ k := List.length_take_le _ _
      have hl0 := lastOf_nonneg (fs.take k) 0 (Int.le_refl _) hst2.1
      have hf := hst2.2
      simp only [fieldOk, Bool.and_eq_true, decide_eq_true_eq] at hf
      have HJOIN := Lib.hid (joinL_take fs k hlt)
      clear hst hst2 hrk
      generalize fs[k] = f at *
      obtain ⟨tag, dat⟩ := f
      simp only at hc1 hc2 hby g1 g2 hf
      have c0 : 0 ≤ tag := by omega
      have c1 : tag ≤ 255 := by omega
      have c2 : dat.length ≤ 200 := by omega
      clear hl0 hf
      generalize lastOf 0 (fs.take k) = last at *
      generalize joinL (fs.take k) = sofar at *
      have hs1 := (below_alloc (below_alloc hbw (.cells #[.int .i64 tag, .slice q dat.length c] 54)) (.cells #[.int .u8 tag, .int .u8 ((dat.length : Int) / 256), .int .u8 ((dat.length : Int) % 256)] 5)).size
      have hHead := Lib.hid (fieldB_head' tag dat.length c0 c1 c2)
      have hown1 := owns_below hown (below_alloc1 wr (.cells #[.int .i64 tag, .slice q dat.length c] 54))
      have hown2 := owns_below hown1 (below_alloc1 _ (.cells #[.int .u8 tag, .int .u8 ((dat.length : Int) / 256), .int .u8 ((dat.length : Int) % 256)] 5))
      go_wp2_with (at_builtin; refine wpList_app (.tmp 13) (.tmp 27) 29 rfl rfl w.heap.size 5 i0 (.int .u8 0) 1 1 Tryz.underlying29 hi hz0 hz1 hz2 rfl (by decide) _ _ _ rfl hown2 _ _ _ (bvs [UInt8.ofNat (tag % 256).toNat, UInt8.ofNat (dat.length / 256), UInt8.ofNat dat.length]) rfl ?a0 ?a1 bvs_one ?a2 ?a3 hs1 ?_)
      case a0 => rfl
      case a1 => rw [hHead.out]; exact rd_at _ #[_, _, _] _ _ _ (by simp)
      case a2 => unfold maxLen; omega
      case a3 => omega
      intro v1 w1 ho1 hg1
      have hb1 := (below_alloc (below_alloc hbw (.cells #[.int .i64 tag, .slice q dat.length c] 54)) (.cells #[.int .u8 tag, .int .u8 ((dat.length : Int) / 256), .int .u8 ((dat.length : Int) % 256)] 5)).grown hg1 hs1 (fun j hj => (hown2.lt j hj).1)
      have g3 := grown_cell hg1 hown (Nat.le_refl _) (show (((wr.alloc (.cells #[.int .i64 tag, .slice q dat.length c] 54)).alloc (.cells #[.int .u8 tag, .int .u8 ((dat.length : Int) / 256), .int .u8 ((dat.length : Int) % 256)] 5)).cell? ⟨wr.heap.size, 1, none⟩ = some (.slice q dat.length c)) by go_simp)
      clear hown hown1 hown2 hg1 hHead g1 g2
      have hby1 := hby.keep (Below.keeps hb1)
      obtain ⟨p', c', hq, hq1, hq2, hR⟩ := hby1
      cases hq
      have HR := Lib.hid hR
      clear hR hby
      have hs2 := hb1.size
      go_wp2_with (at_builtin; refine wpList_app (.tmp 29) (.tmp 31) 29 rfl rfl w.heap.size 5 i0 (.int .u8 0) 1 1 Tryz.underlying29 hi hz0 hz1 hz2 rfl (by decide) _ _ _ rfl ho1 _ _ _ (bvs dat) rfl ?d0 HR.out bvs_one ?d2 ?d3 hs2 ?_)
      case d0 => rw [bvs_len]; omega
      case d2 => unfold maxLen; simp; omega
      case d3 => simp; omega
      intro v2 w2 ho2 hg2
      have hb2 := hb1.grown hg2 hs2 (fun j hj => (ho1.lt j hj).1)
      clear ho1 hg2 g3
      have ho3 : w2.ownsRow w.heap.size 5 1 v2 (joinL (fs.take (k + 1))).length (bvs (joinL (fs.take (k + 1)))) := by
        rw [HJOIN.out]
        simpa [fieldB, bvs_app, bvs, Nat.add_assoc, Nat.add_comm, Nat.add_left_comm] using ho2
      clear ho2
      go_wp2_with fail
      go_roundw
      case rel => exact ⟨k + 1, by omega, by go_num, ho3, hb2⟩
      case measure => simp [intOf]; omega
    · obtain rfl : k = fs.length := by omega
      rw [List.take_length] at hown
      have hy := owns_byt hown
      obtain ⟨po, co, rfl, _, _, _⟩ := id hy
      have HY := Lib.hid hy
      clear hown hy
      go_wp2_with fail
      go_ret
      exact ⟨_, _, rfl, HY.out, hbw⟩
end Go.Proofs.YtjklcbdlfmmllaaGreatDoor
