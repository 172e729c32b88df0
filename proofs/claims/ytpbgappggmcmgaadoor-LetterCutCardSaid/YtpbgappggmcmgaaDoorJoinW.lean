/-
  JoinW: the walk of fields.Join.
-/
import Derived.Test.YtpbgappggmcmgaaDoorNumW
import Derived.Test.YtpbgappggmcmgaaDoorFld
import Derived.Outline
namespace Go.Proofs.YtpbgappggmcmgaaDoor
open Go.RowKit

def joinE (fs : List (Int × List UInt8)) : Nat := if rightRow fs then 0 else 4
def joinR (fs : List (Int × List UInt8)) : List UInt8 := if rightRow fs then joinL fs else []
/-- a cell of a younger block stays where an owned row grows -/
theorem grown_cell {w0 w w' : World} {base size n : Nat} {e : TypeId} {v x : Value} {xs : List Value} {b o : Nat} (hg : w.grownBy w' v.ownBlock) (ho : w0.ownsRow base e size v n xs) (hb : w0.heap.size ≤ b) (hc : w.cell? ⟨b, o, none⟩ = some x) :
    w'.cell? ⟨b, o, none⟩ = some x := by
  refine (World.cell?_of_block (hg.block b (cell_lt hc) ?_)).trans hc
  intro h
  have := (ho.lt b h.symm).2
  omega
theorem fieldB_head (tag : Int) (dat : List UInt8) (h0 : 0 ≤ tag) (h1 : tag ≤ 255) (h2 : dat.length ≤ 200) :
    bvs [UInt8.ofNat (tag % 256).toNat, UInt8.ofNat (dat.length / 256), UInt8.ofNat dat.length] = [.int .u8 tag, .int .u8 ((dat.length : Int) / 256), .int .u8 (dat.length : Int)] := by
  have a1 : (((tag % 256).toNat % 256 : Nat) : Int) = tag := by omega
  have a2 : ((dat.length / 256 % 256 : Nat) : Int) = (dat.length : Int) / 256 := by omega
  have a3 : ((dat.length % 256 : Nat) : Int) = (dat.length : Int) := by omega
  simp only [bvs, List.map_cons, List.map_nil, bv, byte_wrap]
  rw [a1, a2, a3]
theorem lastOf_nonneg (fs : List (Int × List UInt8)) (last : Int) (h : 0 ≤ last) (ho : rowOk last fs = true) : 0 ≤ lastOf last fs := by
  induction fs generalizing last with
  | nil => exact h
  | cons f fs ih =>
    simp only [rowOk, fieldOk, Bool.and_eq_true, decide_eq_true_eq] at ho
    exact ih f.1 (by omega) ho.2
theorem joinL_app (fs : List (Int × List UInt8)) (f : Int × List UInt8) : joinL (fs ++ [f]) = joinL fs ++ fieldB f := by
  unfold joinL; rw [List.flatMap_append]; simp
theorem join_err {fs : List (Int × List UInt8)} {w w' : World} {E : Nat → Addr} (h : rightRow fs = false) (hb : Below w.heap.size w w') :
    GivesB w E (joinR fs) (joinE fs) (.returned (.tuple #[.slice none 0 0, errAt (E 3)])) w' := by
  unfold joinR joinE
  rw [h]
  exact ⟨_, rfl, ⟨rfl, .inl ⟨rfl, rfl⟩⟩, hb⟩
theorem join_ok {fs : List (Int × List UInt8)} {w w' : World} {E : Nat → Addr} {v : Value} (h : rightRow fs = true) (ho : w'.ownsRow w.heap.size 5 1 v (joinL fs).length (bvs (joinL fs))) (hb : Below w.heap.size w w') :
    GivesB w E (joinR fs) (joinE fs) (.returned (.tuple #[v, .nilIface])) w' := by
  unfold joinR joinE
  rw [h]
  exact ⟨_, rfl, ho, hb⟩
set_option maxRecDepth 20000 in
set_option maxHeartbeats 1000000 in
theorem join_any (v : Value) (fs : List (Int × List UInt8)) (w : World) (E : Nat → Addr) (he : ErrsOn [3] w E) (hv : FldL w v fs) :
    Calls Tryd.prog 28 #[v] w (GivesB w E (joinR fs) (joinE fs)) := by
  have HE := Lib.hid he
  have e3 := he.cell 3 rfl
  simp only [errVar, List.getD_cons_zero, List.getD_cons_succ] at e3
  clear he
  obtain ⟨i0, hi, hz0, hz1, hz2⟩ := info_parts byt8Info
  obtain ⟨p, cap, us, rfl, h1, h2, h3, h4, h5⟩ := hv
  have H4 := Lib.hid h4
  have H5 := Lib.hid h5
  have H3 := Lib.hid h3
  clear h3 h4 h5
  unfold maxLen at h2
  by_cases h16 : fs.length ≤ 16
  · have d0 : decide (16 < (fs.length : Int)) = false := by simp; omega
    have d0' : decide (16 < fs.length) = false := by simp; omega
    go_enter Tryd.func28, Tryd.ntmps28
    go_wp2_with fail
    go_loopw [4, 5, 14] (fun o t i wr => ∃ k : Nat, k ≤ fs.length ∧ rowOk 0 (fs.take k) = true ∧ i = .int .i64 k ∧ t = .int .i64 (lastOf 0 (fs.take k)) ∧ wr.ownsRow w.heap.size 5 1 o (joinL (fs.take k)).length (bvs (joinL (fs.take k))) ∧ Below w.heap.size w wr) (fun _ _ i _ => fs.length - (intOf i).toNat)
    case atStart => exact ⟨0, by omega, rfl, rfl, rfl, ⟨rfl, .inl ⟨rfl, rfl⟩⟩, Below.refl _ _⟩
    case round =>
      obtain ⟨k, hk, hok, rfl, rfl, hown, hbw⟩ := hrel
      by_cases hlt : k < fs.length
      · obtain ⟨b, off, q, c, rfl, hc1, hc2, hby⟩ := fldL_cell H4.out H5.out hlt
        have g1 := Below.keeps hbw _ _ hc1
        have g2 := Below.keeps hbw _ _ hc2
        have hby' := hby.keep (Below.keeps hbw)
        have hstep := rowOk_take fs k hlt
        rw [hok, Bool.true_and] at hstep
        have hlast := lastOf_take fs k hlt
        have hjoin := joinL_take fs k hlt
        have HOK := Lib.hid hok
        have HSTEP := Lib.hid hstep
        have HLAST := Lib.hid hlast
        have HJOIN := Lib.hid hjoin
        have HBAD := Lib.hid (rowOk_bad fs k hlt)
        clear hok hstep hlast hjoin
        have e3' := fun o => keep_alloc wr o _ _ (Below.keeps hbw _ _ e3)
        unfold errAt at e3'
        have hjl := joinL_len (fs.take k) 0 HOK.out
        have hlk : (fs.take k).length ≤ k := List.length_take_le _ _
        have hl0 := lastOf_nonneg (fs.take k) 0 (Int.le_refl _) HOK.out
        generalize lastOf 0 (fs.take k) = last at *
        generalize hf : fs[k] = f at *
        clear hf
        obtain ⟨tag, dat⟩ := f
        simp only at hc1 hc2 hby g1 g2 hby'
        by_cases c1 : last < tag
        · by_cases c2 : tag ≤ 255
          · by_cases c3 : dat.length ≤ 200
            · have d1 : decide (tag ≤ last) = false := by simp; omega
              have d2 : decide (255 < tag) = false := by simp; omega
              have d3 : decide (200 < (dat.length : Int)) = false := by simp; omega
              have d4 : decide (200 < dat.length) = false := by simp; omega
              have hs1 := (below_alloc (below_alloc hbw (.cells #[.int .i64 tag, .slice q dat.length c] 57)) (.cells #[.int .u8 tag, .int .u8 ((dat.length : Int) / 256), .int .u8 (dat.length : Int)] 5)).size
              have hHead := Lib.hid (fieldB_head tag dat (by omega) c2 c3)
              have hown1 := owns_below hown (below_alloc1 wr (.cells #[.int .i64 tag, .slice q dat.length c] 57))
              have hown2 := owns_below hown1 (below_alloc1 _ (.cells #[.int .u8 tag, .int .u8 ((dat.length : Int) / 256), .int .u8 (dat.length : Int)] 5))
              go_wp2_with (at_builtin; refine wpList_app (.tmp 36) (.tmp 49) 27 rfl rfl w.heap.size 5 i0 (.int .u8 0) 1 1 Tryd.underlying27 hi hz0 hz1 hz2 rfl (by decide) _ _ _ rfl hown2 _ _ _ (bvs [UInt8.ofNat (tag % 256).toNat, UInt8.ofNat (dat.length / 256), UInt8.ofNat dat.length]) rfl ?a0 ?a1 bvs_one ?a2 ?a3 hs1 ?_)
              case a0 => rfl
              case a1 => rw [hHead.out]; exact rd_at _ #[_, _, _] _ _ _ (by simp)
              case a2 => unfold maxLen; omega
              case a3 => omega
              intro v1 w1 ho1 hg1
              have hb1 := (below_alloc (below_alloc hbw (.cells #[.int .i64 tag, .slice q dat.length c] 57)) (.cells #[.int .u8 tag, .int .u8 ((dat.length : Int) / 256), .int .u8 (dat.length : Int)] 5)).grown hg1 hs1 (fun j hj => (hown2.lt j hj).1)
              have g3 := grown_cell hg1 hown (Nat.le_refl _) (show (((wr.alloc (.cells #[.int .i64 tag, .slice q dat.length c] 57)).alloc (.cells #[.int .u8 tag, .int .u8 ((dat.length : Int) / 256), .int .u8 (dat.length : Int)] 5)).cell? ⟨wr.heap.size, 1, none⟩ = some (.slice q dat.length c)) by go_simp)
              clear hown hown1 hown2 hg1 e3' hHead g1 g2
              have hby1 := hby.keep (Below.keeps hb1)
              obtain ⟨p', c', hq, hq1, hq2, hR⟩ := hby1
              cases hq
              have HR := Lib.hid hR
              clear hR hby hby'
              have hs2 := hb1.size
              go_wp2_with (at_builtin; refine wpList_app (.tmp 51) (.tmp 53) 27 rfl rfl w.heap.size 5 i0 (.int .u8 0) 1 1 Tryd.underlying27 hi hz0 hz1 hz2 rfl (by decide) _ _ _ rfl ho1 _ _ _ (bvs dat) rfl ?d0 HR.out bvs_one ?d2 ?d3 hs2 ?_)
              case d0 => rw [bvs_len]; omega
              case d2 => unfold maxLen; simp; omega
              case d3 => simp; omega
              intro v2 w2 ho2 hg2
              have hb2 := hb1.grown hg2 hs2 (fun j hj => (ho1.lt j hj).1)
              clear ho1 hg2 g3
              have HOK1 := Lib.hid (show rowOk 0 (fs.take (k + 1)) = true by rw [HSTEP.out]; simp [fieldOk]; omega)
              have ho3 : w2.ownsRow w.heap.size 5 1 v2 (joinL (fs.take (k + 1))).length (bvs (joinL (fs.take (k + 1)))) := by
                rw [HJOIN.out]
                simpa [fieldB, bvs_app, bvs, Nat.add_assoc, Nat.add_comm, Nat.add_left_comm] using ho2
              clear ho2
              go_wp2_with fail
              go_roundw
              case rel => exact ⟨k + 1, by omega, HOK1.out, by go_num, by rw [HLAST.out], ho3, hb2⟩
              case measure => simp [intOf]; omega
            · have d1 : decide (tag ≤ last) = false := by simp; omega
              have d2 : decide (255 < tag) = false := by simp; omega
              have d3 : decide (200 < (dat.length : Int)) = true := by simp; omega
              have d4 : decide (200 < dat.length) = true := by simp; omega
              go_wp2_with fail
              go_quiet (fail)
              go_wp2_with fail
              go_ret2
              exact join_err (by unfold rightRow; rw [HBAD.out (by simp [fieldOk]; omega)]; simp) ((below_alloc hbw _).trans ((below_drewN _ _).mono (below_alloc hbw _).size))
          · have d1 : decide (tag ≤ last) = false := by simp; omega
            have d2 : decide (255 < tag) = true := by simp; omega
            go_wp2_with fail
            go_quiet (fail)
            go_wp2_with fail
            go_ret2
            exact join_err (by unfold rightRow; rw [HBAD.out (by simp [fieldOk]; omega)]; simp) ((below_alloc hbw _).trans ((below_drewN _ _).mono (below_alloc hbw _).size))
        · have d1 : decide (tag ≤ last) = true := by simp; omega
          go_wp2_with fail
          go_quiet (fail)
          go_wp2_with fail
          go_ret2
          exact join_err (by unfold rightRow; rw [HBAD.out (by simp [fieldOk]; omega)]; simp) ((below_alloc hbw _).trans ((below_drewN _ _).mono (below_alloc hbw _).size))
      · obtain rfl : k = fs.length := by omega
        rw [List.take_of_length_le (Nat.le_refl _)] at hok hown
        have HR := Lib.hid (show rightRow fs = true by unfold rightRow; simp [hok, h16])
        clear hok
        go_wp2_with fail
        go_ret2
        exact join_ok HR.out hown hbw
  · have d0 : decide (16 < (fs.length : Int)) = true := by simp; omega
    have d0' : decide (16 < fs.length) = true := by simp; omega
    have HR := Lib.hid (show rightRow fs = false by unfold rightRow; simp [h16])
    unfold errAt at e3
    go_enter Tryd.func28, Tryd.ntmps28
    go_wp2_with fail
    go_quiet (fail)
    go_wp2_with fail
    go_ret2
    exact join_err HR.out (below_drewN _ _)
end Go.Proofs.YtpbgappggmcmgaaDoor
