/-
  LawWithin: the walk of CatchWithin.
-/
import Derived.Test.YtliapmjocgohfaaDoorWithin
namespace Go.Proofs.YtliapmjocgohfaaDoor
open Go.RowKit Go.Extern.Stop Go.Stop Go.Extern

theorem ivv_cell {w : World} {p : Option Addr} {vs : List Value} {ls : List (List Int)} (h : Rd w p vs) (hl : vs.length = ls.length) (h5 : ∀ (i : Nat) v y, vs[i]? = some v → ls[i]? = some y → Iv w v y) {k : Nat} (hk : k < ls.length) :
    ∃ b off q c, p = some ⟨b, off, none⟩ ∧ w.cell? ⟨b, off + k, none⟩ = some (.slice q ls[k].length c) ∧ Iv w (.slice q ls[k].length c) ls[k] := by
  obtain ⟨q, c, he, h1, h2, h3⟩ := h5 k vs[k] ls[k] (List.getElem?_eq_getElem (by omega)) (List.getElem?_eq_getElem hk)
  obtain ⟨b, off, hp, hc⟩ := h.has (by intro e; subst e; simp at hl; omega)
  refine ⟨b, off, q, c, hp, ?_, q, c, rfl, h1, h2, h3⟩
  rw [← he]
  exact hc k _ (List.getElem?_eq_getElem (by omega))
def wantOf (ls : List (List Int)) : Nat := sumBad (ls.map klOf)
theorem wantOf_snoc (ls : List (List Int)) (k : Nat) (h : k < ls.length) : wantOf (ls.take (k + 1)) = wantOf (ls.take k) + badN ((klOf ls[k]).map kindE) := by
  unfold wantOf
  rw [List.take_add_one, List.getElem?_eq_getElem h, Option.toList_some, List.map_append, List.map_cons, List.map_nil, sumBad_snoc]
theorem badkl_snoc (l : List Int) (k : Nat) (h : k < l.length) : badN ((klOf (l.take (k + 1))).map kindE) = badN ((klOf (l.take k)).map kindE) + (if kindE (u64n l[k] % 22) = 0 then 0 else 1) := by
  rw [List.take_add_one, List.getElem?_eq_getElem h]
  simp only [klOf, Option.toList_some, List.map_append, List.map_cons, List.map_nil]
  rw [badN_snoc]
theorem badkl_le (l : List Int) (k : Nat) : badN ((klOf (l.take k)).map kindE) ≤ k := by
  have := badN_le ((klOf (l.take k)).map kindE)
  rw [List.length_map, klOf_len, List.length_take] at this
  omega
theorem klsOf_ok (ls : List (List Int)) (h : ∀ y ∈ ls, y.length ≤ 20) : ∀ kl ∈ ls.map klOf, kl.length ≤ 20 ∧ ∀ k ∈ kl, k ≤ 21 := by
  intro kl hk
  obtain ⟨y, hy, rfl⟩ := List.mem_map.1 hk
  exact ⟨by rw [klOf_len]; exact h y hy, klOf_le y⟩
theorem wantOf_le (ls : List (List Int)) (h : ∀ y ∈ ls, y.length ≤ 20) : wantOf ls ≤ 20 * ls.length := by
  have := sumBad_le (ls.map klOf) (fun kl hk => (klsOf_ok ls h kl hk).1)
  rwa [List.length_map] at this
theorem take_snoc_le {ls : List (List Int)} {k : Nat} (h : k < ls.length) (h1 : ∀ y ∈ ls.take k, y.length ≤ 20) (h2 : ls[k].length ≤ 20) : ∀ y ∈ ls.take (k + 1), y.length ≤ 20 := by
  intro y hy
  rw [List.take_add_one, List.getElem?_eq_getElem h, Option.toList_some] at hy
  rcases List.mem_append.1 hy with hy | hy
  · exact h1 y hy
  · rw [List.mem_singleton.1 hy]; exact h2
theorem firstE_zeros {α : Type} (l : List α) : firstE (l.map (fun _ => 0)) = 0 ∧ badN (l.map (fun _ => 0)) = 0 := by
  induction l with
  | nil => exact ⟨rfl, rfl⟩
  | cons x xs ih => simpa [firstE, badN] using ih
set_option maxRecDepth 20000 in
set_option maxHeartbeats 4000000 in
theorem within_law (v : Value) (ls : List (List Int)) (w : World) (E : Nat → Addr) (sy : Addr) (he : Errs15 w E sy) (hv : Ivv w v ls) :
    Calls Tryd.prog 6 #[v] w (ok1 w) := by
  have HE := Lib.hid he
  have hmf := @run_makeFunc Tryd.prog
  obtain ⟨i0, hi, hz0, hz1, hz2⟩ := info_parts intInfo
  obtain ⟨j0, hjF, hy0, hy1, hy2⟩ := info_parts fnInfo
  obtain ⟨p, cap, vs0, rfl, h1, h2, h3, h4, h5⟩ := hv
  have H3 := Lib.hid h3
  have H4 := Lib.hid h4
  have H5 := Lib.hid h5
  clear he h3 h4 h5
  unfold maxLen at h2
  go_enter Tryd.func6, Tryd.ntmps6
  go_wp2_with fail
  refine (alive_any _ E HE.out.errs).mono ?_
  rintro e w1 ⟨rfl, hb1⟩
  by_cases hl : ls.length ≤ 20
  · have hld : decide (20 < (ls.length : Int)) = false := decide_eq_false (by omega)
    have hld' : decide (20 < ls.length) = false := decide_eq_false (by omega)
    have HB2 := Lib.hid (below_alloc (below_alloc hb1 (.cells #[.int .i64 0] 3)) (.cells #[.int .i64 0] 3))
    have HC2 := Lib.hid ((Blk.new w1 3 #[.int .i64 0]).alloc (.cells #[.int .i64 0] 3))
    have HP2 := Lib.hid (show Blk ((w1.alloc (.cells #[.int .i64 0] 3)).alloc (.cells #[.int .i64 0] 3)) (w1.heap.size + 1) 3 #[.int .i64 0] from by
      have := Blk.new (w1.alloc (.cells #[.int .i64 0] 3)) 3 #[.int .i64 0]
      rwa [World.size_alloc] at this)
    have HS2 := Lib.hid (show ((w1.alloc (.cells #[.int .i64 0] 3)).alloc (.cells #[.int .i64 0] 3)).heap.size = w1.heap.size + 2 by simp)
    have HS1 := Lib.hid hb1.size
    clear hb1
    go_wp2_with fail
    generalize (w1.alloc (.cells #[.int .i64 0] 3)).alloc (.cells #[.int .i64 0] 3) = w2 at *
    go_loopw [5, 26] (fun o i wr => ∃ (k : Nat) (vs : List Value), k ≤ ls.length ∧ i = .int .i64 k ∧ wr.ownsRow w2.heap.size 1 1 o k vs ∧ WRow w2.heap.size w1.heap.size (w1.heap.size + 1) wr ((ls.take k).map klOf) vs ∧ (∀ y ∈ ls.take k, y.length ≤ 20) ∧ Below w2.heap.size w2 wr) (fun _ i _ => ls.length - (intOf i).toNat)
    case atStart =>
      refine ⟨0, [], by omega, rfl, ?_, ⟨rfl, by simp⟩, by simp, below_alloc1 w2 _⟩
      have := World.ownsRow_lit (base := w2.heap.size) (e := 1) (size := 1) w2 #[] 0 (Nat.le_refl _) (by unfold maxLen; omega) rfl
      rw [HS2.out] at this ⊢
      simpa using this
    case round =>
      obtain ⟨k, vs, hk, rfl, hown, hrow, h20, hbw⟩ := hrel
      obtain ⟨wo, rfl⟩ : ∃ x, x = wr := ⟨wr, rfl⟩
      have hsz := hbw.size
      by_cases hlt : k < ls.length
      · obtain ⟨b, off, q, c, rfl, hc, hiv⟩ := ivv_cell H3.out H4.out H5.out hlt
        have hww : Below w.heap.size w wo := HB2.out.trans (hbw.mono HB2.out.size)
        have hcw := Below.keeps hww _ _ hc
        have HS := Lib.hid (show (ls.take (k + 1)).map klOf = (ls.take k).map klOf ++ [klOf ls[k]] from by
          rw [List.take_add_one, List.getElem?_eq_getElem hlt, Option.toList_some, List.map_append, List.map_cons, List.map_nil])
        have H20 := Lib.hid (take_snoc_le hlt h20)
        obtain ⟨_, _, hiv', hi1, hi2, hi3⟩ := hiv.below hww
        cases hiv'
        generalize ls[k] = y at *
        have HI3 := Lib.hid hi3
        have HOWN := Lib.hid hown
        have HROW := Lib.hid hrow
        have HBW := Lib.hid hbw
        have HWW := Lib.hid hww
        have HLT := Lib.hid hlt
        clear hc h20 hown hrow hbw hww hi3 hiv hlt hi2 hi1
        by_cases hy : y.length ≤ 20
        · have hyd : decide (20 < (y.length : Int)) = false := decide_eq_false (by omega)
          have hyd' : decide (20 < y.length) = false := decide_eq_false (by omega)
          have HWA := Lib.hid (below_alloc (below_alloc1 wo (.cells #[] 3)) (.cells #[.slice (some ⟨wo.heap.size, 0, none⟩) 0 0] 38))
          have HNA := Lib.hid (show Blk ((wo.alloc (.cells #[] 3)).alloc (.cells #[.slice (some ⟨wo.heap.size, 0, none⟩) 0 0] 38)) (wo.heap.size + 1) 38 #[.slice (some ⟨wo.heap.size, 0, none⟩) 0 0] from by
            have := Blk.new (wo.alloc (.cells #[] 3)) 38 #[.slice (some ⟨wo.heap.size, 0, none⟩) 0 0]
            rwa [World.size_alloc] at this)
          have hoa := owns_below (World.ownsRow_lit (base := wo.heap.size) (e := 3) (size := 1) wo #[] 0 (Nat.le_refl _) (by unfold maxLen; omega) rfl) (below_alloc1 (wo.alloc (.cells #[] 3)) (.cells #[.slice (some ⟨wo.heap.size, 0, none⟩) 0 0] 38))
          have HOA := Lib.hid hoa
          have HSA := Lib.hid (show ((wo.alloc (.cells #[] 3)).alloc (.cells #[.slice (some ⟨wo.heap.size, 0, none⟩) 0 0] 38)).heap.size = wo.heap.size + 2 by simp)
          clear hoa
          go_wp2_with fail
          generalize (wo.alloc (.cells #[] 3)).alloc (.cells #[.slice (some ⟨wo.heap.size, 0, none⟩) 0 0] 38) = wa at *
          go_loopw [36] (fun i wx => ∃ (j : Nat) (q' : Option Addr) (c' : Nat), j ≤ y.length ∧ i = .int .i64 j ∧ Below wo.heap.size wo wx ∧ Blk wx (wo.heap.size + 1) 38 #[.slice q' j c'] ∧ wx.ownsRow wo.heap.size 3 1 (.slice q' j c') j (ivs (kvs (klOf (y.take j))))) (fun i _ => y.length - (intOf i).toNat)
          case atStart => exact ⟨0, _, _, by omega, rfl, HWA.out, HNA.out, by simpa [ivs, kvs, klOf] using HOA.out⟩
          case round =>
            obtain ⟨j, q', c', hj, rfl, hbx, hnx, hox⟩ := hrel
            by_cases hjl : j < y.length
            · obtain ⟨b2, off2, rfl, hc2⟩ := iv_cell HI3.out hjl
              have hcx := Below.keeps hbx _ _ hc2
              have HSN := Lib.hid (klOf_snoc y j hjl)
              generalize y[j] = x at *
              have hu := u64_conv x
              obtain ⟨m, hm, hm1, hm2⟩ : ∃ m : Nat, m < 22 ∧ (u64n x : Int) % 22 = (m : Int) ∧ u64n x % 22 = m := ⟨u64n x % 22, by omega, by omega, rfl⟩
              rw [hm2] at HSN
              have HM := Lib.hid hm2
              clear hm2 hc2
              have HO1 := Lib.hid (owns_below hox (below_alloc1 wr (.cells #[.int .i64 (m : Int)] 3)))
              have hs1 := (below_alloc hbx (.cells #[.int .i64 (m : Int)] 3)).size
              have HX2 := Lib.hid (below_alloc hbx (.cells #[.int .i64 (m : Int)] 3))
              have HN1 := Lib.hid (hnx.alloc (.cells #[.int .i64 (m : Int)] 3))
              have cn := (hnx.cell 0).trans rfl
              clear hbx hnx hox
              go_wp2_with (at_builtin; refine wpList_app (.tmp 40) (.tmp 45) 38 rfl rfl wo.heap.size 3 i0 (.int .i64 0) 1 8 Tryd.underlying38 hi hz0 hz1 hz2 rfl (by decide) _ _ _ rfl HO1.out _ _ _ (ivs [(m : Int)]) rfl rfl ?a1 ivs_one ?a2 ?a3 hs1 ?_)
              case a1 => exact rd_at _ #[_] _ _ _ rfl
              case a2 => unfold maxLen; omega
              case a3 => omega
              intro v1 w3 ho1 hg1
              obtain ⟨q3, c3, rfl, _, _, _⟩ := owns_rd ho1
              have hn3 := grown_blk hg1 HO1.out HN1.out (by decide)
              have fn3 := hn3.frozen 0
              have cn3 := (hn3.cell 0).trans rfl
              have HN3 := Lib.hid (show Blk (w3.setCell ⟨wo.heap.size + 1, 0, none⟩ (.slice q3 (j + 1) c3)) (wo.heap.size + 1) 38 #[.slice q3 (j + 1) c3] from hn3.set_ 0 _)
              have HO3 := Lib.hid (owns_set ho1 hn3 (by decide) 0 (.slice q3 (j + 1) c3))
              have HX3 := Lib.hid (Below.setCell (HX2.out.grown hg1 hs1 (fun j hj => (HO1.out.lt j hj).1)) (p := ⟨wo.heap.size + 1, 0, none⟩) (Nat.le_succ _) (.slice q3 (j + 1) c3))
              clear hn3 ho1 hg1 HO1 HX2 HN1
              go_wp2_with fail
              refine ⟨⟨j + 1, q3, c3, by omega, by simp, HX3.out, HN3.out, ?_⟩, ?_⟩
              · rw [HSN.out, ivs_app]
                exact HO3.out
              · simp [intOf]; omega
            · obtain rfl : j = y.length := by omega
              rw [List.take_length] at hox
              have HB3 := Lib.hid (below_alloc (HBW.out.trans (hbx.mono HBW.out.size)) (.cells #[.func (.func 22) #[] #[.pointer (some ⟨wo.heap.size + 1, 0, none⟩), .pointer (some ⟨w1.heap.size, 0, none⟩), .pointer (some ⟨w1.heap.size + 1, 0, none⟩)]] 1))
              have hba := hbx.trans ((below_alloc1 wr (.cells #[.func (.func 22) #[] #[.pointer (some ⟨wo.heap.size + 1, 0, none⟩), .pointer (some ⟨w1.heap.size, 0, none⟩), .pointer (some ⟨w1.heap.size + 1, 0, none⟩)]] 1)).mono hbx.size)
              have HO3 := Lib.hid (owns_below HOWN.out hba)
              have HW3 := Lib.hid ((HROW.out.below hba).snoc (kl := klOf y) (v := .func (.func 22) #[] #[.pointer (some ⟨wo.heap.size + 1, 0, none⟩), .pointer (some ⟨w1.heap.size, 0, none⟩), .pointer (some ⟨w1.heap.size + 1, 0, none⟩)]) ⟨_, q', c', rfl, by omega, by rw [klOf_len]; exact hnx.alloc _, by rw [klOf_len]; exact owns_below (owns_lower hox hsz) (below_alloc1 _ _)⟩)
              have hs3 : w2.heap.size ≤ (wr.alloc (.cells #[.func (.func 22) #[] #[.pointer (some ⟨wo.heap.size + 1, 0, none⟩), .pointer (some ⟨w1.heap.size, 0, none⟩), .pointer (some ⟨w1.heap.size + 1, 0, none⟩)]] 1)).heap.size := HB3.out.size
              clear hbx hnx hox hba
              have hlt := HLT.out
              go_wp2_with (at_builtin; go_loud (refine wpList_app (.tmp 48) (.tmp 50) 43 rfl rfl w2.heap.size 1 j0 .nilFunc 1 8 Tryd.underlying43 hjF hy0 hy1 hy2 rfl (by decide) _ _ _ rfl HO3.out _ _ _ [.func (.func 22) #[] #[.pointer (some ⟨wo.heap.size + 1, 0, none⟩), .pointer (some ⟨w1.heap.size, 0, none⟩), .pointer (some ⟨w1.heap.size + 1, 0, none⟩)]] rfl rfl ?e1 ?e4 ?e2 ?e3 hs3 ?_))
              case e1 => exact rd_at _ #[_] _ _ _ rfl
              case e4 => simp [Value.oneCell']
              case e2 => unfold maxLen; omega
              case e3 => omega
              intro v1 w3 ho1 hg1
              have HB4 := Lib.hid (HB3.out.grown hg1 hs3 (fun j hj => (HO3.out.lt j hj).1))
              have HW4 := Lib.hid (HW3.out.grown hg1 HO3.out)
              have HO4 := Lib.hid ho1
              clear ho1 hg1 HB3 HO3 HW3
              go_wp2_with fail
              refine ⟨⟨k + 1, _, by omega, by simp, HO4.out, ?_, H20.out hy, HB4.out⟩, ?_⟩
              · rw [HS.out]
                exact HW4.out
              · simp [intOf]; omega
        · have hyd : decide (20 < (y.length : Int)) = true := decide_eq_true (by omega)
          have hyd' : decide (20 < y.length) = true := decide_eq_true (by omega)
          go_wp2_with fail
          go_ret
          exact ⟨rfl, HWW.out⟩
      · obtain rfl : k = ls.length := by omega
        rw [List.take_length] at hrow h20
        obtain ⟨q, c, rfl, _, _, _⟩ := owns_rd hown
        have hww : Below w.heap.size w wo := HB2.out.trans (hbw.mono HB2.out.size)
        have hs1 := HS1.out
        have hs2 := HS2.out
        have HBU := Lib.hid (fun w' (h : But [w1.heap.size, w1.heap.size + 1] wo w') => hww.trans (h.below (B := w.heap.size) (by simp; omega) (by omega)))
        have hml : (ls.map klOf).length = ls.length := by simp
        have HA := Lib.hid (all_any [w1.heap.size, w1.heap.size + 1] wo E (WC w1.heap.size (w1.heap.size + 1) (ls.map klOf)) q c vs _ (wacting_of wo E sy w2.heap.size w1.heap.size (w1.heap.size + 1) q c (ls.map klOf) vs (by omega) (klsOf_ok ls h20) (by omega) (by omega) (by omega) hbw.size (by rw [hml]; exact hown) hrow (fun w' h => HE.out.below (HBU.out w' h)))
          ⟨0, by omega, by omega, HC2.out.below hbw HC2.out.lt, HP2.out.below hbw HP2.out.lt⟩)
        have hvl : vs.length = ls.length := by rw [hrow.1, hml]
        have HVL := Lib.hid hvl
        have hz := firstE_zeros (ls.map klOf)
        have hwl := wantOf_le ls h20
        rw [hvl, hz.1, hz.2, errV_zero] at HA
        have H20 := Lib.hid h20
        clear hown hrow hbw hww hvl hz h20 hml hs1 hs2
        go_wp2_with fail
        refine HA.out.mono ?_
        rintro e w4 ⟨rfl, hbut, n4, hn4, hn4', hc4, hp4⟩
        have hbw4 := HBU.out w4 hbut
        have HW4 := Lib.hid hbw4
        have HP4 := Lib.hid (show Blk w4 (w1.heap.size + 1) 3 #[.int .i64 ((wantOf ls : Nat) : Int)] from by
          rw [show (ls.map klOf).take ls.length = ls.map klOf by rw [List.take_of_length_le (by simp)]] at hp4
          exact hp4)
        have HR4 := Lib.hid (H3.out.below hbw4)
        clear hbut hc4 hp4 hn4 hn4' HA hbw4
        go_wp2_with fail
        go_loopw [13, 60] (fun n i wx => ∃ k : Nat, k ≤ ls.length ∧ i = .int .i64 k ∧ n = .int .i64 ((wantOf (ls.take k) : Nat) : Int) ∧ w4 = wx) (fun _ i _ => ls.length - (intOf i).toNat)
        case atStart => exact ⟨0, by omega, rfl, rfl, rfl⟩
        case round =>
          obtain ⟨k, hk, rfl, rfl, rfl⟩ := hrel
          by_cases hlt : k < ls.length
          · obtain ⟨b, off, q', c', rfl, hc, _, _, hiv', hi1, hi2, hi3⟩ := ivv_cell HR4.out H4.out (fun i v y h1 h2 => (H5.out i v y h1 h2).below HW4.out) hlt
            cases hiv'
            have HWS := Lib.hid (wantOf_snoc ls k hlt)
            have hy : ls[k].length ≤ 20 := H20.out _ (List.getElem_mem hlt)
            have hwk : wantOf (ls.take k) ≤ 20 * k := by
              have := wantOf_le (ls.take k) (fun y hy => H20.out y (List.mem_of_mem_take hy))
              rw [List.length_take] at this
              omega
            generalize ls[k] = y at *
            have HI3 := Lib.hid hi3
            clear hi3 hi2 hi1
            generalize wantOf (ls.take k) = W at *
            go_wp2_with fail
            go_loopw [13, 66] (fun n i wx => ∃ j : Nat, j ≤ y.length ∧ i = .int .i64 j ∧ n = .int .i64 ((W + badN ((klOf (y.take j)).map kindE) : Nat) : Int) ∧ w4 = wx) (fun _ i _ => y.length - (intOf i).toNat)
            case atStart => exact ⟨0, by omega, rfl, by simp [klOf, badN], rfl⟩
            case round =>
              obtain ⟨j, hj, rfl, rfl, rfl⟩ := hrel
              by_cases hjl : j < y.length
              · obtain ⟨b2, off2, rfl, hc2⟩ := iv_cell HI3.out hjl
                have HBK := Lib.hid (badkl_snoc y j hjl)
                have hbl := badkl_le y j
                generalize y[j] = x at *
                have hu := u64_conv x
                obtain ⟨m, hm, hm1, hm2⟩ : ∃ m : Nat, m < 22 ∧ (u64n x : Int) % 22 = (m : Int) ∧ u64n x % 22 = m := ⟨u64n x % 22, by omega, by omega, rfl⟩
                rw [hm2] at HBK
                have HM := Lib.hid hm2
                clear hm2
                have HRE := Lib.hid (referr_any m (by omega) w4)
                generalize kindE m = r at *
                generalize badN ((klOf (y.take j)).map kindE) = B at *
                by_cases hr0 : r = 0
                · subst hr0
                  go_wp2_with fail
                  refine HRE.out.mono ?_
                  rintro e w5 ⟨rfl, rfl⟩
                  go_wp2_with fail
                  refine ⟨⟨j + 1, by omega, by simp, by rw [HBK.out]; simp, trivial⟩, ?_⟩
                  simp [intOf]; omega
                · have hr1 : ((r : Int) == 0) = false := by rw [beq_eq_false_iff_ne]; omega
                  have hr2 : (r == 0) = false := by rw [beq_eq_false_iff_ne]; omega
                  have HR0 := Lib.hid hr0
                  clear hr0
                  go_wp2_with fail
                  refine HRE.out.mono ?_
                  rintro e w5 ⟨rfl, rfl⟩
                  go_wp2_with fail
                  refine ⟨⟨j + 1, by omega, by simp, by rw [HBK.out, if_neg HR0.out]; simp; omega, trivial⟩, ?_⟩
                  simp [intOf]; omega
              · obtain rfl : j = y.length := by omega
                rw [List.take_length]
                have HWS' := Lib.hid HWS.out
                go_wp2_with fail
                refine ⟨⟨k + 1, by omega, by simp, by rw [HWS.out], trivial⟩, ?_⟩
                simp [intOf]; omega
          · obtain rfl : k = ls.length := by omega
            rw [List.take_length]
            have cp := (HP4.out.cell 0).trans rfl
            have hww : (((wantOf ls : Nat) : Int) == ((wantOf ls : Nat) : Int)) = true := by simp
            have HN := Lib.hid (num_any w4 E 0 (by omega) (HE.out.errs.below HW4.out))
            rw [errV_zero] at HN
            generalize wantOf ls = W at *
            go_wp2_with fail
            refine HN.out.mono ?_
            rintro e w5 ⟨rfl, hb5⟩
            have HB5 := Lib.hid (HW4.out.trans (hb5.mono HW4.out.size))
            clear hb5
            go_wp2_with fail
            go_ret
            exact ⟨rfl, HB5.out⟩
  · have hld : decide (20 < (ls.length : Int)) = true := decide_eq_true (by omega)
    have hld' : decide (20 < ls.length) = true := decide_eq_true (by omega)
    have HB := Lib.hid hb1
    clear hb1
    go_wp2_with fail
    go_ret
    exact ⟨rfl, HB.out⟩
end Go.Proofs.YtliapmjocgohfaaDoor
