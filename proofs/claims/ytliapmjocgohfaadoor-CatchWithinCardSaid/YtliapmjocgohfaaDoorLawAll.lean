/-
  LawAll: the walk of CatchAll.
-/
import Derived.Test.YtliapmjocgohfaaDoorRefAll
import Derived.Test.YtliapmjocgohfaaDoorLawMust
namespace Go.Proofs.YtliapmjocgohfaaDoor
open Go.RowKit Go.Extern.Stop Go.Stop Go.Extern

/-- the kinds that a list tells -/
def klOf (l : List Int) : List Nat := l.map (fun x => u64n x % 22)
theorem klOf_len (l : List Int) : (klOf l).length = l.length := by simp [klOf]
theorem klOf_le (l : List Int) : ∀ k ∈ klOf l, k ≤ 21 := by
  intro k hk
  obtain ⟨x, _, rfl⟩ := List.mem_map.1 hk
  omega
theorem klOf_snoc (l : List Int) (k : Nat) (h : k < l.length) : kvs (klOf (l.take (k + 1))) = kvs (klOf (l.take k)) ++ [((u64n l[k] % 22 : Nat) : Int)] := by
  unfold klOf kvs
  rw [List.take_add_one, List.getElem?_eq_getElem h]
  simp only [Option.toList_some, List.map_append, List.map_cons, List.map_nil]
theorem intInfo : (Tryd.prog.info? 3).map (fun i => (i.zero, i.size, i.bytes)) = some (some (.int .i64 0), 1, 8) := by kernel_rfl
set_option maxRecDepth 20000 in
set_option maxHeartbeats 4000000 in
theorem all_law (v : Value) (l : List Int) (w : World) (E : Nat → Addr) (sy : Addr) (he : Errs15 w E sy) (hv : Iv w v l) :
    Calls Tryd.prog 7 #[v] w (ok1 w) := by
  have HE := Lib.hid he
  obtain ⟨i0, hi, hz0, hz1, hz2⟩ := info_parts intInfo
  obtain ⟨p, cap, rfl, h1, h2, h3⟩ := hv
  have H3 := Lib.hid h3
  clear he h3
  unfold maxLen at h2
  go_enter Tryd.func7, Tryd.ntmps7
  go_wp2_with fail
  refine (alive_any _ E HE.out.errs).mono ?_
  rintro e w1 ⟨rfl, hb1⟩
  by_cases hl : l.length ≤ 100
  · have hld : decide (100 < (l.length : Int)) = false := decide_eq_false (by omega)
    have hld' : decide (100 < l.length) = false := decide_eq_false (by omega)
    have HB1 := Lib.hid hb1
    clear hb1
    go_wp2_with fail
    go_loopw [3, 22] (fun o i wr => ∃ k : Nat, k ≤ l.length ∧ i = .int .i64 k ∧ wr.ownsRow w.heap.size 3 1 o k (ivs (kvs (klOf (l.take k)))) ∧ Below w.heap.size w wr) (fun _ i _ => l.length - (intOf i).toNat)
    case atStart =>
      have hs := HB1.out.size
      exact ⟨0, by omega, rfl, by simpa [ivs, kvs, klOf] using World.ownsRow_lit (base := w.heap.size) (e := 3) (size := 1) w1 #[] 0 hs (by unfold maxLen; omega) rfl, below_alloc HB1.out _⟩
    case round =>
      obtain ⟨k, hk, rfl, hown, hbw⟩ := hrel
      have hsz := hbw.size
      by_cases hlt : k < l.length
      · obtain ⟨b, off, rfl, hc⟩ := iv_cell H3.out hlt
        have hcw := Below.keeps hbw _ _ hc
        have HS := Lib.hid (klOf_snoc l k hlt)
        generalize l[k] = x at *
        have hu := u64_conv x
        obtain ⟨m, hm, hm1, hm2⟩ : ∃ m : Nat, m < 22 ∧ (u64n x : Int) % 22 = (m : Int) ∧ u64n x % 22 = m := ⟨u64n x % 22, by omega, by omega, rfl⟩
        rw [hm2] at HS
        have HM := Lib.hid hm2
        clear hm2 hc
        have HO1 := Lib.hid (owns_below hown (below_alloc1 wr (.cells #[.int .i64 (m : Int)] 3)))
        have hs1 := (below_alloc hbw (.cells #[.int .i64 (m : Int)] 3)).size
        have HB2 := Lib.hid (below_alloc hbw (.cells #[.int .i64 (m : Int)] 3))
        clear hown hbw
        go_wp2_with (at_builtin; refine wpList_app (.tmp 26) (.tmp 31) 38 rfl rfl w.heap.size 3 i0 (.int .i64 0) 1 8 Tryd.underlying38 hi hz0 hz1 hz2 rfl (by decide) _ _ _ rfl HO1.out _ _ _ (ivs [(m : Int)]) rfl rfl ?a1 ivs_one ?a2 ?a3 hs1 ?_)
        case a1 => exact rd_at _ #[_] _ _ _ rfl
        case a2 => unfold maxLen; omega
        case a3 => omega
        intro v1 w2 ho1 hg1
        have HB3 := Lib.hid (HB2.out.grown hg1 hs1 (fun j hj => (HO1.out.lt j hj).1))
        have HO3 := Lib.hid ho1
        clear ho1 hg1 HO1 HB2
        go_wp2_with fail
        refine ⟨⟨k + 1, by omega, by simp, ?_, HB3.out⟩, ?_⟩
        · rw [HS.out, ivs_app]
          exact HO3.out
        · simp [intOf]; omega
      · obtain rfl : k = l.length := by omega
        rw [List.take_length] at hown
        obtain ⟨q, c, rfl, hc1, hc2, hc3⟩ := owns_rd hown
        have HK := Lib.hid (klOf_le l)
        have hkl : (klOf l).length = l.length := klOf_len l
        generalize klOf l = kl at *
        have hl100 : kl.length ≤ 100 := by omega
        rw [← hkl] at *
        have HB0 := Lib.hid hbw
        have HR0 := Lib.hid hc3
        have HW2 := Lib.hid (below_alloc1 wr (.cells #[.int .i64 0] 3))
        have HN2 := Lib.hid (Blk.new wr 3 #[.int .i64 0])
        have HS2 := Lib.hid (show (wr.alloc (.cells #[.int .i64 0] 3)).heap.size = wr.heap.size + 1 by simp)
        have HEW := Lib.hid (fun w' (h : Below wr.heap.size wr w') => HE.out.below (hbw.trans (h.mono hsz)))
        have HSZ := Lib.hid hsz
        clear hown hbw hc1 hc2 hc3 hsz
        go_wp2_with fail
        generalize wr.alloc (.cells #[.int .i64 0] 3) = w2 at *
        refine (acts_any w2 q c kl wr.heap.size HK.out hl100 (HR0.out.below HW2.out)).mono ?_
        rintro e w3 ⟨q3, c3, vs3, rfl, ho3, hr3, hx3, hb3⟩
        have HW3 := Lib.hid (HW2.out.trans (hb3.mono (by rw [HS2.out]; omega)))
        have HBU := Lib.hid (fun w3 w' (hs : wr.heap.size ≤ w3.heap.size) (h3 : Below wr.heap.size wr w3) (h : But [wr.heap.size] w3 w') => h3.trans (h.below (B := wr.heap.size) (by simp) hs))
        have hs3 : wr.heap.size ≤ w3.heap.size := HW3.out.size
        have HS3 := Lib.hid hs3
        have HA3 := Lib.hid (all_any [wr.heap.size] w3 E (CntC wr.heap.size 0) q3 c3 vs3 (kl.map kindE) (acting_of w3 E sy w2.heap.size wr.heap.size 0 q3 c3 kl vs3 (by omega) hl100 (by rw [HS2.out]; omega) hb3.size ho3 hr3 hx3 (fun w' h => HEW.out w' (HBU.out w3 w' hs3 HW3.out h))) ⟨0, by omega, by omega, HN2.out.below hb3 HN2.out.lt⟩)
        have hvl := hr3.1
        rw [hvl] at HA3
        clear ho3 hr3 hx3 hb3 hvl hs3
        go_wp2_with fail
        refine HA3.out.mono ?_
        rintro e w4 ⟨rfl, hbut, n4, hn4, hn4', hc4⟩
        have HW4 := Lib.hid (HBU.out w3 w4 HS3.out HW3.out hbut)
        have HC4 := Lib.hid hc4
        have hf := firstE_le (kl.map kindE) (fun m hm => by obtain ⟨k, _, rfl⟩ := List.mem_map.1 hm; exact kindE_le k)
        have HF := Lib.hid hf
        clear hbut hc4 HA3 hf
        go_wp2_with fail
        refine (refall_any w4 q c kl HK.out hl100 (HR0.out.below HW4.out)).mono ?_
        rintro e w5 ⟨rfl, rfl⟩
        unfold kErrs
        have HNU := Lib.hid (fun w' h => num_any w' E (firstE (kl.map kindE)) HF.out (HEW.out w' h).errs)
        have hb1 : (((badN (kl.map kindE) : Nat) : Int) != ((badN (kl.map kindE) : Nat) : Int)) = false := by simp
        have hb2 : (((firstE (kl.map kindE) : Nat) : Int) != ((firstE (kl.map kindE) : Nat) : Int)) = false := by simp
        have hb3 : (((aheadN (kl.map kindE) : Nat) : Int) == ((aheadN (kl.map kindE) : Nat) : Int)) = true := by simp
        have hb4 : (((firstE (kl.map kindE) : Nat) : Int) == ((firstE (kl.map kindE) : Nat) : Int)) = true := by simp
        generalize hga : badN (kl.map kindE) = NB at *
        generalize hgb : firstE (kl.map kindE) = NF at *
        generalize hgc : aheadN (kl.map kindE) = NA at *
        have HGB := Lib.hid hgb
        have HGC := Lib.hid hgc
        clear hga hgb hgc
        go_wp2_with fail
        refine (HNU.out w5 HW4.out).mono ?_
        rintro e w6 ⟨rfl, hb6⟩
        have HW6 := Lib.hid (HW4.out.trans (hb6.mono HW4.out.size))
        have HC6 := Lib.hid (HC4.out.below hb6 HC4.out.lt)
        have HS5 := Lib.hid HW4.out.size
        clear hb6
        go_wp2_with fail
        refine (acts_any w6 q c kl wr.heap.size HK.out hl100 (HR0.out.below HW6.out)).mono ?_
        rintro e w7 ⟨q7, c7, vs7, rfl, ho7, hr7, hx7, hb7⟩
        have hs6 : wr.heap.size < w6.heap.size := HC6.out.lt
        have HW7 := Lib.hid (HW6.out.trans (hb7.mono (Nat.le_of_lt hs6)))
        have hs7 : wr.heap.size ≤ w7.heap.size := HW7.out.size
        have HS7 := Lib.hid hs7
        have HA7 := Lib.hid (until_any [wr.heap.size] w7 E (CntC wr.heap.size 100) q7 c7 vs7 (kl.map kindE) (acting_of w7 E sy w6.heap.size wr.heap.size 100 q7 c7 kl vs7 (by omega) hl100 hs6 hb7.size ho7 hr7 hx7 (fun w' h => HEW.out w' (HBU.out w7 w' hs7 HW7.out h))) ⟨n4, hn4, by omega, HC6.out.below hb7 HC6.out.lt⟩)
        have hvl := hr7.1
        rw [hvl, HGB.out, HGC.out] at HA7
        clear ho7 hr7 hx7 hb7 hvl hs6 hs7 hn4 hn4'
        go_wp2_with fail
        refine HA7.out.mono ?_
        rintro e w8 ⟨rfl, hbut⟩
        have HW8 := Lib.hid (HBU.out w7 w8 HS7.out HW7.out hbut)
        clear hbut HA7
        go_wp2_with fail
        refine (refuntil_any w8 q c kl HK.out hl100 (HR0.out.below HW8.out)).mono ?_
        rintro e w9 ⟨rfl, rfl⟩
        unfold kErrs
        rw [HGB.out, HGC.out]
        go_wp2_with fail
        refine (HNU.out w9 HW8.out).mono ?_
        rintro e w10 ⟨rfl, hb10⟩
        have HW10 := Lib.hid (HB0.out.trans ((HW8.out.trans (hb10.mono HW8.out.size)).mono HSZ.out))
        clear hb10
        go_wp2_with fail
        go_ret
        exact ⟨rfl, HW10.out⟩
  · have hld : decide (100 < (l.length : Int)) = true := decide_eq_true (by omega)
    have hld' : decide (100 < l.length) = true := decide_eq_true (by omega)
    have HB := Lib.hid hb1
    clear hb1
    go_wp2_with fail
    go_ret
    exact ⟨rfl, HB.out⟩
end Go.Proofs.YtliapmjocgohfaaDoor
