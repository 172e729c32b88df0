/-
  Acts: the law's acts by their kinds, as functions.
-/
import Derived.Test.YtliapmjocgohfaaDoorAll
import Derived.Test.YtliapmjocgohfaaDoorInts
namespace Go.Proofs.YtliapmjocgohfaaDoor
open Go.RowKit Go.Extern.Stop Go.Stop Go.Extern

/-- acts$1: it does -/
theorem act1_does (w : World) (E : Nat → Addr) (sy : Addr) (k : Nat) (hk : k ≤ 20) (bk bx bc : Nat) (n : Int) (hbd : 0 ≤ n ∧ n ≤ 1000000000) (hbk : Blk w bk 3 #[.int .i64 (k : Int)]) (hbx : Blk w bx 35 #[.pointer (some ⟨bc, 0, none⟩)]) (hbc : Blk w bc 3 #[.int .i64 n])
    (he : ∀ w', But [bc] w w' → Errs15 w' E sy) :
    Calls Tryd.prog 36 #[.pointer (some ⟨bk, 0, none⟩), .pointer (some ⟨bx, 0, none⟩)] w fun e w2 => But [bc] w w2 ∧ Blk w2 bc 3 #[.int .i64 (n + 1)] ∧ EndsAs E (kindE k) e w2 := by
  have HD := Lib.hid (does_any w E sy k hk bc n hbd hbc he)
  have ck := (hbk.cell 0).trans rfl
  have cx := (hbx.cell 0).trans rfl
  have HE := Lib.hid he
  have HKE := Lib.hid (kindE_le k)
  clear hbk hbc hbx he hk hbd
  go_enter Tryd.func36, Tryd.ntmps36
  go_wp2_with fail
  refine HD.out.mono ?_
  rintro e w1 ⟨hbut, hb1, ⟨h0, rfl⟩ | ⟨u, n', hn, hu, ht, rfl⟩⟩
  · have HB := Lib.hid hbut
    have HC := Lib.hid hb1
    clear hbut hb1
    go_wp2_with fail
    go_end0
    exact ⟨HB.out, HC.out, .inl ⟨h0, rfl⟩⟩
  · have HB := Lib.hid hbut
    have HC := Lib.hid hb1
    have HT := Lib.hid (ht w1 (Nat.le_refl _) (fun _ _ _ => rfl) (HE.out w1 hbut))
    have HN := Lib.hid hn
    clear hbut hb1 ht hn
    obtain ⟨T, x0, rfl⟩ := hu
    go_wp2_with fail
    have h14 := HKE.out
    have hn' := HN.out
    exact ⟨rfl, HB.out, HC.out, .inr ⟨_, n', hn', by omega, ⟨_, _, rfl⟩, HT.out, rfl⟩⟩
/-- the value v is the act of the kind k -/
def ActOf (B : Nat) (w : World) (bx : Nat) (k : Nat) (v : Value) : Prop :=
  (v = .nilFunc ∧ k = 21) ∨ ∃ b, v = .func (.func 36) #[] #[.pointer (some ⟨b, 0, none⟩), .pointer (some ⟨bx, 0, none⟩)] ∧ k ≤ 20 ∧ B ≤ b ∧ Blk w b 3 #[.int .i64 (k : Int)]
theorem ActOf.below {B bx k : Nat} {w w' : World} {v : Value} (h : ActOf B w bx k v) (hb : Below w.heap.size w w') : ActOf B w' bx k v := by
  rcases h with h | ⟨b, h1, h2, h3, h4⟩
  · exact .inl h
  · exact .inr ⟨b, h1, h2, h3, h4.below hb h4.lt⟩
theorem ActOf.one {B bx k : Nat} {w : World} {v : Value} (h : ActOf B w bx k v) : v.oneCell' = true := by
  rcases h with ⟨rfl, _⟩ | ⟨b, rfl, _⟩ <;> rfl
def kvs (kl : List Nat) : List Int := kl.map (fun k : Nat => (k : Int))
theorem kvs_len (kl : List Nat) : (kvs kl).length = kl.length := by simp [kvs]
theorem kvs_get (kl : List Nat) (k : Nat) (h : k < kl.length) : (kvs kl)[k]'(by rw [kvs_len]; exact h) = (kl[k] : Int) := by simp [kvs]
/-- a row of acts -/
def ActRow (B : Nat) (w : World) (bx : Nat) (kl : List Nat) (vs : List Value) : Prop := vs.length = kl.length ∧ ∀ (i : Nat) v k, vs[i]? = some v → kl[i]? = some k → ActOf B w bx k v
theorem ActRow.below {B bx : Nat} {kl : List Nat} {w w' : World} {vs : List Value} (h : ActRow B w bx kl vs) (hb : Below w.heap.size w w') : ActRow B w' bx kl vs := ⟨h.1, fun i v k h1 h2 => (h.2 i v k h1 h2).below hb⟩
theorem ActRow.grown {B bx base n : Nat} {kl : List Nat} {w w' : World} {vs xs : List Value} {v : Value} (h : ActRow B w bx kl vs) (hg : w.grownBy w' v.ownBlock) (ho : w.ownsRow base 1 1 v n xs) : ActRow B w' bx kl vs := ⟨h.1, fun i v' k h1 h2 => by
  rcases h.2 i v' k h1 h2 with h | ⟨b, h3, h4, h5, h6⟩
  · exact .inl h
  · exact .inr ⟨b, h3, h4, h5, grown_blk hg ho h6 (by decide)⟩⟩
theorem ActRow.snoc {B bx : Nat} {kl : List Nat} {w : World} {vs : List Value} (h : ActRow B w bx kl vs) {k : Nat} {v : Value} (hv : ActOf B w bx k v) : ActRow B w bx (kl ++ [k]) (vs ++ [v]) := by
  refine ⟨by simp [h.1], fun i v' k' h1 h2 => ?_⟩
  by_cases hi : i < vs.length
  · rw [List.getElem?_append_left hi] at h1
    rw [List.getElem?_append_left (by rw [← h.1]; exact hi)] at h2
    exact h.2 i v' k' h1 h2
  · rw [List.getElem?_append_right (by omega)] at h1
    rw [List.getElem?_append_right (by rw [← h.1]; omega), ← h.1] at h2
    by_cases h0 : i - vs.length = 0
    · rw [h0] at h1 h2
      cases h1; cases h2
      exact hv
    · rw [List.getElem?_eq_none (by simp; omega)] at h1
      cases h1
theorem fnInfo : (Tryd.prog.info? 1).map (fun i => (i.zero, i.size, i.bytes)) = some (some .nilFunc, 1, 8) := by kernel_rfl
set_option maxRecDepth 20000 in
set_option maxHeartbeats 2000000 in
theorem acts_any (w : World) (p : Option Addr) (cap : Nat) (kl : List Nat) (bc : Nat) (hk : ∀ k ∈ kl, k ≤ 21) (hl : kl.length ≤ 100) (hr : Rd w p (ivs (kvs kl))) :
    Calls Tryd.prog 24 #[.slice p kl.length cap, .pointer (some ⟨bc, 0, none⟩)] w fun e w' => ∃ q c vs, e = .returned (.slice q kl.length c) ∧ w'.ownsRow w.heap.size 1 1 (.slice q kl.length c) kl.length vs ∧ ActRow w.heap.size w' w.heap.size kl vs ∧ Blk w' w.heap.size 35 #[.pointer (some ⟨bc, 0, none⟩)] ∧ Below w.heap.size w w' := by
  obtain ⟨i0, hi, hz0, hz1, hz2⟩ := info_parts fnInfo
  have hmf := @run_makeFunc Tryd.prog
  have HR := Lib.hid hr
  have HK := Lib.hid hk
  clear hr hk
  have hb1 := below_alloc1 w (.cells #[.pointer (some ⟨bc, 0, none⟩)] 35)
  have hx1 := Blk.new w 35 #[.pointer (some ⟨bc, 0, none⟩)]
  have HS1 := Lib.hid (show (w.alloc (.cells #[.pointer (some ⟨bc, 0, none⟩)] 35)).heap.size = w.heap.size + 1 by simp)
  have HX1 := Lib.hid hx1
  have HB1 := Lib.hid hb1
  clear hx1 hb1
  go_enter Tryd.func24, Tryd.ntmps24
  go_wp2_with fail
  generalize w.alloc (.cells #[.pointer (some ⟨bc, 0, none⟩)] 35) = w1 at *
  go_loopw [5, 11] (fun o i wr => ∃ (k : Nat) (vs : List Value), k ≤ kl.length ∧ i = .int .i64 k ∧ wr.ownsRow (w.heap.size + 1) 1 1 o k vs ∧ ActRow w.heap.size wr w.heap.size (kl.take k) vs ∧ Below w.heap.size w wr ∧ Blk wr w.heap.size 35 #[.pointer (some ⟨bc, 0, none⟩)]) (fun _ i _ => kl.length - (intOf i).toNat)
  case atStart =>
    refine ⟨0, [], by omega, rfl, ?_, ⟨rfl, by simp⟩, ?_, ?_⟩
    · have := World.ownsRow_lit (base := w.heap.size + 1) (e := 1) (size := 1) w1 #[] 0 (by rw [HS1.out]; omega) (by unfold maxLen; omega) rfl
      rw [HS1.out] at this
      simpa using this
    · exact below_alloc HB1.out _
    · exact HX1.out.alloc _
  case round =>
    obtain ⟨k, vs, hk, rfl, hown, hrow, hbw, hbx⟩ := hrel
    have hsz : w.heap.size + 1 ≤ wr.heap.size := hbx.lt
    by_cases hlt : k < kl.length
    · obtain ⟨b, off, rfl, hc0⟩ := iv_cell HR.out (show k < (kvs kl).length by rw [kvs_len]; exact hlt)
      have hc := Below.keeps hbw _ _ hc0
      rw [kvs_get kl k hlt] at hc
      have hm := HK.out _ (List.getElem_mem hlt)
      have HT := Lib.hid (show kl.take (k + 1) = kl.take k ++ [kl[k]] by rw [List.take_add_one, List.getElem?_eq_getElem hlt]; rfl)
      generalize kl[k] = m at *
      clear hc0
      have hx0 := Blk.new wr 3 #[.int .i64 (m : Int)]
      have cx0 := (hx0.cell 0).trans rfl
      have HX0 := Lib.hid hx0
      have hb2 := below_alloc hbw (.cells #[.int .i64 (m : Int)] 3)
      have hown2 := owns_below hown (below_alloc1 wr (.cells #[.int .i64 (m : Int)] 3))
      have hrow2 := hrow.below (below_alloc1 wr (.cells #[.int .i64 (m : Int)] 3))
      have hbx2 := hbx.alloc (.cells #[.int .i64 (m : Int)] 3)
      have hs2 : (wr.alloc (.cells #[.int .i64 (m : Int)] 3)).heap.size = wr.heap.size + 1 := by simp
      clear hown hrow hbw hbx hx0
      by_cases h21 : m = 21
      · subst h21
        rw [show ((21 : Nat) : Int) = 21 from rfl] at *
        have hown3 := owns_below hown2 (below_alloc1 (wr.alloc (.cells #[.int .i64 21] 3)) (.cells #[.nilFunc] 1))
        have hrow3 := hrow2.below (below_alloc1 (wr.alloc (.cells #[.int .i64 21] 3)) (.cells #[.nilFunc] 1))
        have hbx3 := hbx2.alloc (.cells #[.nilFunc] 1)
        have hb3 := below_alloc hb2 (.cells #[.nilFunc] 1)
        have hs3 : ((wr.alloc (.cells #[.int .i64 21] 3)).alloc (.cells #[.nilFunc] 1)).heap.size = wr.heap.size + 2 := by simp
        have hr3 := rd_at (wr.alloc (.cells #[.int .i64 21] 3)) #[.nilFunc] 1 (0, 0) (wr.heap.size + 1) hs2.symm
        have ha3 : ActOf w.heap.size ((wr.alloc (.cells #[.int .i64 21] 3)).alloc (.cells #[.nilFunc] 1)) w.heap.size 21 (.nilFunc) := .inl ⟨rfl, rfl⟩
        have hsn3 := hrow3.snoc ha3
        have HSN := Lib.hid hsn3
        have HBX3 := Lib.hid hbx3
        have HB3 := Lib.hid hb3
        have HO3 := Lib.hid hown3
        clear hown2 hrow2 hb2 hbx2 hrow3 ha3 hsn3 hbx3 hb3 hown3
        go_wp2_with (at_builtin; refine wpList_app (.tmp 17) (.tmp 18) 43 rfl rfl (w.heap.size + 1) 1 i0 .nilFunc 1 8 Tryd.underlying43 hi hz0 hz1 hz2 rfl (by decide) _ _ _ rfl HO3.out _ _ _ [.nilFunc] rfl rfl hr3 ?a4 ?a2 ?a3 (by rw [hs3]; omega) ?_)
        case a4 => simp [Value.oneCell']
        case a2 => unfold maxLen; omega
        case a3 => omega
        intro v1 w3 ho1 hg1
        have HB4 := Lib.hid (HB3.out.grown hg1 (by rw [hs3]; omega) (fun j hj => Nat.le_of_succ_le (HO3.out.lt j hj).1))
        have HX4 := Lib.hid (grown_blk hg1 HO3.out HBX3.out (by decide))
        have HR4 := Lib.hid (HSN.out.grown hg1 HO3.out)
        have HO4 := Lib.hid ho1
        clear hg1 ho1 HO3 HB3 HBX3 HSN
        go_wp2_with fail
        refine ⟨⟨k + 1, vs ++ [.nilFunc], by omega, by simp, HO4.out, ?_, HB4.out, HX4.out⟩, ?_⟩
        · rw [HT.out]
          exact HR4.out
        · simp [intOf]; omega
      · have hd : (((m : Nat) : Int) == 21) = false := by rw [beq_eq_false_iff_ne]; omega
        have hd' : (m == 21) = false := by rw [beq_eq_false_iff_ne]; omega
        have hown3 := owns_below hown2 (below_alloc1 (wr.alloc (.cells #[.int .i64 (m : Int)] 3)) (.cells #[.func (.func 36) #[] #[.pointer (some ⟨wr.heap.size, 0, none⟩), .pointer (some ⟨w.heap.size, 0, none⟩)]] 1))
        have hrow3 := hrow2.below (below_alloc1 (wr.alloc (.cells #[.int .i64 (m : Int)] 3)) (.cells #[.func (.func 36) #[] #[.pointer (some ⟨wr.heap.size, 0, none⟩), .pointer (some ⟨w.heap.size, 0, none⟩)]] 1))
        have hbx3 := hbx2.alloc (.cells #[.func (.func 36) #[] #[.pointer (some ⟨wr.heap.size, 0, none⟩), .pointer (some ⟨w.heap.size, 0, none⟩)]] 1)
        have hb3 := below_alloc hb2 (.cells #[.func (.func 36) #[] #[.pointer (some ⟨wr.heap.size, 0, none⟩), .pointer (some ⟨w.heap.size, 0, none⟩)]] 1)
        have hs3 : ((wr.alloc (.cells #[.int .i64 (m : Int)] 3)).alloc (.cells #[.func (.func 36) #[] #[.pointer (some ⟨wr.heap.size, 0, none⟩), .pointer (some ⟨w.heap.size, 0, none⟩)]] 1)).heap.size = wr.heap.size + 2 := by simp
        have hr3 := rd_at (wr.alloc (.cells #[.int .i64 (m : Int)] 3)) #[.func (.func 36) #[] #[.pointer (some ⟨wr.heap.size, 0, none⟩), .pointer (some ⟨w.heap.size, 0, none⟩)]] 1 (0, 0) (wr.heap.size + 1) hs2.symm
        have ha3 : ActOf w.heap.size ((wr.alloc (.cells #[.int .i64 (m : Int)] 3)).alloc (.cells #[.func (.func 36) #[] #[.pointer (some ⟨wr.heap.size, 0, none⟩), .pointer (some ⟨w.heap.size, 0, none⟩)]] 1)) w.heap.size m (.func (.func 36) #[] #[.pointer (some ⟨wr.heap.size, 0, none⟩), .pointer (some ⟨w.heap.size, 0, none⟩)]) := .inr ⟨wr.heap.size, rfl, by omega, by omega, HX0.out.alloc _⟩
        have hsn3 := hrow3.snoc ha3
        have HSN := Lib.hid hsn3
        have HBX3 := Lib.hid hbx3
        have HB3 := Lib.hid hb3
        have HO3 := Lib.hid hown3
        clear hown2 hrow2 hb2 hbx2 hrow3 ha3 hsn3 hbx3 hb3 hown3
        go_wp2_with (at_builtin; refine wpList_app (.tmp 20) (.tmp 22) 43 rfl rfl (w.heap.size + 1) 1 i0 .nilFunc 1 8 Tryd.underlying43 hi hz0 hz1 hz2 rfl (by decide) _ _ _ rfl HO3.out _ _ _ [.func (.func 36) #[] #[.pointer (some ⟨wr.heap.size, 0, none⟩), .pointer (some ⟨w.heap.size, 0, none⟩)]] rfl rfl hr3 ?d4 ?d2 ?d3 (by rw [hs3]; omega) ?_)
        case d4 => simp [Value.oneCell']
        case d2 => unfold maxLen; omega
        case d3 => omega
        intro v1 w3 ho1 hg1
        have HB4 := Lib.hid (HB3.out.grown hg1 (by rw [hs3]; omega) (fun j hj => Nat.le_of_succ_le (HO3.out.lt j hj).1))
        have HX4 := Lib.hid (grown_blk hg1 HO3.out HBX3.out (by decide))
        have HR4 := Lib.hid (HSN.out.grown hg1 HO3.out)
        have HO4 := Lib.hid ho1
        clear hg1 ho1 HO3 HB3 HBX3 HSN
        go_wp2_with fail
        refine ⟨⟨k + 1, vs ++ [.func (.func 36) #[] #[.pointer (some ⟨wr.heap.size, 0, none⟩), .pointer (some ⟨w.heap.size, 0, none⟩)]], by omega, by simp, HO4.out, ?_, HB4.out, HX4.out⟩, ?_⟩
        · rw [HT.out]
          exact HR4.out
        · simp [intOf]; omega
    · obtain rfl : k = kl.length := by omega
      obtain ⟨q, c, rfl, h1, h2, h3⟩ := owns_rd hown
      rw [List.take_length] at hrow
      have HO := Lib.hid (owns_lower hown (Nat.le_succ w.heap.size))
      have HR1 := Lib.hid hrow
      have HB := Lib.hid hbw
      have HBX := Lib.hid hbx
      clear hown hrow hbw hbx h3 h1 h2
      go_wp2_with fail
      go_ret
      exact ⟨q, c, vs, rfl, HO.out, HR1.out, HBX.out, HB.out⟩
theorem owns_but {S : List Nat} {w w' : World} {base : Nat} {e : TypeId} {size : Nat} {v : Value} {n : Nat} {xs : List Value} (h : w.ownsRow base e size v n xs) (hb : But S w w') (hS : ∀ s ∈ S, s < base) : w'.ownsRow base e size v n xs := by
  refine ⟨h.1, ?_⟩
  rcases h.2 with h2 | ⟨g, cap, cur, rfl, hg, hh, hr⟩
  · exact .inl h2
  · refine .inr ⟨g, cap, cur, rfl, hg, (hb.block g (Array.getElem?_eq_some_iff.1 hh).1 ?_).trans hh, hr⟩
    rw [Bool.eq_false_iff]
    intro hc
    have := hS g (List.contains_iff_mem.1 hc)
    omega
/-- the count's block, up to m + i -/
def CntC (bc m i : Nat) (w : World) : Prop := ∃ n : Int, 0 ≤ n ∧ n ≤ ((m + i : Nat) : Int) ∧ Blk w bc 3 #[.int .i64 n]
theorem acting_of (w0 : World) (E : Nat → Addr) (sy : Addr) (B bc m : Nat) (q : Option Addr) (c : Nat) (kl : List Nat) (vs : List Value) (hm : m ≤ 1000) (hl : kl.length ≤ 100) (hbc : bc < B) (hB : B ≤ w0.heap.size)
    (hown : w0.ownsRow B 1 1 (.slice q kl.length c) kl.length vs) (hrow : ActRow B w0 B kl vs) (hbx : Blk w0 B 35 #[.pointer (some ⟨bc, 0, none⟩)]) (he : ∀ w', But [bc] w0 w' → Errs15 w' E sy) :
    Acting [bc] w0 E (CntC bc m) q vs (kl.map kindE) := by
  refine ⟨by simp [hrow.1], by rw [hrow.1]; omega, by simp; omega, ?_, fun w' h => (he w' h).errs, ?_, ?_, ?_⟩
  · rintro i w w' ⟨n, h1, h2, h3⟩ hb
    exact ⟨n, h1, h2, h3.below hb (by omega)⟩
  · intro w' h
    obtain ⟨_, _, he', _, _, hr⟩ := owns_rd (owns_but hown h (by simp; omega))
    cases he'
    exact hr
  · intro x hx
    obtain ⟨k, _, rfl⟩ := List.mem_map.1 hx
    exact kindE_le k
  · intro i v x hv hx
    rw [List.getElem?_map, Option.map_eq_some_iff] at hx
    obtain ⟨k, hk, rfl⟩ := hx
    have hil : i < kl.length := by
      by_cases h : i < kl.length
      · exact h
      · rw [List.getElem?_eq_none (by omega)] at hk; cases hk
    rcases hrow.2 i v k hv hk with ⟨rfl, rfl⟩ | ⟨b, rfl, h20, hbb, hkb⟩
    · refine .inl ⟨rfl, rfl, ?_⟩
      rintro w ⟨n, h1, h2, h3⟩
      exact ⟨n, h1, by omega, h3⟩
    · refine .inr ⟨_, _, rfl, fun w => by simp [go_sem], ?_⟩
      rintro w1 hw1 ⟨n, h1, h2, h3⟩
      refine (act1_does w1 E sy k h20 b B bc n ⟨h1, by omega⟩ (hw1.blk hkb (by simp; omega)) (hw1.blk hbx (by simp; omega)) h3 (fun w' h => he w' (hw1.trans h))).mono ?_
      rintro e w2 ⟨a1, a2, a3⟩
      exact ⟨a1, ⟨n + 1, by omega, by omega, a2⟩, a3⟩
end Go.Proofs.YtliapmjocgohfaaDoor
