/-
  NetDel: the walk of slices.Delete of one letter.
-/
import Derived.Test.YtbbhecadpbnobaaDoorNetRow
import Derived.Deep.LoopGhost
import Derived.Sort.WalkB12
namespace Go.Proofs.YtbbhecadpbnobaaDoor
open Go.RowKit

theorem letInfo : (Tryd.prog.info? 37).map (fun i => (i.zero, i.size, i.bytes)) = some (some (.agg #[.int .i64 0, .int .i64 0, .slice none 0 0]), 3, 40) := by kernel_rfl
/-- the cells of a row without the i-th of three cells each -/
def cutAt (us : List Value) (i : Nat) : List Value := us.take (3 * i) ++ us.drop (3 * i + 3)
def zeroLet : List Value := [.int .i64 0, .int .i64 0, .slice none 0 0]
set_option maxRecDepth 20000 in
theorem zero_let (w : World) : (zeroValue 37).run Tryd.prog w = .ok (.agg #[.int .i64 0, .int .i64 0, .slice none 0 0]) w := by kernel_rfl
/-- clear of one letter -/
theorem run_clear_let (w : World) (ty : TypeId) (g off c : Nat) {T : TypeId} {cs : Array Value} (hb : Blk w g T cs) (h : off + 3 ≤ cs.size) :
    (Builtin.clear_ #[44] ty #[.slice (some ⟨g, off, none⟩) 1 c]).run Tryd.prog w = .ok (.tuple #[]) (w.setCells g off zeroLet) := by
  have hst := run_storeCells_cells (P := Tryd.prog) g off zeroLet 0 w (fun j hj => by
      have hj3 : j < 3 := hj
      rw [Nat.add_zero, cell_of hb (by omega)]; rfl) (fun j _ => hb.frozen _) (fun u hu => by
      simp only [zeroLet, List.mem_cons, List.not_mem_nil, or_false] at hu
      rcases hu with rfl | rfl | rfl <;> rfl)
  have hz : (Builtin.zeroCells (Value.agg #[.int .i64 0, .int .i64 0, .slice none 0 0]).cells 1).toList = zeroLet := by
    simp [Builtin.zeroCells, Value.cells, zeroLet]
    rfl
  simp only [Nat.add_zero] at hst
  simp [Builtin.clear_, run_underlying Tryd.underlying44, zero_let, hz, hst]
theorem del_cells (cur : Array Value) (n cap i k : Nat) (hk : k = i + 1) (hi : i < n) (hn : n ≤ cap) (hs : cur.size = cap * 3) (news : List Value) (hnews : news = (cur.toList.take (n * 3)).drop (k * 3)) (hnl : news.length = (n - k) * 3) :
    (setsAt (setsAt cur (i * 3) news) ((i + (n - k)) * 3) zeroLet).toList.take ((n - 1) * 3) = cutAt (cur.toList.take (n * 3)) i := by
  have hz : zeroLet.length = 3 := rfl
  have hl : (cur.toList.take (n * 3)).length = n * 3 := by rw [List.length_take]; simp; omega
  apply List.ext_getElem?
  intro j
  rw [List.getElem?_take]
  unfold cutAt
  by_cases hj : j < (n - 1) * 3
  · rw [if_pos hj, Array.getElem?_toList, setsAt_get _ _ _ _ (by rw [setsAt_size, hs, hz]; omega), if_neg (by omega), setsAt_get _ _ _ _ (by rw [hs, hnl]; omega)]
    by_cases h1 : j < i * 3
    · rw [if_neg (by omega), List.getElem?_append_left (by rw [List.length_take, hl]; omega), List.getElem?_take, if_pos (by omega), List.getElem?_take, if_pos (by omega), Array.getElem?_toList]
    · rw [if_pos (by omega), List.getElem?_append_right (by rw [List.length_take, hl]; omega), List.length_take, hl, hnews, List.getElem?_drop, List.getElem?_drop]
      congr 1
      omega
  · rw [if_neg hj, List.getElem?_eq_none (by rw [List.length_append, List.length_take, List.length_drop, hl]; omega)]
set_option maxRecDepth 20000 in
set_option maxHeartbeats 1000000 in
theorem del_any (w : World) (g n cap i k : Nat) (hk : k = i + 1) (cur : Array Value) (hb : Blk w g 37 cur) (hn : n ≤ cap) (hc : cap ≤ maxLen) (hs : cur.size = cap * 3) (hi : i < n) (h1 : ∀ u ∈ cur.toList.take (n * 3), u.oneCell' = true) :
    Calls Tryd.prog 26 #[.slice (some ⟨g, 0, none⟩) n cap, .int .i64 i, .int .i64 k] w fun e w' =>
      e = .returned (.slice (some ⟨g, 0, none⟩) (n - 1) cap) ∧ (∃ cur', Blk w' g 37 cur' ∧ cur'.size = cap * 3 ∧ cur'.toList.take ((n - 1) * 3) = cutAt (cur.toList.take (n * 3)) i) ∧ But [g] w w' := by
  have HB := Lib.hid hb
  have H1 := Lib.hid h1
  have HS := Lib.hid hs
  have HK := Lib.hid hk
  obtain ⟨i0, hi0, hz0, hz1, hz2⟩ := info_parts letInfo
  unfold maxLen at hc
  have hs1 := fun w => run_slice_to (P := Tryd.prog) Tryd.underlying44 hi0 (some ⟨g, 0, none⟩) n cap i (by omega) w
  have hs2 := fun w => run_slice_from (P := Tryd.prog) Tryd.underlying44 hi0 (some ⟨g, 0, none⟩) n cap k (by omega) w
  rw [hz1] at hs2
  have hik : i ≤ k := by omega
  have hkn : k ≤ n := by omega
  have d : ((i : Int) == (k : Int)) = false := by rw [beq_eq_false_iff_ne]; omega
  have hlen : (cur.toList.take (n * 3)).length = n * 3 := by rw [List.length_take]; simp; omega
  obtain ⟨news, hnews⟩ : ∃ news, news = (cur.toList.take (n * 3)).drop (k * 3) := ⟨_, rfl⟩
  have hnl : news.length = (n - k) * 3 := by rw [hnews, List.length_drop, hlen]; omega
  obtain ⟨ad, had, hsrc⟩ : ∃ ad, cutp (some ⟨g, 0, none⟩) k cap 3 = some ad ∧ ∀ w', Blk w' g 37 cur → ∀ j u, news[j]? = some u → w'.cell? (ad.add j) = some u := by
    unfold cutp
    by_cases hcap : cap = k
    · refine ⟨⟨g, 0, none⟩, by rw [if_pos hcap], fun w' hb' j u hu => ?_⟩
      have := (List.getElem?_eq_some_iff.1 hu).1
      omega
    · refine ⟨_, by rw [if_neg hcap]; rfl, fun w' hb' j u hu => ?_⟩
      have hj := (List.getElem?_eq_some_iff.1 hu).1
      rw [hnews, List.getElem?_drop, List.getElem?_take, if_pos (by omega), Array.getElem?_toList] at hu
      have hx : ((⟨g, 0, none⟩ : Addr).add (k * 3)).add j = ⟨g, k * 3 + j, none⟩ := by rw [cell_add, cell_add, Nat.zero_add]
      rw [hx, hb'.cell]
      exact hu
  have HN := Lib.hid hnews
  have HNL := Lib.hid hnl
  have HSRC := Lib.hid hsrc
  have HLEN := Lib.hid hlen
  rw [had] at hs2
  clear hb h1 hs hk hnews hnl hsrc had hlen
  go_enter Tryd.func26, Tryd.ntmps26
  go_wp2_with fail
  have hbb : Below w.heap.size w w := Below.refl _ _
  refine wp_phi_tail (List.take 6 _) (List.drop 6 _) (List.take_append_drop 6 _).symm (fun w' => (Blk w' g 37 cur) ∧ Below w.heap.size w w') [] [] (by kernel_rfl) (by kernel_rfl) ?_ ?_ ⟨HB.out, (hbb).drew⟩ ?_
  · rintro w1' w2' ⟨gb, hIB⟩ hb
    exact ⟨(by first | exact gb.below hb | exact gb.keep (Below.keeps hb) | exact Below.keeps hb _ _ gb | exact Blk.below gb hb (Blk.lt gb)), hIB.trans (hb.mono hIB.size)⟩
  · intro p hp; cases hp
  simp only [List.take_succ_cons, List.take_zero, List.drop_succ_cons, List.drop_zero]
  repeat (first | (refine phi_skipK rfl (fun K hK => ?_); simp only [Act.put, List.setIfInBounds_toArray, List.set_cons_succ, List.set_cons_zero]; (try simp only [List.cons_append]); (try simp only [List.nil_append]); apply hK; clear hK K) | (refine phi_pureK rfl rfl (fun K hK => ?_); apply Exists.intro; constructor; (focus (rintro w' ⟨gb, hIB⟩; clear gb hIB; first | (go_simp; done) | (go_simp; (try go_bits); (try go_simp); rfl) | go_simp)); simp only [Act.put, List.setIfInBounds_toArray, List.set_cons_succ, List.set_cons_zero]; (try simp only [List.cons_append]); (try simp only [List.nil_append]); apply hK; clear hK K))
  refine phi_done ?_
  rintro w2 ⟨gb, hb2⟩ _
  have HB2 := Lib.hid gb
  have hs2' := HSRC.out w2 gb
  have h1c : ∀ u ∈ news, u.oneCell' = true := fun u hu => H1.out u (by rw [HN.out] at hu; exact List.mem_of_mem_drop hu)
  clear gb
  obtain ⟨hb3, ho3⟩ := blk_sets news (i * 3) HB2.out
  have e1 : n - (i + (n - k)) = 1 := by have := HK.out; omega
  have hne : ¬ cap = i + (n - k) := by have := HK.out; omega
  have hle : i + (n - k) ≤ n := by omega
  have hcl := fun ty => run_clear_let (w2.setCells g (i * 3) news) ty g ((i + (n - k)) * 3) (cap - (i + (n - k))) hb3 (by rw [setsAt_size, HS.out]; omega)
  rw [← e1] at hcl
  obtain ⟨hb4, ho4⟩ := blk_sets zeroLet ((i + (n - k)) * 3) hb3
  have HB4 := Lib.hid hb4
  have HO4 := Lib.hid ((But.of_below hb2 : But [g] w w2).trans (but_only (ho3.trans ho4)))
  have e2 : i + (n - k) = n - 1 := by have := HK.out; omega
  have HE2 := Lib.hid e2
  clear hb3 ho3 hb4 ho4 e1 e2
  go_wp2_with (at_builtin; refine wpList_appRoom (.tmp 22) (.tmp 25) 44 rfl rfl 37 i0 Tryd.underlying44 hi0 g i cap rfl ad (n - k) (cap - k) news rfl (by rw [hz1]; exact HNL.out) hs2' h1c (by omega) HB2.out (by rw [hz1, HNL.out, HS.out]; omega) ?_)
  go_ret
  refine ⟨by rw [HE2.out]; rfl, ⟨_, HB4.out, by rw [setsAt_size, setsAt_size, HS.out], del_cells cur n cap i k HK.out hi hn HS.out news HN.out HNL.out⟩, HO4.out⟩
end Go.Proofs.YtbbhecadpbnobaaDoor
