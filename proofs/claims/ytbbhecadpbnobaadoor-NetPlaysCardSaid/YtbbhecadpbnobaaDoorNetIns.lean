/-
  NetIns: the walk of slices.Insert of one letter where there is room.
-/
import Derived.Test.YtbbhecadpbnobaaDoorNetDel
import Derived.Laws.Externs
import Derived.Lib.Overlaps
namespace Go.Proofs.YtbbhecadpbnobaaDoor
open Go.RowKit

/-- all is read before anything is written -/
theorem run_copy_n {P : Program} (w : World) (dT sT ty elem : TypeId) (g o dLen dCap : Nat) (a : Addr) (sLen sCap : Nat) (cs : List Value) (i : TypeInfo) (hu : P.underlying dT = some (.slice elem)) (hq : P.info? elem = some i) (k : Nat) (hk : Nat.min sLen dLen = k)
    (hl0 : cs.length = k * i.size) (hsrc : ∀ j v, cs[j]? = some v → w.cell? (a.add j) = some v) {T : TypeId} {cur : Array Value} (hb : Blk w g T cur) (hsz : o + cs.length ≤ cur.size) (h1 : ∀ v ∈ cs, v.oneCell' = true) :
    (Builtin.copy_ #[dT, sT] ty #[.slice (some ⟨g, o, none⟩) dLen dCap, .slice (some a) sLen sCap]).run P w = .ok (goInt k) (w.setCells g o cs) := by
  have hl := run_firstCells_some (P := P) w i.size k a sLen sCap cs hl0 hsrc
  have hst := run_storeCells_cells (P := P) g o cs 0 w (fun j hj => by rw [Nat.add_zero, cell_of hb (by omega)]; rfl) (fun j _ => hb.frozen _) h1
  rw [Nat.add_zero] at hst
  simp [Builtin.copy_, run_underlying hu, Builtin.lenOf, sizeOf, typeInfo, hq, hk, hl, hst]
/-- the cells of a row with three more ahead of the i-th -/
def putAt (us vs : List Value) (i : Nat) : List Value := us.take (3 * i) ++ vs ++ us.drop (3 * i)
theorem ins_cells (cur : Array Value) (n cap i : Nat) (hi : i ≤ n) (hn : n < cap) (hs : cur.size = cap * 3) (news vs : List Value) (hnews : news = (cur.toList.take (n * 3)).drop (i * 3)) (hv : vs.length = 3) :
    (setsAt (setsAt cur ((i + 1) * 3) news) (i * 3) vs).toList.take ((n + 1) * 3) = putAt (cur.toList.take (n * 3)) vs i := by
  have hl : (cur.toList.take (n * 3)).length = n * 3 := by rw [List.length_take]; simp; omega
  have hnl : news.length = (n - i) * 3 := by rw [hnews, List.length_drop, hl]; omega
  apply List.ext_getElem?
  intro j
  rw [List.getElem?_take]
  unfold putAt
  have hl2 : ((cur.toList.take (n * 3)).take (3 * i) ++ vs).length = 3 * i + 3 := by rw [List.length_append, List.length_take, hl, hv]; omega
  by_cases hj : j < (n + 1) * 3
  · rw [if_pos hj, Array.getElem?_toList, setsAt_get _ _ _ _ (by rw [setsAt_size, hs, hv]; omega)]
    by_cases h1 : i * 3 ≤ j ∧ j < i * 3 + 3
    · rw [if_pos (by rw [hv]; exact h1), List.getElem?_append_left (by rw [hl2]; omega), List.getElem?_append_right (by rw [List.length_take, hl]; omega), List.length_take, hl]
      congr 1
      omega
    · rw [if_neg (by rw [hv]; exact h1), setsAt_get _ _ _ _ (by rw [hs, hnl]; omega)]
      by_cases h2 : j < i * 3
      · rw [if_neg (by omega), List.getElem?_append_left (by rw [hl2]; omega), List.getElem?_append_left (by rw [List.length_take, hl]; omega), List.getElem?_take, if_pos (by omega), List.getElem?_take, if_pos (by omega), Array.getElem?_toList]
      · rw [if_pos (by rw [hnl]; omega), List.getElem?_append_right (by rw [hl2]; omega), hl2, hnews, List.getElem?_drop, List.getElem?_drop]
        congr 1
        omega
  · rw [if_neg hj, List.getElem?_eq_none (by rw [List.length_append, hl2, List.length_drop, hl]; omega)]
theorem size_let (w : World) : (Go.sizeOf 37).run Tryd.prog w = .ok 3 w := by
  obtain ⟨i0, hi0, hz0, hz1, hz2⟩ := info_parts letInfo
  simp [Go.sizeOf, typeInfo, hi0, hz1]
theorem run_overl (w : World) (g h : Nat) (hne : h ≠ g) (off la ca lb cb : Nat) {T T' : TypeId} {cs cs' : Array Value} (hb : Blk w g T cs) (hb' : Blk w h T' cs') (hsz : cs.size ≠ 0) :
    (callFunc 38 #[.slice (some ⟨h, 0, none⟩) la ca, .slice (some ⟨g, off, none⟩) lb cb]).run Tryd.prog w = .ok (.value (.bool false)) w := by
  rw [@run_callFunc_extern Tryd.prog 38 _ (Extern.SlicesOverlaps.overlaps #[44, 44] #[4]) Tryd.func38 (by kernel_rfl) (by kernel_rfl) (by kernel_rfl) (by kernel_rfl),
    Lib.run_overlaps_apart w 44 4 37 Tryd.underlying44 3 size_let ⟨h, 0, none⟩ ⟨g, off, none⟩ la ca lb cb hne T' T cs'.size cs.size (by
      unfold Blk at hb'
      simp [World.shape?, hb']) (by
      unfold Blk at hb
      simp [World.shape?, hb]) hsz (hb'.frozen 0) (hb'.frozen _)]
  rfl
set_option maxRecDepth 20000 in
set_option maxHeartbeats 1000000 in
theorem ins_any (w : World) (g n cap i h : Nat) (cur : Array Value) (vs : List Value) {T' : TypeId} (hb : Blk w g 37 cur) (hv : Blk w h T' vs.toArray) (hne : h ≠ g) (hvl : vs.length = 3) (hn : n < cap) (hc : cap ≤ maxLen) (hs : cur.size = cap * 3) (hi : i ≤ n)
    (h1 : ∀ u ∈ cur.toList.take (n * 3), u.oneCell' = true) (h2 : ∀ u ∈ vs, u.oneCell' = true) :
    Calls Tryd.prog 27 #[.slice (some ⟨g, 0, none⟩) n cap, .int .i64 i, .slice (some ⟨h, 0, none⟩) 1 1] w fun e w' =>
      e = .returned (.slice (some ⟨g, 0, none⟩) (n + 1) cap) ∧ (∃ cur', Blk w' g 37 cur' ∧ cur'.size = cap * 3 ∧ cur'.toList.take ((n + 1) * 3) = putAt (cur.toList.take (n * 3)) vs i) ∧ But [g] w w' := by
  have HB := Lib.hid hb
  have HV := Lib.hid hv
  have H1 := Lib.hid h1
  have H2 := Lib.hid h2
  have HS := Lib.hid hs
  have HVL := Lib.hid hvl
  obtain ⟨i0, hi0, hz0, hz1, hz2⟩ := info_parts letInfo
  unfold maxLen at hc
  have hlen : (cur.toList.take (n * 3)).length = n * 3 := by rw [List.length_take]; simp; omega
  have HLEN := Lib.hid hlen
  have hsv : ∀ w', Blk w' h T' vs.toArray → ∀ j u, vs[j]? = some u → w'.cell? ((⟨h, 0, none⟩ : Addr).add j) = some u := fun w' hb' j u hu => by
    rw [cell_add, Nat.zero_add, hb'.cell]
    simpa using hu
  have HSV := Lib.hid hsv
  clear hb hv h1 h2 hs hvl hlen hsv
  by_cases hin : i = n
  · subst hin
    have hvc := HSV.out w HV.out
    have e1 : vs.length = 1 * i0.size := by rw [hz1, HVL.out]
    obtain ⟨hb3, ho3⟩ := blk_sets vs (i * 3) HB.out
    have HB3 := Lib.hid hb3
    have HO3 := Lib.hid ho3
    clear hb3 ho3
    go_enter Tryd.func27, Tryd.ntmps27
    go_wp2_with (at_builtin; refine wpList_appRoom (.tmp 23) (.tmp 24) 44 rfl rfl 37 i0 Tryd.underlying44 hi0 g i cap rfl ⟨h, 0, none⟩ 1 1 vs rfl e1 hvc H2.out (by omega) HB.out (by rw [hz1, HVL.out, HS.out]; omega) ?_)
    go_ret
    refine ⟨rfl, ⟨_, HB3.out, by rw [setsAt_size, HS.out], ?_⟩, but_only HO3.out⟩
    have h9 := ins_cells cur i cap i (Nat.le_refl _) hn HS.out [] vs (by rw [List.drop_of_length_le (by rw [HLEN.out]; omega)]) HVL.out
    exact h9
  · have hlt : i < n := by omega
    have d : ((i : Int) == (n : Int)) = false := by rw [beq_eq_false_iff_ne]; omega
    have hov := fun off la ca lb cb => run_overl w g h hne off la ca lb cb HB.out HV.out (by rw [HS.out]; omega)
    go_enter Tryd.func27, Tryd.ntmps27
    go_wp2_with fail
    have hsA := fun w => run_slice_from (P := Tryd.prog) Tryd.underlying44 hi0 (some ⟨g, 0, none⟩) (n + 1) cap (i + 1) (by omega) w
    have hsB := fun w => run_slice_from (P := Tryd.prog) Tryd.underlying44 hi0 (some ⟨g, 0, none⟩) (n + 1) cap i (by omega) w
    unfold cutp at hsA hsB
    rw [if_neg (by omega), hz1] at hsA hsB
    simp only [Option.map_some, cell_add, Nat.zero_add] at hsA hsB
    push_cast at hsA
    have hbb : Below w.heap.size w w := Below.refl _ _
    refine wp_phi_tail (List.take 8 _) (List.drop 8 _) (List.take_append_drop 8 _).symm (fun w' => (Blk w' g 37 cur) ∧ (Blk w' h T' vs.toArray) ∧ Below w.heap.size w w') [] [] (by kernel_rfl) (by kernel_rfl) ?_ ?_ ⟨HB.out, HV.out, (hbb).drew⟩ ?_
    · rintro w1' w2' ⟨gb, gv, hIB⟩ hb
      exact ⟨(by first | exact gb.below hb | exact gb.keep (Below.keeps hb) | exact Below.keeps hb _ _ gb | exact Blk.below gb hb (Blk.lt gb)), (by first | exact gv.below hb | exact gv.keep (Below.keeps hb) | exact Below.keeps hb _ _ gv | exact Blk.below gv hb (Blk.lt gv)), hIB.trans (hb.mono hIB.size)⟩
    · intro p hp; cases hp
    simp only [List.take_succ_cons, List.take_zero, List.drop_succ_cons, List.drop_zero]
    repeat (first | (refine phi_skipK rfl (fun K hK => ?_); simp only [Act.put, List.setIfInBounds_toArray, List.set_cons_succ, List.set_cons_zero]; (try simp only [List.cons_append]); (try simp only [List.nil_append]); apply hK; clear hK K) | (refine phi_pureK rfl rfl (fun K hK => ?_); apply Exists.intro; constructor; (focus (rintro w' ⟨gb, gv, hIB⟩; clear gb gv hIB; first | (go_simp; done) | (go_simp; (try go_bits); (try go_simp); rfl) | go_simp)); simp only [Act.put, List.setIfInBounds_toArray, List.set_cons_succ, List.set_cons_zero]; (try simp only [List.cons_append]); (try simp only [List.nil_append]); apply hK; clear hK K))
    refine phi_done ?_
    rintro w2 ⟨gb, gv, hb2⟩ _
    obtain ⟨news, hnews⟩ : ∃ news, news = (cur.toList.take (n * 3)).drop (i * 3) := ⟨_, rfl⟩
    have hnl : news.length = (n - i) * 3 := by rw [hnews, List.length_drop, HLEN.out]; omega
    have h1c : ∀ u ∈ news, u.oneCell' = true := fun u hu => H1.out u (by rw [hnews] at hu; exact List.mem_of_mem_drop hu)
    have hcp1 : ∀ ty, (Builtin.copy_ #[44, 44] ty #[.slice (some ⟨g, (i + 1) * 3, none⟩) (n - i) (cap - (i + 1)), .slice (some ⟨g, i * 3, none⟩) (n + 1 - i) (cap - i)]).run Tryd.prog w2 = .ok (goInt ((n - i : Nat) : Int)) (w2.setCells g ((i + 1) * 3) news) := fun ty =>
      run_copy_n w2 _ _ ty _ g ((i + 1) * 3) (n - i) _ ⟨g, i * 3, none⟩ (n + 1 - i) _ news i0 Tryd.underlying44 hi0 (n - i) (by simp only [Nat.min_def]; split <;> omega) (by rw [hz1]; exact hnl) (fun jx u hu => by
        have hj := (List.getElem?_eq_some_iff.1 hu).1
        rw [hnews, List.getElem?_drop, List.getElem?_take, if_pos (by omega), Array.getElem?_toList] at hu
        rw [cell_add, gb.cell]
        exact hu) gb (by rw [hnl, HS.out]; omega) h1c
    obtain ⟨hb3, ho3⟩ := blk_sets news ((i + 1) * 3) gb
    have hv3 : Blk (w2.setCells g ((i + 1) * 3) news) h T' vs.toArray := ho3.blk gv hne
    have hcp2 : ∀ ty, (Builtin.copy_ #[44, 44] ty #[.slice (some ⟨g, i * 3, none⟩) (n + 1 - i) (cap - i), .slice (some ⟨h, 0, none⟩) 1 1]).run Tryd.prog (w2.setCells g ((i + 1) * 3) news) = .ok (goInt ((1 : Nat) : Int)) ((w2.setCells g ((i + 1) * 3) news).setCells g (i * 3) vs) := fun ty =>
      run_copy_n _ _ _ ty _ g (i * 3) (n + 1 - i) _ ⟨h, 0, none⟩ 1 1 vs i0 Tryd.underlying44 hi0 1 (by simp only [Nat.min_def]; split <;> omega) (by rw [hz1, HVL.out]) (HSV.out _ hv3) hb3 (by rw [setsAt_size, HVL.out, HS.out]; omega) H2.out
    obtain ⟨hb4, ho4⟩ := blk_sets vs (i * 3) hb3
    have HB4 := Lib.hid hb4
    have HO4 := Lib.hid ((But.of_below hb2 : But [g] w w2).trans (but_only (ho3.trans ho4)))
    have HN := Lib.hid hnews
    clear hb3 ho3 hb4 ho4 hv3 hnews hnl h1c gb gv
    go_wp2_with fail
    trace_state
    go_ret
    exact ⟨rfl, ⟨_, HB4.out, by rw [setsAt_size, setsAt_size, HS.out], ins_cells cur n cap i hi hn HS.out news vs HN.out HVL.out⟩, HO4.out⟩
end Go.Proofs.YtbbhecadpbnobaaDoor
