/-
  LawTPlays: the walk of TapePlays.
-/
import Derived.Test.YtehoenojjdgphaaDoorOpl
namespace Go.Proofs.YtehoenojjdgphaaDoor
open Go.RowKit
attribute [local go_sem] bs_toList bs_size
attribute [local irreducible] wpPhiU

theorem Both.below {w w' : World} {B a g : Nat} {s : TSt} {m : MSt} (h : Both w B a g s m) (k : Below w.heap.size w w') : Both w' B a g s m :=
  ⟨h.tt.below k, Blk.below h.mm k (Blk.lt h.mm), h.rr, h.gg⟩
/-- the op's call turns the tape and its model; nothing else does -/
def plRel (B : Nat) (j : Nat) (w w' : World) : Prop := if j = 3 then Keeps B playTs w w' else Below w.heap.size w w'
theorem plRel_3 {B : Nat} {w w' : World} : plRel B 3 w w' = Keeps B playTs w w' := by unfold plRel; rw [if_pos rfl]
theorem plRel_o {B j : Nat} {w w' : World} (h : j ≠ 3) : plRel B j w w' = Below w.heap.size w w' := by unfold plRel; rw [if_neg h]
theorem plRel_keeps {B j : Nat} {w w' : World} (hB : B ≤ w.heap.size) (h : plRel B j w w') : Keeps B playTs w w' := by
  unfold plRel at h
  split at h
  · exact h
  · exact Keeps.of_below h hB
theorem longR_el {os : List OpD} (h : longR os = false) (i : Nat) (hi : i < os.length) : os[i].2.2.length ≤ 400 := by
  unfold longR at h
  simp only [Bool.or_eq_false_iff, decide_eq_false_iff_not, List.any_eq_false] at h
  have := h.2 os[i] (List.getElem_mem hi)
  simpa using this
theorem rel_do {s : TSt} {m : MSt} (h : Rel s m) (kind n : Int) (d : List UInt8) (hn : -9223372036854775808 ≤ n ∧ n ≤ 9223372036854775807) : Rel (doS s kind n d) (doM m kind n d) := by
  unfold doS doM
  by_cases k1 : kind = 1
  · rw [if_pos k1, if_pos k1]; exact (h.append d).1
  rw [if_neg k1, if_neg k1]
  by_cases k2 : kind = 2
  · rw [if_pos k2, if_pos k2]; exact h.sync
  rw [if_neg k2, if_neg k2]
  by_cases k3 : kind = 3
  · rw [if_pos k3, if_pos k3]; exact (h.swap d).1
  rw [if_neg k3, if_neg k3]
  by_cases k4 : kind = 4
  · rw [if_pos k4, if_pos k4]; exact (h.cutTo n).1
  rw [if_neg k4, if_neg k4]
  by_cases k5 : kind = 5
  · rw [if_pos k5, if_pos k5]; exact h.setRoom n
  rw [if_neg k5, if_neg k5]
  by_cases k6 : kind = 6
  · rw [if_pos k6, if_pos k6]; exact h.arm n hn
  rw [if_neg k6, if_neg k6]
  by_cases k7 : kind = 7
  · rw [if_pos k7, if_pos k7]; exact h.crash n
  rw [if_neg k7, if_neg k7]
  exact h
set_option maxRecDepth 20000 in
set_option maxHeartbeats 8000000 in
theorem tapeplays_any (room : Int) (v : Value) (os : List OpD) (w : World) (E : Nat → Addr) (he : Errs w E) (hv : OpL w v os) (hbd : ∀ o ∈ os, -9223372036854775808 ≤ o.2.1 ∧ o.2.1 ≤ 9223372036854775807) :
    Calls Tryd.prog 6 #[.int .i64 room, v] w (ok1 w) := by
  have HE := Lib.hid he
  have HA := alive_any w E (he.on [0, 5, 6] rfl)
  have HV := Lib.hid hv
  have HBD := Lib.hid hbd
  obtain ⟨p, cap, rfl, h1, h2, h3⟩ := hv
  obtain ⟨i0, hi, hz0, hz1, hz2⟩ := info_parts opInfo
  have H3 := Lib.hid h3
  unfold maxLen at h2
  clear he h3 hbd
  go_enter Tryd.func6, Tryd.ntmps6
  go_wp2_with fail
  refine HA.mono ?_
  rintro e wa ⟨rfl, hba⟩
  clear HA
  go_wp2_with fail
  refine (long_any _ os wa (HV.out.keep (Below.keeps hba))).mono ?_
  rintro e w1 ⟨rfl, hb1'⟩
  have hb1 := hba.trans (hb1'.mono hba.size)
  clear hb1' hba
  cases hlo : longR os with
  | true =>
    go_wp2_with fail
    go_ret
    exact ⟨rfl, hb1⟩
  | false =>
  have HLO := Lib.hid hlo
  clear hlo
  go_wp2_with fail
  refine (new_any w1 E room ((HE.out.below hb1).on [0] rfl)).mono ?_
  rintro e w2 (⟨hE0, rfl, ht2, hb2'⟩ | ⟨hE1, rfl, hb2'⟩)
  case inr =>
    have hb2 := hb1.trans (hb2'.mono hb1.size)
    have hr : room < 0 ∨ 65536 < room := by
      unfold TSt.setRoomE at hE1
      split at hE1
      · assumption
      · cases hE1
    have d : (decide (room < 0) = true) ∨ (decide (room < 0) = false ∧ decide (65536 < room) = true) := by
      simp only [decide_eq_true_eq, decide_eq_false_iff_not]; omega
    have e1 : errV E 1 = .iface 74 (.pointer (some (E 0))) := rfl
    have HN := Lib.hid (num_any w2 E 1 (by omega) (HE.out.below hb2))
    rw [e1] at HN
    rw [e1]
    clear hr hE1 hb2'
    rcases d with d1 | ⟨d1, d2⟩
    all_goals
      go_wp2_with fail
      refine HN.out.mono ?_
      rintro e w3 ⟨rfl, hb3'⟩
      have hb3 := hb2.trans (hb3'.mono hb2.size)
      clear hb3'
      go_wp2_with fail
      go_ret
      exact ⟨rfl, hb3⟩
  have hr : 0 ≤ room ∧ room ≤ 65536 := by
    unfold TSt.setRoomE at hE0
    split at hE0
    · cases hE0
    · omega
  have d1 : decide (room < 0) = false := by rw [decide_eq_false_iff_not]; omega
  have d2 : decide (65536 < room) = false := by rw [decide_eq_false_iff_not]; omega
  have hb2 := hb1.trans (hb2'.mono hb1.size)
  have HT2 := Lib.hid (ht2.lower hb1.size)
  have HR0 := Lib.hid (Rel.new room hr.1 hr.2)
  clear hE0 hb2' ht2 hr
  go_wp2_with fail
  refine (mnew_any w2 room).mono ?_
  rintro e w3 ⟨rfl, hm3, hb3'⟩
  obtain ⟨g, hg⟩ : ∃ g, g = w2.heap.size := ⟨_, rfl⟩
  rw [← hg] at hm3 ⊢
  have K3 : Keeps w.heap.size playTs w w3 := Keeps.of_below (hb2.trans (hb3'.mono hb2.size)) (Nat.le_refl _)
  have HBO3 := Lib.hid (show Both w3 w.heap.size w1.heap.size g _ _ from ⟨HT2.out.below hb3', hm3, HR0.out, by rw [hg]; exact hb2.size⟩)
  clear hm3 hb3' hg HT2 HR0 d1 d2
  go_wp2_with fail
  go_loopw [42] (fun i wr => ∃ (k : Nat) (s : TSt) (m : MSt), k ≤ os.length ∧ i = .int .i64 k ∧ Both wr w.heap.size w1.heap.size g s m ∧ Keeps w.heap.size playTs w wr) (fun i _ => os.length - (intOf i).toNat)
  case atStart => exact ⟨0, _, _, by omega, rfl, HBO3.out, K3⟩
  case round =>
    obtain ⟨k, s, m, hk, rfl, hbo, Kr⟩ := hrel
    by_cases hlt : k < os.length
    · obtain ⟨b, off, q, c, rfl, hc1, hc2, hc3, hby⟩ := H3.out k os[k] (by simp [hlt])
      have g1 := Below.keeps Kr.below _ _ hc1
      have g2 := Below.keeps Kr.below _ _ hc2
      have g3 := Below.keeps Kr.below _ _ hc3
      have HN := Lib.hid (HBD.out os[k] (List.getElem_mem hlt))
      have hl4 := longR_el HLO.out k hlt
      have HDY := Lib.hid (fun w' (hb : Below w.heap.size w w') => hby.keep (Below.keeps hb))
      clear hc1 hc2 hc3 hby
      generalize os[k] = o at *
      obtain ⟨kind, n, dat⟩ := o
      simp only at g1 g2 g3 HN hl4 HDY
      have hbx := Blk.new wr 50 #[.int .i64 kind, .int .i64 n, .slice q dat.length c]
      have hkx := below_alloc1 wr (.cells #[.int .i64 kind, .int .i64 n, .slice q dat.length c] 50)
      have KX := Lib.hid (Kr.call Kr.size hkx)
      have HWX := Lib.hid (Nat.le_trans Kr.size hkx.size)
      have HBO := Lib.hid (Both.below hbo hkx)
      have HX := Lib.hid hbx
      obtain ⟨s', hs'⟩ : ∃ s', s' = doS s kind n dat := ⟨_, rfl⟩
      obtain ⟨m', hm'⟩ : ∃ m', m' = doM m kind n dat := ⟨_, rfl⟩
      have HSD := Lib.hid (And.intro hs' hm')
      have hrel2 : Rel s' m' := by rw [hs', hm']; exact rel_do hbo.rr kind n dat HN.out
      have hbd2 := hrel2.bd.len
      have hsum := fun w => run_str_add (P := Tryd.prog) w m'.sure m'.tail (by omega)
      clear hs' hm' hrel2
      clear hbx hkx hbo
      go_wp2_with fail
      generalize wr.alloc (.cells #[.int .i64 kind, .int .i64 n, .slice q dat.length c] 50) = wx at *
      have HBC := Lib.hid (fun w' (hI : Keeps w.heap.size playTs wx w') => show w'.cell? ⟨wr.heap.size, 0, none⟩ = some (.int .i64 kind) ∧ w'.cell? ⟨wr.heap.size, 1, none⟩ = some (.int .i64 n) ∧ w'.cell? ⟨wr.heap.size, 2, none⟩ = some (.slice q dat.length c) from
        ⟨((hI.blk HX.out rfl).cell 0).trans rfl, ((hI.blk HX.out rfl).cell 1).trans rfl, ((hI.blk HX.out rfl).cell 2).trans rfl⟩)
      have HSU := Lib.hid (fun w' (h : Both w' w.heap.size w1.heap.size g s' m') => show Calls Tryd.prog 13 #[.pointer (some ⟨w1.heap.size, 0, none⟩)] w' (TapeQ w' (.int .i64 (m'.sure.length : Int))) from by
        rw [← h.rr.sure]; exact sure_any w' _ _ s' h.tt)
      have HRO := Lib.hid (fun w' (h : Both w' w.heap.size w1.heap.size g s' m') => show Calls Tryd.prog 22 #[.pointer (some ⟨w1.heap.size, 0, none⟩)] w' (TapeQ w' (.int .i64 m'.room)) from by
        rw [← h.rr.room]; exact room_any w' _ _ s' h.tt)
      have HOF := Lib.hid (fun w' (h : Both w' w.heap.size w1.heap.size g s' m') => show Calls Tryd.prog 18 #[.pointer (some ⟨w1.heap.size, 0, none⟩)] w' (TapeQ w' (.bool m'.off)) from by
        rw [← h.rr.off]; exact off_any w' _ _ s' h.tt)
      refine wp_phiU (plRel w.heap.size) (fun w' => Keeps w.heap.size playTs wx w')
        [(3, PFact (.bool true) fun w' => Both w' w.heap.size w1.heap.size g s' m'), (7, PB (m'.sure ++ m'.tail)), (8, PVal (.string (bs (m'.sure ++ m'.tail)))), (12, PVal (.string (bs m'.sure))), (16, PVal (.string (bs m'.tail))), (22, PVal (.int .i64 (m'.sure.length : Int))), (26, PVal (.string (bs m'.sure))), (32, PVal (.int .i64 m'.room)), (36, PVal (.int .i64 m'.room)), (43, PVal (.bool m'.off)), (47, PVal (.bool m'.off))]
        [(7, [3]), (8, [7]), (12, [3]), (16, [3]), (22, [3]), (26, [3]), (32, [3]), (36, [3]), (43, [3]), (47, [3])] [(3, fun w' => Both w' w.heap.size w1.heap.size g s m)] [] (by kernel_rfl) (by kernel_rfl) ?_ ?_ ?_ ?_ (Keeps.refl _ _ _).drew ?_
      · intro p hp w2 w3 h1 h2
        exact h1.trans (plRel_keeps (Nat.le_trans HWX.out h1.size) h2)
      · intro p hp p' hp' hne hkl hnn w2 w3 v hI h hf
        have hj : p'.1 ≠ 3 → p.2.fact w3 v := fun h3 => by
          rw [plRel_o h3] at h
          simp only [List.mem_cons, List.not_mem_nil, or_false] at hp
          rcases hp with rfl | rfl | rfl | rfl | rfl | rfl | rfl | rfl | rfl | rfl | rfl
          · exact Both.below hf h
          · exact Byt.below hf h
          all_goals trivial
        by_cases h3 : p'.1 = 3
        · rw [h3] at hnn
          simp only [List.mem_cons, List.not_mem_nil, or_false] at hp
          rcases hp with rfl | rfl | rfl | rfl | rfl | rfl | rfl | rfl | rfl | rfl | rfl
          · exact absurd h3 hne
          · exact absurd (List.contains_iff_mem.1 rfl) hnn
          all_goals trivial
        · exact hj h3
      · intro p hp u hu hne w2 w3 hI h hf
        simp only [List.mem_cons, List.not_mem_nil, or_false] at hu
        subst hu
        rw [plRel_o (fun e => hne e.symm)] at h
        exact Both.below hf h
      · intro u hu
        simp only [List.mem_cons, List.not_mem_nil, or_false] at hu
        subst hu
        exact Both.below HBO.out (Below.refl _ _).drew
      repeat (first | (refine phiU_skipK rfl (fun K hK => ?_); simp only [Act.put, List.setIfInBounds_toArray, List.set_cons_succ, List.set_cons_zero]; (try simp only [List.cons_append]); (try simp only [List.nil_append]); apply hK; clear hK K) | (refine phiU_pureK rfl rfl (fun K hK => ?_); apply Exists.intro; constructor; (rintro w' hI; have q0 := HBC.out w' hI; clear hI; first | (go_simp; (try go_bits); (try go_simp); rfl) | go_simp); simp only [Act.put, List.setIfInBounds_toArray, List.set_cons_succ, List.set_cons_zero]; (try simp only [List.cons_append]); (try simp only [List.nil_append]); apply hK; clear hK K))
      refine phiU_partK (PFact (.bool true) fun w' => Both w' w.heap.size w1.heap.size g s' m') rfl rfl ⟨_, rfl⟩ ?_ (fun K hK v hv => ?_)
      · intro w' hI hf hu
        have hbo : Both w' w.heap.size w1.heap.size g s m := hu (3, fun w' => Both w' w.heap.size w1.heap.size g s m) (by simp) rfl
        unfold gives
        clear hf hu
        go_simp
        refine (do_any w' E w.heap.size w1.heap.size g s m kind n _ dat HN.out hl4 (Nat.le_trans HWX.out hI.size) (fun w'' hb => HE.out.below (KX.out.below.trans (hI.below.trans hb))) (fun w'' hb => HDY.out w'' (KX.out.below.trans (hI.below.trans hb))) hbo).mono ?_
        rintro e w'' ⟨rfl, hb2, hk⟩
        have hb3 : Both w'' w.heap.size w1.heap.size g s' m' := by rw [HSD.out.1, HSD.out.2]; exact hb2
        exact ⟨_, rfl, rfl, hb3, by rw [plRel_3]; exact hk⟩
      obtain rfl : v = _ := hv
      simp only [Act.put, List.setIfInBounds_toArray, List.set_cons_succ, List.set_cons_zero]; (try simp only [List.cons_append]); (try simp only [List.nil_append])
      apply hK
      clear hK K
      repeat (first | (refine phiU_skipK rfl (fun K hK => ?_); simp only [Act.put, List.setIfInBounds_toArray, List.set_cons_succ, List.set_cons_zero]; (try simp only [List.cons_append]); (try simp only [List.nil_append]); apply hK; clear hK K) | (refine phiU_pureK rfl rfl (fun K hK => ?_); apply Exists.intro; constructor; (rintro w' hI; have q0 := HBC.out w' hI; clear hI; first | (go_simp; (try go_bits); (try go_simp); rfl) | go_simp); simp only [Act.put, List.setIfInBounds_toArray, List.set_cons_succ, List.set_cons_zero]; (try simp only [List.cons_append]); (try simp only [List.nil_append]); apply hK; clear hK K))
      refine phiU_partK (PB (m'.sure ++ m'.tail)) rfl rfl ⟨_, none, 0, rfl⟩ ?_ (fun K hK v hv => ?_)
      · intro w' hI hf hu
        have hbo : Both w' w.heap.size w1.heap.size g s' m' := hf (3, fun ww => (PFact (.bool true) fun w' => Both w' w.heap.size w1.heap.size g s' m').fact ww (.bool true)) (by simp) (List.contains_iff_mem.1 rfl) rfl
        unfold gives
        clear hf hu
        go_simp
        refine (bytes_of_tape w' w.heap.size w1.heap.size s' hbo.tt).mono ?_
        intro e w'' h
        obtain ⟨v, rfl, hy, hb⟩ := h.byt
        rw [hbo.rr.l] at hy
        obtain ⟨q, c, rfl, _⟩ := id hy
        exact ⟨_, rfl, ⟨q, c, rfl⟩, hy, by rw [plRel_o (by decide)]; exact hb⟩
      obtain ⟨p7, c7, rfl⟩ := hv
      simp only [Act.put, List.setIfInBounds_toArray, List.set_cons_succ, List.set_cons_zero]; (try simp only [List.cons_append]); (try simp only [List.nil_append])
      apply hK
      clear hK K
      refine phiU_partK (PVal (.string (bs (m'.sure ++ m'.tail)))) rfl rfl ⟨_, rfl⟩ ?_ (fun K hK v hv => ?_)
      · intro w' hI hf hu
        have hy : Byt w' (.slice p7 (m'.sure ++ m'.tail).length c7) (m'.sure ++ m'.tail) := hf (7, fun w => (PB (m'.sure ++ m'.tail)).fact w (.slice p7 (m'.sure ++ m'.tail).length c7)) (by simp) (List.contains_iff_mem.1 rfl) rfl
        have sS := str_of hy
        rw [List.length_append] at sS
        clear hf hy hu
        unfold gives
        go_simp
        exact ⟨rfl, trivial, by rw [plRel_o (by decide)]; exact Below.refl _ _⟩
      obtain rfl : v = _ := hv
      simp only [Act.put, List.setIfInBounds_toArray, List.set_cons_succ, List.set_cons_zero]; (try simp only [List.cons_append]); (try simp only [List.nil_append])
      apply hK
      clear hK K
      repeat (first | (refine phiU_skipK rfl (fun K hK => ?_); simp only [Act.put, List.setIfInBounds_toArray, List.set_cons_succ, List.set_cons_zero]; (try simp only [List.cons_append]); (try simp only [List.nil_append]); apply hK; clear hK K) | (refine phiU_pureK rfl rfl (fun K hK => ?_); apply Exists.intro; constructor; (rintro w' hI; have q0 := HBC.out w' hI; clear hI; first | (go_simp; (try go_bits); (try go_simp); rfl) | go_simp); simp only [Act.put, List.setIfInBounds_toArray, List.set_cons_succ, List.set_cons_zero]; (try simp only [List.cons_append]); (try simp only [List.nil_append]); apply hK; clear hK K))
      refine phiU_partK (PVal (.string (bs m'.sure))) rfl rfl ⟨_, rfl⟩ ?_ (fun K hK v hv => ?_)
      · intro w' hI hf hu
        have hbo : Both w' w.heap.size w1.heap.size g s' m' := hf (3, fun ww => (PFact (.bool true) fun w' => Both w' w.heap.size w1.heap.size g s' m').fact ww (.bool true)) (by simp) (List.contains_iff_mem.1 rfl) rfl
        have hc := hbo.mm.cells.c0
        unfold gives
        clear hf hu
        go_simp
        exact ⟨rfl, trivial, by rw [plRel_o (by decide)]; exact Below.refl _ _⟩
      obtain rfl : v = _ := hv
      simp only [Act.put, List.setIfInBounds_toArray, List.set_cons_succ, List.set_cons_zero]; (try simp only [List.cons_append]); (try simp only [List.nil_append])
      apply hK
      clear hK K
      repeat (first | (refine phiU_skipK rfl (fun K hK => ?_); simp only [Act.put, List.setIfInBounds_toArray, List.set_cons_succ, List.set_cons_zero]; (try simp only [List.cons_append]); (try simp only [List.nil_append]); apply hK; clear hK K) | (refine phiU_pureK rfl rfl (fun K hK => ?_); apply Exists.intro; constructor; (rintro w' hI; have q0 := HBC.out w' hI; clear hI; first | (go_simp; (try go_bits); (try go_simp); rfl) | go_simp); simp only [Act.put, List.setIfInBounds_toArray, List.set_cons_succ, List.set_cons_zero]; (try simp only [List.cons_append]); (try simp only [List.nil_append]); apply hK; clear hK K))
      refine phiU_partK (PVal (.string (bs m'.tail))) rfl rfl ⟨_, rfl⟩ ?_ (fun K hK v hv => ?_)
      · intro w' hI hf hu
        have hbo : Both w' w.heap.size w1.heap.size g s' m' := hf (3, fun ww => (PFact (.bool true) fun w' => Both w' w.heap.size w1.heap.size g s' m').fact ww (.bool true)) (by simp) (List.contains_iff_mem.1 rfl) rfl
        have hc := hbo.mm.cells.c1
        unfold gives
        clear hf hu
        go_simp
        exact ⟨rfl, trivial, by rw [plRel_o (by decide)]; exact Below.refl _ _⟩
      obtain rfl : v = _ := hv
      simp only [Act.put, List.setIfInBounds_toArray, List.set_cons_succ, List.set_cons_zero]; (try simp only [List.cons_append]); (try simp only [List.nil_append])
      apply hK
      clear hK K
      repeat (first | (refine phiU_skipK rfl (fun K hK => ?_); simp only [Act.put, List.setIfInBounds_toArray, List.set_cons_succ, List.set_cons_zero]; (try simp only [List.cons_append]); (try simp only [List.nil_append]); apply hK; clear hK K) | (refine phiU_pureK rfl rfl (fun K hK => ?_); apply Exists.intro; constructor; (rintro w' hI; have q0 := HBC.out w' hI; clear hI; first | (go_simp; (try go_bits); (try go_simp); rfl) | go_simp); simp only [Act.put, List.setIfInBounds_toArray, List.set_cons_succ, List.set_cons_zero]; (try simp only [List.cons_append]); (try simp only [List.nil_append]); apply hK; clear hK K))
      refine phiU_partK (PVal (.int .i64 (m'.sure.length : Int))) rfl rfl ⟨_, rfl⟩ ?_ (fun K hK v hv => ?_)
      · intro w' hI hf hu
        have hbo : Both w' w.heap.size w1.heap.size g s' m' := hf (3, fun ww => (PFact (.bool true) fun w' => Both w' w.heap.size w1.heap.size g s' m').fact ww (.bool true)) (by simp) (List.contains_iff_mem.1 rfl) rfl
        unfold gives
        clear hf hu
        go_simp
        refine (HSU.out w' hbo).mono ?_
        rintro e w'' ⟨rfl, hb⟩
        exact ⟨_, rfl, rfl, trivial, by rw [plRel_o (by decide)]; exact hb⟩
      obtain rfl : v = _ := hv
      simp only [Act.put, List.setIfInBounds_toArray, List.set_cons_succ, List.set_cons_zero]; (try simp only [List.cons_append]); (try simp only [List.nil_append])
      apply hK
      clear hK K
      repeat (first | (refine phiU_skipK rfl (fun K hK => ?_); simp only [Act.put, List.setIfInBounds_toArray, List.set_cons_succ, List.set_cons_zero]; (try simp only [List.cons_append]); (try simp only [List.nil_append]); apply hK; clear hK K) | (refine phiU_pureK rfl rfl (fun K hK => ?_); apply Exists.intro; constructor; (rintro w' hI; have q0 := HBC.out w' hI; clear hI; first | (go_simp; (try go_bits); (try go_simp); rfl) | go_simp); simp only [Act.put, List.setIfInBounds_toArray, List.set_cons_succ, List.set_cons_zero]; (try simp only [List.cons_append]); (try simp only [List.nil_append]); apply hK; clear hK K))
      refine phiU_partK (PVal (.string (bs m'.sure))) rfl rfl ⟨_, rfl⟩ ?_ (fun K hK v hv => ?_)
      · intro w' hI hf hu
        have hbo : Both w' w.heap.size w1.heap.size g s' m' := hf (3, fun ww => (PFact (.bool true) fun w' => Both w' w.heap.size w1.heap.size g s' m').fact ww (.bool true)) (by simp) (List.contains_iff_mem.1 rfl) rfl
        have hc := hbo.mm.cells.c0
        unfold gives
        clear hf hu
        go_simp
        exact ⟨rfl, trivial, by rw [plRel_o (by decide)]; exact Below.refl _ _⟩
      obtain rfl : v = _ := hv
      simp only [Act.put, List.setIfInBounds_toArray, List.set_cons_succ, List.set_cons_zero]; (try simp only [List.cons_append]); (try simp only [List.nil_append])
      apply hK
      clear hK K
      repeat (first | (refine phiU_skipK rfl (fun K hK => ?_); simp only [Act.put, List.setIfInBounds_toArray, List.set_cons_succ, List.set_cons_zero]; (try simp only [List.cons_append]); (try simp only [List.nil_append]); apply hK; clear hK K) | (refine phiU_pureK rfl rfl (fun K hK => ?_); apply Exists.intro; constructor; (rintro w' hI; have q0 := HBC.out w' hI; clear hI; first | (go_simp; (try go_bits); (try go_simp); rfl) | go_simp); simp only [Act.put, List.setIfInBounds_toArray, List.set_cons_succ, List.set_cons_zero]; (try simp only [List.cons_append]); (try simp only [List.nil_append]); apply hK; clear hK K))
      refine phiU_partK (PVal (.int .i64 m'.room)) rfl rfl ⟨_, rfl⟩ ?_ (fun K hK v hv => ?_)
      · intro w' hI hf hu
        have hbo : Both w' w.heap.size w1.heap.size g s' m' := hf (3, fun ww => (PFact (.bool true) fun w' => Both w' w.heap.size w1.heap.size g s' m').fact ww (.bool true)) (by simp) (List.contains_iff_mem.1 rfl) rfl
        unfold gives
        clear hf hu
        go_simp
        refine (HRO.out w' hbo).mono ?_
        rintro e w'' ⟨rfl, hb⟩
        exact ⟨_, rfl, rfl, trivial, by rw [plRel_o (by decide)]; exact hb⟩
      obtain rfl : v = _ := hv
      simp only [Act.put, List.setIfInBounds_toArray, List.set_cons_succ, List.set_cons_zero]; (try simp only [List.cons_append]); (try simp only [List.nil_append])
      apply hK
      clear hK K
      repeat (first | (refine phiU_skipK rfl (fun K hK => ?_); simp only [Act.put, List.setIfInBounds_toArray, List.set_cons_succ, List.set_cons_zero]; (try simp only [List.cons_append]); (try simp only [List.nil_append]); apply hK; clear hK K) | (refine phiU_pureK rfl rfl (fun K hK => ?_); apply Exists.intro; constructor; (rintro w' hI; have q0 := HBC.out w' hI; clear hI; first | (go_simp; (try go_bits); (try go_simp); rfl) | go_simp); simp only [Act.put, List.setIfInBounds_toArray, List.set_cons_succ, List.set_cons_zero]; (try simp only [List.cons_append]); (try simp only [List.nil_append]); apply hK; clear hK K))
      refine phiU_partK (PVal (.int .i64 m'.room)) rfl rfl ⟨_, rfl⟩ ?_ (fun K hK v hv => ?_)
      · intro w' hI hf hu
        have hbo : Both w' w.heap.size w1.heap.size g s' m' := hf (3, fun ww => (PFact (.bool true) fun w' => Both w' w.heap.size w1.heap.size g s' m').fact ww (.bool true)) (by simp) (List.contains_iff_mem.1 rfl) rfl
        have hc := hbo.mm.cells.c2
        unfold gives
        clear hf hu
        go_simp
        exact ⟨rfl, trivial, by rw [plRel_o (by decide)]; exact Below.refl _ _⟩
      obtain rfl : v = _ := hv
      simp only [Act.put, List.setIfInBounds_toArray, List.set_cons_succ, List.set_cons_zero]; (try simp only [List.cons_append]); (try simp only [List.nil_append])
      apply hK
      clear hK K
      repeat (first | (refine phiU_skipK rfl (fun K hK => ?_); simp only [Act.put, List.setIfInBounds_toArray, List.set_cons_succ, List.set_cons_zero]; (try simp only [List.cons_append]); (try simp only [List.nil_append]); apply hK; clear hK K) | (refine phiU_pureK rfl rfl (fun K hK => ?_); apply Exists.intro; constructor; (rintro w' hI; have q0 := HBC.out w' hI; clear hI; first | (go_simp; (try go_bits); (try go_simp); rfl) | go_simp); simp only [Act.put, List.setIfInBounds_toArray, List.set_cons_succ, List.set_cons_zero]; (try simp only [List.cons_append]); (try simp only [List.nil_append]); apply hK; clear hK K))
      refine phiU_partK (PVal (.bool m'.off)) rfl rfl ⟨_, rfl⟩ ?_ (fun K hK v hv => ?_)
      · intro w' hI hf hu
        have hbo : Both w' w.heap.size w1.heap.size g s' m' := hf (3, fun ww => (PFact (.bool true) fun w' => Both w' w.heap.size w1.heap.size g s' m').fact ww (.bool true)) (by simp) (List.contains_iff_mem.1 rfl) rfl
        unfold gives
        clear hf hu
        go_simp
        refine (HOF.out w' hbo).mono ?_
        rintro e w'' ⟨rfl, hb⟩
        exact ⟨_, rfl, rfl, trivial, by rw [plRel_o (by decide)]; exact hb⟩
      obtain rfl : v = _ := hv
      simp only [Act.put, List.setIfInBounds_toArray, List.set_cons_succ, List.set_cons_zero]; (try simp only [List.cons_append]); (try simp only [List.nil_append])
      apply hK
      clear hK K
      repeat (first | (refine phiU_skipK rfl (fun K hK => ?_); simp only [Act.put, List.setIfInBounds_toArray, List.set_cons_succ, List.set_cons_zero]; (try simp only [List.cons_append]); (try simp only [List.nil_append]); apply hK; clear hK K) | (refine phiU_pureK rfl rfl (fun K hK => ?_); apply Exists.intro; constructor; (rintro w' hI; have q0 := HBC.out w' hI; clear hI; first | (go_simp; (try go_bits); (try go_simp); rfl) | go_simp); simp only [Act.put, List.setIfInBounds_toArray, List.set_cons_succ, List.set_cons_zero]; (try simp only [List.cons_append]); (try simp only [List.nil_append]); apply hK; clear hK K))
      refine phiU_partK (PVal (.bool m'.off)) rfl rfl ⟨_, rfl⟩ ?_ (fun K hK v hv => ?_)
      · intro w' hI hf hu
        have hbo : Both w' w.heap.size w1.heap.size g s' m' := hf (3, fun ww => (PFact (.bool true) fun w' => Both w' w.heap.size w1.heap.size g s' m').fact ww (.bool true)) (by simp) (List.contains_iff_mem.1 rfl) rfl
        have hc := hbo.mm.cells.c4
        unfold gives
        clear hf hu
        go_simp
        exact ⟨rfl, trivial, by rw [plRel_o (by decide)]; exact Below.refl _ _⟩
      obtain rfl : v = _ := hv
      simp only [Act.put, List.setIfInBounds_toArray, List.set_cons_succ, List.set_cons_zero]; (try simp only [List.cons_append]); (try simp only [List.nil_append])
      apply hK
      clear hK K
      repeat (first | (refine phiU_skipK rfl (fun K hK => ?_); simp only [Act.put, List.setIfInBounds_toArray, List.set_cons_succ, List.set_cons_zero]; (try simp only [List.cons_append]); (try simp only [List.nil_append]); apply hK; clear hK K) | (refine phiU_pureK rfl rfl (fun K hK => ?_); apply Exists.intro; constructor; (rintro w' hI; have q0 := HBC.out w' hI; clear hI; first | (go_simp; (try go_bits); (try go_simp); rfl) | go_simp); simp only [Act.put, List.setIfInBounds_toArray, List.set_cons_succ, List.set_cons_zero]; (try simp only [List.cons_append]); (try simp only [List.nil_append]); apply hK; clear hK K))
      refine phiU_done ?_
      intro w9 hI hf
      have hb9 : Both w9 w.heap.size w1.heap.size g s' m' := hf (3, fun ww => (PFact (.bool true) fun w' => Both w' w.heap.size w1.heap.size g s' m').fact ww (.bool true)) (by simp) rfl
      clear hf
      refine wpList_nil ?_
      go_wp2_with fail
      go_roundw
      case rel => exact ⟨k + 1, _, _, by omega, by go_num, hb9, KX.out.trans hI⟩
      case measure => simp [intOf]; omega
    · obtain rfl : k = os.length := by omega
      go_wp2_with fail
      go_ret
      exact ⟨rfl, Kr.below⟩
end Go.Proofs.YtehoenojjdgphaaDoor
