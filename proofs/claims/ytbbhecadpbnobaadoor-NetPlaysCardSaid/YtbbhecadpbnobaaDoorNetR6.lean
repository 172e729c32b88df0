/-
  NetR6: the walk of the document's New.
-/
import Derived.Test.YtbbhecadpbnobaaDoorNetR2
import Derived.Laws.OwnMore
import Derived.Laws.MakeOwn
namespace Go.Proofs.YtbbhecadpbnobaaDoor
open Go.RowKit
attribute [local go_sem] bs_toList bs_size
attribute [local irreducible] wpPhi wpPhiU

theorem boolI : (Tryd.prog.info? 4).map (fun i => (i.zero, i.size, i.bytes)) = some (some (.bool false), 1, 1) := by kernel_rfl
theorem rowI : (Tryd.prog.info? 23).map (fun i => (i.zero, i.size, i.bytes)) = some (some (.slice none 0 0), 1, 24) := by kernel_rfl
theorem made_bools (k i : Nat) : madeCells #[.bool false] (k * 1) = cutRow k (fun _ _ => false) i := by
  apply Array.ext'
  rw [toList_madeCells_one, Nat.mul_one]
  unfold cutRow
  rw [List.map_const', List.length_range]
theorem make_bools (k : Nat) (hk : k ≤ 1000) (W : World) : (Instr.makeSlice 23 (.int .i64 (k : Int)) (.int .i64 (k : Int))).run Tryd.prog W = .ok (.slice (some ⟨W.heap.size, 0, none⟩) k k) (W.alloc (.cells (cutRow k (fun _ _ => false) 0) 4)) := by
  obtain ⟨i0, hi0, hz0, hz1, hz2⟩ := info_parts boolI
  have h := run_make (P := Tryd.prog) W 23 4 i0 (.bool false) Tryd.underlying23 hi0 hz0 .i64 .i64 (k : Int) (k : Int) (by omega) (Int.le_refl _) (by rw [hz2]; omega) (by omega)
  rw [h, hz1]
  simp only [Int.toNat_natCast]
  rw [show (Value.bool false).cells = #[.bool false] from rfl, made_bools k 0]
/-- the rows so far -/
structure NewR (w : World) (k : Nat) (j : Nat) (R : List Nat) (wr : World) : Prop where
  ex : ∃ vC, Blk wr w.heap.size 60 #[.int .i64 (k : Int), .slice none 0 0, vC, .int .i64 0] ∧ wr.ownsRow w.heap.size 23 1 vC j (rowVs k R)
  len : R.length = j
  nd : R.Nodup
  row : ∀ g ∈ R, w.heap.size ≤ g ∧ Blk wr g 4 (cutRow k (fun _ _ => false) 0)
  low : Below w.heap.size w wr
def PRow (B k : Nat) : Part := ⟨fun v => ∃ g, v = .slice (some ⟨g, 0, none⟩) k k, fun w v => ∀ g, v = .slice (some ⟨g, 0, none⟩) k k → B ≤ g ∧ Blk w g 4 (cutRow k (fun _ _ => false) 0)⟩
def PRowL (B k : Nat) : Part := ⟨fun v => ∃ g, v = .slice (some ⟨g, 0, none⟩) 1 1, fun w v => ∀ g, v = .slice (some ⟨g, 0, none⟩) 1 1 → ∃ g6, B ≤ g6 ∧ Blk w g6 4 (cutRow k (fun _ _ => false) 0) ∧ Blk w g 23 #[.slice (some ⟨g6, 0, none⟩) k k]⟩
def PRows (B0 B k j : Nat) (R : List Nat) : Part := ⟨fun v => ∃ p c, v = .slice p (j + 1) c, fun w v => ∃ g6, B ≤ g6 ∧ Blk w g6 4 (cutRow k (fun _ _ => false) 0) ∧ w.ownsRow B0 23 1 v (j + 1) (rowVs k (R ++ [g6]))⟩
set_option maxRecDepth 20000 in
set_option maxHeartbeats 4000000 in
theorem rnew_any (w : World) (k : Nat) (hk : k ≤ 4) :
    Calls Tryd.prog 18 #[.int .i64 k] w fun e w' => e = .returned (.pointer (some ⟨w.heap.size, 0, none⟩)) ∧ (∃ R, (∀ g ∈ R, w.heap.size ≤ g) ∧ Mn w' w.heap.size none R (NSt.new k)) ∧ Below w.heap.size w w' := by
  have HS := Lib.hid (show NewR w k 0 [] (w.alloc (.cells #[.int .i64 (k : Int), .slice none 0 0, .slice none 0 0, .int .i64 0] 60)) from
    ⟨⟨.slice none 0 0, Blk.new _ _ _, ⟨rfl, .inl ⟨rfl, rfl⟩⟩⟩, rfl, List.nodup_nil, nofun, below_alloc1 _ _⟩)
  obtain ⟨i0, hi0, hz0, hz1, hz2⟩ := info_parts rowI
  go_enter Tryd.func18, Tryd.ntmps18
  go_wp2_with fail
  generalize w.alloc (.cells #[.int .i64 (k : Int), .slice none 0 0, .slice none 0 0, .int .i64 0] 60) = w1 at *
  go_loopw [4] (fun i wr => ∃ (j : Nat) (R : List Nat), j ≤ k ∧ i = .int .i64 j ∧ NewR w k j R wr) (fun i _ => k - (intOf i).toNat)
  case atStart => exact ⟨0, [], by omega, rfl, HS.out⟩
  case round =>
    clear HS
    obtain ⟨j, R, hj, rfl, hr⟩ := hrel
    obtain ⟨⟨vC, hbm, hoC⟩, hlen, hnd, hrow, hlow⟩ := hr
    have HRO := Lib.hid hrow
    have HND := Lib.hid (And.intro hlen hnd)
    have HBM := Lib.hid hbm
    have HOC := Lib.hid hoC
    have HLW := Lib.hid hlow
    by_cases hlt : j < k
    · obtain ⟨pC, cC, rfl, _⟩ := owns_rd hoC
      have hmk := make_bools k (by omega)
      have HJK := Lib.hid hlt
      clear hbm hoC hlow hrow hlen hnd
      go_wp2_with fail
      refine wp_phiU_tail (List.take 11 _) (List.drop 11 _) (List.take_append_drop 11 _).symm (rAdd 8 23 (.slice pC j cC) j)
        (fun w' => Blk w' w.heap.size 60 #[.int .i64 (k : Int), .slice none 0 0, .slice pC j cC, .int .i64 0] ∧ But (Value.slice pC j cC).ownBlock.toList wr w' ∧ wr.heap.size ≤ w'.heap.size)
        [(6, PRow wr.heap.size k), (7, PRowL wr.heap.size k), (8, PRows w.heap.size wr.heap.size k j R)] [(7, [6]), (8, [6, 7])] [(8, fun w' => w'.ownsRow w.heap.size 23 1 (.slice pC j cC) j (rowVs k R))] [(7, 8)] (by kernel_rfl) (by kernel_rfl) ?_ ?_ ?_ ?_
        ⟨HBM.out.below (Below.refl _ _).drew HBM.out.lt, But.of_below (Below.refl _ _).drew, Nat.le_refl _⟩ ?_
      · rintro p1 hp1 w1 w2 ⟨g1, g2, g3⟩ hR
        exact ⟨rAdd_blk hR g1 (by decide), rAdd_but hR g2 fun g hg => .inl (by rw [hg]; simp), Nat.le_trans g3 (rAdd_size hR)⟩
      · intro p1 hp p' hp' hne hks hns w1 w2 v hI hR hf
        simp only [List.mem_cons, List.not_mem_nil, or_false] at hp hp'
        rcases hp with rfl | rfl | rfl
        · intro g hg
          obtain ⟨h1, h2⟩ := hf g hg
          exact ⟨h1, rAdd_blk hR h2 (by decide)⟩
        · rcases hp' with rfl | rfl | rfl
          · exact absurd (show 6 ∈ needs [(7, [6]), (8, [6, 7])] 7 by decide) hns
          · exact absurd rfl hne
          · exact absurd rfl hks
        · rcases hp' with rfl | rfl | rfl
          · exact absurd (show 6 ∈ needs [(7, [6]), (8, [6, 7])] 8 by decide) hns
          · exact absurd (show 7 ∈ needs [(7, [6]), (8, [6, 7])] 8 by decide) hns
          · exact absurd rfl hne
      · intro p1 hp u hu hne w1 w2 hI hR hf
        simp only [List.mem_cons, List.not_mem_nil, or_false] at hp hu
        subst hu
        rcases hp with rfl | rfl | rfl
        · have hR := rAdd_o (show (6 : Nat) ≠ 8 by decide) ▸ hR
          exact owns_below hf hR
        · have hR := rAdd_o (show (7 : Nat) ≠ 8 by decide) ▸ hR
          exact owns_below hf hR
        · exact absurd rfl hne
      · intro u hu
        simp only [List.mem_cons, List.not_mem_nil, or_false] at hu
        subst hu
        exact owns_below HOC.out (Below.refl _ _).drew
      simp only [List.take_succ_cons, List.take_zero, List.drop_succ_cons, List.drop_zero]
      repeat (first | (refine phiU_skipK rfl (fun K hK => ?_); simp only [Act.put, List.setIfInBounds_toArray, List.set_cons_succ, List.set_cons_zero]; (try simp only [List.cons_append]); (try simp only [List.nil_append]); apply hK; clear hK K) | (refine phiU_pureK rfl rfl (fun K hK => ?_); apply Exists.intro; constructor; (focus (rintro w' ⟨g1, g2, g3⟩; have q1 := (g1.cell 2).trans rfl; clear g1 g2 g3; first | (go_simp; done) | (go_simp; (try go_bits); (try go_simp); rfl) | go_simp)); simp only [Act.put, List.setIfInBounds_toArray, List.set_cons_succ, List.set_cons_zero]; (try simp only [List.cons_append]); (try simp only [List.nil_append]); apply hK; clear hK K))
      refine phiU_partK (PRow wr.heap.size k) rfl rfl ⟨_, 0, rfl⟩ ?_ (fun K hK v hv => ?_)
      · rintro w' ⟨g1, g2, g3⟩ hf hu
        unfold gives
        clear hf hu
        go_simp
        refine ⟨⟨_, rfl⟩, fun g hg => ?_, by rw [rAdd_o (by decide)]; exact below_alloc1 _ _⟩
        obtain rfl : w'.heap.size = g := by simpa using hg
        exact ⟨g3, Blk.new _ _ _⟩
      obtain ⟨ga, rfl⟩ := hv
      simp only [Act.put, List.setIfInBounds_toArray, List.set_cons_succ, List.set_cons_zero]; (try simp only [List.cons_append]); (try simp only [List.nil_append])
      apply hK
      clear hK K
      repeat (first | (refine phiU_skipK rfl (fun K hK => ?_); simp only [Act.put, List.setIfInBounds_toArray, List.set_cons_succ, List.set_cons_zero]; (try simp only [List.cons_append]); (try simp only [List.nil_append]); apply hK; clear hK K) | (refine phiU_pureK rfl rfl (fun K hK => ?_); apply Exists.intro; constructor; (focus (rintro w' ⟨g1, g2, g3⟩; have q1 := (g1.cell 2).trans rfl; clear g1 g2 g3; first | (go_simp; done) | (go_simp; (try go_bits); (try go_simp); rfl) | go_simp)); simp only [Act.put, List.setIfInBounds_toArray, List.set_cons_succ, List.set_cons_zero]; (try simp only [List.cons_append]); (try simp only [List.nil_append]); apply hK; clear hK K))
      refine phiU_partK (PRowL wr.heap.size k) rfl rfl ⟨_, 0, rfl⟩ ?_ (fun K hK v hv => ?_)
      · rintro w' ⟨g1, g2, g3⟩ hf hu
        obtain ⟨h6, hb6⟩ := hf (6, fun w1 => (PRow wr.heap.size k).fact w1 (.slice (some ⟨ga, 0, none⟩) k k)) (by simp) (List.contains_iff_mem.1 rfl) rfl ga rfl
        unfold gives
        clear hf hu
        go_simp
        refine ⟨⟨_, rfl⟩, fun g hg => ?_, by rw [rAdd_o (by decide)]; exact below_alloc1 _ _⟩
        obtain rfl : w'.heap.size = g := by simpa using hg
        exact ⟨ga, h6, hb6.below (below_alloc1 _ _) hb6.lt, Blk.new _ _ _⟩
      obtain ⟨gb, rfl⟩ := hv
      simp only [Act.put, List.setIfInBounds_toArray, List.set_cons_succ, List.set_cons_zero]; (try simp only [List.cons_append]); (try simp only [List.nil_append])
      apply hK
      clear hK K
      repeat (first | (refine phiU_skipK rfl (fun K hK => ?_); simp only [Act.put, List.setIfInBounds_toArray, List.set_cons_succ, List.set_cons_zero]; (try simp only [List.cons_append]); (try simp only [List.nil_append]); apply hK; clear hK K) | (refine phiU_pureK rfl rfl (fun K hK => ?_); apply Exists.intro; constructor; (focus (rintro w' ⟨g1, g2, g3⟩; have q1 := (g1.cell 2).trans rfl; clear g1 g2 g3; first | (go_simp; done) | (go_simp; (try go_bits); (try go_simp); rfl) | go_simp)); simp only [Act.put, List.setIfInBounds_toArray, List.set_cons_succ, List.set_cons_zero]; (try simp only [List.cons_append]); (try simp only [List.nil_append]); apply hK; clear hK K))
      refine phiU_partK (PRows w.heap.size wr.heap.size k j R) rfl rfl ⟨_, none, 0, rfl⟩ ?_ (fun K hK v hv => ?_)
      · rintro w' ⟨g1, g2, g3⟩ hf hu
        obtain ⟨g6, h6, hb6, hb7⟩ := hf (7, fun w1 => (PRowL wr.heap.size k).fact w1 (.slice (some ⟨gb, 0, none⟩) 1 1)) (by simp) (List.contains_iff_mem.1 rfl) rfl gb rfl
        have hu8 : w'.ownsRow w.heap.size 23 1 (.slice pC j cC) j (rowVs k R) := hu (8, fun w' => w'.ownsRow w.heap.size 23 1 (.slice pC j cC) j (rowVs k R)) (by simp) rfl
        clear hf hu
        refine gives_appAt (.tmp 17) (.tmp 20) 58 rfl w.heap.size 23 i0 (.slice none 0 0) 1 24 Tryd.underlying58 hi0 hz0 hz1 hz2 rfl (by decide) _ _ _ rfl hu8 _ _ _ [.slice (some ⟨g6, 0, none⟩) k k] rfl rfl (.inr ⟨gb, 0, rfl, fun i u hiu => ?_⟩) (by simp [Value.oneCell']) (by unfold maxLen; have := HJK.out; omega) (by have := HJK.out; omega) (Nat.le_trans HLW.out.size g3) ?_
        · rw [Nat.zero_add, hb7.cell]
          simpa using hiu
        intro v2 w2 ho2 hg2 _
        obtain ⟨p2, c2, rfl, _⟩ := owns_rd ho2
        refine ⟨⟨p2, c2, rfl⟩, ⟨g6, h6, grown_blk hg2 hu8 hb6 (by decide), ?_⟩, ?_⟩
        · rw [show rowVs k (R ++ [g6]) = rowVs k R ++ [.slice (some ⟨g6, 0, none⟩) k k] from by simp [rowVs]]
          exact ho2
        · rw [rAdd_at]
          exact ⟨⟨_, owns_lower hu8 (Nat.zero_le _)⟩, hg2⟩
      obtain ⟨pd, cd, rfl⟩ := hv
      simp only [Act.put, List.setIfInBounds_toArray, List.set_cons_succ, List.set_cons_zero]; (try simp only [List.cons_append]); (try simp only [List.nil_append])
      apply hK
      clear hK K
      repeat (first | (refine phiU_skipK rfl (fun K hK => ?_); simp only [Act.put, List.setIfInBounds_toArray, List.set_cons_succ, List.set_cons_zero]; (try simp only [List.cons_append]); (try simp only [List.nil_append]); apply hK; clear hK K) | (refine phiU_pureK rfl rfl (fun K hK => ?_); apply Exists.intro; constructor; (focus (rintro w' ⟨g1, g2, g3⟩; have q1 := (g1.cell 2).trans rfl; clear g1 g2 g3; first | (go_simp; done) | (go_simp; (try go_bits); (try go_simp); rfl) | go_simp)); simp only [Act.put, List.setIfInBounds_toArray, List.set_cons_succ, List.set_cons_zero]; (try simp only [List.cons_append]); (try simp only [List.nil_append]); apply hK; clear hK K))
      refine phiU_done ?_
      rintro w9 ⟨g1, g2, g3⟩ hf
      obtain ⟨g6, h6, hb6, ho9⟩ : ∃ g6, wr.heap.size ≤ g6 ∧ Blk w9 g6 4 (cutRow k (fun _ _ => false) 0) ∧ w9.ownsRow w.heap.size 23 1 (.slice pd (j + 1) cd) (j + 1) (rowVs k (R ++ [g6])) := hf (8, fun w1 => (PRows w.heap.size wr.heap.size k j R).fact w1 (.slice pd (j + 1) cd)) (by simp) rfl
      have c2 := (g1.cell 2).trans rfl
      have f2 := g1.frozen 2
      have k5 : But [w.heap.size] w9 (w9.setCell ⟨w.heap.size, 2, none⟩ (.slice pd (j + 1) cd)) := (but_refl _ _).set_ _ 2 _ (by simp)
      have HN := Lib.hid (show NewR w k (j + 1) (R ++ [g6]) (w9.setCell ⟨w.heap.size, 2, none⟩ (.slice pd (j + 1) cd)) from by
        refine ⟨⟨_, g1.set_ 2 _, own_but ho9 k5 g1 (by decide)⟩, by rw [List.length_append, HND.out.1]; rfl, ?_, fun g hg => ?_, ?_⟩
        · refine List.nodup_append.2 ⟨HND.out.2, by simp, fun a ha b hb => ?_⟩
          obtain rfl : b = g6 := by simpa using hb
          have := (HRO.out a ha).2.lt
          omega
        · rcases List.mem_append.1 hg with hg | hg
          · obtain ⟨h1, h2⟩ := HRO.out g hg
            refine ⟨h1, ?_⟩
            have h3 : Blk w9 g 4 (cutRow k (fun _ _ => false) 0) := g2.blk h2 (by
              rw [Bool.eq_false_iff]
              intro hc
              have hq : (Value.slice pC j cC).ownBlock = some g := by simpa using hc
              rcases HOC.out.2 with ⟨h0, _⟩ | ⟨g9, cap, cur, h0, _, hh, _⟩
              · rw [h0] at hq; cases hq
              · rw [h0] at hq
                cases hq
                exact Blk.ne_ h2 (show Blk wr _ _ cur from hh) (by decide) rfl)
            exact k5.blk h3 (by have := Blk.ne_ h3 g1 (by decide); simpa using this)
          · obtain rfl : g = g6 := by simpa using hg
            exact ⟨Nat.le_trans HLW.out.size h6, k5.blk hb6 (by have := Blk.ne_ hb6 g1 (by decide); simpa using this)⟩
        · exact (HLW.out.trans (g2.below (fun s hs => (HOC.out.lt s (by simpa using hs)).1) HLW.out.size)).setCell (p := ⟨w.heap.size, 2, none⟩) (Nat.le_refl _) _)
      clear g1 g2 g3 hf h6 hb6 ho9 k5
      go_wp2_with fail
      go_roundw
      case rel => exact ⟨j + 1, R ++ [g6], HJK.out, by go_num, HN.out⟩
      case measure => have := HJK.out; simp [intOf]; omega
    · obtain rfl : j = k := by omega
      have HM := Lib.hid (show Mn wr w.heap.size none R (NSt.new j) from by
        refine ⟨⟨.slice none 0 0, vC, rfl, hbm, ⟨rfl, .inl ⟨rfl, rfl⟩⟩, ?_⟩, by rw [hlen]; rfl, hnd, fun i hi => ?_⟩
        · rw [hlen]
          exact owns_lower hoC (Nat.zero_le _)
        · rw [hlen]
          exact (hrow R[i] (List.getElem_mem hi)).2)
      clear hbm hoC hlow hrow hlen hnd hlt
      go_wp2_with fail
      go_ret
      exact ⟨rfl, ⟨R, fun g hg => (HRO.out g hg).1, HM.out⟩, HLW.out⟩
end Go.Proofs.YtbbhecadpbnobaaDoor
