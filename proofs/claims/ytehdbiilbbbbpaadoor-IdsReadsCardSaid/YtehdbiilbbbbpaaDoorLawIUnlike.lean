/-
  LawIUnlike: the walk of IdsUnlike.
-/
import Derived.Test.YtehdbiilbbbbpaaDoorIdsB
import Derived.Test.YtehdbiilbbbbpaaDoorLawITexts
import Derived.Deep.DeepCutAuto
namespace Go.Proofs.YtehdbiilbbbbpaaDoor
open Go.RowKit Go.Extern.Stop Go.Stop Go.Extern

theorem regT_eq {x y r x' y' r' : Int} {l m : List UInt8} (h : regT x y r = some l) (h' : regT x' y' r' = some m) : ((bs l).toList == (bs m).toList) = decide (x = x' ∧ y = y' ∧ r = r') := by
  rw [regT_is] at h h'
  split at h
  · split at h'
    · rename_i h1 h2
      cases h; cases h'
      rw [bs_toList, bs_toList, Bool.eq_iff_iff, beq_iff_eq, decide_eq_true_eq, reg_inj (by omega) (by omega) (by omega) (by omega) (by omega) (by omega)]
      omega
    · cases h'
  · cases h
theorem partT_eq {x r x' r' : Int} {l m : List UInt8} (h : partT x r = some l) (h' : partT x' r' = some m) : ((bs l).toList == (bs m).toList) = ((x == x') && (r == r')) := by
  rw [partT_is] at h h'
  split at h
  · split at h'
    · rename_i h1 h2
      cases h; cases h'
      rw [bs_toList, bs_toList, Bool.eq_iff_iff, beq_iff_eq, part_inj (by omega) (by omega) (by omega) (by omega)]
      simp only [Bool.and_eq_true, beq_iff_eq]
      omega
    · cases h'
  · cases h
theorem actT_eq {x y x' y' : Int} {l m : List UInt8} (h : actT x y = some l) (h' : actT x' y' = some m) : ((bs l).toList == (bs m).toList) = decide (x = x' ∧ y = y') := by
  rw [actT_is] at h h'
  split at h
  · split at h'
    · rename_i h1 h2
      cases h; cases h'
      rw [bs_toList, bs_toList, Bool.eq_iff_iff, beq_iff_eq, act_inj (by omega) (by omega) (by omega) (by omega), decide_eq_true_eq]
      omega
    · cases h'
  · cases h
theorem eqAct (a b c d : Int) (w : World) : (binOp .eql 23 (.agg #[.int .i64 a, .int .i64 b]) (.agg #[.int .i64 c, .int .i64 d])).run Tryd.prog w = .ok (.bool (decide (a = c ∧ b = d))) w := by
  by_cases h1 : a = c
  · subst h1
    by_cases h2 : b = d
    · subst h2
      go_simp
      done
    · have h3 : (b == d) = false := by rw [beq_eq_false_iff_ne]; exact h2
      go_simp
      done
  · have h3 : (a == c) = false := by rw [beq_eq_false_iff_ne]; exact h1
    go_simp
    done
set_option maxRecDepth 20000 in
set_option maxHeartbeats 4000000 in
theorem unlike_law (x y x' y' r r' : Int) (hx : -9223372036854775808 ≤ x) (hy : -9223372036854775808 ≤ y) (hr : -9223372036854775808 ≤ r) (hx' : -9223372036854775808 ≤ x') (hy' : -9223372036854775808 ≤ y') (hr' : -9223372036854775808 ≤ r') (w : World) (E : Nat → Addr) (h : IdsG w E) :
    Calls Tryd.prog 3 #[actV x y, actV x' y', .agg #[.int .i64 r, .int .i64 r']] w fun e w' => e = .returned (.bool true) ∧ Below w.heap.size w w' := by
  have hb1 := below_alloc (below_alloc (below_alloc1 w (.cells #[.int .i64 x, .int .i64 y] 23)) (.cells #[.int .i64 x', .int .i64 y'] 23)) (.cells #[.int .i64 r, .int .i64 r'] 24)
  have B := Lib.hid hb1
  have N := Lib.hid (((Blk.new w 23 #[.int .i64 x, .int .i64 y]).alloc (.cells #[.int .i64 x', .int .i64 y'] 23)).alloc (.cells #[.int .i64 r, .int .i64 r'] 24))
  have M := Lib.hid (show Blk (((w.alloc (.cells #[.int .i64 x, .int .i64 y] 23)).alloc (.cells #[.int .i64 x', .int .i64 y'] 23)).alloc (.cells #[.int .i64 r, .int .i64 r'] 24)) (w.heap.size + 1) 23 #[.int .i64 x', .int .i64 y'] from by
    have := (Blk.new (w.alloc (.cells #[.int .i64 x, .int .i64 y] 23)) 23 #[.int .i64 x', .int .i64 y']).alloc (.cells #[.int .i64 r, .int .i64 r'] 24)
    rwa [World.size_alloc] at this)
  have G := Lib.hid (show Blk (((w.alloc (.cells #[.int .i64 x, .int .i64 y] 23)).alloc (.cells #[.int .i64 x', .int .i64 y'] 23)).alloc (.cells #[.int .i64 r, .int .i64 r'] 24)) (w.heap.size + 1 + 1) 24 #[.int .i64 r, .int .i64 r'] from by
    have := Blk.new ((w.alloc (.cells #[.int .i64 x, .int .i64 y] 23)).alloc (.cells #[.int .i64 x', .int .i64 y'] 23)) 24 #[.int .i64 r, .int .i64 r']
    simpa [World.size_alloc] using this)
  have c0 := (N.out.cell 0).trans rfl
  have c1 := (N.out.cell 1).trans rfl
  have d0 := (M.out.cell 0).trans rfl
  have d1 := (M.out.cell 1).trans rfl
  have g0 := (G.out.cell 0).trans rfl
  have g1 := (G.out.cell 1).trans rfl
  have HG := Lib.hid (fun w' (hb : Below w.heap.size w w') => h.below hb)
  have HAL := Lib.hid (fun w' h => alive_any w' E h)
  have HR := Lib.hid (fun x y r w' hx hy hr h => reg_any w' E x y r hx hy hr h)
  have HP := Lib.hid (fun x r w' hx hr h => part_any w' E x r hx hr h)
  have HA := Lib.hid (fun x y w' hx hy h => act_any w' E x y hx hy h)
  unfold actV at HA HR ⊢
  clear hb1 h
  go_enter Tryd.func3, Tryd.ntmps3
  go_wp2_with fail
  generalize ((w.alloc (.cells #[.int .i64 x, .int .i64 y] 23)).alloc (.cells #[.int .i64 x', .int .i64 y'] 23)).alloc (.cells #[.int .i64 r, .int .i64 r'] 24) = w0 at *
  go_upto_region 5 with (first
      | (go_at_call 7; refine (HAL.out _ (HG.out _ B.out)).mono ?_; rintro e w' ⟨rfl, hb⟩; have B' := Lib.hid (B.out.trans (hb.mono B.out.size)); have N' := Lib.hid (N.out.below hb N.out.lt); have M' := Lib.hid (M.out.below hb M.out.lt); have G' := Lib.hid (G.out.below hb G.out.lt); clear c0 c1 d0 d1 g0 g1 hb B N M G; have c0 := (N'.out.cell 0).trans rfl; have c1 := (N'.out.cell 1).trans rfl; have d0 := (M'.out.cell 0).trans rfl; have d1 := (M'.out.cell 1).trans rfl; have g0 := (G'.out.cell 0).trans rfl; have g1 := (G'.out.cell 1).trans rfl; have B := Lib.hid B'.out; have N := Lib.hid N'.out; have M := Lib.hid M'.out; have G := Lib.hid G'.out; clear B' N' M' G')
      | (go_at_call 10; refine (HA.out _ _ _ ?_ ?_ (HG.out _ B.out)).mono ?_; (· assumption); (· assumption); rintro e w' ⟨hb, rfl⟩; have B' := Lib.hid (B.out.trans (hb.mono B.out.size)); have N' := Lib.hid (N.out.below hb N.out.lt); have M' := Lib.hid (M.out.below hb M.out.lt); have G' := Lib.hid (G.out.below hb G.out.lt); clear c0 c1 d0 d1 g0 g1 hb B N M G; have c0 := (N'.out.cell 0).trans rfl; have c1 := (N'.out.cell 1).trans rfl; have d0 := (M'.out.cell 0).trans rfl; have d1 := (M'.out.cell 1).trans rfl; have g0 := (G'.out.cell 0).trans rfl; have g1 := (G'.out.cell 1).trans rfl; have B := Lib.hid B'.out; have N := Lib.hid N'.out; have M := Lib.hid M'.out; have G := Lib.hid G'.out; clear B' N' M' G')
      | (go_at_call 8; refine (HR.out _ _ _ _ ?_ ?_ ?_ (HG.out _ B.out)).mono ?_; (· assumption); (· assumption); (· assumption); rintro e w' ⟨hb, rfl⟩; have B' := Lib.hid (B.out.trans (hb.mono B.out.size)); have N' := Lib.hid (N.out.below hb N.out.lt); have M' := Lib.hid (M.out.below hb M.out.lt); have G' := Lib.hid (G.out.below hb G.out.lt); clear c0 c1 d0 d1 g0 g1 hb B N M G; have c0 := (N'.out.cell 0).trans rfl; have c1 := (N'.out.cell 1).trans rfl; have d0 := (M'.out.cell 0).trans rfl; have d1 := (M'.out.cell 1).trans rfl; have g0 := (G'.out.cell 0).trans rfl; have g1 := (G'.out.cell 1).trans rfl; have B := Lib.hid B'.out; have N := Lib.hid N'.out; have M := Lib.hid M'.out; have G := Lib.hid G'.out; clear B' N' M' G')
      | (go_at_call 9; refine (HP.out _ _ _ ?_ ?_ (HG.out _ B.out)).mono ?_; (· assumption); (· assumption); rintro e w' ⟨hb, rfl⟩; have B' := Lib.hid (B.out.trans (hb.mono B.out.size)); have N' := Lib.hid (N.out.below hb N.out.lt); have M' := Lib.hid (M.out.below hb M.out.lt); have G' := Lib.hid (G.out.below hb G.out.lt); clear c0 c1 d0 d1 g0 g1 hb B N M G; have c0 := (N'.out.cell 0).trans rfl; have c1 := (N'.out.cell 1).trans rfl; have d0 := (M'.out.cell 0).trans rfl; have d1 := (M'.out.cell 1).trans rfl; have g0 := (G'.out.cell 0).trans rfl; have g1 := (G'.out.cell 1).trans rfl; have B := Lib.hid B'.out; have N := Lib.hid N'.out; have M := Lib.hid M'.out; have G := Lib.hid G'.out; clear B' N' M' G'))
  have HI := Lib.hid (fun (l m : List UInt8) (h : regT x y r = some l) (h' : regT x' y' r' = some m) => regT_eq h h')
  generalize regT x y r = oR at *
  generalize regT x' y' r' = oR' at *
  go_cut [56] (fun c wx => c = .bool false ∧ wx = w')
  case first =>
    cases oR with
    | none =>
      rw [show errV E (ebad (none : Option (List UInt8))) = .iface 124 (.pointer (some (E 0))) from rfl]
      go_wp2_with fail
      go_meet
      exact ⟨rfl, rfl⟩
    | some l =>
      rw [show errV E (ebad (some l)) = .nilIface from rfl]
      cases oR' with
      | none =>
        rw [show errV E (ebad (none : Option (List UInt8))) = .iface 124 (.pointer (some (E 0))) from rfl]
        go_wp2_with fail
        go_meet
        exact ⟨rfl, rfl⟩
      | some m =>
        rw [show errV E (ebad (some m)) = .nilIface from rfl]
        have hq := HI.out l m rfl rfl
        have hqA := fun w => eqAct x y x' y' w
        rw [show decide (x = x' ∧ y = y' ∧ r = r') = (decide (x = x' ∧ y = y') && (r == r')) by rw [Bool.eq_iff_iff]; simp [and_assoc]] at hq
        generalize decide (x = x' ∧ y = y') = b1 at *
        generalize hb2 : (r == r') = b2 at *
        cases b1 <;> cases b2
        all_goals
          go_wp2_with fail
          go_meet
          exact ⟨rfl, rfl⟩
  case rest =>
    obtain ⟨rfl, rfl⟩ := hcut
    clear HI
    go_upto_region 9 with (first
        | (go_at_call 7; refine (HAL.out _ (HG.out _ B.out)).mono ?_; rintro e w' ⟨rfl, hb⟩; have B' := Lib.hid (B.out.trans (hb.mono B.out.size)); have N' := Lib.hid (N.out.below hb N.out.lt); have M' := Lib.hid (M.out.below hb M.out.lt); have G' := Lib.hid (G.out.below hb G.out.lt); clear c0 c1 d0 d1 g0 g1 hb B N M G; have c0 := (N'.out.cell 0).trans rfl; have c1 := (N'.out.cell 1).trans rfl; have d0 := (M'.out.cell 0).trans rfl; have d1 := (M'.out.cell 1).trans rfl; have g0 := (G'.out.cell 0).trans rfl; have g1 := (G'.out.cell 1).trans rfl; have B := Lib.hid B'.out; have N := Lib.hid N'.out; have M := Lib.hid M'.out; have G := Lib.hid G'.out; clear B' N' M' G')
        | (go_at_call 10; refine (HA.out _ _ _ ?_ ?_ (HG.out _ B.out)).mono ?_; (· assumption); (· assumption); rintro e w' ⟨hb, rfl⟩; have B' := Lib.hid (B.out.trans (hb.mono B.out.size)); have N' := Lib.hid (N.out.below hb N.out.lt); have M' := Lib.hid (M.out.below hb M.out.lt); have G' := Lib.hid (G.out.below hb G.out.lt); clear c0 c1 d0 d1 g0 g1 hb B N M G; have c0 := (N'.out.cell 0).trans rfl; have c1 := (N'.out.cell 1).trans rfl; have d0 := (M'.out.cell 0).trans rfl; have d1 := (M'.out.cell 1).trans rfl; have g0 := (G'.out.cell 0).trans rfl; have g1 := (G'.out.cell 1).trans rfl; have B := Lib.hid B'.out; have N := Lib.hid N'.out; have M := Lib.hid M'.out; have G := Lib.hid G'.out; clear B' N' M' G')
        | (go_at_call 8; refine (HR.out _ _ _ _ ?_ ?_ ?_ (HG.out _ B.out)).mono ?_; (· assumption); (· assumption); (· assumption); rintro e w' ⟨hb, rfl⟩; have B' := Lib.hid (B.out.trans (hb.mono B.out.size)); have N' := Lib.hid (N.out.below hb N.out.lt); have M' := Lib.hid (M.out.below hb M.out.lt); have G' := Lib.hid (G.out.below hb G.out.lt); clear c0 c1 d0 d1 g0 g1 hb B N M G; have c0 := (N'.out.cell 0).trans rfl; have c1 := (N'.out.cell 1).trans rfl; have d0 := (M'.out.cell 0).trans rfl; have d1 := (M'.out.cell 1).trans rfl; have g0 := (G'.out.cell 0).trans rfl; have g1 := (G'.out.cell 1).trans rfl; have B := Lib.hid B'.out; have N := Lib.hid N'.out; have M := Lib.hid M'.out; have G := Lib.hid G'.out; clear B' N' M' G')
        | (go_at_call 9; refine (HP.out _ _ _ ?_ ?_ (HG.out _ B.out)).mono ?_; (· assumption); (· assumption); rintro e w' ⟨hb, rfl⟩; have B' := Lib.hid (B.out.trans (hb.mono B.out.size)); have N' := Lib.hid (N.out.below hb N.out.lt); have M' := Lib.hid (M.out.below hb M.out.lt); have G' := Lib.hid (G.out.below hb G.out.lt); clear c0 c1 d0 d1 g0 g1 hb B N M G; have c0 := (N'.out.cell 0).trans rfl; have c1 := (N'.out.cell 1).trans rfl; have d0 := (M'.out.cell 0).trans rfl; have d1 := (M'.out.cell 1).trans rfl; have g0 := (G'.out.cell 0).trans rfl; have g1 := (G'.out.cell 1).trans rfl; have B := Lib.hid B'.out; have N := Lib.hid N'.out; have M := Lib.hid M'.out; have G := Lib.hid G'.out; clear B' N' M' G'))
    have HI := Lib.hid (fun (l m : List UInt8) (h : partT x r = some l) (h' : partT x' r' = some m) => partT_eq h h')
    generalize partT x r = oP at *
    generalize partT x' r' = oP' at *
    go_cut [96] (fun c wx => c = .bool false ∧ wx = w')
    case first =>
      cases oP with
      | none =>
        rw [show errV E (ebad (none : Option (List UInt8))) = .iface 124 (.pointer (some (E 0))) from rfl]
        go_wp2_with fail
        go_meet
        exact ⟨rfl, rfl⟩
      | some l =>
        rw [show errV E (ebad (some l)) = .nilIface from rfl]
        cases oP' with
        | none =>
          rw [show errV E (ebad (none : Option (List UInt8))) = .iface 124 (.pointer (some (E 0))) from rfl]
          go_wp2_with fail
          go_meet
          exact ⟨rfl, rfl⟩
        | some m =>
          rw [show errV E (ebad (some m)) = .nilIface from rfl]
          have hq := HI.out l m rfl rfl
          generalize hb1 : (x == x') = b1 at *
          generalize hb2 : (r == r') = b2 at *
          cases b1 <;> cases b2
          all_goals
            go_wp2_with fail
            go_meet
            exact ⟨rfl, rfl⟩
    case rest =>
      obtain ⟨rfl, rfl⟩ := hcut
      clear HI
      go_upto_region 13 with (first
        | (go_at_call 7; refine (HAL.out _ (HG.out _ B.out)).mono ?_; rintro e w' ⟨rfl, hb⟩; have B' := Lib.hid (B.out.trans (hb.mono B.out.size)); have N' := Lib.hid (N.out.below hb N.out.lt); have M' := Lib.hid (M.out.below hb M.out.lt); have G' := Lib.hid (G.out.below hb G.out.lt); clear c0 c1 d0 d1 g0 g1 hb B N M G; have c0 := (N'.out.cell 0).trans rfl; have c1 := (N'.out.cell 1).trans rfl; have d0 := (M'.out.cell 0).trans rfl; have d1 := (M'.out.cell 1).trans rfl; have g0 := (G'.out.cell 0).trans rfl; have g1 := (G'.out.cell 1).trans rfl; have B := Lib.hid B'.out; have N := Lib.hid N'.out; have M := Lib.hid M'.out; have G := Lib.hid G'.out; clear B' N' M' G')
        | (go_at_call 10; refine (HA.out _ _ _ ?_ ?_ (HG.out _ B.out)).mono ?_; (· assumption); (· assumption); rintro e w' ⟨hb, rfl⟩; have B' := Lib.hid (B.out.trans (hb.mono B.out.size)); have N' := Lib.hid (N.out.below hb N.out.lt); have M' := Lib.hid (M.out.below hb M.out.lt); have G' := Lib.hid (G.out.below hb G.out.lt); clear c0 c1 d0 d1 g0 g1 hb B N M G; have c0 := (N'.out.cell 0).trans rfl; have c1 := (N'.out.cell 1).trans rfl; have d0 := (M'.out.cell 0).trans rfl; have d1 := (M'.out.cell 1).trans rfl; have g0 := (G'.out.cell 0).trans rfl; have g1 := (G'.out.cell 1).trans rfl; have B := Lib.hid B'.out; have N := Lib.hid N'.out; have M := Lib.hid M'.out; have G := Lib.hid G'.out; clear B' N' M' G')
        | (go_at_call 8; refine (HR.out _ _ _ _ ?_ ?_ ?_ (HG.out _ B.out)).mono ?_; (· assumption); (· assumption); (· assumption); rintro e w' ⟨hb, rfl⟩; have B' := Lib.hid (B.out.trans (hb.mono B.out.size)); have N' := Lib.hid (N.out.below hb N.out.lt); have M' := Lib.hid (M.out.below hb M.out.lt); have G' := Lib.hid (G.out.below hb G.out.lt); clear c0 c1 d0 d1 g0 g1 hb B N M G; have c0 := (N'.out.cell 0).trans rfl; have c1 := (N'.out.cell 1).trans rfl; have d0 := (M'.out.cell 0).trans rfl; have d1 := (M'.out.cell 1).trans rfl; have g0 := (G'.out.cell 0).trans rfl; have g1 := (G'.out.cell 1).trans rfl; have B := Lib.hid B'.out; have N := Lib.hid N'.out; have M := Lib.hid M'.out; have G := Lib.hid G'.out; clear B' N' M' G')
        | (go_at_call 9; refine (HP.out _ _ _ ?_ ?_ (HG.out _ B.out)).mono ?_; (· assumption); (· assumption); rintro e w' ⟨hb, rfl⟩; have B' := Lib.hid (B.out.trans (hb.mono B.out.size)); have N' := Lib.hid (N.out.below hb N.out.lt); have M' := Lib.hid (M.out.below hb M.out.lt); have G' := Lib.hid (G.out.below hb G.out.lt); clear c0 c1 d0 d1 g0 g1 hb B N M G; have c0 := (N'.out.cell 0).trans rfl; have c1 := (N'.out.cell 1).trans rfl; have d0 := (M'.out.cell 0).trans rfl; have d1 := (M'.out.cell 1).trans rfl; have g0 := (G'.out.cell 0).trans rfl; have g1 := (G'.out.cell 1).trans rfl; have B := Lib.hid B'.out; have N := Lib.hid N'.out; have M := Lib.hid M'.out; have G := Lib.hid G'.out; clear B' N' M' G'))
      have HI := Lib.hid (fun (l m : List UInt8) (h : actT x y = some l) (h' : actT x' y' = some m) => actT_eq h h')
      generalize actT x y = oA at *
      generalize actT x' y' = oA' at *
      cases oA with
      | none =>
        rw [show errV E (ebad (none : Option (List UInt8))) = .iface 124 (.pointer (some (E 0))) from rfl]
        go_wp2_with fail
        go_ret
        exact ⟨rfl, B.out⟩
      | some l =>
        rw [show errV E (ebad (some l)) = .nilIface from rfl]
        cases oA' with
        | none =>
          rw [show errV E (ebad (none : Option (List UInt8))) = .iface 124 (.pointer (some (E 0))) from rfl]
          go_wp2_with fail
          go_ret
          exact ⟨rfl, B.out⟩
        | some m =>
          rw [show errV E (ebad (some m)) = .nilIface from rfl]
          have hq := HI.out l m rfl rfl
          have hqA := fun w => eqAct x y x' y' w
          generalize decide (x = x' ∧ y = y') = b1 at *
          cases b1
          all_goals
            go_wp2_with fail
            go_ret
            exact ⟨rfl, B.out⟩
end Go.Proofs.YtehdbiilbbbbpaaDoor
