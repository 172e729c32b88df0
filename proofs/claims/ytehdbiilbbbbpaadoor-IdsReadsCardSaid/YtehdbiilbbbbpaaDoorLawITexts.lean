/-
  LawITexts: the walk of IdsTexts.
-/
import Derived.Test.YtehdbiilbbbbpaaDoorIdsL2
namespace Go.Proofs.YtehdbiilbbbbpaaDoor
open Go.RowKit Go.Extern.Stop Go.Stop Go.Extern

theorem nodeT_yes {a : Nat} (h : (a : Int) < 4) : nodeT a = some (110 :: dec a) := by unfold nodeT numT; rw [if_pos (by omega)]; rfl
theorem nodeT_no {x : Int} (h : ¬ (0 ≤ x ∧ x < 4)) : nodeT x = none := by unfold nodeT numT; rw [if_neg (by omega)]; rfl
theorem actT_yes {a b : Nat} (h : (a : Int) < 4) (h2 : (b : Int) < 1000000) : actT a b = some (actS a b) := by unfold actT numT; rw [if_pos (by omega), if_pos (by omega)]; rfl
theorem actT_no {x y : Int} (h : ¬ (0 ≤ x ∧ x < 4 ∧ 0 ≤ y ∧ y < 1000000)) : actT x y = none := by
  unfold actT numT
  by_cases h1 : 0 ≤ x ∧ x ≤ 3
  · rw [if_pos h1, if_neg (by omega)]; rfl
  · rw [if_neg h1]; rfl
theorem regT_yes {a b r : Nat} (h : (a : Int) < 4) (h2 : (b : Int) < 1000000) (h3 : (r : Int) < 6) : regT a b r = some (actS a b ++ 47 :: dec r) := by
  unfold regT numT
  rw [actT_yes h h2, if_pos (by omega)]; rfl
theorem regT_no {x y r : Int} (h : actT x y = none ∨ ¬ (0 ≤ r ∧ r < 6)) : regT x y r = none := by
  apply regT_none
  rcases h with h | h
  · exact .inl h
  · exact .inr (by unfold numT; rw [if_neg (by omega)])
theorem partT_yes {a b : Nat} (h : (a : Int) < 4) (h2 : (b : Int) < 8) : partT a b = some (112 :: (dec a ++ 46 :: dec b)) := by unfold partT numT; rw [if_pos (by omega), if_pos (by omega)]; rfl
theorem partT_no {x y : Int} (h : ¬ (0 ≤ x ∧ x < 4) ∨ ¬ (0 ≤ y ∧ y < 8)) : partT x y = none := by
  apply partT_none
  rcases h with h | h
  · exact .inl (by unfold numT; rw [if_neg (by omega)])
  · exact .inr (by unfold numT; rw [if_neg (by omega)])
theorem refdig_int (x : Int) (h : 0 ≤ x ∧ x ≤ 1000000) (w : World) : Calls Tryd.prog 13 #[.int .i64 x] w fun e w' => e = .returned (.string (bs (dec x.toNat))) ∧ Below w.heap.size w w' := by
  have := refdig_any x.toNat (by omega) w
  rwa [show ((x.toNat : Nat) : Int) = x by omega] at this
theorem refact_int (x y : Int) (h : 0 ≤ x ∧ x ≤ 1000000) (h2 : 0 ≤ y ∧ y ≤ 1000000) (w : World) : Calls Tryd.prog 14 #[.agg #[.int .i64 x, .int .i64 y]] w fun e w' => e = .returned (.string (bs (actS x.toNat y.toNat))) ∧ Below w.heap.size w w' := by
  have := refact_any x.toNat y.toNat (by omega) (by omega) w
  unfold actV at this
  rwa [show ((x.toNat : Nat) : Int) = x by omega, show ((y.toNat : Nat) : Int) = y by omega] at this
theorem refreg_int (x y r : Int) (h : 0 ≤ x ∧ x ≤ 1000000) (h2 : 0 ≤ y ∧ y ≤ 1000000) (h3 : 0 ≤ r ∧ r ≤ 1000000) (w : World) : Calls Tryd.prog 15 #[.agg #[.int .i64 x, .int .i64 y], .int .i64 r] w fun e w' => e = .returned (.string (bs (actS x.toNat y.toNat ++ 47 :: dec r.toNat))) ∧ Below w.heap.size w w' := by
  have := refreg_any x.toNat y.toNat r.toNat (by omega) (by omega) (by omega) w
  unfold actV at this
  rwa [show ((x.toNat : Nat) : Int) = x by omega, show ((y.toNat : Nat) : Int) = y by omega, show ((r.toNat : Nat) : Int) = r by omega] at this
theorem refpart_int (x p : Int) (h : 0 ≤ x ∧ x ≤ 1000000) (h2 : 0 ≤ p ∧ p ≤ 1000000) (w : World) : Calls Tryd.prog 16 #[.int .i64 x, .int .i64 p] w fun e w' => e = .returned (.string (bs (112 :: (dec x.toNat ++ 46 :: dec p.toNat)))) ∧ Below w.heap.size w w' := by
  have := refpart_any x.toNat p.toNat (by omega) (by omega) w
  rwa [show ((x.toNat : Nat) : Int) = x by omega, show ((p.toNat : Nat) : Int) = p by omega] at this
theorem told3 (o : Option (List UInt8)) (q : ByteArray) (b : Bool) (hb : b = o.isSome) (hq : ∀ l, o = some l → q = bs l) (w : World) (E : Nat → Addr) (he : Errs w E) :
    Calls Tryd.prog 18 #[.string (bs (o.getD [])), errV E (ebad o), .string q, .bool b] w fun e w' => e = .returned (.bool true) ∧ Below w.heap.size w w' := by
  subst hb
  exact told_any' o q.data.toList (fun l hl => by rw [hq l hl]; simp [bs]) w E he
theorem nodeT_is (x : Int) : nodeT x = if 0 ≤ x ∧ x < 4 then some (110 :: dec x.toNat) else none := by
  unfold nodeT numT
  split
  · rw [if_pos (by omega)]; rfl
  · rw [if_neg (by omega)]; rfl
theorem actT_is (x y : Int) : actT x y = if 0 ≤ x ∧ x < 4 ∧ 0 ≤ y ∧ y < 1000000 then some (actS x.toNat y.toNat) else none := by
  unfold actT numT
  by_cases h1 : 0 ≤ x ∧ x ≤ 3
  · by_cases h2 : 0 ≤ y ∧ y ≤ 999999
    · rw [if_pos h1, if_pos h2, if_pos (by omega)]; rfl
    · rw [if_pos h1, if_neg h2, if_neg (by omega)]; rfl
  · rw [if_neg h1, Option.bind_none]; exact (if_neg (by omega)).symm
theorem regT_is (x y r : Int) : regT x y r = if 0 ≤ x ∧ x < 4 ∧ 0 ≤ y ∧ y < 1000000 ∧ 0 ≤ r ∧ r < 6 then some (actS x.toNat y.toNat ++ 47 :: dec r.toNat) else none := by
  unfold regT numT
  rw [actT_is]
  by_cases h1 : 0 ≤ x ∧ x < 4 ∧ 0 ≤ y ∧ y < 1000000
  · by_cases h2 : 0 ≤ r ∧ r ≤ 5
    · rw [if_pos h1, if_pos h2, if_pos (by omega)]; rfl
    · rw [if_pos h1, if_neg h2, if_neg (by omega)]; rfl
  · rw [if_neg h1, Option.bind_none]; exact (if_neg (by omega)).symm
theorem partT_is (x p : Int) : partT x p = if 0 ≤ x ∧ x < 4 ∧ 0 ≤ p ∧ p < 8 then some (112 :: (dec x.toNat ++ 46 :: dec p.toNat)) else none := by
  unfold partT numT
  by_cases h1 : 0 ≤ x ∧ x ≤ 3
  · by_cases h2 : 0 ≤ p ∧ p ≤ 7
    · rw [if_pos h1, if_pos h2, if_pos (by omega)]; rfl
    · rw [if_pos h1, if_neg h2, if_neg (by omega)]; rfl
  · rw [if_neg h1, Option.bind_none]; exact (if_neg (by omega)).symm
/-- the truth of an 'is' -/
theorem ite_isSome {c : Prop} [Decidable c] {a : List UInt8} : (if c then some a else none : Option (List UInt8)).isSome = decide c := by split <;> simp_all
set_option maxRecDepth 20000 in
set_option maxHeartbeats 4000000 in
theorem texts_law (x y r p : Int) (hx : -9223372036854775808 ≤ x ∧ x ≤ 9223372036854775807) (hy : -9223372036854775808 ≤ y ∧ y ≤ 9223372036854775807) (hr : -9223372036854775808 ≤ r) (hp : -9223372036854775808 ≤ p) (w : World) (E : Nat → Addr) (h : IdsG w E) :
    Calls Tryd.prog 4 #[actV x y, .int .i64 r, .int .i64 p] w fun e w' => e = .returned (.bool true) ∧ Below w.heap.size w w' := by
  have hb1 := below_alloc1 w (.cells #[.int .i64 x, .int .i64 y] 23)
  have B := Lib.hid hb1
  have N := Lib.hid (Blk.new w 23 #[.int .i64 x, .int .i64 y])
  have c0 := (N.out.cell 0).trans rfl
  have c1 := (N.out.cell 1).trans rfl
  have HG := Lib.hid (fun w' (hb : Below w.heap.size w w') => h.below hb)
  have HAL := Lib.hid (fun w' h => alive_any w' E h)
  have HRR := Lib.hid (fun w' => refright_any x y w')
  have HN := Lib.hid (fun w' h => node_any w' E x hx.1 h)
  have HA := Lib.hid (fun w' h => act_any w' E x y hx.1 hy.1 h)
  have HR := Lib.hid (fun w' h => reg_any w' E x y r hx.1 hy.1 hr h)
  have HP := Lib.hid (fun w' h => part_any w' E x p hx.1 hp h)
  have HRI := Lib.hid (fun w' h => right_any w' E x y hx.1 hy.1 h)
  have HX := Lib.hid hx
  have hs : ∀ w', (Op.stringOp .add ⟨#[110]⟩ (bs (dec x.toNat))).run Tryd.prog w' = .ok (.string (bs (110 :: dec x.toNat))) w' := fun w' => run_str_add w' [110] _ (by have := (dec_len x.toNat 19 (by omega)).2; simp; omega)
  have hA := actT_is x y
  unfold actV at HRR HA HR HRI ⊢
  clear hb1 h hx hy hr hp
  generalize hoN : nodeT x = oN at *
  have HoN := Lib.hid hoN
  clear hoN
  generalize hoA : actT x y = oA at *
  have HoA := Lib.hid hoA
  clear hoA
  generalize hoR : regT x y r = oR at *
  have HoR := Lib.hid hoR
  clear hoR
  generalize hoP : partT x p = oP at *
  have HoP := Lib.hid hoP
  clear hoP
  by_cases hr : 0 ≤ x ∧ x < 4 ∧ 0 ≤ y ∧ y < 1000000
  · rw [if_pos hr] at hA
    have hA1 : oA.isSome = true := by rw [hA]; rfl
    clear hA
    obtain ⟨h1, h2, h3, h4⟩ := hr
    go_enter Tryd.func4, Tryd.ntmps4
    go_wp2_with (first
      | (go_at_call 7; refine (HAL.out _ (HG.out _ B.out)).mono ?_; rintro e w' ⟨rfl, hb⟩; have B' := Lib.hid (B.out.trans (hb.mono B.out.size)); have N' := Lib.hid (N.out.below hb N.out.lt); clear c0 c1 hb B N; have c0 := (N'.out.cell 0).trans rfl; have c1 := (N'.out.cell 1).trans rfl; have B := Lib.hid B'.out; have N := Lib.hid N'.out; clear B' N')
      | (go_at_call 11; refine (HRR.out _).mono ?_; rintro e w' ⟨rfl, hb⟩; have B' := Lib.hid (B.out.trans (hb.mono B.out.size)); have N' := Lib.hid (N.out.below hb N.out.lt); clear c0 c1 hb B N; have c0 := (N'.out.cell 0).trans rfl; have c1 := (N'.out.cell 1).trans rfl; have B := Lib.hid B'.out; have N := Lib.hid N'.out; clear B' N')
      | (go_at_call 12; refine (HN.out _ (HG.out _ B.out)).mono ?_; rintro e w' ⟨hb, rfl⟩; have B' := Lib.hid (B.out.trans (hb.mono B.out.size)); have N' := Lib.hid (N.out.below hb N.out.lt); clear c0 c1 hb B N; have c0 := (N'.out.cell 0).trans rfl; have c1 := (N'.out.cell 1).trans rfl; have B := Lib.hid B'.out; have N := Lib.hid N'.out; clear B' N')
      | (go_at_call 10; refine (HA.out _ (HG.out _ B.out)).mono ?_; rintro e w' ⟨hb, rfl⟩; have B' := Lib.hid (B.out.trans (hb.mono B.out.size)); have N' := Lib.hid (N.out.below hb N.out.lt); clear c0 c1 hb B N; have c0 := (N'.out.cell 0).trans rfl; have c1 := (N'.out.cell 1).trans rfl; have B := Lib.hid B'.out; have N := Lib.hid N'.out; clear B' N')
      | (go_at_call 8; refine (HR.out _ (HG.out _ B.out)).mono ?_; rintro e w' ⟨hb, rfl⟩; have B' := Lib.hid (B.out.trans (hb.mono B.out.size)); have N' := Lib.hid (N.out.below hb N.out.lt); clear c0 c1 hb B N; have c0 := (N'.out.cell 0).trans rfl; have c1 := (N'.out.cell 1).trans rfl; have B := Lib.hid B'.out; have N := Lib.hid N'.out; clear B' N')
      | (go_at_call 9; refine (HP.out _ (HG.out _ B.out)).mono ?_; rintro e w' ⟨hb, rfl⟩; have B' := Lib.hid (B.out.trans (hb.mono B.out.size)); have N' := Lib.hid (N.out.below hb N.out.lt); clear c0 c1 hb B N; have c0 := (N'.out.cell 0).trans rfl; have c1 := (N'.out.cell 1).trans rfl; have B := Lib.hid B'.out; have N := Lib.hid N'.out; clear B' N')
      | (go_at_call 17; refine (HRI.out _ (HG.out _ B.out)).mono ?_; rintro e w' ⟨rfl, hb⟩; have B' := Lib.hid (B.out.trans (hb.mono B.out.size)); have N' := Lib.hid (N.out.below hb N.out.lt); clear c0 c1 hb B N; have c0 := (N'.out.cell 0).trans rfl; have c1 := (N'.out.cell 1).trans rfl; have B := Lib.hid B'.out; have N := Lib.hid N'.out; clear B' N')
      | (go_at_call 13; refine (refdig_int x ?_ _).mono ?_; (first | omega | skip); rintro e w' ⟨rfl, hb⟩; have B' := Lib.hid (B.out.trans (hb.mono B.out.size)); have N' := Lib.hid (N.out.below hb N.out.lt); clear c0 c1 hb B N; have c0 := (N'.out.cell 0).trans rfl; have c1 := (N'.out.cell 1).trans rfl; have B := Lib.hid B'.out; have N := Lib.hid N'.out; clear B' N')
      | (go_at_call 14; refine (refact_int x y ?_ ?_ _).mono ?_; (first | omega | skip); (first | omega | skip); rintro e w' ⟨rfl, hb⟩; have B' := Lib.hid (B.out.trans (hb.mono B.out.size)); have N' := Lib.hid (N.out.below hb N.out.lt); clear c0 c1 hb B N; have c0 := (N'.out.cell 0).trans rfl; have c1 := (N'.out.cell 1).trans rfl; have B := Lib.hid B'.out; have N := Lib.hid N'.out; clear B' N')
      | (go_at_call 15; refine (refreg_int x y r ?_ ?_ ?_ _).mono ?_; (first | omega | skip); (first | omega | skip); (first | omega | skip); rintro e w' ⟨rfl, hb⟩; have B' := Lib.hid (B.out.trans (hb.mono B.out.size)); have N' := Lib.hid (N.out.below hb N.out.lt); clear c0 c1 hb B N; have c0 := (N'.out.cell 0).trans rfl; have c1 := (N'.out.cell 1).trans rfl; have B := Lib.hid B'.out; have N := Lib.hid N'.out; clear B' N')
      | (go_at_call 16; refine (refpart_int x p ?_ ?_ _).mono ?_; (first | omega | skip); (first | omega | skip); rintro e w' ⟨rfl, hb⟩; have B' := Lib.hid (B.out.trans (hb.mono B.out.size)); have N' := Lib.hid (N.out.below hb N.out.lt); clear c0 c1 hb B N; have c0 := (N'.out.cell 0).trans rfl; have c1 := (N'.out.cell 1).trans rfl; have B := Lib.hid B'.out; have N := Lib.hid N'.out; clear B' N')
      | (go_at_call 18; refine (told3 _ _ _ ?_ ?_ _ E (HG.out _ B.out).errs).mono ?_; (· first | (rw [← HoN.out, nodeT_is, ite_isSome]; (first | exact (decide_eq_true (by omega)).symm | exact (decide_eq_false (by omega)).symm | exact decide_eq_decide.2 (by omega))) | (rw [← HoA.out, actT_is, ite_isSome]; (first | exact (decide_eq_true (by omega)).symm | exact (decide_eq_false (by omega)).symm | exact decide_eq_decide.2 (by omega))) | (rw [← HoR.out, regT_is, ite_isSome]; (first | exact (decide_eq_true (by omega)).symm | exact (decide_eq_false (by omega)).symm | exact decide_eq_decide.2 (by omega))) | (rw [← HoP.out, partT_is, ite_isSome]; (first | exact (decide_eq_true (by omega)).symm | exact (decide_eq_false (by omega)).symm | exact decide_eq_decide.2 (by omega)))); (· intro l hl; (first | (rw [← HoN.out, nodeT_is] at hl) | (rw [← HoA.out, actT_is] at hl) | (rw [← HoR.out, regT_is] at hl) | (rw [← HoP.out, partT_is] at hl)); split at hl; all_goals first | omega | (cases hl; rfl) | cases hl); rintro e w' ⟨rfl, hb⟩; have B' := Lib.hid (B.out.trans (hb.mono B.out.size)); have N' := Lib.hid (N.out.below hb N.out.lt); clear c0 c1 hb B N; have c0 := (N'.out.cell 0).trans rfl; have c1 := (N'.out.cell 1).trans rfl; have B := Lib.hid B'.out; have N := Lib.hid N'.out; clear B' N'))
    all_goals (go_ret; exact ⟨rfl, B.out⟩)
  · rw [if_neg hr] at hA
    have hA1 : oA.isSome = false := by rw [hA]; rfl
    clear hA
    go_enter Tryd.func4, Tryd.ntmps4
    go_wp2_with (first
      | (go_at_call 7; refine (HAL.out _ (HG.out _ B.out)).mono ?_; rintro e w' ⟨rfl, hb⟩; have B' := Lib.hid (B.out.trans (hb.mono B.out.size)); have N' := Lib.hid (N.out.below hb N.out.lt); clear c0 c1 hb B N; have c0 := (N'.out.cell 0).trans rfl; have c1 := (N'.out.cell 1).trans rfl; have B := Lib.hid B'.out; have N := Lib.hid N'.out; clear B' N')
      | (go_at_call 11; refine (HRR.out _).mono ?_; rintro e w' ⟨rfl, hb⟩; have B' := Lib.hid (B.out.trans (hb.mono B.out.size)); have N' := Lib.hid (N.out.below hb N.out.lt); clear c0 c1 hb B N; have c0 := (N'.out.cell 0).trans rfl; have c1 := (N'.out.cell 1).trans rfl; have B := Lib.hid B'.out; have N := Lib.hid N'.out; clear B' N')
      | (go_at_call 12; refine (HN.out _ (HG.out _ B.out)).mono ?_; rintro e w' ⟨hb, rfl⟩; have B' := Lib.hid (B.out.trans (hb.mono B.out.size)); have N' := Lib.hid (N.out.below hb N.out.lt); clear c0 c1 hb B N; have c0 := (N'.out.cell 0).trans rfl; have c1 := (N'.out.cell 1).trans rfl; have B := Lib.hid B'.out; have N := Lib.hid N'.out; clear B' N')
      | (go_at_call 10; refine (HA.out _ (HG.out _ B.out)).mono ?_; rintro e w' ⟨hb, rfl⟩; have B' := Lib.hid (B.out.trans (hb.mono B.out.size)); have N' := Lib.hid (N.out.below hb N.out.lt); clear c0 c1 hb B N; have c0 := (N'.out.cell 0).trans rfl; have c1 := (N'.out.cell 1).trans rfl; have B := Lib.hid B'.out; have N := Lib.hid N'.out; clear B' N')
      | (go_at_call 8; refine (HR.out _ (HG.out _ B.out)).mono ?_; rintro e w' ⟨hb, rfl⟩; have B' := Lib.hid (B.out.trans (hb.mono B.out.size)); have N' := Lib.hid (N.out.below hb N.out.lt); clear c0 c1 hb B N; have c0 := (N'.out.cell 0).trans rfl; have c1 := (N'.out.cell 1).trans rfl; have B := Lib.hid B'.out; have N := Lib.hid N'.out; clear B' N')
      | (go_at_call 9; refine (HP.out _ (HG.out _ B.out)).mono ?_; rintro e w' ⟨hb, rfl⟩; have B' := Lib.hid (B.out.trans (hb.mono B.out.size)); have N' := Lib.hid (N.out.below hb N.out.lt); clear c0 c1 hb B N; have c0 := (N'.out.cell 0).trans rfl; have c1 := (N'.out.cell 1).trans rfl; have B := Lib.hid B'.out; have N := Lib.hid N'.out; clear B' N')
      | (go_at_call 17; refine (HRI.out _ (HG.out _ B.out)).mono ?_; rintro e w' ⟨rfl, hb⟩; have B' := Lib.hid (B.out.trans (hb.mono B.out.size)); have N' := Lib.hid (N.out.below hb N.out.lt); clear c0 c1 hb B N; have c0 := (N'.out.cell 0).trans rfl; have c1 := (N'.out.cell 1).trans rfl; have B := Lib.hid B'.out; have N := Lib.hid N'.out; clear B' N')
      | (go_at_call 13; refine (refdig_int x ?_ _).mono ?_; (first | omega | skip); rintro e w' ⟨rfl, hb⟩; have B' := Lib.hid (B.out.trans (hb.mono B.out.size)); have N' := Lib.hid (N.out.below hb N.out.lt); clear c0 c1 hb B N; have c0 := (N'.out.cell 0).trans rfl; have c1 := (N'.out.cell 1).trans rfl; have B := Lib.hid B'.out; have N := Lib.hid N'.out; clear B' N')
      | (go_at_call 14; refine (refact_int x y ?_ ?_ _).mono ?_; (first | omega | skip); (first | omega | skip); rintro e w' ⟨rfl, hb⟩; have B' := Lib.hid (B.out.trans (hb.mono B.out.size)); have N' := Lib.hid (N.out.below hb N.out.lt); clear c0 c1 hb B N; have c0 := (N'.out.cell 0).trans rfl; have c1 := (N'.out.cell 1).trans rfl; have B := Lib.hid B'.out; have N := Lib.hid N'.out; clear B' N')
      | (go_at_call 15; refine (refreg_int x y r ?_ ?_ ?_ _).mono ?_; (first | omega | skip); (first | omega | skip); (first | omega | skip); rintro e w' ⟨rfl, hb⟩; have B' := Lib.hid (B.out.trans (hb.mono B.out.size)); have N' := Lib.hid (N.out.below hb N.out.lt); clear c0 c1 hb B N; have c0 := (N'.out.cell 0).trans rfl; have c1 := (N'.out.cell 1).trans rfl; have B := Lib.hid B'.out; have N := Lib.hid N'.out; clear B' N')
      | (go_at_call 16; refine (refpart_int x p ?_ ?_ _).mono ?_; (first | omega | skip); (first | omega | skip); rintro e w' ⟨rfl, hb⟩; have B' := Lib.hid (B.out.trans (hb.mono B.out.size)); have N' := Lib.hid (N.out.below hb N.out.lt); clear c0 c1 hb B N; have c0 := (N'.out.cell 0).trans rfl; have c1 := (N'.out.cell 1).trans rfl; have B := Lib.hid B'.out; have N := Lib.hid N'.out; clear B' N')
      | (go_at_call 18; refine (told3 _ _ _ ?_ ?_ _ E (HG.out _ B.out).errs).mono ?_; (· first | (rw [← HoN.out, nodeT_is, ite_isSome]; (first | exact (decide_eq_true (by omega)).symm | exact (decide_eq_false (by omega)).symm | exact decide_eq_decide.2 (by omega))) | (rw [← HoA.out, actT_is, ite_isSome]; (first | exact (decide_eq_true (by omega)).symm | exact (decide_eq_false (by omega)).symm | exact decide_eq_decide.2 (by omega))) | (rw [← HoR.out, regT_is, ite_isSome]; (first | exact (decide_eq_true (by omega)).symm | exact (decide_eq_false (by omega)).symm | exact decide_eq_decide.2 (by omega))) | (rw [← HoP.out, partT_is, ite_isSome]; (first | exact (decide_eq_true (by omega)).symm | exact (decide_eq_false (by omega)).symm | exact decide_eq_decide.2 (by omega)))); (· intro l hl; (first | (rw [← HoN.out, nodeT_is] at hl) | (rw [← HoA.out, actT_is] at hl) | (rw [← HoR.out, regT_is] at hl) | (rw [← HoP.out, partT_is] at hl)); split at hl; all_goals first | omega | (cases hl; rfl) | cases hl); rintro e w' ⟨rfl, hb⟩; have B' := Lib.hid (B.out.trans (hb.mono B.out.size)); have N' := Lib.hid (N.out.below hb N.out.lt); clear c0 c1 hb B N; have c0 := (N'.out.cell 0).trans rfl; have c1 := (N'.out.cell 1).trans rfl; have B := Lib.hid B'.out; have N := Lib.hid N'.out; clear B' N'))
    all_goals (go_ret; exact ⟨rfl, B.out⟩)
end Go.Proofs.YtehdbiilbbbbpaaDoor
