/-
  FactR: the document's facts: State, Numbers, Right.
-/
import Derived.Test.YtjklcbdlfmmllaaGreatDoorFactP
import Derived.Test.YtjklcbdlfmmllaaGreatDoorYG
namespace Go.Proofs.YtjklcbdlfmmllaaGreatDoor
open Go.RowKit Go.Extern.Stop Go.Stop Go.Extern Ieee
attribute [local go_sem] flt_def fgt_def feq_def fne_def

def ivL (l : List Int) : Array Value := (l.map (Value.int .i64)).toArray
theorem ivL_get (l : List Int) (k : Nat) (hk : k < l.length) : (ivL l)[k]? = some (.int .i64 l[k]) := by
  unfold ivL
  rw [List.getElem?_toArray]
  simp [hk]
theorem stB_iff (st hw : Int) : stB st hw = true ↔ (st = 14 ∧ (hw = 1 ∨ (4 ≤ hw ∧ hw ≤ 8))) ∨ (¬ st = 14 ∧ 1 ≤ st ∧ st ≤ 13 ∧ hw = 0) := by
  unfold stB inR
  split
  · simp only [Bool.or_eq_true, Bool.and_eq_true, beq_iff_eq, decide_eq_true_eq]; omega
  · simp only [Bool.and_eq_true, beq_iff_eq, decide_eq_true_eq]; omega
theorem refstate_any (st hw : Int) (w : World) : Calls Tryz.prog 28 #[.int .i64 st, .int .i64 hw] w fun e w' => e = .returned (.bool (stB st hw)) ∧ Below w.heap.size w w' := by
  have HIF := Lib.hid (stB_iff st hw)
  generalize stB st hw = z at *
  go_enter Tryz.func28, Tryz.ntmps28
  go_wp2_with fail
  all_goals
    go_ret
    refine ⟨congrArg (fun z => Ending.returned (Value.bool z)) ?_, Below.refl _ _⟩
    rw [Bool.eq_iff_iff, HIF.out]
    try simp only [Bool.false_eq_true, true_iff, false_iff, decide_eq_true_eq, beq_iff_eq, Bool.or_eq_true]
    first | omega | (simp only [beq_eq_false_iff_ne, beq_iff_eq, ne_eq] at *; omega)
def Ints13 (w : World) (l : List Int) (e : Ending) (w' : World) : Prop := ∃ g, e = .returned (.slice (some ⟨g, 0, none⟩) 13 13) ∧ Blk w' g 3 (ivL l) ∧ Below w.heap.size w w'
set_option maxRecDepth 20000 in
set_option maxHeartbeats 4000000 in
theorem numbers_any (f : Fct) (w : World) : Calls Tryz.prog 29 #[fctV f] w (Ints13 w f.l) := by
  obtain ⟨k, n, s, r, nd, p, q, o, d, pa, st, hw, dc, x⟩ := f
  unfold fctV fctA Fct.l
  simp only
  have B := Lib.hid (below_alloc (below_alloc1 w (.cells #[.int .i64 k, .int .i64 n, .int .i64 s, .int .i64 r, .int .i64 nd, .int .i64 p, .int .i64 q, .int .i64 o, .int .i64 d, .int .i64 pa, .int .i64 st, .int .i64 hw, .int .i64 dc, .float .f64 x] 28)) (.cells (ivL [k, n, s, r, nd, p, q, o, d, pa, st, hw, dc]) 3))
  have N := Lib.hid (Blk.new w 28 #[.int .i64 k, .int .i64 n, .int .i64 s, .int .i64 r, .int .i64 nd, .int .i64 p, .int .i64 q, .int .i64 o, .int .i64 d, .int .i64 pa, .int .i64 st, .int .i64 hw, .int .i64 dc, .float .f64 x])
  have n0 := (N.out.cell 0).trans rfl
  have n1 := (N.out.cell 1).trans rfl
  have n2 := (N.out.cell 2).trans rfl
  have n3 := (N.out.cell 3).trans rfl
  have n4 := (N.out.cell 4).trans rfl
  have n5 := (N.out.cell 5).trans rfl
  have n6 := (N.out.cell 6).trans rfl
  have n7 := (N.out.cell 7).trans rfl
  have n8 := (N.out.cell 8).trans rfl
  have n9 := (N.out.cell 9).trans rfl
  have n10 := (N.out.cell 10).trans rfl
  have n11 := (N.out.cell 11).trans rfl
  have n12 := (N.out.cell 12).trans rfl
  have n13 := (N.out.cell 13).trans rfl
  have M := Lib.hid (show Blk ((w.alloc (.cells #[.int .i64 k, .int .i64 n, .int .i64 s, .int .i64 r, .int .i64 nd, .int .i64 p, .int .i64 q, .int .i64 o, .int .i64 d, .int .i64 pa, .int .i64 st, .int .i64 hw, .int .i64 dc, .float .f64 x] 28)).alloc (.cells (ivL [k, n, s, r, nd, p, q, o, d, pa, st, hw, dc]) 3)) (w.heap.size + 1) 3 (ivL [k, n, s, r, nd, p, q, o, d, pa, st, hw, dc]) from by
    have := Blk.new (w.alloc (.cells #[.int .i64 k, .int .i64 n, .int .i64 s, .int .i64 r, .int .i64 nd, .int .i64 p, .int .i64 q, .int .i64 o, .int .i64 d, .int .i64 pa, .int .i64 st, .int .i64 hw, .int .i64 dc, .float .f64 x] 28)) 3 (ivL [k, n, s, r, nd, p, q, o, d, pa, st, hw, dc])
    rwa [World.size_alloc] at this)
  go_enter Tryz.func29, Tryz.ntmps29
  go_wp2_with fail
  go_ret
  exact ⟨_, rfl, M.out, B.out⟩
theorem contains_take (l : List Int) (x : Int) (k : Nat) (hk : k < l.length) : (l.take (k + 1)).contains x = ((l.take k).contains x || (l[k] == x)) := by
  rw [List.take_add_one, List.getElem?_eq_getElem hk]
  simp only [Option.toList_some]
  rw [Bool.eq_iff_iff, List.contains_iff_mem, Bool.or_eq_true, List.contains_iff_mem, List.mem_append, List.mem_singleton, beq_iff_eq]
  constructor
  · rintro (h | h)
    · exact .inl h
    · exact .inr h.symm
  · rintro (h | h)
    · exact .inl h
    · exact .inr h.symm
theorem in_any (l : List Int) (x : Int) (g : Nat) (w : World) (hle : l.length ≤ 1000) (hb : Blk w g 3 (ivL l)) :
    Calls Tryz.prog 30 #[.slice (some ⟨g, 0, none⟩) l.length l.length, .int .i64 x] w fun e w' => e = .returned (.bool (l.contains x)) ∧ Below w.heap.size w w' := by
  have HB := Lib.hid hb
  have HT := Lib.hid (contains_take l x)
  clear hb
  go_enter Tryz.func30, Tryz.ntmps30
  go_wp2_with fail
  go_loopw [9] (fun i wr => ∃ k : Nat, k ≤ l.length ∧ i = .int .i64 k ∧ (l.take k).contains x = false ∧ Below w.heap.size w wr) (fun i _ => l.length - (intOf i).toNat)
  case atStart => exact ⟨0, by omega, rfl, by simp, Below.refl _ _⟩
  case round =>
    obtain ⟨k, hk, rfl, hno, hbw⟩ := hrel
    have HNO := Lib.hid hno
    clear hno
    by_cases hlt : k < l.length
    · have hc : wr.cell? ⟨g, k, none⟩ = some (.int .i64 l[k]) := by
        rw [(HB.out.below hbw HB.out.lt).cell k]; exact ivL_get l k hlt
      have HS := Lib.hid (HT.out k hlt)
      generalize l[k] = y at *
      cases hy : (y == x)
      · rw [hy, HNO.out] at HS
        go_wp2_with fail
        go_roundw
        case rel => exact ⟨k + 1, by omega, by go_num, by rw [HS.out]; rfl, hbw⟩
        case measure => simp [intOf]; omega
      · rw [hy, HNO.out] at HS
        have HY := Lib.hid (show l.contains x = true by
          have h1 : (l.take (k + 1)).contains x = true := by rw [HS.out]; rfl
          rw [List.contains_iff_mem] at h1 ⊢
          exact List.mem_of_mem_take h1)
        go_wp2_with fail
        go_ret
        exact ⟨by rw [HY.out] <;> rfl, hbw⟩
    · obtain rfl : k = l.length := by omega
      have HY := Lib.hid (show l.contains x = false by have := HNO.out; rwa [List.take_of_length_le (Nat.le_refl _)] at this)
      go_wp2_with fail
      go_ret
      exact ⟨by rw [HY.out] <;> rfl, hbw⟩
def namesF (k : Int) : List Int := if k = 1 then [1, 2, 7, 8, 9] else if k = 2 then [1, 2, 3, 4, 5, 6] else if k = 3 then [1, 2, 3, 10, 11] else if k = 4 then [1, 2, 12] else if k = 5 then [1, 2] else if k = 6 then [1, 2, 5, 6] else if k = 7 then [3, 5] else if k = 8 then [5, 10, 11] else []
def hidOk (f : Fct) : Prop := ∀ j : Nat, j < 13 → 0 < j → f.l.getD j 0 = 0 ∨ (namesF f.k).contains (j : Int) = true
theorem all13 {P : Nat → Prop} (h1 : P 1) (h2 : P 2) (h3 : P 3) (h4 : P 4) (h5 : P 5) (h6 : P 6) (h7 : P 7) (h8 : P 8) (h9 : P 9) (h10 : P 10) (h11 : P 11) (h12 : P 12) : ∀ j, j < 13 → 0 < j → P j := by
  intro j hj hp
  match j, hj, hp with
  | 1, _, _ => exact h1
  | 2, _, _ => exact h2
  | 3, _, _ => exact h3
  | 4, _, _ => exact h4
  | 5, _, _ => exact h5
  | 6, _, _ => exact h6
  | 7, _, _ => exact h7
  | 8, _, _ => exact h8
  | 9, _, _ => exact h9
  | 10, _, _ => exact h10
  | 11, _, _ => exact h11
  | 12, _, _ => exact h12
theorem hid_1 (n s r nd p q o d pa st hw dc : Int) (x : Nat) : hidOk ⟨1, n, s, r, nd, p, q, o, d, pa, st, hw, dc, x⟩ ↔ r = 0 ∧ nd = 0 ∧ p = 0 ∧ q = 0 ∧ st = 0 ∧ hw = 0 ∧ dc = 0 := by
  unfold hidOk
  constructor
  · intro h
    have h3 := (h 3 (by omega) (by omega)).resolve_right (by simp [namesF])
    have h4 := (h 4 (by omega) (by omega)).resolve_right (by simp [namesF])
    have h5 := (h 5 (by omega) (by omega)).resolve_right (by simp [namesF])
    have h6 := (h 6 (by omega) (by omega)).resolve_right (by simp [namesF])
    have h10 := (h 10 (by omega) (by omega)).resolve_right (by simp [namesF])
    have h11 := (h 11 (by omega) (by omega)).resolve_right (by simp [namesF])
    have h12 := (h 12 (by omega) (by omega)).resolve_right (by simp [namesF])
    exact ⟨h3, h4, h5, h6, h10, h11, h12⟩
  · rintro ⟨rfl, rfl, rfl, rfl, rfl, rfl, rfl⟩
    refine all13 ?_ ?_ ?_ ?_ ?_ ?_ ?_ ?_ ?_ ?_ ?_ ?_
    · exact .inr (by simp [namesF])
    · exact .inr (by simp [namesF])
    · exact .inl rfl
    · exact .inl rfl
    · exact .inl rfl
    · exact .inl rfl
    · exact .inr (by simp [namesF])
    · exact .inr (by simp [namesF])
    · exact .inr (by simp [namesF])
    · exact .inl rfl
    · exact .inl rfl
    · exact .inl rfl
theorem hid_2 (n s r nd p q o d pa st hw dc : Int) (x : Nat) : hidOk ⟨2, n, s, r, nd, p, q, o, d, pa, st, hw, dc, x⟩ ↔ o = 0 ∧ d = 0 ∧ pa = 0 ∧ st = 0 ∧ hw = 0 ∧ dc = 0 := by
  unfold hidOk
  constructor
  · intro h
    have h7 := (h 7 (by omega) (by omega)).resolve_right (by simp [namesF])
    have h8 := (h 8 (by omega) (by omega)).resolve_right (by simp [namesF])
    have h9 := (h 9 (by omega) (by omega)).resolve_right (by simp [namesF])
    have h10 := (h 10 (by omega) (by omega)).resolve_right (by simp [namesF])
    have h11 := (h 11 (by omega) (by omega)).resolve_right (by simp [namesF])
    have h12 := (h 12 (by omega) (by omega)).resolve_right (by simp [namesF])
    exact ⟨h7, h8, h9, h10, h11, h12⟩
  · rintro ⟨rfl, rfl, rfl, rfl, rfl, rfl⟩
    refine all13 ?_ ?_ ?_ ?_ ?_ ?_ ?_ ?_ ?_ ?_ ?_ ?_
    · exact .inr (by simp [namesF])
    · exact .inr (by simp [namesF])
    · exact .inr (by simp [namesF])
    · exact .inr (by simp [namesF])
    · exact .inr (by simp [namesF])
    · exact .inr (by simp [namesF])
    · exact .inl rfl
    · exact .inl rfl
    · exact .inl rfl
    · exact .inl rfl
    · exact .inl rfl
    · exact .inl rfl
theorem hid_3 (n s r nd p q o d pa st hw dc : Int) (x : Nat) : hidOk ⟨3, n, s, r, nd, p, q, o, d, pa, st, hw, dc, x⟩ ↔ nd = 0 ∧ p = 0 ∧ q = 0 ∧ o = 0 ∧ d = 0 ∧ pa = 0 ∧ dc = 0 := by
  unfold hidOk
  constructor
  · intro h
    have h4 := (h 4 (by omega) (by omega)).resolve_right (by simp [namesF])
    have h5 := (h 5 (by omega) (by omega)).resolve_right (by simp [namesF])
    have h6 := (h 6 (by omega) (by omega)).resolve_right (by simp [namesF])
    have h7 := (h 7 (by omega) (by omega)).resolve_right (by simp [namesF])
    have h8 := (h 8 (by omega) (by omega)).resolve_right (by simp [namesF])
    have h9 := (h 9 (by omega) (by omega)).resolve_right (by simp [namesF])
    have h12 := (h 12 (by omega) (by omega)).resolve_right (by simp [namesF])
    exact ⟨h4, h5, h6, h7, h8, h9, h12⟩
  · rintro ⟨rfl, rfl, rfl, rfl, rfl, rfl, rfl⟩
    refine all13 ?_ ?_ ?_ ?_ ?_ ?_ ?_ ?_ ?_ ?_ ?_ ?_
    · exact .inr (by simp [namesF])
    · exact .inr (by simp [namesF])
    · exact .inr (by simp [namesF])
    · exact .inl rfl
    · exact .inl rfl
    · exact .inl rfl
    · exact .inl rfl
    · exact .inl rfl
    · exact .inl rfl
    · exact .inr (by simp [namesF])
    · exact .inr (by simp [namesF])
    · exact .inl rfl
theorem hid_4 (n s r nd p q o d pa st hw dc : Int) (x : Nat) : hidOk ⟨4, n, s, r, nd, p, q, o, d, pa, st, hw, dc, x⟩ ↔ r = 0 ∧ nd = 0 ∧ p = 0 ∧ q = 0 ∧ o = 0 ∧ d = 0 ∧ pa = 0 ∧ st = 0 ∧ hw = 0 := by
  unfold hidOk
  constructor
  · intro h
    have h3 := (h 3 (by omega) (by omega)).resolve_right (by simp [namesF])
    have h4 := (h 4 (by omega) (by omega)).resolve_right (by simp [namesF])
    have h5 := (h 5 (by omega) (by omega)).resolve_right (by simp [namesF])
    have h6 := (h 6 (by omega) (by omega)).resolve_right (by simp [namesF])
    have h7 := (h 7 (by omega) (by omega)).resolve_right (by simp [namesF])
    have h8 := (h 8 (by omega) (by omega)).resolve_right (by simp [namesF])
    have h9 := (h 9 (by omega) (by omega)).resolve_right (by simp [namesF])
    have h10 := (h 10 (by omega) (by omega)).resolve_right (by simp [namesF])
    have h11 := (h 11 (by omega) (by omega)).resolve_right (by simp [namesF])
    exact ⟨h3, h4, h5, h6, h7, h8, h9, h10, h11⟩
  · rintro ⟨rfl, rfl, rfl, rfl, rfl, rfl, rfl, rfl, rfl⟩
    refine all13 ?_ ?_ ?_ ?_ ?_ ?_ ?_ ?_ ?_ ?_ ?_ ?_
    · exact .inr (by simp [namesF])
    · exact .inr (by simp [namesF])
    · exact .inl rfl
    · exact .inl rfl
    · exact .inl rfl
    · exact .inl rfl
    · exact .inl rfl
    · exact .inl rfl
    · exact .inl rfl
    · exact .inl rfl
    · exact .inl rfl
    · exact .inr (by simp [namesF])
theorem hid_5 (n s r nd p q o d pa st hw dc : Int) (x : Nat) : hidOk ⟨5, n, s, r, nd, p, q, o, d, pa, st, hw, dc, x⟩ ↔ r = 0 ∧ nd = 0 ∧ p = 0 ∧ q = 0 ∧ o = 0 ∧ d = 0 ∧ pa = 0 ∧ st = 0 ∧ hw = 0 ∧ dc = 0 := by
  unfold hidOk
  constructor
  · intro h
    have h3 := (h 3 (by omega) (by omega)).resolve_right (by simp [namesF])
    have h4 := (h 4 (by omega) (by omega)).resolve_right (by simp [namesF])
    have h5 := (h 5 (by omega) (by omega)).resolve_right (by simp [namesF])
    have h6 := (h 6 (by omega) (by omega)).resolve_right (by simp [namesF])
    have h7 := (h 7 (by omega) (by omega)).resolve_right (by simp [namesF])
    have h8 := (h 8 (by omega) (by omega)).resolve_right (by simp [namesF])
    have h9 := (h 9 (by omega) (by omega)).resolve_right (by simp [namesF])
    have h10 := (h 10 (by omega) (by omega)).resolve_right (by simp [namesF])
    have h11 := (h 11 (by omega) (by omega)).resolve_right (by simp [namesF])
    have h12 := (h 12 (by omega) (by omega)).resolve_right (by simp [namesF])
    exact ⟨h3, h4, h5, h6, h7, h8, h9, h10, h11, h12⟩
  · rintro ⟨rfl, rfl, rfl, rfl, rfl, rfl, rfl, rfl, rfl, rfl⟩
    refine all13 ?_ ?_ ?_ ?_ ?_ ?_ ?_ ?_ ?_ ?_ ?_ ?_
    · exact .inr (by simp [namesF])
    · exact .inr (by simp [namesF])
    · exact .inl rfl
    · exact .inl rfl
    · exact .inl rfl
    · exact .inl rfl
    · exact .inl rfl
    · exact .inl rfl
    · exact .inl rfl
    · exact .inl rfl
    · exact .inl rfl
    · exact .inl rfl
theorem hid_6 (n s r nd p q o d pa st hw dc : Int) (x : Nat) : hidOk ⟨6, n, s, r, nd, p, q, o, d, pa, st, hw, dc, x⟩ ↔ r = 0 ∧ nd = 0 ∧ o = 0 ∧ d = 0 ∧ pa = 0 ∧ st = 0 ∧ hw = 0 ∧ dc = 0 := by
  unfold hidOk
  constructor
  · intro h
    have h3 := (h 3 (by omega) (by omega)).resolve_right (by simp [namesF])
    have h4 := (h 4 (by omega) (by omega)).resolve_right (by simp [namesF])
    have h7 := (h 7 (by omega) (by omega)).resolve_right (by simp [namesF])
    have h8 := (h 8 (by omega) (by omega)).resolve_right (by simp [namesF])
    have h9 := (h 9 (by omega) (by omega)).resolve_right (by simp [namesF])
    have h10 := (h 10 (by omega) (by omega)).resolve_right (by simp [namesF])
    have h11 := (h 11 (by omega) (by omega)).resolve_right (by simp [namesF])
    have h12 := (h 12 (by omega) (by omega)).resolve_right (by simp [namesF])
    exact ⟨h3, h4, h7, h8, h9, h10, h11, h12⟩
  · rintro ⟨rfl, rfl, rfl, rfl, rfl, rfl, rfl, rfl⟩
    refine all13 ?_ ?_ ?_ ?_ ?_ ?_ ?_ ?_ ?_ ?_ ?_ ?_
    · exact .inr (by simp [namesF])
    · exact .inr (by simp [namesF])
    · exact .inl rfl
    · exact .inl rfl
    · exact .inr (by simp [namesF])
    · exact .inr (by simp [namesF])
    · exact .inl rfl
    · exact .inl rfl
    · exact .inl rfl
    · exact .inl rfl
    · exact .inl rfl
    · exact .inl rfl
theorem hid_7 (n s r nd p q o d pa st hw dc : Int) (x : Nat) : hidOk ⟨7, n, s, r, nd, p, q, o, d, pa, st, hw, dc, x⟩ ↔ n = 0 ∧ s = 0 ∧ nd = 0 ∧ q = 0 ∧ o = 0 ∧ d = 0 ∧ pa = 0 ∧ st = 0 ∧ hw = 0 ∧ dc = 0 := by
  unfold hidOk
  constructor
  · intro h
    have h1 := (h 1 (by omega) (by omega)).resolve_right (by simp [namesF])
    have h2 := (h 2 (by omega) (by omega)).resolve_right (by simp [namesF])
    have h4 := (h 4 (by omega) (by omega)).resolve_right (by simp [namesF])
    have h6 := (h 6 (by omega) (by omega)).resolve_right (by simp [namesF])
    have h7 := (h 7 (by omega) (by omega)).resolve_right (by simp [namesF])
    have h8 := (h 8 (by omega) (by omega)).resolve_right (by simp [namesF])
    have h9 := (h 9 (by omega) (by omega)).resolve_right (by simp [namesF])
    have h10 := (h 10 (by omega) (by omega)).resolve_right (by simp [namesF])
    have h11 := (h 11 (by omega) (by omega)).resolve_right (by simp [namesF])
    have h12 := (h 12 (by omega) (by omega)).resolve_right (by simp [namesF])
    exact ⟨h1, h2, h4, h6, h7, h8, h9, h10, h11, h12⟩
  · rintro ⟨rfl, rfl, rfl, rfl, rfl, rfl, rfl, rfl, rfl, rfl⟩
    refine all13 ?_ ?_ ?_ ?_ ?_ ?_ ?_ ?_ ?_ ?_ ?_ ?_
    · exact .inl rfl
    · exact .inl rfl
    · exact .inr (by simp [namesF])
    · exact .inl rfl
    · exact .inr (by simp [namesF])
    · exact .inl rfl
    · exact .inl rfl
    · exact .inl rfl
    · exact .inl rfl
    · exact .inl rfl
    · exact .inl rfl
    · exact .inl rfl
theorem hid_8 (n s r nd p q o d pa st hw dc : Int) (x : Nat) : hidOk ⟨8, n, s, r, nd, p, q, o, d, pa, st, hw, dc, x⟩ ↔ n = 0 ∧ s = 0 ∧ r = 0 ∧ nd = 0 ∧ q = 0 ∧ o = 0 ∧ d = 0 ∧ pa = 0 ∧ dc = 0 := by
  unfold hidOk
  constructor
  · intro h
    have h1 := (h 1 (by omega) (by omega)).resolve_right (by simp [namesF])
    have h2 := (h 2 (by omega) (by omega)).resolve_right (by simp [namesF])
    have h3 := (h 3 (by omega) (by omega)).resolve_right (by simp [namesF])
    have h4 := (h 4 (by omega) (by omega)).resolve_right (by simp [namesF])
    have h6 := (h 6 (by omega) (by omega)).resolve_right (by simp [namesF])
    have h7 := (h 7 (by omega) (by omega)).resolve_right (by simp [namesF])
    have h8 := (h 8 (by omega) (by omega)).resolve_right (by simp [namesF])
    have h9 := (h 9 (by omega) (by omega)).resolve_right (by simp [namesF])
    have h12 := (h 12 (by omega) (by omega)).resolve_right (by simp [namesF])
    exact ⟨h1, h2, h3, h4, h6, h7, h8, h9, h12⟩
  · rintro ⟨rfl, rfl, rfl, rfl, rfl, rfl, rfl, rfl, rfl⟩
    refine all13 ?_ ?_ ?_ ?_ ?_ ?_ ?_ ?_ ?_ ?_ ?_ ?_
    · exact .inl rfl
    · exact .inl rfl
    · exact .inl rfl
    · exact .inl rfl
    · exact .inr (by simp [namesF])
    · exact .inl rfl
    · exact .inl rfl
    · exact .inl rfl
    · exact .inl rfl
    · exact .inr (by simp [namesF])
    · exact .inr (by simp [namesF])
    · exact .inl rfl
theorem rr_1 (n s r nd p q o d pa st hw dc : Int) (x : Nat) : rightF ⟨1, n, s, r, nd, p, q, o, d, pa, st, hw, dc, x⟩ = true ↔ hidOk ⟨1, n, s, r, nd, p, q, o, d, pa, st, hw, dc, x⟩ ∧ plainO ⟨1, n, s, r, nd, p, q, o, d, pa, st, hw, dc, x⟩ = true ∧ ((1 : Int) = 1 ∨ x = 0) := by
  rw [hid_1]
  have hp : plainP ⟨1, n, s, r, nd, p, q, o, d, pa, st, hw, dc, x⟩ = ⟨1, n, s, 0, 0, 0, 0, o, d, pa, 0, 0, 0, x⟩ := rfl
  unfold rightF sameF
  rw [hp, Bool.and_eq_true, Bool.and_eq_true, Bool.and_eq_true, eqF_iff]
  generalize plainO ⟨1, n, s, r, nd, p, q, o, d, pa, st, hw, dc, x⟩ = ok
  unfold Fct.l
  simp only [List.cons.injEq, and_true, true_and]
  constructor
  · rintro ⟨⟨h1, _, g3, g4, g5, g6, g10, g11, g12⟩, _⟩
    exact ⟨⟨g3.symm, g4.symm, g5.symm, g6.symm, g10.symm, g11.symm, g12.symm⟩, h1, .inl (by trivial)⟩
  · rintro ⟨⟨g3, g4, g5, g6, g10, g11, g12⟩, h1, _⟩
    exact ⟨⟨h1, by simp, g3.symm, g4.symm, g5.symm, g6.symm, g10.symm, g11.symm, g12.symm⟩, by simp [cmpI]⟩
theorem rr_2 (n s r nd p q o d pa st hw dc : Int) (x : Nat) : rightF ⟨2, n, s, r, nd, p, q, o, d, pa, st, hw, dc, x⟩ = true ↔ hidOk ⟨2, n, s, r, nd, p, q, o, d, pa, st, hw, dc, x⟩ ∧ plainO ⟨2, n, s, r, nd, p, q, o, d, pa, st, hw, dc, x⟩ = true ∧ ((2 : Int) = 1 ∨ x = 0) := by
  rw [hid_2]
  have hp : plainP ⟨2, n, s, r, nd, p, q, o, d, pa, st, hw, dc, x⟩ = ⟨2, n, s, r, nd, p, q, 0, 0, 0, 0, 0, 0, 0⟩ := rfl
  unfold rightF sameF
  rw [hp, Bool.and_eq_true, Bool.and_eq_true, Bool.and_eq_true, eqF_iff]
  generalize plainO ⟨2, n, s, r, nd, p, q, o, d, pa, st, hw, dc, x⟩ = ok
  unfold Fct.l
  simp only [List.cons.injEq, and_true, true_and]
  constructor
  · rintro ⟨⟨h1, h2, g7, g8, g9, g10, g11, g12⟩, h3⟩
    exact ⟨⟨g7.symm, g8.symm, g9.symm, g10.symm, g11.symm, g12.symm⟩, h1, .inr (zero_x (by simpa using h2) h3)⟩
  · rintro ⟨⟨g7, g8, g9, g10, g11, g12⟩, h1, h2⟩
    obtain rfl := h2.resolve_left (by omega)
    exact ⟨⟨h1, by simp, g7.symm, g8.symm, g9.symm, g10.symm, g11.symm, g12.symm⟩, by simp [cmpI]⟩
theorem rr_3 (n s r nd p q o d pa st hw dc : Int) (x : Nat) : rightF ⟨3, n, s, r, nd, p, q, o, d, pa, st, hw, dc, x⟩ = true ↔ hidOk ⟨3, n, s, r, nd, p, q, o, d, pa, st, hw, dc, x⟩ ∧ plainO ⟨3, n, s, r, nd, p, q, o, d, pa, st, hw, dc, x⟩ = true ∧ ((3 : Int) = 1 ∨ x = 0) := by
  rw [hid_3]
  have hp : plainP ⟨3, n, s, r, nd, p, q, o, d, pa, st, hw, dc, x⟩ = ⟨3, n, s, r, 0, 0, 0, 0, 0, 0, st, hw, 0, 0⟩ := rfl
  unfold rightF sameF
  rw [hp, Bool.and_eq_true, Bool.and_eq_true, Bool.and_eq_true, eqF_iff]
  generalize plainO ⟨3, n, s, r, nd, p, q, o, d, pa, st, hw, dc, x⟩ = ok
  unfold Fct.l
  simp only [List.cons.injEq, and_true, true_and]
  constructor
  · rintro ⟨⟨h1, h2, g4, g5, g6, g7, g8, g9, g12⟩, h3⟩
    exact ⟨⟨g4.symm, g5.symm, g6.symm, g7.symm, g8.symm, g9.symm, g12.symm⟩, h1, .inr (zero_x (by simpa using h2) h3)⟩
  · rintro ⟨⟨g4, g5, g6, g7, g8, g9, g12⟩, h1, h2⟩
    obtain rfl := h2.resolve_left (by omega)
    exact ⟨⟨h1, by simp, g4.symm, g5.symm, g6.symm, g7.symm, g8.symm, g9.symm, g12.symm⟩, by simp [cmpI]⟩
theorem rr_4 (n s r nd p q o d pa st hw dc : Int) (x : Nat) : rightF ⟨4, n, s, r, nd, p, q, o, d, pa, st, hw, dc, x⟩ = true ↔ hidOk ⟨4, n, s, r, nd, p, q, o, d, pa, st, hw, dc, x⟩ ∧ plainO ⟨4, n, s, r, nd, p, q, o, d, pa, st, hw, dc, x⟩ = true ∧ ((4 : Int) = 1 ∨ x = 0) := by
  rw [hid_4]
  have hp : plainP ⟨4, n, s, r, nd, p, q, o, d, pa, st, hw, dc, x⟩ = ⟨4, n, s, 0, 0, 0, 0, 0, 0, 0, 0, 0, dc, 0⟩ := rfl
  unfold rightF sameF
  rw [hp, Bool.and_eq_true, Bool.and_eq_true, Bool.and_eq_true, eqF_iff]
  generalize plainO ⟨4, n, s, r, nd, p, q, o, d, pa, st, hw, dc, x⟩ = ok
  unfold Fct.l
  simp only [List.cons.injEq, and_true, true_and]
  constructor
  · rintro ⟨⟨h1, h2, g3, g4, g5, g6, g7, g8, g9, g10, g11⟩, h3⟩
    exact ⟨⟨g3.symm, g4.symm, g5.symm, g6.symm, g7.symm, g8.symm, g9.symm, g10.symm, g11.symm⟩, h1, .inr (zero_x (by simpa using h2) h3)⟩
  · rintro ⟨⟨g3, g4, g5, g6, g7, g8, g9, g10, g11⟩, h1, h2⟩
    obtain rfl := h2.resolve_left (by omega)
    exact ⟨⟨h1, by simp, g3.symm, g4.symm, g5.symm, g6.symm, g7.symm, g8.symm, g9.symm, g10.symm, g11.symm⟩, by simp [cmpI]⟩
theorem rr_5 (n s r nd p q o d pa st hw dc : Int) (x : Nat) : rightF ⟨5, n, s, r, nd, p, q, o, d, pa, st, hw, dc, x⟩ = true ↔ hidOk ⟨5, n, s, r, nd, p, q, o, d, pa, st, hw, dc, x⟩ ∧ plainO ⟨5, n, s, r, nd, p, q, o, d, pa, st, hw, dc, x⟩ = true ∧ ((5 : Int) = 1 ∨ x = 0) := by
  rw [hid_5]
  have hp : plainP ⟨5, n, s, r, nd, p, q, o, d, pa, st, hw, dc, x⟩ = ⟨5, n, s, 0, 0, 0, 0, 0, 0, 0, 0, 0, 0, 0⟩ := rfl
  unfold rightF sameF
  rw [hp, Bool.and_eq_true, Bool.and_eq_true, Bool.and_eq_true, eqF_iff]
  generalize plainO ⟨5, n, s, r, nd, p, q, o, d, pa, st, hw, dc, x⟩ = ok
  unfold Fct.l
  simp only [List.cons.injEq, and_true, true_and]
  constructor
  · rintro ⟨⟨h1, h2, g3, g4, g5, g6, g7, g8, g9, g10, g11, g12⟩, h3⟩
    exact ⟨⟨g3.symm, g4.symm, g5.symm, g6.symm, g7.symm, g8.symm, g9.symm, g10.symm, g11.symm, g12.symm⟩, h1, .inr (zero_x (by simpa using h2) h3)⟩
  · rintro ⟨⟨g3, g4, g5, g6, g7, g8, g9, g10, g11, g12⟩, h1, h2⟩
    obtain rfl := h2.resolve_left (by omega)
    exact ⟨⟨h1, by simp, g3.symm, g4.symm, g5.symm, g6.symm, g7.symm, g8.symm, g9.symm, g10.symm, g11.symm, g12.symm⟩, by simp [cmpI]⟩
theorem rr_6 (n s r nd p q o d pa st hw dc : Int) (x : Nat) : rightF ⟨6, n, s, r, nd, p, q, o, d, pa, st, hw, dc, x⟩ = true ↔ hidOk ⟨6, n, s, r, nd, p, q, o, d, pa, st, hw, dc, x⟩ ∧ plainO ⟨6, n, s, r, nd, p, q, o, d, pa, st, hw, dc, x⟩ = true ∧ ((6 : Int) = 1 ∨ x = 0) := by
  rw [hid_6]
  have hp : plainP ⟨6, n, s, r, nd, p, q, o, d, pa, st, hw, dc, x⟩ = ⟨6, n, s, 0, 0, p, q, 0, 0, 0, 0, 0, 0, 0⟩ := rfl
  unfold rightF sameF
  rw [hp, Bool.and_eq_true, Bool.and_eq_true, Bool.and_eq_true, eqF_iff]
  generalize plainO ⟨6, n, s, r, nd, p, q, o, d, pa, st, hw, dc, x⟩ = ok
  unfold Fct.l
  simp only [List.cons.injEq, and_true, true_and]
  constructor
  · rintro ⟨⟨h1, h2, g3, g4, g7, g8, g9, g10, g11, g12⟩, h3⟩
    exact ⟨⟨g3.symm, g4.symm, g7.symm, g8.symm, g9.symm, g10.symm, g11.symm, g12.symm⟩, h1, .inr (zero_x (by simpa using h2) h3)⟩
  · rintro ⟨⟨g3, g4, g7, g8, g9, g10, g11, g12⟩, h1, h2⟩
    obtain rfl := h2.resolve_left (by omega)
    exact ⟨⟨h1, by simp, g3.symm, g4.symm, g7.symm, g8.symm, g9.symm, g10.symm, g11.symm, g12.symm⟩, by simp [cmpI]⟩
theorem rr_7 (n s r nd p q o d pa st hw dc : Int) (x : Nat) : rightF ⟨7, n, s, r, nd, p, q, o, d, pa, st, hw, dc, x⟩ = true ↔ hidOk ⟨7, n, s, r, nd, p, q, o, d, pa, st, hw, dc, x⟩ ∧ plainO ⟨7, n, s, r, nd, p, q, o, d, pa, st, hw, dc, x⟩ = true ∧ ((7 : Int) = 1 ∨ x = 0) := by
  rw [hid_7]
  have hp : plainP ⟨7, n, s, r, nd, p, q, o, d, pa, st, hw, dc, x⟩ = ⟨7, 0, 0, r, 0, p, 0, 0, 0, 0, 0, 0, 0, 0⟩ := rfl
  unfold rightF sameF
  rw [hp, Bool.and_eq_true, Bool.and_eq_true, Bool.and_eq_true, eqF_iff]
  generalize plainO ⟨7, n, s, r, nd, p, q, o, d, pa, st, hw, dc, x⟩ = ok
  unfold Fct.l
  simp only [List.cons.injEq, and_true, true_and]
  constructor
  · rintro ⟨⟨h1, h2, g1, g2, g4, g6, g7, g8, g9, g10, g11, g12⟩, h3⟩
    exact ⟨⟨g1.symm, g2.symm, g4.symm, g6.symm, g7.symm, g8.symm, g9.symm, g10.symm, g11.symm, g12.symm⟩, h1, .inr (zero_x (by simpa using h2) h3)⟩
  · rintro ⟨⟨g1, g2, g4, g6, g7, g8, g9, g10, g11, g12⟩, h1, h2⟩
    obtain rfl := h2.resolve_left (by omega)
    exact ⟨⟨h1, by simp, g1.symm, g2.symm, g4.symm, g6.symm, g7.symm, g8.symm, g9.symm, g10.symm, g11.symm, g12.symm⟩, by simp [cmpI]⟩
theorem rr_8 (n s r nd p q o d pa st hw dc : Int) (x : Nat) : rightF ⟨8, n, s, r, nd, p, q, o, d, pa, st, hw, dc, x⟩ = true ↔ hidOk ⟨8, n, s, r, nd, p, q, o, d, pa, st, hw, dc, x⟩ ∧ plainO ⟨8, n, s, r, nd, p, q, o, d, pa, st, hw, dc, x⟩ = true ∧ ((8 : Int) = 1 ∨ x = 0) := by
  rw [hid_8]
  have hp : plainP ⟨8, n, s, r, nd, p, q, o, d, pa, st, hw, dc, x⟩ = ⟨8, 0, 0, 0, 0, p, 0, 0, 0, 0, st, hw, 0, 0⟩ := rfl
  unfold rightF sameF
  rw [hp, Bool.and_eq_true, Bool.and_eq_true, Bool.and_eq_true, eqF_iff]
  generalize plainO ⟨8, n, s, r, nd, p, q, o, d, pa, st, hw, dc, x⟩ = ok
  unfold Fct.l
  simp only [List.cons.injEq, and_true, true_and]
  constructor
  · rintro ⟨⟨h1, h2, g1, g2, g3, g4, g6, g7, g8, g9, g12⟩, h3⟩
    exact ⟨⟨g1.symm, g2.symm, g3.symm, g4.symm, g6.symm, g7.symm, g8.symm, g9.symm, g12.symm⟩, h1, .inr (zero_x (by simpa using h2) h3)⟩
  · rintro ⟨⟨g1, g2, g3, g4, g6, g7, g8, g9, g12⟩, h1, h2⟩
    obtain rfl := h2.resolve_left (by omega)
    exact ⟨⟨h1, by simp, g1.symm, g2.symm, g3.symm, g4.symm, g6.symm, g7.symm, g8.symm, g9.symm, g12.symm⟩, by simp [cmpI]⟩
theorem rr_iff (f : Fct) : rightF f = true ↔ hidOk f ∧ plainO f = true ∧ (f.k = 1 ∨ f.x = 0) := by
  obtain ⟨k, n, s, r, nd, p, q, o, d, pa, st, hw, dc, x⟩ := f
  by_cases hk1 : k = 1
  · subst hk1; exact rr_1 n s r nd p q o d pa st hw dc x
  by_cases hk2 : k = 2
  · subst hk2; exact rr_2 n s r nd p q o d pa st hw dc x
  by_cases hk3 : k = 3
  · subst hk3; exact rr_3 n s r nd p q o d pa st hw dc x
  by_cases hk4 : k = 4
  · subst hk4; exact rr_4 n s r nd p q o d pa st hw dc x
  by_cases hk5 : k = 5
  · subst hk5; exact rr_5 n s r nd p q o d pa st hw dc x
  by_cases hk6 : k = 6
  · subst hk6; exact rr_6 n s r nd p q o d pa st hw dc x
  by_cases hk7 : k = 7
  · subst hk7; exact rr_7 n s r nd p q o d pa st hw dc x
  by_cases hk8 : k = 8
  · subst hk8; exact rr_8 n s r nd p q o d pa st hw dc x
  have h0 : plainO ⟨k, n, s, r, nd, p, q, o, d, pa, st, hw, dc, x⟩ = false := by unfold plainO; simp only [hk1, hk2, hk3, hk4, hk5, hk6, hk7, hk8, if_false]
  unfold rightF
  rw [h0]
  simp
end Go.Proofs.YtjklcbdlfmmllaaGreatDoor
