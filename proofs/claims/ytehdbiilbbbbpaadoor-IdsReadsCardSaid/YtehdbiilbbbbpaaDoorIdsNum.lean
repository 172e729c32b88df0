/-
  IdsNum: the walk of the document's Numbers.
-/
import Derived.Test.YtehdbiilbbbbpaaDoorIdsRead2
namespace Go.Proofs.YtehdbiilbbbbpaaDoor
open Go.RowKit Go.Extern.Stop Go.Stop Go.Extern

theorem readL_count : ∀ (pat s : List UInt8) (l : List Nat) (t : List UInt8), readL pat s = some (l, t) → l.length = pat.count 35
  | [], s, l, t, h => by
    simp [readL] at h
    simp [← h.1]
  | c :: ps, s, l, t, h => by
    by_cases hc : c = 35
    · subst hc
      rw [readL_hash] at h
      split at h
      · rw [Option.map_eq_some_iff] at h
        obtain ⟨p, hp, he⟩ := h
        have := readL_count ps _ p.1 p.2 hp
        cases he
        simp [this]
      · cases h
    · cases s with
      | nil => rw [readL_nil c ps hc] at h; cases h
      | cons x xs =>
        rw [readL_sign c ps hc] at h
        split at h
        · have := readL_count ps xs l t h
          simp [this, hc]
        · cases h
/-- are all numbers below their limits? -/
def below : List Nat → List Nat → Bool
  | n :: l, m :: ms => decide (n < m) && below l ms
  | _, _ => true
def numsX (pat : List UInt8) (lims : List Nat) (s : List UInt8) : Except Nat (List Nat) :=
  match readL pat s with
  | some (l, []) => if below l lims = true then .ok l else .error 0
  | _ => .error 3
theorem below_iff : ∀ (l ms : List Nat), below l ms = true ↔ ∀ j (h : j < l.length) (h2 : j < ms.length), l[j] < ms[j]
  | [], ms => by simp [below]
  | n :: l, [] => by simp [below]
  | n :: l, m :: ms => by
    unfold below
    rw [Bool.and_eq_true, decide_eq_true_eq, below_iff l ms]
    constructor
    · rintro ⟨h1, h2⟩ j hj hj2
      cases j with
      | zero => exact h1
      | succ j => exact h2 j (by simpa using hj) (by simpa using hj2)
    · intro h
      exact ⟨h 0 (by simp) (by simp), fun j hj hj2 => h (j + 1) (by simpa using hj) (by simpa using hj2)⟩
def NumsR (x : Except Nat (List Nat)) (w : World) (e : Ending) (w' : World) : Prop :=
  Below w.heap.size w w' ∧ ((∃ u l, x = .ok l ∧ e = .returned (.tuple #[u, .int .i64 0]) ∧ Iv w' u (l.map fun n : Nat => (n : Int))) ∨ ∃ n : Nat, x = .error n ∧ e = .returned (.tuple #[.slice none 0 0, .int .i64 ((n + 1 : Nat) : Int)]))
theorem nums_none {pat s : List UInt8} {lims : List Nat} (h : ∀ l, readL pat s ≠ some (l, [])) : numsX pat lims s = .error 3 := by
  unfold numsX
  split
  · rename_i l he
    exact absurd he (h l)
  · rfl
theorem nums_some {pat s : List UInt8} {lims l : List Nat} (h : readL pat s = some (l, [])) : numsX pat lims s = if below l lims = true then .ok l else .error 0 := by
  unfold numsX
  rw [h]
set_option maxRecDepth 20000 in
set_option maxHeartbeats 2000000 in
theorem numbers_any (s pat : List UInt8) (lims : List Nat) (v : Value) (hs : s.length ≤ 1000) (hp : pat.length ≤ 100) (hc : pat.count 35 = lims.length) (w : World) (hv : Iv w v (lims.map fun n : Nat => (n : Int))) :
    Calls Tryd.prog 23 #[.string (bs s), .string (bs pat), v] w (NumsR (numsX pat lims s) w) := by
  have HR := Lib.hid (read_any s pat hs hp w)
  obtain ⟨p, cap, rfl, h1, h2, h3⟩ := hv
  have H3 := Lib.hid h3
  have hll : lims.length ≤ 100 := by have := List.count_le_length (a := (35 : UInt8)) (l := pat); omega
  rw [List.length_map] at h1
  simp only [List.length_map]
  clear h3
  go_enter Tryd.func23, Tryd.ntmps23
  go_wp2_with fail
  refine HR.out.mono ?_
  rintro e w1 ⟨hb, ⟨v, l, ho, rfl, hiv⟩ | ⟨hno, v, rfl⟩⟩
  · have HB := Lib.hid hb
    have hlen := readL_count _ _ _ _ ho
    obtain ⟨q, c, rfl, g1, g2, g3⟩ := hiv
    have G3 := Lib.hid g3
    have HIV := Lib.hid (show Iv w1 (.slice q (l.map fun n : Nat => (n : Int)).length c) (l.map fun n : Nat => (n : Int)) from ⟨q, c, rfl, g1, g2, g3⟩)
    have HO := Lib.hid ho
    have H31 := Lib.hid (H3.out.below hb)
    rw [List.length_map] at g1 HIV
    simp only [List.length_map]
    have HLEN := Lib.hid (hlen.trans hc)
    clear hb ho g3 hlen hc
    go_wp2_with fail
    go_loopw [22] (fun i wx => ∃ k : Nat, k ≤ l.length ∧ i = .int .i64 k ∧ (∀ j (h : j < l.length) (h2 : j < lims.length), j < k → l[j] < lims[j]) ∧ w1 = wx) (fun i _ => l.length - (intOf i).toNat)
    case atStart => exact ⟨0, by omega, rfl, fun j _ _ h => absurd h (by omega), rfl⟩
    case round =>
      obtain ⟨k, hk, rfl, hall, rfl⟩ := hrel
      by_cases hlt : k < l.length
      · have hk2 : k < lims.length := by rw [← HLEN.out]; exact hlt
        obtain ⟨b1, o1, rfl, c1⟩ := iv_cell G3.out (show k < (l.map fun n : Nat => (n : Int)).length by simpa using hlt)
        obtain ⟨b2, o2, rfl, c2⟩ := iv_cell H31.out (show k < (lims.map fun n : Nat => (n : Int)).length by simpa using hk2)
        rw [List.getElem_map] at c1 c2
        by_cases hm : l[k] < lims[k]
        · have HA := Lib.hid (show ∀ j (h : j < l.length) (h2 : j < lims.length), j < k + 1 → l[j] < lims[j] from fun j h h2 hj => by
            by_cases e : j = k
            · subst e; exact hm
            · exact hall j h h2 (by omega))
          have d1 : decide ((lims[k] : Int) ≤ (l[k] : Int)) = false := decide_eq_false (by omega)
          have d2 : decide (lims[k] ≤ l[k]) = false := decide_eq_false (by omega)
          clear hall hm
          generalize l[k] = A at *
          generalize lims[k] = M at *
          go_wp2_with fail
          go_roundw
          case rel => exact ⟨k + 1, by omega, by simp, HA.out, by trivial⟩
          all_goals (simp [intOf]; try omega)
        · have HX := Lib.hid (show numsX pat lims s = .error 0 by
            rw [nums_some HO.out, if_neg (fun h => hm ((below_iff _ _).1 h k hlt hk2))])
          have d1 : decide ((lims[k] : Int) ≤ (l[k] : Int)) = true := decide_eq_true (by omega)
          have d2 : decide (lims[k] ≤ l[k]) = true := decide_eq_true (by omega)
          clear hall hm
          generalize l[k] = A at *
          generalize lims[k] = M at *
          go_wp2_with fail
          go_ret2
          exact ⟨HB.out, .inr ⟨0, HX.out, rfl⟩⟩
      · obtain rfl : k = l.length := by omega
        have HX := Lib.hid (show numsX pat lims s = .ok l by
          rw [nums_some HO.out, if_pos ((below_iff _ _).2 (fun j h h2 => hall j h h2 h))])
        clear hall
        go_wp2_with fail
        go_ret2
        exact ⟨HB.out, .inl ⟨_, l, HX.out, rfl, HIV.out⟩⟩
  · have HB := Lib.hid hb
    have HX := Lib.hid (nums_none (lims := lims) hno)
    clear hb hno
    go_wp2_with fail
    go_ret2
    exact ⟨HB.out, .inr ⟨3, HX.out, rfl⟩⟩
end Go.Proofs.YtehdbiilbbbbpaaDoor
