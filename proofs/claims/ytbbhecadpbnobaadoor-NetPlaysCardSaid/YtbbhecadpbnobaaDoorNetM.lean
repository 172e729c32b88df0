/-
  NetM: a net in memory; what its methods read.
-/
import Derived.Test.YtbbhecadpbnobaaDoorNetIns
import Derived.Test.YtbbhecadpbnobaaDoorNetMap
namespace Go.Proofs.YtbbhecadpbnobaaDoor
open Go.RowKit

/-- a letter: from, to, data -/
abbrev Lt := Int × Int × List UInt8
structure NSt where
  nodes : Int
  ls : List Lt
  cuts : Int → Int → Bool
  lost : Int
/-- the cells of letters, each with the value of its data -/
def cel (xs : List (Lt × Value)) : List Value := xs.flatMap fun x => [.int .i64 x.1.1, .int .i64 x.1.2.1, x.2]
theorem cel_cons (x : Lt × Value) (xs : List (Lt × Value)) : cel (x :: xs) = [.int .i64 x.1.1, .int .i64 x.1.2.1, x.2] ++ cel xs := by unfold cel; rw [List.flatMap_cons]
theorem cel_app (xs ys : List (Lt × Value)) : cel (xs ++ ys) = cel xs ++ cel ys := by unfold cel; rw [List.flatMap_append]
theorem cel_len : ∀ xs : List (Lt × Value), (cel xs).length = xs.length * 3
  | [] => rfl
  | x :: xs => by rw [cel_cons, List.length_append, cel_len xs, List.length_cons]; simp; omega
theorem cel_take (xs : List (Lt × Value)) (i : Nat) (hi : i ≤ xs.length) : (cel xs).take (3 * i) = cel (xs.take i) := by
  have h := cel_app (xs.take i) (xs.drop i)
  rw [List.take_append_drop] at h
  have hl : (cel (xs.take i)).length = 3 * i := by rw [cel_len, List.length_take]; omega
  rw [h, List.take_append_of_le_length (by omega), List.take_of_length_le (by omega)]
theorem cel_drop (xs : List (Lt × Value)) (i : Nat) (hi : i ≤ xs.length) : (cel xs).drop (3 * i) = cel (xs.drop i) := by
  have h := cel_app (xs.take i) (xs.drop i)
  rw [List.take_append_drop] at h
  have hl : (cel (xs.take i)).length = 3 * i := by rw [cel_len, List.length_take]; omega
  rw [h, List.drop_append, hl, Nat.sub_self, List.drop_zero, List.drop_of_length_le (by omega), List.nil_append]
theorem cel_cut (xs : List (Lt × Value)) (i : Nat) (hi : i < xs.length) : cutAt (cel xs) i = cel (xs.eraseIdx i) := by
  unfold cutAt
  rw [cel_take xs i (by omega), show 3 * i + 3 = 3 * (i + 1) by omega, cel_drop xs (i + 1) (by omega), ← cel_app, List.eraseIdx_eq_take_drop_succ]
theorem cel_put (xs : List (Lt × Value)) (i : Nat) (hi : i ≤ xs.length) (x : Lt × Value) : putAt (cel xs) [.int .i64 x.1.1, .int .i64 x.1.2.1, x.2] i = cel (xs.take i ++ x :: xs.drop i) := by
  unfold putAt
  rw [cel_take xs i hi, cel_drop xs i hi, cel_app, cel_cons, List.append_assoc]
theorem cel_get (xs : List (Lt × Value)) (i : Nat) (hi : i < xs.length) : (cel xs)[i * 3]? = some (.int .i64 xs[i].1.1) ∧ (cel xs)[i * 3 + 1]? = some (.int .i64 xs[i].1.2.1) ∧ (cel xs)[i * 3 + 2]? = some xs[i].2 := by
  have h := cel_app (xs.take i) (xs.drop i)
  rw [List.take_append_drop, List.drop_eq_getElem_cons hi, cel_cons] at h
  have hl : (cel (xs.take i)).length = i * 3 := by rw [cel_len, List.length_take]; omega
  rw [h]
  refine ⟨?_, ?_, ?_⟩
  all_goals
    rw [List.getElem?_append_right (by omega), List.getElem?_append_left (by simp; omega), hl]
    simp
theorem cel_one {w : World} (xs : List (Lt × Value)) (h : ∀ x ∈ xs, w.ownsRow 0 5 1 x.2 x.1.2.2.length (bvs x.1.2.2)) : ∀ u ∈ cel xs, u.oneCell' = true := by
  intro u hu
  unfold cel at hu
  rw [List.mem_flatMap] at hu
  obtain ⟨x, hx, hu⟩ := hu
  obtain ⟨p, c, hv, _⟩ := owns_rd (h x hx)
  simp only [List.mem_cons, List.not_mem_nil, or_false] at hu
  rcases hu with rfl | rfl | rfl
  · rfl
  · rfl
  · rw [hv]; rfl
/-- THE NET st: block n, its letters' block p, its cuts' block b, of at most c entries -/
structure Nn (w : World) (n b : Nat) (p : Option Nat) (c : Nat) (st : NSt) : Prop where
  ex : ∃ v xs, v.ownBlock = p ∧ xs.map (·.1) = st.ls ∧ Blk w n 70 #[.int .i64 st.nodes, v, .map (some b), .int .i64 st.lost] ∧ w.ownsRow 0 37 3 v xs.length (cel xs) ∧ ∀ x ∈ xs, w.ownsRow 0 5 1 x.2 x.1.2.2.length (bvs x.1.2.2)
  map : MapW w b c st.cuts
def nS (n b : Nat) (p : Option Nat) : List Nat := n :: b :: p.toList
theorem mem_nS {g n b : Nat} {p : Option Nat} : g ∈ nS n b p ↔ g = n ∨ g = b ∨ p = some g := by
  unfold nS
  simp only [List.mem_cons, Option.mem_toList]
theorem Nn.below {w w' : World} {n b : Nat} {p : Option Nat} {c : Nat} {st : NSt} (h : Nn w n b p c st) (k : Below w.heap.size w w') : Nn w' n b p c st := by
  obtain ⟨⟨v, xs, h1, h2, h3, h4, h5⟩, h6⟩ := h
  refine ⟨⟨v, xs, h1, h2, h3.below k h3.lt, owns_below h4 k, fun x hx => owns_below (h5 x hx) k⟩, ?_⟩
  obtain ⟨D, ⟨es, clock, hb, F, hs, hD⟩, h7⟩ := h6
  exact ⟨D, ⟨es, clock, (k.block b (Array.getElem?_eq_some_iff.1 hb).1).trans hb, F, hs, hD⟩, h7⟩
theorem has_any (w : World) (n b : Nat) (p : Option Nat) (c : Nat) (st : NSt) (h : Nn w n b p c st) (i : Int) :
    Calls Tryd.prog 23 #[.pointer (some ⟨n, 0, none⟩), .int .i64 i] w fun e w' => e = .returned (.bool (decide (0 ≤ i) && decide (i < st.nodes))) ∧ w' = w := by
  obtain ⟨v, xs, _, _, hb, _⟩ := h.ex
  have c0 := (hb.cell 0).trans rfl
  clear h hb
  by_cases h0 : 0 ≤ i
  · have d0 : decide (0 ≤ i) = true := by rw [decide_eq_true_eq]; exact h0
    go_enter Tryd.func23, Tryd.ntmps23
    go_wp2_with fail
    go_ret
    exact ⟨by rw [d0, Bool.true_and]; rfl, rfl⟩
  · have d0 : decide (0 ≤ i) = false := by rw [decide_eq_false_iff_not]; exact h0
    go_enter Tryd.func23, Tryd.ntmps23
    go_wp2_with fail
    go_ret
    exact ⟨rfl, rfl⟩
theorem there_any (w : World) (n b : Nat) (p : Option Nat) (c : Nat) (st : NSt) (h : Nn w n b p c st) (i : Int) :
    Calls Tryd.prog 25 #[.pointer (some ⟨n, 0, none⟩), .int .i64 i] w fun e w' => e = .returned (.bool (decide (0 ≤ i) && decide (i < (st.ls.length : Int)))) ∧ w' = w := by
  obtain ⟨v, xs, _, hm, hb, ho, _⟩ := h.ex
  obtain ⟨q, k, rfl, _⟩ := owns_rd ho
  have hl : xs.length = st.ls.length := by rw [← hm, List.length_map]
  have c1 := (hb.cell 1).trans rfl
  rw [hl] at c1
  clear h hb ho hm hl
  by_cases h0 : 0 ≤ i
  · have d0 : decide (0 ≤ i) = true := by rw [decide_eq_true_eq]; exact h0
    go_enter Tryd.func25, Tryd.ntmps25
    go_wp2_with fail
    go_ret
    exact ⟨by rw [d0, Bool.true_and]; rfl, rfl⟩
  · have d0 : decide (0 ≤ i) = false := by rw [decide_eq_false_iff_not]; exact h0
    go_enter Tryd.func25, Tryd.ntmps25
    go_wp2_with fail
    go_ret
    exact ⟨rfl, rfl⟩
theorem len_any (w : World) (n b : Nat) (p : Option Nat) (c : Nat) (st : NSt) (h : Nn w n b p c st) :
    Calls Tryd.prog 12 #[.pointer (some ⟨n, 0, none⟩)] w fun e w' => e = .returned (.int .i64 (st.ls.length : Int)) ∧ w' = w := by
  obtain ⟨v, xs, _, hm, hb, ho, _⟩ := h.ex
  obtain ⟨q, k, rfl, _⟩ := owns_rd ho
  have hl : xs.length = st.ls.length := by rw [← hm, List.length_map]
  have c1 := (hb.cell 1).trans rfl
  rw [hl] at c1
  clear h hb ho hm hl
  go_enter Tryd.func12, Tryd.ntmps12
  go_wp2_with fail
  go_ret
  exact ⟨rfl, rfl⟩
theorem lost_any (w : World) (n b : Nat) (p : Option Nat) (c : Nat) (st : NSt) (h : Nn w n b p c st) :
    Calls Tryd.prog 20 #[.pointer (some ⟨n, 0, none⟩)] w fun e w' => e = .returned (.int .i64 st.lost) ∧ w' = w := by
  obtain ⟨v, xs, _, hm, hb, ho, _⟩ := h.ex
  have c1 := (hb.cell 3).trans rfl
  clear h hb ho hm
  go_enter Tryd.func20, Tryd.ntmps20
  go_wp2_with fail
  go_ret
  exact ⟨rfl, rfl⟩
/-- a letter's own copy -/
theorem copied_any (w : World) (f t : Int) (v : Value) (l : List UInt8) (hl : l.length ≤ 1000000) (hv : Byt w v l) :
    Calls Tryd.prog 37 #[.agg #[.int .i64 f, .int .i64 t, v]] w fun e w' => ∃ u, e = .returned (.agg #[.int .i64 f, .int .i64 t, u]) ∧ w'.ownsRow w.heap.size 5 1 u l.length (bvs l) ∧ Below w.heap.size w w' := by
  obtain ⟨q, k, rfl, _⟩ := id hv
  have HV := Lib.hid hv
  have hb1 := Blk.new w 37 #[.int .i64 f, .int .i64 t, .slice q l.length k]
  clear hv
  go_enter Tryd.func37, Tryd.ntmps37
  go_wp2_with fail
  refine (clone_any _ l _ (by omega) (HV.out.keep (Below.keeps (below_alloc (below_alloc1 w _) _)))).mono ?_
  rintro e w3 ⟨u, rfl, ho, hb3⟩
  have hbx := (hb1.below (below_alloc1 _ (.cells #[.int .i64 0, .int .i64 0, .slice none 0 0] 37)) (Blk.lt hb1)).below hb3 (by simp; omega)
  have hby := (Blk.new (w.alloc (.cells #[.int .i64 f, .int .i64 t, .slice q l.length k] 37)) 37 #[.int .i64 0, .int .i64 0, .slice none 0 0]).below hb3 (by simp)
  have hsz : (w.alloc (.cells #[.int .i64 f, .int .i64 t, .slice q l.length k] 37)).heap.size = w.heap.size + 1 := by simp
  rw [hsz] at hby
  have hbw : Below w.heap.size w w3 := (below_alloc (below_alloc1 w _) _).trans (hb3.mono (by simp; omega))
  have HO := Lib.hid (show w3.ownsRow w.heap.size 5 1 u l.length (bvs l) from owns_lower ho (by simp; omega))
  have HBW := Lib.hid hbw
  have x0 := (hbx.cell 0).trans rfl
  have x1 := (hbx.cell 1).trans rfl
  have x2 := (hbx.cell 2).trans rfl
  have y0 := (hby.cell 0).trans rfl
  have y1 := (hby.cell 1).trans rfl
  have y2 := (hby.cell 2).trans rfl
  have f2 := hbx.frozen 2
  have f3 := hby.frozen 0
  have f4 := hby.frozen 1
  have f5 := hby.frozen 2
  have HBX := Lib.hid hbx
  have HBY := Lib.hid hby
  clear hbx hby hsz hbw hb3
  obtain ⟨q3, k3, rfl, _⟩ := owns_rd ho
  clear ho hb1
  go_wp2_with fail
  have h1 := HBX.out.set_ 2 (.slice q3 l.length k3)
  have k1 : Only w.heap.size w3 (w3.setCell ⟨w.heap.size, 2, none⟩ (.slice q3 l.length k3)) := (Only.refl _ _).set_ 2 _
  have h2 := k1.blk HBY.out (by omega)
  have h3 := ((h2.set_ 0 (.int .i64 f)).set_ 1 (.int .i64 t)).set_ 2 (.slice q3 l.length k3)
  have k2 := (((Only.refl (w.heap.size + 1) (w3.setCell ⟨w.heap.size, 2, none⟩ (.slice q3 l.length k3))).set_ 0 (.int .i64 f)).set_ 1 (.int .i64 t)).set_ 2 (.slice q3 l.length k3)
  have ho4 := k2.owns h2 (k1.owns HBX.out HO.out (by decide)) (by decide)
  have hb4 := (HBW.out.trans (k1.below (Nat.le_refl _))).trans (k2.below (B := w.heap.size) (by omega))
  have z0 := (h3.cell 0).trans rfl
  have z1 := (h3.cell 1).trans rfl
  have z2 := (h3.cell 2).trans rfl
  generalize (((w3.setCell ⟨w.heap.size, 2, none⟩ (.slice q3 l.length k3)).setCell ⟨w.heap.size + 1, 0, none⟩ (.int .i64 f)).setCell ⟨w.heap.size + 1, 1, none⟩ (.int .i64 t)).setCell ⟨w.heap.size + 1, 2, none⟩ (.slice q3 l.length k3) = w4 at *
  refine bodyPost_ret (v := .agg #[.int .i64 f, .int .i64 t, .slice q3 l.length k3]) (by simp [results, Tryd.results37, go_sem, z0, z1, z2]) rfl ?_
  exact ⟨_, rfl, ho4, hb4⟩
end Go.Proofs.YtbbhecadpbnobaaDoor
