/-
  NetR: the document's net in memory; what its methods read; a row that is appended to within one expression.
-/
import Derived.Test.YtbbhecadpbnobaaDoorNetC
namespace Go.Proofs.YtbbhecadpbnobaaDoor
open Go.RowKit
attribute [local go_sem] bs_toList bs_size

/-- the document's letters, each with its string -/
def toS (ls : List Lt) : List (Lt × Value) := ls.map fun x => (x, .string (bs x.2.2))
theorem toS_len (ls : List Lt) : (toS ls).length = ls.length := by simp [toS]
theorem toS_get {ls : List Lt} {i : Nat} (hi : i < ls.length) : (toS ls)[i]'(by rw [toS_len]; exact hi) = (ls[i], .string (bs ls[i].2.2)) := by simp [toS]
theorem toS_app (a b : List Lt) : toS (a ++ b) = toS a ++ toS b := by simp [toS]
theorem toS_erase (a : List Lt) (i : Nat) : toS (a.eraseIdx i) = (toS a).eraseIdx i := by
  simp only [toS, List.eraseIdx_eq_take_drop_succ, List.map_append, List.map_take, List.map_drop]
theorem toS_take (a : List Lt) (i : Nat) : toS (a.take i) = (toS a).take i := by simp only [toS, List.map_take]
theorem toS_drop (a : List Lt) (i : Nat) : toS (a.drop i) = (toS a).drop i := by simp only [toS, List.map_drop]
theorem cels_one (ls : List Lt) : ∀ u ∈ cel (toS ls), u.oneCell' = true := by
  intro u hu
  unfold cel at hu
  rw [List.mem_flatMap] at hu
  obtain ⟨x, hx, hu⟩ := hu
  obtain ⟨y, _, rfl⟩ := List.mem_map.1 hx
  simp only [List.mem_cons, List.not_mem_nil, or_false] at hu
  rcases hu with rfl | rfl | rfl <;> rfl
/-- one row of the cuts -/
def cutRow (k : Nat) (f : Int → Int → Bool) (i : Nat) : Array Value := ((List.range k).map fun (j : Nat) => Value.bool (f (i : Int) (j : Int))).toArray
theorem cutRow_get {k : Nat} {f : Int → Int → Bool} {i j : Nat} (hj : j < k) : (cutRow k f i)[j]? = some (.bool (f (i : Int) (j : Int))) := by simp [cutRow, hj]
theorem cutRow_len (k : Nat) (f : Int → Int → Bool) (i : Nat) : (cutRow k f i).size = k := by simp [cutRow]
theorem cutRow_set {k : Nat} {f : Int → Int → Bool} {i j : Nat} (x : Bool) : (cutRow k f i).setIfInBounds j (.bool x) = cutRow k (setW f i j x) i := by
  apply Array.ext_getElem?
  intro n
  by_cases hn : n < k
  · rw [cutRow_get hn]
    by_cases h : n = j
    · subst h
      rw [Array.getElem?_setIfInBounds_self_of_lt (by rw [cutRow_len]; exact hn)]
      simp [setW]
    · rw [Array.getElem?_setIfInBounds_ne (by omega), cutRow_get hn]
      unfold setW
      rw [if_neg (by omega)]
  · rw [Array.getElem?_eq_none (by rw [Array.size_setIfInBounds, cutRow_len]; omega), Array.getElem?_eq_none (by rw [cutRow_len]; omega)]
theorem cutRow_other {k : Nat} {f : Int → Int → Bool} {i i' j : Nat} (x : Bool) (h : i' ≠ i) : cutRow k (setW f i j x) i' = cutRow k f i' := by
  unfold cutRow
  congr 1
  apply List.map_congr_left
  intro n _
  simp only [setW]
  rw [if_neg]
  intro h2
  omega
/-- the rows' slices -/
def rowVs (k : Nat) (R : List Nat) : List Value := R.map fun r => .slice (some ⟨r, 0, none⟩) k k
theorem rowVs_len (k : Nat) (R : List Nat) : (rowVs k R).length = R.length := by simp [rowVs]
/-- THE DOCUMENT'S NET st: block m, its letters' block q, the cuts' rows' blocks R -/
structure Mn (w : World) (m : Nat) (q : Option Nat) (R : List Nat) (st : NSt) : Prop where
  ex : ∃ vL vC, vL.ownBlock = q ∧ Blk w m 60 #[.int .i64 st.nodes, vL, vC, .int .i64 st.lost] ∧ w.ownsRow 0 62 3 vL st.ls.length (cel (toS st.ls)) ∧ w.ownsRow 0 23 1 vC R.length (rowVs R.length R)
  len : st.nodes = (R.length : Int)
  nd : R.Nodup
  row : ∀ i (hi : i < R.length), Blk w R[i] 4 (cutRow R.length st.cuts i)
def mS (m : Nat) (q : Option Nat) (R : List Nat) : List Nat := m :: (R ++ q.toList)
theorem mem_mS {g m : Nat} {q : Option Nat} {R : List Nat} : g ∈ mS m q R ↔ g = m ∨ g ∈ R ∨ q = some g := by
  unfold mS
  simp only [List.mem_cons, List.mem_append, Option.mem_toList]
theorem Mn.below {w w' : World} {m : Nat} {q : Option Nat} {R : List Nat} {st : NSt} (h : Mn w m q R st) (k : Below w.heap.size w w') : Mn w' m q R st := by
  obtain ⟨⟨vL, vC, h1, h2, h3, h4⟩, h5, h6, h7⟩ := h
  exact ⟨⟨vL, vC, h1, h2.below k h2.lt, owns_below h3 k, owns_below h4 k⟩, h5, h6, fun i hi => (h7 i hi).below k (h7 i hi).lt⟩
/-- blocks of other types turn: the document's net stays -/
theorem Mn.beside {S : List Nat} {w w' : World} {m : Nat} {q : Option Nat} {R : List Nat} {st : NSt} (h : Mn w m q R st) (k : But S w w')
    (hS : ∀ g T cs, Blk w g T cs → T = 60 ∨ T = 62 ∨ T = 23 → S.contains g = false) (hR : ∀ g ∈ R, S.contains g = false) : Mn w' m q R st := by
  obtain ⟨⟨vL, vC, h1, h2, h3, h4⟩, h5, h6, h7⟩ := h
  have ho : ∀ (base size n : Nat) (e : TypeId) (u : Value) (ys : List Value), w.ownsRow base e size u n ys → e = 60 ∨ e = 62 ∨ e = 23 → w'.ownsRow base e size u n ys := fun base size n e u ys ho he => k.owns2 (fun g hg => by
    rcases ho.2 with ⟨h0, _⟩ | ⟨g9, cap, cur, h0, _, hh, _⟩
    · rw [h0] at hg; cases hg
    · rw [h0] at hg
      cases hg
      exact hS _ _ _ (show Blk w g9 e cur from hh) he) ho
  exact ⟨⟨vL, vC, h1, k.blk h2 (hS _ _ _ h2 (.inl rfl)), ho _ _ _ _ _ _ h3 (.inr (.inl rfl)), ho _ _ _ _ _ _ h4 (.inr (.inr rfl))⟩, h5, h6, fun i hi => k.blk (h7 i hi) (hR _ (List.getElem_mem hi))⟩
theorem Mn.types {w : World} {m : Nat} {q : Option Nat} {R : List Nat} {st : NSt} (h : Mn w m q R st) : ∀ g ∈ mS m q R, ∃ T cs, Blk w g T cs ∧ (T = 60 ∨ T = 62 ∨ T = 4) := by
  obtain ⟨⟨vL, vC, h1, h2, h3, h4⟩, h5, h6, h7⟩ := h
  intro g hg
  rcases mem_mS.1 hg with rfl | hg | hg
  · exact ⟨_, _, h2, .inl rfl⟩
  · obtain ⟨i, hi, rfl⟩ := List.getElem_of_mem hg
    exact ⟨_, _, h7 i hi, .inr (.inr rfl)⟩
  · rcases h3.2 with ⟨h0, _⟩ | ⟨g9, cap, cur, h0, _, hh, _⟩
    · rw [← h1, h0] at hg; cases hg
    · rw [← h1, h0] at hg
      cases hg
      exact ⟨_, cur, hh, .inr (.inl rfl)⟩
theorem Mn.lt {w : World} {m : Nat} {q : Option Nat} {R : List Nat} {st : NSt} (h : Mn w m q R st) : ∀ g ∈ mS m q R, g < w.heap.size := fun g hg => by
  obtain ⟨_, _, hb, _⟩ := h.types g hg
  exact hb.lt
theorem rhas_any (w : World) (m : Nat) (q : Option Nat) (R : List Nat) (st : NSt) (h : Mn w m q R st) (i : Int) :
    Calls Tryd.prog 43 #[.pointer (some ⟨m, 0, none⟩), .int .i64 i] w fun e w' => e = .returned (.bool (st.has i)) ∧ w' = w := by
  obtain ⟨vL, vC, _, hb, _⟩ := h.ex
  have c0 := (hb.cell 0).trans rfl
  clear h hb
  unfold NSt.has
  by_cases h0 : 0 ≤ i
  · have d0 : decide (0 ≤ i) = true := by rw [decide_eq_true_eq]; exact h0
    go_enter Tryd.func43, Tryd.ntmps43
    go_wp2_with fail
    go_ret
    exact ⟨by rw [d0, Bool.true_and]; rfl, rfl⟩
  · have d0 : decide (0 ≤ i) = false := by rw [decide_eq_false_iff_not]; exact h0
    go_enter Tryd.func43, Tryd.ntmps43
    go_wp2_with fail
    go_ret
    exact ⟨rfl, rfl⟩
theorem rthere_any (w : World) (m : Nat) (q : Option Nat) (R : List Nat) (st : NSt) (h : Mn w m q R st) (i : Int) :
    Calls Tryd.prog 44 #[.pointer (some ⟨m, 0, none⟩), .int .i64 i] w fun e w' => e = .returned (.bool (decide (0 ≤ i) && decide (i < (st.ls.length : Int)))) ∧ w' = w := by
  obtain ⟨vL, vC, _, hb, ho, _⟩ := h.ex
  obtain ⟨p, k, rfl, _⟩ := owns_rd ho
  have c1 := (hb.cell 1).trans rfl
  clear h hb ho
  by_cases h0 : 0 ≤ i
  · have d0 : decide (0 ≤ i) = true := by rw [decide_eq_true_eq]; exact h0
    go_enter Tryd.func44, Tryd.ntmps44
    go_wp2_with fail
    go_ret
    exact ⟨by rw [d0, Bool.true_and]; rfl, rfl⟩
  · have d0 : decide (0 ≤ i) = false := by rw [decide_eq_false_iff_not]; exact h0
    go_enter Tryd.func44, Tryd.ntmps44
    go_wp2_with fail
    go_ret
    exact ⟨rfl, rfl⟩
/-! ### rows that are made within one expression -/
/-- a row of letters of one's own, behind B; an empty one has no room -/
def RowZ (B : Nat) (w : World) (v : Value) (n : Nat) (xs : List Value) : Prop :=
  ∃ g cap cur, v = .slice (some ⟨g, 0, none⟩) n cap ∧ B ≤ g ∧ Blk w g 62 cur ∧ n ≤ cap ∧ cap ≤ maxLen ∧ cur.size = cap * 3 ∧ cur.toList.take (n * 3) = xs ∧ xs.length = n * 3 ∧ (n = 0 → cap = 0)
/-- nothing below B turns, and no row of at most one letter -/
def Rz (B : Nat) (w w' : World) : Prop := Below B w w' ∧ w.heap.size ≤ w'.heap.size ∧ ∀ g cs, Blk w g 62 cs → cs.size ≤ 3 → Blk w' g 62 cs
theorem Rz.of_below {B : Nat} {w w' : World} (h : Below w.heap.size w w') (hB : B ≤ w.heap.size) : Rz B w w' := ⟨h.mono hB, h.size, fun _ _ hb _ => hb.below h hb.lt⟩
theorem RowZ.own {B : Nat} {w : World} {v : Value} {n : Nat} {xs : List Value} (h : RowZ B w v n xs) : w.ownsRow B 62 3 v n xs := by
  obtain ⟨g, cap, cur, rfl, h1, h2, h3, h4, h5, h6, h7, _⟩ := h
  exact ⟨h7, .inr ⟨g, cap, cur, rfl, h1, h2, h3, h4, h5, h6⟩⟩
theorem RowZ.of_own {B : Nat} {w : World} {v : Value} {n : Nat} {xs : List Value} (h : w.ownsRow B 62 3 v n xs) (hn : 0 < n) : RowZ B w v n xs := by
  rcases h.2 with ⟨_, h0⟩ | ⟨g, cap, cur, rfl, h1, h2, h3, h4, h5, h6⟩
  · omega
  · exact ⟨g, cap, cur, rfl, h1, h2, h3, h4, h5, h6, h.1, fun h0 => by omega⟩
theorem let12 : (Tryd.prog.info? 62).map (fun i => (i.zero, i.size, i.bytes)) = some (some (.agg #[.int .i64 0, .int .i64 0, .string ⟨#[]⟩]), 3, 32) := by kernel_rfl
theorem run_appZ {w : World} (B : Nat) (ty : TypeId) (v : Value) (n : Nat) (xs : List Value) (hz : RowZ B w v n xs)
    (p : Option Addr) (m c : Nat) (news : List Value) (hl : news.length = m * 3) (hr : Rd w p news) (h1 : ∀ u ∈ news, u.oneCell' = true) (h63 : n + m ≤ 1000) (hB : B ≤ w.heap.size) :
    ∃ v' w', (Builtin.append_ #[57, 57] ty #[v, .slice p m c]).run Tryd.prog w = .ok v' w' ∧ RowZ B w' v' (n + m) (xs ++ news) ∧ Rz B w w' := by
  obtain ⟨i0, hi0, hz0, hz1, hz2⟩ := info_parts let12
  have hmax : n + m ≤ maxLen := by unfold maxLen; omega
  by_cases hm : m = 0
  · subst hm
    have hn : news = [] := List.length_eq_zero_iff.1 (by omega)
    subst hn
    obtain ⟨v', w', hrun, h2, h3, _⟩ := run_appAt (P := Tryd.prog) B 57 ty 62 i0 _ 3 32 Tryd.underlying57 hi0 hz0 hz1 hz2 rfl (by decide) v n xs hz.own p 0 c [] rfl (.inl rfl) (by simp) hmax (by omega) hB
    obtain ⟨g, cap, cur, rfl, g1, g2, g3, g4, g5, g6, g7, g8⟩ := hz
    have hrun2 : (Builtin.append_ #[57, 57] ty #[.slice (some ⟨g, 0, none⟩) n cap, .slice p 0 c]).run Tryd.prog w = .ok (.slice (some ⟨g, 0, none⟩) n cap) w := by
      cases p with
      | none => simp [Builtin.append_, run_underlying Tryd.underlying57, sizeOf, typeInfo, hi0, Builtin.lenOf, Builtin.firstCells, g3, storeCells]
      | some a =>
        have h := run_append_room_cells (P := Tryd.prog) w 57 ty 62 i0 Tryd.underlying57 hi0 g 0 n cap a 0 c [] (by simp) (by simp) (by simp) (by omega) (by simp) (by simp)
        exact h
    rw [hrun2] at hrun
    simp only [Result.ok.injEq] at hrun
    obtain ⟨rfl, rfl⟩ := hrun
    exact ⟨_, _, hrun2, ⟨g, cap, cur, rfl, g1, g2, g3, g4, g5, by simpa using g6, by simpa using g7, g8⟩, Rz.of_below (Below.refl _ _) hB⟩
  · obtain ⟨b, off, rfl, hcell⟩ := hr.has (by rintro rfl; simp at hl; omega)
    obtain ⟨g, cap, cur, rfl, g1, g2, g3, g4, g5, g6, g7, g8⟩ := id hz
    by_cases hroom : n + m ≤ cap
    · obtain ⟨v', w', hrun, h2, h3, _⟩ := run_appAt (P := Tryd.prog) B 57 ty 62 i0 _ 3 32 Tryd.underlying57 hi0 hz0 hz1 hz2 rfl (by decide) _ n xs hz.own _ m c news hl (.inr ⟨b, off, rfl, hcell⟩) h1 hmax (by omega) hB
      refine ⟨v', w', hrun, RowZ.of_own h2 (by omega), (Below.refl _ _ : Below B w w).grown h3 hB (fun k hk => by cases hk; exact g1), h3.size, fun k cs hk hs => ?_⟩
      refine (h3.block k hk.lt fun e => ?_).trans hk
      cases e
      have : cs = cur := by
        have h9 := g2.symm.trans hk
        simpa using h9.symm
      subst this
      have : 2 ≤ cap := by
        have : n ≠ 0 := fun h => by have := g8 h; omega
        omega
      omega
    · obtain ⟨v', w', hrun, h2, h3⟩ := run_append_arg_grows (P := Tryd.prog) w 57 ty 62 i0 _ 3 32 Tryd.underlying57 hi0 hz0 hz1 hz2 rfl (by decide) ⟨g, 0, none⟩ n cap xs g7 (fun j u hu => by
        rw [cell_add, Nat.zero_add, g2.cell, ← Array.getElem?_toList]
        rw [← g6, List.getElem?_take] at hu
        split at hu
        · exact hu
        · cases hu) ⟨b, off, none⟩ m c news hl (fun j u hu => by rw [cell_add]; exact hcell j u hu) (by omega) hmax (by omega)
      have hbl : Below w.heap.size w w' := ⟨h3.os, h3.tape, h3.output, h3.size, fun k hk => h3.block k hk (by simp)⟩
      exact ⟨v', w', hrun, RowZ.of_own (owns_lower h2 hB) (by omega), Rz.of_below hbl hB⟩
theorem gives_appZ {w : World} {o : Oper} {a : Act} {T : Value → World → Prop} (s x : Operand)
    (ho : o.op = .call { callee := .builtin .append, args := #[s, x], argTypes := #[57, 57] })
    (B : Nat) (v : Value) (n : Nat) (xs : List Value) (hs : a.eval s = v) (hz : RowZ B w v n xs) (p : Option Addr) (m c : Nat) (news : List Value) (hx : a.eval x = .slice p m c) (hl : news.length = m * 3) (hr : Rd w p news) (h1 : ∀ u ∈ news, u.oneCell' = true)
    (h63 : n + m ≤ 1000) (hB : B ≤ w.heap.size) (h : ∀ v' w', RowZ B w' v' (n + m) (xs ++ news) → Rz B w w' → T v' w') : gives Tryd.prog o a.eval w T := by
  obtain ⟨v', w', hrun, h2, h3⟩ := run_appZ (w := w) B o.type v n xs hz p m c news hl hr h1 h63 hB
  have hr : (execOp a.eval o).run Tryd.prog w = .ok (.value v') w' := by
    unfold execOp
    simp only [ho, resolve, invoke, builtin, Sem.run_bind, Sem.run_pure, Result.andThen_ok, List.map_toArray, List.map_cons, List.map_nil, hs, hx, hrun]
  unfold gives
  rw [hr]
  exact h v' w' h2 h3
end Go.Proofs.YtbbhecadpbnobaaDoor
