/-
  Ints: lists of ints, and lists of such, as the walks meet them. No program.
  IdsRead: the document's reading of a text by a pattern.
  IdsRead2: the walk of the document's Read.
  IdsNum: the walk of the document's Numbers.
  IdsQ: the document's numbers of a text are those that package ids reads. No program.
  IdsQ2: what the document's four patterns read is what package ids reads. No program.
  IdsNA: the document's numbers of an activity's text, as contracts (of IdsN).
-/
import Derived.Test.YtgmiockaecklaaaGreatDoorBA
import Derived.Deep.DeepHandedRow
import Derived.Lib.LaidTab
import Derived.ChangeSame
import Derived.Test.YtgmiockaecklaaaGreatDoorBR
import Derived.Deep.DeepCutAuto
import Derived.BigQuiet
import Derived.Deep.QuietTactic
namespace Go.Proofs.YtgmiockaecklaaaGreatDoor
open Go.RowKit Go.ChangeShapes Go.WideShapes Go.ChangeAt

section
variable {H : Type} {enc : TypeId × Value → H} {P : Program} {w : World} {base : Nat} {sp : Nat → Bool} {held : Bool}
/-- a slice whose elements have one cell each: its values, each as told -/
theorem open_row1 {α : Type} {t e : TypeId} {fuel : Nat} {cs : List Value} {x : DataW H × List MemPlace} (Q : Value → α → Prop)
    (ht : P.underlying t = some (.slice e)) (hce : P.cellsOf e = 1) (h : DataW.trod enc P w base sp held fuel t cs = some x)
    (hel : ∀ n v y, DataW.trod enc P w base sp held n e [v] = some y → ∃ a, Q v a) :
    ∃ p cap vs, ∃ l : List α, cs = [.slice p l.length cap] ∧ l.length ≤ cap ∧ cap ≤ maxLen ∧ Rd w p vs ∧ vs.length = l.length ∧ ∀ (i : Nat) v a, vs[i]? = some v → l[i]? = some a → Q v a := by
  rcases Deep.open_slice1 ht hce h with ⟨rfl, _⟩ | ⟨a, len, cap, m, n, V, D, Pl, rfl, _, hlc, hm, hmm, _, hcell⟩
  · exact ⟨none, 0, [], [], rfl, by simp, by unfold maxLen; omega, .inl rfl, rfl, by simp⟩
  · have hlm : len ≤ m := by rw [hmm]; split <;> omega
    by_cases h0 : len = 0
    · subst h0
      exact ⟨some a, cap, [], [], rfl, by simp, hm, .inl rfl, rfl, by simp⟩
    have hne : ∃ a0 : α, True := by
      obtain ⟨a0, _⟩ := hel _ _ _ (hcell 0 (by omega)).2
      exact ⟨a0, trivial⟩
    obtain ⟨a0, _⟩ := hne
    have hall : ∀ i, ∃ y : α, i < m → Q (V i) y := by
      intro i
      by_cases hi : i < m
      · obtain ⟨y, hy⟩ := hel _ _ _ (hcell i hi).2
        exact ⟨y, fun _ => hy⟩
      · exact ⟨a0, fun h => absurd h hi⟩
    obtain ⟨L, hL⟩ := Classical.axiomOfChoice hall
    refine ⟨some a, cap, (List.range len).map V, (List.range len).map L, by simp, by simpa using hlc, hm, ?_, by simp, ?_⟩
    · right
      have h00 := (hcell 0 (by omega)).1
      have hsp : a.spot = none := by
        have : a.add 0 = a := by simp [Addr.add]
        rw [this] at h00
        unfold World.cell? at h00
        split at h00
        · split at h00
          · cases h00
          · rename_i hs; simpa using hs
        · cases h00
      obtain ⟨b, off, s⟩ := a
      simp only at hsp
      subst hsp
      refine ⟨b, off, rfl, fun i u hu => ?_⟩
      simp only [List.getElem?_map, Option.map_eq_some_iff] at hu
      obtain ⟨j, hj, rfl⟩ := hu
      obtain ⟨hi, rfl⟩ := List.getElem?_eq_some_iff.1 hj
      simp only [List.length_range] at hi
      simp only [List.getElem_range]
      have := (hcell i (by omega)).1
      rw [cell_add] at this
      exact this
    · intro i v y hv hy
      simp only [List.getElem?_map, Option.map_eq_some_iff] at hv hy
      obtain ⟨j, hj, rfl⟩ := hv
      obtain ⟨j', hj', rfl⟩ := hy
      obtain rfl : j = j' := Option.some.inj (hj.symm.trans hj')
      obtain ⟨hi, rfl⟩ := List.getElem?_eq_some_iff.1 hj
      simp only [List.length_range] at hi
      simp only [List.getElem_range]
      exact hL i (by omega)
theorem trod_int {n : Nat} {e : TypeId} {k : IntKind} {v : Value} {x : DataW H × List MemPlace}
    (he : P.underlying e = some (.int k)) (h : DataW.trod enc P w base sp held n e [v] = some x) : ∃ y : Int, v = .int k y ∧ (Lit.int k y).wf = true := by
  cases n with
  | zero => simp [DataW.trod] at h
  | succ n =>
    simp only [DataW.trod, he] at h
    split at h
    all_goals rename_i he2 hcs
    all_goals first | (cases h; done) | (cases he2; done) | skip
    all_goals
      first
        | (cases hcs; done)
        | (simp only [TypeDesc.int.injEq, Option.some.injEq] at he2
           subst he2
           simp only [List.cons.injEq, and_true] at hcs
           subst hcs
           split at h
           · rename_i hw
             obtain ⟨rfl, hw⟩ := hw
             exact ⟨_, rfl, hw⟩
           · cases h)
end
def ivs (l : List Int) : List Value := l.map (.int .i64)
theorem ivs_len (l : List Int) : (ivs l).length = l.length := by simp [ivs]
theorem ivs_get (l : List Int) (i : Nat) (h : i < l.length) : (ivs l)[i]? = some (.int .i64 l[i]) := by simp [ivs, h]
theorem ivs_nil (l : List Int) : ivs l = [] ↔ l = [] := by simp [ivs]
theorem ivs_app (l m : List Int) : ivs (l ++ m) = ivs l ++ ivs m := by simp [ivs]
theorem ivs_one {l : List Int} : ∀ u ∈ ivs l, u.oneCell' = true := by
  intro u hu
  obtain ⟨c, _, rfl⟩ := List.mem_map.1 hu
  rfl
/-- THE SLICE VALUE v IS THE LIST l OF INTS in w. -/
def Iv (w : World) (v : Value) (l : List Int) : Prop := ∃ p cap, v = .slice p l.length cap ∧ l.length ≤ cap ∧ cap ≤ maxLen ∧ Rd w p (ivs l)
theorem Iv.below {w w' : World} {v : Value} {l : List Int} (h : Iv w v l) (hb : Below w.heap.size w w') : Iv w' v l := by
  obtain ⟨p, cap, rfl, h1, h2, h3⟩ := h
  exact ⟨p, cap, rfl, h1, h2, h3.below hb⟩
theorem iv_cell {w : World} {p : Option Addr} {l : List Int} (h : Rd w p (ivs l)) {k : Nat} (hk : k < l.length) :
    ∃ b off, p = some ⟨b, off, none⟩ ∧ w.cell? ⟨b, off + k, none⟩ = some (.int .i64 l[k]) := by
  obtain ⟨b, off, hp, hc⟩ := h.has (by rw [Ne, ivs_nil]; intro e; subst e; simp at hk)
  exact ⟨b, off, hp, hc k _ (ivs_get l k hk)⟩
theorem owns_iv {w : World} {base : Nat} {e : TypeId} {v : Value} {l : List Int} (h : w.ownsRow base e 1 v l.length (ivs l)) : Iv w v l := by
  obtain ⟨p, cap, rfl, h1, h2, h3⟩ := owns_rd h
  exact ⟨p, cap, rfl, h1, h2, h3⟩
section
variable {H : Type} {enc : TypeId × Value → H} {P : Program} {w : World} {base : Nat} {sp : Nat → Bool} {held : Bool}
theorem open_ints {t e : TypeId} {fuel : Nat} {cs : List Value} {x : DataW H × List MemPlace}
    (ht : P.underlying t = some (.slice e)) (he : P.underlying e = some (.int .i64)) (hce : P.cellsOf e = 1) (h : DataW.trod enc P w base sp held fuel t cs = some x) :
    ∃ v l, cs = [v] ∧ Iv w v l := by
  obtain ⟨p, cap, vs, l, rfl, h1, h2, h3, h4, h5⟩ := open_row1 (α := Int) (fun v y => v = .int .i64 y) ht hce h (fun n v y hy => by
    obtain ⟨z, hz, _⟩ := trod_int he hy
    exact ⟨z, hz⟩)
  refine ⟨_, l, rfl, p, cap, rfl, h1, h2, ?_⟩
  have : vs = ivs l := by
    apply List.ext_getElem?
    intro i
    by_cases hi : i < l.length
    · rw [ivs_get l i hi, List.getElem?_eq_getElem (by omega)]
      exact congrArg some (h5 i _ _ (List.getElem?_eq_getElem (by omega)) (List.getElem?_eq_getElem hi))
    · rw [List.getElem?_eq_none (by omega), List.getElem?_eq_none (by rw [ivs_len]; omega)]
  rw [← this]
  exact h3
/-- a list of lists of ints -/
def Ivv (w : World) (v : Value) (l : List (List Int)) : Prop :=
  ∃ p cap vs, v = .slice p l.length cap ∧ l.length ≤ cap ∧ cap ≤ maxLen ∧ Rd w p vs ∧ vs.length = l.length ∧ ∀ (i : Nat) v y, vs[i]? = some v → l[i]? = some y → Iv w v y
theorem open_intss {t t' e : TypeId} {fuel : Nat} {cs : List Value} {x : DataW H × List MemPlace}
    (ht : P.underlying t = some (.slice t')) (hct : P.cellsOf t' = 1) (ht' : P.underlying t' = some (.slice e)) (he : P.underlying e = some (.int .i64)) (hce : P.cellsOf e = 1) (h : DataW.trod enc P w base sp held fuel t cs = some x) :
    ∃ v l, cs = [v] ∧ Ivv w v l := by
  obtain ⟨p, cap, vs, l, rfl, h1, h2, h3, h4, h5⟩ := open_row1 (α := List Int) (fun v y => Iv w v y) ht hct h (fun n v y hy => by
    obtain ⟨v', l, hv, hl⟩ := open_ints ht' he hce hy
    cases hv
    exact ⟨l, hl⟩)
  exact ⟨_, l, rfl, p, cap, vs, rfl, h1, h2, h3, h4, h5⟩
end
end Go.Proofs.YtgmiockaecklaaaGreatDoor

namespace Go.Proofs.YtgmiockaecklaaaGreatDoor
open Go.RowKit Go.Extern.Stop Go.Stop Go.Extern

/-- one digit more, up to a million -/
def capS (n : Nat) (c : UInt8) : Nat := if 1000000 < 10 * n + (c.toNat - 48) then 1000000 else 10 * n + (c.toNat - 48)
def capV (l : List UInt8) : Nat := l.foldl capS 0
theorem capS_le (n : Nat) (c : UInt8) : capS n c ≤ 1000000 := by unfold capS; split <;> omega
theorem capV_le (l : List UInt8) : capV l ≤ 1000000 := by
  unfold capV
  have : ∀ (l : List UInt8) (a : Nat), a ≤ 1000000 → l.foldl capS a ≤ 1000000 := by
    intro l
    induction l with
    | nil => intro a h; exact h
    | cons x xs ih => intro a _; exact ih _ (capS_le a x)
  exact this l 0 (by omega)
theorem capV_snoc (l : List UInt8) (c : UInt8) : capV (l ++ [c]) = capS (capV l) c := by simp [capV]
/-- the digits at the beginning, and what is behind them -/
def digs (s : List UInt8) : List UInt8 := s.takeWhile digitB
def undigs (s : List UInt8) : List UInt8 := s.dropWhile digitB
/-- a text read by a pattern: its numbers, and what is left -/
def readL : List UInt8 → List UInt8 → Option (List Nat × List UInt8)
  | [], s => some ([], s)
  | c :: ps, s =>
    if c = 35 then (if headB (digs s) = true then (readL ps (undigs s)).map fun p => (capV (digs s) :: p.1, p.2) else none)
    else match s with
      | [] => none
      | x :: xs => if x = c then readL ps xs else none
theorem readL_hash (ps s : List UInt8) : readL (35 :: ps) s = if headB (digs s) = true then (readL ps (undigs s)).map fun p => (capV (digs s) :: p.1, p.2) else none := by
  conv => lhs; unfold readL
  simp
theorem readL_nil (c : UInt8) (ps : List UInt8) (h : c ≠ 35) : readL (c :: ps) [] = none := by
  unfold readL; rw [if_neg h]
theorem readL_sign (c : UInt8) (ps : List UInt8) (h : c ≠ 35) (x : UInt8) (xs : List UInt8) : readL (c :: ps) (x :: xs) = if x = c then readL ps xs else none := by
  conv => lhs; unfold readL
  rw [if_neg h]
/-- what Read answers: the numbers, and whether nothing is left; none: it fails ahead of the end -/
def ReadR (o : Option (List Nat × List UInt8)) (w : World) (e : Ending) (w' : World) : Prop :=
  Below w.heap.size w w' ∧ ((∃ v l, o = some (l, []) ∧ e = .returned (.tuple #[v, .bool true]) ∧ Iv w' v (l.map fun n : Nat => (n : Int))) ∨ ((∀ l, o ≠ some (l, [])) ∧ ∃ v, e = .returned (.tuple #[v, .bool false])))
/-- how far the pattern is read -/
def Sofar (pat s : List UInt8) (i at_ : Nat) (l : List Nat) : Prop := i ≤ pat.length ∧ at_ ≤ s.length ∧ readL pat s = (readL (pat.drop i) (s.drop at_)).map fun p => (l ++ p.1, p.2)
theorem Sofar.start (pat s : List UInt8) : Sofar pat s 0 0 [] := by
  refine ⟨Nat.zero_le _, Nat.zero_le _, ?_⟩
  simp
theorem sofar_sign {pat s : List UInt8} {i a : Nat} {l : List Nat} (h : Sofar pat s i a l) (hi : i < pat.length) (hc : pat[i] ≠ 35) (ha : a < s.length) (he : s[a] = pat[i]) : Sofar pat s (i + 1) (a + 1) l := by
  refine ⟨by omega, by omega, ?_⟩
  rw [h.2.2, List.drop_eq_getElem_cons hi, List.drop_eq_getElem_cons ha, readL_sign _ _ hc, if_pos he]
theorem sofar_stop {pat s : List UInt8} {i a : Nat} {l : List Nat} (h : Sofar pat s i a l) (hi : i < pat.length) (hc : pat[i] ≠ 35) (he : a = s.length ∨ ∃ ha : a < s.length, s[a] ≠ pat[i]) : readL pat s = none := by
  rw [h.2.2, List.drop_eq_getElem_cons hi]
  rcases he with rfl | ⟨ha, he⟩
  · rw [List.drop_length, readL_nil _ _ hc]; rfl
  · rw [List.drop_eq_getElem_cons ha, readL_sign _ _ hc, if_neg he]; rfl
theorem sofar_hash {pat s : List UInt8} {i a b : Nat} {l : List Nat} (h : Sofar pat s i a l) (hi : i < pat.length) (hc : pat[i] = 35) (hb : b ≤ s.length) (hab : a ≤ b) (hd : digs (s.drop a) = (s.drop a).take (b - a)) (hu : undigs (s.drop a) = s.drop b) (hh : headB ((s.drop a).take (b - a)) = true) :
    Sofar pat s (i + 1) b (l ++ [capV ((s.drop a).take (b - a))]) := by
  refine ⟨by omega, hb, ?_⟩
  rw [h.2.2, List.drop_eq_getElem_cons hi, hc, readL_hash, hd, if_pos hh, hu, Option.map_map]
  congr 1
  funext p
  simp
theorem sofar_bad {pat s : List UInt8} {i a b : Nat} {l : List Nat} (h : Sofar pat s i a l) (hi : i < pat.length) (hc : pat[i] = 35) (hd : digs (s.drop a) = (s.drop a).take (b - a)) (hh : headB ((s.drop a).take (b - a)) = false) : readL pat s = none := by
  rw [h.2.2, List.drop_eq_getElem_cons hi, hc, readL_hash, hd, if_neg (by rw [hh]; simp)]; rfl
theorem tw_all (l : List UInt8) (h : ∀ x ∈ l, digitB x = true) : l.takeWhile digitB = l ∧ l.dropWhile digitB = [] := by
  induction l with
  | nil => exact ⟨rfl, rfl⟩
  | cons x xs ih =>
    have := ih (fun y hy => h y (List.mem_cons_of_mem _ hy))
    simp [h x (List.mem_cons_self ..), this]
theorem tw_stop (l : List UInt8) (h : ∀ x ∈ l, digitB x = true) (c : UInt8) (q : List UInt8) (hc : digitB c = false) : (l ++ c :: q).takeWhile digitB = l ∧ (l ++ c :: q).dropWhile digitB = c :: q := by
  induction l with
  | nil => simp [hc]
  | cons x xs ih =>
    have := ih (fun y hy => h y (List.mem_cons_of_mem _ hy))
    simp [h x (List.mem_cons_self ..), this]
/-- the digits end at b -/
theorem digs_at (s : List UInt8) (a b : Nat) (hab : a ≤ b) (hb : b ≤ s.length) (hall : ((s.drop a).take (b - a)).all digitB = true) (hend : b = s.length ∨ ∃ h : b < s.length, digitB s[b] = false) :
    digs (s.drop a) = (s.drop a).take (b - a) ∧ undigs (s.drop a) = s.drop b := by
  have e : s.drop a = (s.drop a).take (b - a) ++ s.drop b := by
    conv => lhs; rw [← List.take_append_drop (b - a) (s.drop a)]
    rw [List.drop_drop, show a + (b - a) = b by omega]
  have hl : ∀ x ∈ (s.drop a).take (b - a), digitB x = true := by rw [List.all_eq_true] at hall; exact hall
  unfold digs undigs
  rcases hend with rfl | ⟨h, hf⟩
  · rw [List.drop_length, List.append_nil] at e
    rw [← e] at hl ⊢
    rw [List.drop_length]
    exact tw_all _ hl
  · rw [List.drop_eq_getElem_cons h] at e
    have := tw_stop ((s.drop a).take (b - a)) hl s[b] (s.drop (b + 1)) hf
    rw [← e] at this
    rw [this.1, this.2, List.drop_eq_getElem_cons h]
    exact ⟨rfl, rfl⟩
end Go.Proofs.YtgmiockaecklaaaGreatDoor

namespace Go.Proofs.YtgmiockaecklaaaGreatDoor
open Go.RowKit Go.Extern.Stop Go.Stop Go.Extern

def nvs (l : List Nat) : List Value := ivs (l.map fun n : Nat => (n : Int))
theorem nvs_len (l : List Nat) : (nvs l).length = l.length := by simp [nvs, ivs]
theorem nvs_app (l m : List Nat) : nvs (l ++ m) = nvs l ++ nvs m := by simp [nvs, ivs]
theorem nvs_one {l : List Nat} : ∀ u ∈ nvs l, u.oneCell' = true := ivs_one
theorem intInfo : (Tryz.prog.info? 3).map (fun i => (i.zero, i.size, i.bytes)) = some (some (.int .i64 0), 1, 8) := by kernel_rfl
theorem head_take (s : List UInt8) (a b : Nat) (hab : a < b) (hb : b ≤ s.length) : ((s.drop a).take (b - a)).head? = some (s[a]'(by omega)) := by
  rw [List.drop_eq_getElem_cons (by omega), show b - a = (b - a - 1) + 1 by omega, List.take_succ_cons, List.head?_cons]
theorem headB_take (s : List UInt8) (a b : Nat) (hab : a ≤ b) (hb : b ≤ s.length) : headB ((s.drop a).take (b - a)) = true ↔ a ≠ b ∧ ∀ h : a < b, (1 < b - a → (s[a]'(by omega)) ≠ 48) := by
  unfold headB
  have hl : ((s.drop a).take (b - a)).length = b - a := by rw [List.length_take, List.length_drop]; omega
  simp only [Bool.and_eq_true, Bool.not_eq_true', beq_eq_false_iff_ne, Bool.and_eq_false_iff, decide_eq_false_iff_not, hl]
  by_cases h : a = b
  · subst h
    simp
  · rw [head_take s a b (by omega) hb]
    constructor
    · rintro ⟨_, h2⟩
      refine ⟨h, fun _ h1 => ?_⟩
      rcases h2 with h2 | h2
      · exact absurd h1 h2
      · exact fun e => h2 (by rw [e])
    · rintro ⟨_, h2⟩
      refine ⟨?_, ?_⟩
      · intro e
        have := congrArg List.length e
        rw [hl] at this
        simp at this
        omega
      · by_cases h1 : 1 < b - a
        · exact .inr (fun e => h2 (by omega) h1 (Option.some.inj e))
        · exact .inl h1
theorem headB_false (s : List UInt8) (a b : Nat) (hab : a ≤ b) (hb : b ≤ s.length) (hh : headB ((s.drop a).take (b - a)) = false) : a = b ∨ (a ≠ b ∧ 1 < b - a ∧ ∃ h : a < s.length, s[a] = 48) := by
  by_cases h : a = b
  · exact .inl h
  · have ha : a < s.length := by omega
    have hl : ((s.drop a).take (b - a)).length = b - a := by rw [List.length_take, List.length_drop]; omega
    have hne : (s.drop a).take (b - a) ≠ [] := by
      intro e
      rw [e] at hl
      simp at hl
      omega
    unfold headB at hh
    rw [hl, head_take s a b (by omega) hb] at hh
    simp only [Bool.and_eq_false_iff, Bool.not_eq_false', beq_iff_eq, Bool.and_eq_true, decide_eq_true_eq, Option.some.injEq] at hh
    rcases hh with hh | hh
    · exact absurd hh hne
    · exact .inr ⟨h, hh.1, ha, hh.2⟩
set_option maxRecDepth 20000 in
set_option maxHeartbeats 8000000 in
theorem read_any (s pat : List UInt8) (hs : s.length ≤ 1000) (hp : pat.length ≤ 100) (w : World) :
    Calls Tryz.prog 76 #[.string (bs s), .string (bs pat)] w (ReadR (readL pat s) w) := by
  obtain ⟨i0, hi, hz0, hz1, hz2⟩ := info_parts intInfo
  have hss := bs_size s
  have hps := bs_size pat
  go_enter Tryz.func76, Tryz.ntmps76
  go_wp2_with fail
  go_loopw [6, 7, 8] (fun o a i wr => ∃ (k at_ : Nat) (l : List Nat), Sofar pat s k at_ l ∧ i = .int .i64 k ∧ a = .int .i64 at_ ∧ wr.ownsRow w.heap.size 3 1 o l.length (nvs l) ∧ l.length ≤ k ∧ Below w.heap.size w wr) (fun _ _ i _ => pat.length - (intOf i).toNat)
  case atStart =>
    exact ⟨0, 0, [], Sofar.start pat s, rfl, rfl, by simpa [nvs, ivs] using World.ownsRow_lit (base := w.heap.size) (e := 3) (size := 1) w #[] 0 (Nat.le_refl _) (by unfold maxLen; omega) rfl, by simp, below_alloc1 w _⟩
  case round =>
    obtain ⟨k, at_, l, hso, rfl, rfl, hown, hlk, hbw⟩ := hrel
    have hsz := hbw.size
    obtain ⟨wo, rfl⟩ : ∃ x, x = wr := ⟨wr, rfl⟩
    have hk1 := hso.1
    have ha1 := hso.2.1
    by_cases hlt : k < pat.length
    · have hki : (k : Int) < ((bs pat).size : Int) := by rw [hps]; omega
      have hpk := bs_get pat k hlt
      by_cases hc : pat[k] = 35
      · have hc1 : ((pat[k].toNat : Int) == 35) = true := by rw [hc]; rfl
        have hc2 : (pat[k].toNat == 35) = true := by rw [hc]; rfl
        have HSO := Lib.hid hso
        have HOWN := Lib.hid hown
        have HBW := Lib.hid hbw
        have HC := Lib.hid hc
        have HLT := Lib.hid hlt
        clear hso hown hbw hc
        go_wp2_with fail
        clear hc1 hc2 hpk hki
        generalize pat[k].toNat = pk
        go_loopw [7, 10] (fun a n wx => ∃ b : Nat, at_ ≤ b ∧ b ≤ s.length ∧ a = .int .i64 b ∧ n = .int .i64 ((capV ((s.drop at_).take (b - at_)) : Nat) : Int) ∧ ((s.drop at_).take (b - at_)).all digitB = true ∧ wo = wx) (fun a _ _ => s.length - (intOf a).toNat)
        case atStart => exact ⟨at_, by omega, ha1, rfl, by simp [capV], by simp, rfl⟩
        case round =>
          obtain ⟨b, hab, hbl, rfl, rfl, hall, rfl⟩ := hrel
          by_cases hb : b < s.length
          · have hbi : (b : Int) < ((bs s).size : Int) := by rw [hss]; omega
            have hbb := bs_get s b hb
            have ht : (s.drop at_).take (b + 1 - at_) = (s.drop at_).take (b - at_) ++ [s[b]] := by
              rw [show b + 1 - at_ = (b - at_) + 1 by omega, List.take_add_one, List.getElem?_drop, show at_ + (b - at_) = b by omega, List.getElem?_eq_getElem hb]; rfl
            by_cases hd : digitB s[b] = true
            · have h48 := digitB_le hd
              have q1 : decide ((48 : Int) ≤ (s[b].toNat : Int)) = true := decide_eq_true (by omega)
              have q2 : decide ((s[b].toNat : Int) ≤ 57) = true := decide_eq_true (by omega)
              have q3 : decide (48 ≤ s[b].toNat) = true := decide_eq_true h48.1
              have q4 : decide (s[b].toNat ≤ 57) = true := decide_eq_true h48.2
              have HA := Lib.hid (show ((s.drop at_).take (b + 1 - at_)).all digitB = true by rw [ht, List.all_append, hall]; simp [hd])
              have HCV := Lib.hid (show capV ((s.drop at_).take (b + 1 - at_)) = capS (capV ((s.drop at_).take (b - at_))) s[b] by rw [ht, capV_snoc])
              have hV := capV_le ((s.drop at_).take (b - at_))
              generalize capV ((s.drop at_).take (b - at_)) = V at *
              unfold capS at HCV
              clear ht hall hd
              by_cases hbig : 1000000 < 10 * V + (s[b].toNat - 48)
              · have q5 : decide ((1000000 : Int) < 10 * (V : Int) + (s[b].toNat : Int) - 48) = true := decide_eq_true (by omega)
                rw [if_pos hbig] at HCV
                go_wp2_with fail
                go_roundw
                case rel => exact ⟨b + 1, by omega, by omega, by simp, by rw [HCV.out]; rfl, HA.out, by trivial⟩
                all_goals (simp [intOf]; try omega)
              · have q5 : decide ((1000000 : Int) < 10 * (V : Int) + (s[b].toNat : Int) - 48) = false := decide_eq_false (by omega)
                rw [if_neg hbig] at HCV
                go_wp2_with fail
                go_roundw
                case rel => exact ⟨b + 1, by omega, by omega, by simp, by rw [HCV.out]; congr 1; omega, HA.out, by trivial⟩
                all_goals (simp [intOf]; try omega)
            · have hdf : digitB s[b] = false := by simpa using hd
              have hend : b = s.length ∨ ∃ h : b < s.length, digitB s[b] = false := .inr ⟨hb, hdf⟩
              have hor : s[b].toNat < 48 ∨ 48 ≤ s[b].toNat ∧ 57 < s[b].toNat := by
                unfold digitB at hdf
                simp only [Bool.and_eq_false_iff, decide_eq_false_iff_not] at hdf
                omega
              clear ht hd hdf
              rcases hor with h1 | ⟨h1, h2⟩
              · have q1 : decide ((48 : Int) ≤ (s[b].toNat : Int)) = false := decide_eq_false (by omega)
                have q3 : decide (48 ≤ s[b].toNat) = false := decide_eq_false (by omega)
                have dg := digs_at s at_ b hab hbl hall hend
                have hlen : ((s.drop at_).take (b - at_)).length = b - at_ := by rw [List.length_take, List.length_drop]; omega
                cases hh : headB ((s.drop at_).take (b - at_)) with
                | true =>
                  have hh2 := (headB_take s at_ b hab hbl).1 hh
                  have HS := Lib.hid (sofar_hash HSO.out HLT.out HC.out hbl hab dg.1 dg.2 hh)
                  have hV := capV_le ((s.drop at_).take (b - at_))
                  generalize capV ((s.drop at_).take (b - at_)) = V at *
                  have e1 : ((b : Int) == (at_ : Int)) = false := by rw [beq_eq_false_iff_ne]; have := hh2.1; omega
                  have e2 : (b == at_) = false := by rw [beq_eq_false_iff_ne]; have := hh2.1; omega
                  have HO1 := Lib.hid (owns_below HOWN.out (below_alloc1 wo (.cells #[.int .i64 (V : Int)] 3)))
                  have hs1 := (below_alloc HBW.out (.cells #[.int .i64 (V : Int)] 3)).size
                  have HB2 := Lib.hid (below_alloc HBW.out (.cells #[.int .i64 (V : Int)] 3))
                  have HLK := Lib.hid hlk
                  have HBL := Lib.hid hbl
                  clear dg hlen hh hall hend
                  by_cases h1 : 1 < b - at_
                  · have ha : at_ < s.length := by omega
                    have hx := hh2.2 (by omega) h1
                    have d1 : decide ((1 : Int) < (b : Int) - (at_ : Int)) = true := decide_eq_true (by omega)
                    have hbs := bs_get s at_ ha
                    have hsi : (at_ : Int) < ((bs s).size : Int) := by rw [hss]; omega
                    have x1 : ((s[at_].toNat : Int) == 48) = false := by
                      rw [beq_eq_false_iff_ne]
                      intro e
                      exact hx (UInt8.toNat_inj.1 (by show s[at_].toNat = 48; omega))
                    have x2 : (s[at_].toNat == 48) = false := by
                      rw [beq_eq_false_iff_ne]
                      intro e
                      exact hx (UInt8.toNat_inj.1 e)
                    clear hh2 hx
                    go_wp2_with (at_builtin; refine wpList_app (.tmp 81) (.tmp 83) 92 rfl rfl w.heap.size 3 i0 (.int .i64 0) 1 8 Tryz.underlying92 hi hz0 hz1 hz2 rfl (by decide) _ _ _ rfl HO1.out _ _ _ (nvs [V]) rfl rfl (rd_at _ #[_] _ _ _ rfl) nvs_one (by unfold maxLen; omega) (by omega) hs1 ?_)
                    intro v1 w2 ho1 hg1
                    have HB3 := Lib.hid (HB2.out.grown hg1 hs1 (fun j hj => (HO1.out.lt j hj).1))
                    have HO3 := Lib.hid ho1
                    clear ho1 hg1 HO1 HB2 x1 x2 hbs
                    go_wp2_with fail
                    go_roundw
                    case rel => exact ⟨k + 1, b, _, HS.out, by simp, rfl, by rw [nvs_app, List.length_append]; exact HO3.out, by simp; exact HLK.out, HB3.out⟩
                    all_goals (simp [intOf]; try omega)
                  · have d1 : decide ((1 : Int) < (b : Int) - (at_ : Int)) = false := decide_eq_false (by omega)
                    clear hh2
                    go_wp2_with (at_builtin; refine wpList_app (.tmp 81) (.tmp 83) 92 rfl rfl w.heap.size 3 i0 (.int .i64 0) 1 8 Tryz.underlying92 hi hz0 hz1 hz2 rfl (by decide) _ _ _ rfl HO1.out _ _ _ (nvs [V]) rfl rfl (rd_at _ #[_] _ _ _ rfl) nvs_one (by unfold maxLen; omega) (by omega) hs1 ?_)
                    intro v1 w2 ho1 hg1
                    have HB3 := Lib.hid (HB2.out.grown hg1 hs1 (fun j hj => (HO1.out.lt j hj).1))
                    have HO3 := Lib.hid ho1
                    clear ho1 hg1 HO1 HB2
                    go_wp2_with fail
                    go_roundw
                    case rel => exact ⟨k + 1, b, _, HS.out, by simp, rfl, by rw [nvs_app, List.length_append]; exact HO3.out, by simp; exact HLK.out, HB3.out⟩
                    all_goals (simp [intOf]; try omega)
                | false =>
                  have HX := Lib.hid (sofar_bad HSO.out HLT.out HC.out dg.1 hh)
                  have hh2 := headB_false s at_ b hab hbl hh
                  clear dg hlen hh hall hend
                  rcases hh2 with rfl | ⟨h0, h1, ha, hx⟩
                  · have e1 : ((at_ : Int) == (at_ : Int)) = true := by simp
                    go_wp2_with fail
                    go_ret2
                    exact ⟨HBW.out, .inr ⟨fun l h => (by rw [HX.out] at h; cases h), _, rfl⟩⟩
                  · have e1 : ((b : Int) == (at_ : Int)) = false := by rw [beq_eq_false_iff_ne]; omega
                    have e2 : (b == at_) = false := by rw [beq_eq_false_iff_ne]; omega
                    have d1 : decide ((1 : Int) < (b : Int) - (at_ : Int)) = true := decide_eq_true (by omega)
                    have hbs := bs_get s at_ ha
                    have hsi : (at_ : Int) < ((bs s).size : Int) := by rw [hss]; omega
                    have x1 : ((s[at_].toNat : Int) == 48) = true := by rw [hx]; rfl
                    have x2 : (s[at_].toNat == 48) = true := by rw [hx]; rfl
                    clear hx
                    go_wp2_with fail
                    go_ret2
                    exact ⟨HBW.out, .inr ⟨fun l h => (by rw [HX.out] at h; cases h), _, rfl⟩⟩
              · have q1 : decide ((48 : Int) ≤ (s[b].toNat : Int)) = true := decide_eq_true (by omega)
                have q3 : decide (48 ≤ s[b].toNat) = true := decide_eq_true h1
                have q2 : decide ((s[b].toNat : Int) ≤ 57) = false := decide_eq_false (by omega)
                have q4 : decide (s[b].toNat ≤ 57) = false := decide_eq_false (by omega)
                have dg := digs_at s at_ b hab hbl hall hend
                have hlen : ((s.drop at_).take (b - at_)).length = b - at_ := by rw [List.length_take, List.length_drop]; omega
                cases hh : headB ((s.drop at_).take (b - at_)) with
                | true =>
                  have hh2 := (headB_take s at_ b hab hbl).1 hh
                  have HS := Lib.hid (sofar_hash HSO.out HLT.out HC.out hbl hab dg.1 dg.2 hh)
                  have hV := capV_le ((s.drop at_).take (b - at_))
                  generalize capV ((s.drop at_).take (b - at_)) = V at *
                  have e1 : ((b : Int) == (at_ : Int)) = false := by rw [beq_eq_false_iff_ne]; have := hh2.1; omega
                  have e2 : (b == at_) = false := by rw [beq_eq_false_iff_ne]; have := hh2.1; omega
                  have HO1 := Lib.hid (owns_below HOWN.out (below_alloc1 wo (.cells #[.int .i64 (V : Int)] 3)))
                  have hs1 := (below_alloc HBW.out (.cells #[.int .i64 (V : Int)] 3)).size
                  have HB2 := Lib.hid (below_alloc HBW.out (.cells #[.int .i64 (V : Int)] 3))
                  have HLK := Lib.hid hlk
                  have HBL := Lib.hid hbl
                  clear dg hlen hh hall hend
                  by_cases h1 : 1 < b - at_
                  · have ha : at_ < s.length := by omega
                    have hx := hh2.2 (by omega) h1
                    have d1 : decide ((1 : Int) < (b : Int) - (at_ : Int)) = true := decide_eq_true (by omega)
                    have hbs := bs_get s at_ ha
                    have hsi : (at_ : Int) < ((bs s).size : Int) := by rw [hss]; omega
                    have x1 : ((s[at_].toNat : Int) == 48) = false := by
                      rw [beq_eq_false_iff_ne]
                      intro e
                      exact hx (UInt8.toNat_inj.1 (by show s[at_].toNat = 48; omega))
                    have x2 : (s[at_].toNat == 48) = false := by
                      rw [beq_eq_false_iff_ne]
                      intro e
                      exact hx (UInt8.toNat_inj.1 e)
                    clear hh2 hx
                    go_wp2_with (at_builtin; refine wpList_app (.tmp 81) (.tmp 83) 92 rfl rfl w.heap.size 3 i0 (.int .i64 0) 1 8 Tryz.underlying92 hi hz0 hz1 hz2 rfl (by decide) _ _ _ rfl HO1.out _ _ _ (nvs [V]) rfl rfl (rd_at _ #[_] _ _ _ rfl) nvs_one (by unfold maxLen; omega) (by omega) hs1 ?_)
                    intro v1 w2 ho1 hg1
                    have HB3 := Lib.hid (HB2.out.grown hg1 hs1 (fun j hj => (HO1.out.lt j hj).1))
                    have HO3 := Lib.hid ho1
                    clear ho1 hg1 HO1 HB2 x1 x2 hbs
                    go_wp2_with fail
                    go_roundw
                    case rel => exact ⟨k + 1, b, _, HS.out, by simp, rfl, by rw [nvs_app, List.length_append]; exact HO3.out, by simp; exact HLK.out, HB3.out⟩
                    all_goals (simp [intOf]; try omega)
                  · have d1 : decide ((1 : Int) < (b : Int) - (at_ : Int)) = false := decide_eq_false (by omega)
                    clear hh2
                    go_wp2_with (at_builtin; refine wpList_app (.tmp 81) (.tmp 83) 92 rfl rfl w.heap.size 3 i0 (.int .i64 0) 1 8 Tryz.underlying92 hi hz0 hz1 hz2 rfl (by decide) _ _ _ rfl HO1.out _ _ _ (nvs [V]) rfl rfl (rd_at _ #[_] _ _ _ rfl) nvs_one (by unfold maxLen; omega) (by omega) hs1 ?_)
                    intro v1 w2 ho1 hg1
                    have HB3 := Lib.hid (HB2.out.grown hg1 hs1 (fun j hj => (HO1.out.lt j hj).1))
                    have HO3 := Lib.hid ho1
                    clear ho1 hg1 HO1 HB2
                    go_wp2_with fail
                    go_roundw
                    case rel => exact ⟨k + 1, b, _, HS.out, by simp, rfl, by rw [nvs_app, List.length_append]; exact HO3.out, by simp; exact HLK.out, HB3.out⟩
                    all_goals (simp [intOf]; try omega)
                | false =>
                  have HX := Lib.hid (sofar_bad HSO.out HLT.out HC.out dg.1 hh)
                  have hh2 := headB_false s at_ b hab hbl hh
                  clear dg hlen hh hall hend
                  rcases hh2 with rfl | ⟨h0, h1, ha, hx⟩
                  · have e1 : ((at_ : Int) == (at_ : Int)) = true := by simp
                    go_wp2_with fail
                    go_ret2
                    exact ⟨HBW.out, .inr ⟨fun l h => (by rw [HX.out] at h; cases h), _, rfl⟩⟩
                  · have e1 : ((b : Int) == (at_ : Int)) = false := by rw [beq_eq_false_iff_ne]; omega
                    have e2 : (b == at_) = false := by rw [beq_eq_false_iff_ne]; omega
                    have d1 : decide ((1 : Int) < (b : Int) - (at_ : Int)) = true := decide_eq_true (by omega)
                    have hbs := bs_get s at_ ha
                    have hsi : (at_ : Int) < ((bs s).size : Int) := by rw [hss]; omega
                    have x1 : ((s[at_].toNat : Int) == 48) = true := by rw [hx]; rfl
                    have x2 : (s[at_].toNat == 48) = true := by rw [hx]; rfl
                    clear hx
                    go_wp2_with fail
                    go_ret2
                    exact ⟨HBW.out, .inr ⟨fun l h => (by rw [HX.out] at h; cases h), _, rfl⟩⟩
          · have hbe : b = s.length := by omega
            have hend : b = s.length ∨ ∃ h : b < s.length, digitB s[b] = false := .inl hbe
            have q0 : ¬ ((b : Int) < ((bs s).size : Int)) := by rw [hss]; omega
            have q1 : ((b : Int) < (s.length : Int)) = False := by rw [eq_iff_iff]; exact ⟨fun h => by omega, False.elim⟩
            have q2 : (b < s.length) = False := by rw [eq_iff_iff]; exact ⟨fun h => by omega, False.elim⟩
            clear hbe hb
            have dg := digs_at s at_ b hab hbl hall hend
            have hlen : ((s.drop at_).take (b - at_)).length = b - at_ := by rw [List.length_take, List.length_drop]; omega
            cases hh : headB ((s.drop at_).take (b - at_)) with
            | true =>
              have hh2 := (headB_take s at_ b hab hbl).1 hh
              have HS := Lib.hid (sofar_hash HSO.out HLT.out HC.out hbl hab dg.1 dg.2 hh)
              have hV := capV_le ((s.drop at_).take (b - at_))
              generalize capV ((s.drop at_).take (b - at_)) = V at *
              have e1 : ((b : Int) == (at_ : Int)) = false := by rw [beq_eq_false_iff_ne]; have := hh2.1; omega
              have e2 : (b == at_) = false := by rw [beq_eq_false_iff_ne]; have := hh2.1; omega
              have HO1 := Lib.hid (owns_below HOWN.out (below_alloc1 wo (.cells #[.int .i64 (V : Int)] 3)))
              have hs1 := (below_alloc HBW.out (.cells #[.int .i64 (V : Int)] 3)).size
              have HB2 := Lib.hid (below_alloc HBW.out (.cells #[.int .i64 (V : Int)] 3))
              have HLK := Lib.hid hlk
              have HBL := Lib.hid hbl
              clear dg hlen hh hall hend
              by_cases h1 : 1 < b - at_
              · have ha : at_ < s.length := by omega
                have hx := hh2.2 (by omega) h1
                have d1 : decide ((1 : Int) < (b : Int) - (at_ : Int)) = true := decide_eq_true (by omega)
                have hbs := bs_get s at_ ha
                have hsi : (at_ : Int) < ((bs s).size : Int) := by rw [hss]; omega
                have x1 : ((s[at_].toNat : Int) == 48) = false := by
                  rw [beq_eq_false_iff_ne]
                  intro e
                  exact hx (UInt8.toNat_inj.1 (by show s[at_].toNat = 48; omega))
                have x2 : (s[at_].toNat == 48) = false := by
                  rw [beq_eq_false_iff_ne]
                  intro e
                  exact hx (UInt8.toNat_inj.1 e)
                clear hh2 hx
                go_wp2_with (at_builtin; refine wpList_app (.tmp 81) (.tmp 83) 92 rfl rfl w.heap.size 3 i0 (.int .i64 0) 1 8 Tryz.underlying92 hi hz0 hz1 hz2 rfl (by decide) _ _ _ rfl HO1.out _ _ _ (nvs [V]) rfl rfl (rd_at _ #[_] _ _ _ rfl) nvs_one (by unfold maxLen; omega) (by omega) hs1 ?_)
                intro v1 w2 ho1 hg1
                have HB3 := Lib.hid (HB2.out.grown hg1 hs1 (fun j hj => (HO1.out.lt j hj).1))
                have HO3 := Lib.hid ho1
                clear ho1 hg1 HO1 HB2 x1 x2 hbs
                go_wp2_with fail
                go_roundw
                case rel => exact ⟨k + 1, b, _, HS.out, by simp, rfl, by rw [nvs_app, List.length_append]; exact HO3.out, by simp; exact HLK.out, HB3.out⟩
                all_goals (simp [intOf]; try omega)
              · have d1 : decide ((1 : Int) < (b : Int) - (at_ : Int)) = false := decide_eq_false (by omega)
                clear hh2
                go_wp2_with (at_builtin; refine wpList_app (.tmp 81) (.tmp 83) 92 rfl rfl w.heap.size 3 i0 (.int .i64 0) 1 8 Tryz.underlying92 hi hz0 hz1 hz2 rfl (by decide) _ _ _ rfl HO1.out _ _ _ (nvs [V]) rfl rfl (rd_at _ #[_] _ _ _ rfl) nvs_one (by unfold maxLen; omega) (by omega) hs1 ?_)
                intro v1 w2 ho1 hg1
                have HB3 := Lib.hid (HB2.out.grown hg1 hs1 (fun j hj => (HO1.out.lt j hj).1))
                have HO3 := Lib.hid ho1
                clear ho1 hg1 HO1 HB2
                go_wp2_with fail
                go_roundw
                case rel => exact ⟨k + 1, b, _, HS.out, by simp, rfl, by rw [nvs_app, List.length_append]; exact HO3.out, by simp; exact HLK.out, HB3.out⟩
                all_goals (simp [intOf]; try omega)
            | false =>
              have HX := Lib.hid (sofar_bad HSO.out HLT.out HC.out dg.1 hh)
              have hh2 := headB_false s at_ b hab hbl hh
              clear dg hlen hh hall hend
              rcases hh2 with rfl | ⟨h0, h1, ha, hx⟩
              · have e1 : ((at_ : Int) == (at_ : Int)) = true := by simp
                go_wp2_with fail
                go_ret2
                exact ⟨HBW.out, .inr ⟨fun l h => (by rw [HX.out] at h; cases h), _, rfl⟩⟩
              · have e1 : ((b : Int) == (at_ : Int)) = false := by rw [beq_eq_false_iff_ne]; omega
                have e2 : (b == at_) = false := by rw [beq_eq_false_iff_ne]; omega
                have d1 : decide ((1 : Int) < (b : Int) - (at_ : Int)) = true := decide_eq_true (by omega)
                have hbs := bs_get s at_ ha
                have hsi : (at_ : Int) < ((bs s).size : Int) := by rw [hss]; omega
                have x1 : ((s[at_].toNat : Int) == 48) = true := by rw [hx]; rfl
                have x2 : (s[at_].toNat == 48) = true := by rw [hx]; rfl
                clear hx
                go_wp2_with fail
                go_ret2
                exact ⟨HBW.out, .inr ⟨fun l h => (by rw [HX.out] at h; cases h), _, rfl⟩⟩
      · have hc1 : ((pat[k].toNat : Int) == 35) = false := by
          rw [beq_eq_false_iff_ne]
          intro e
          exact hc (UInt8.toNat_inj.1 (by show pat[k].toNat = 35; omega))
        have hc2 : (pat[k].toNat == 35) = false := by
          rw [beq_eq_false_iff_ne]
          intro e
          exact hc (UInt8.toNat_inj.1 e)
        by_cases ha : at_ = s.length
        · have HX := Lib.hid (sofar_stop hso hlt hc (.inl ha))
          have e1 : ((at_ : Int) == (s.length : Int)) = true := by rw [ha]; simp
          have e2 : (at_ == s.length) = true := by rw [ha]; simp
          have e3 : ((at_ : Int) == ((bs s).size : Int)) = true := by rw [ha, hss]; simp
          have HB := Lib.hid hbw
          clear ha hso hown hbw hc
          go_wp2_with fail
          go_quiet (fail)
          go_wp2_with fail
          go_ret2
          exact ⟨HB.out.trans ((below_drewN _ _).mono HB.out.size), .inr ⟨fun l h => (by rw [HX.out] at h; cases h), _, rfl⟩⟩
        · have hal : at_ < s.length := by omega
          have e1 : ((at_ : Int) == (s.length : Int)) = false := by rw [beq_eq_false_iff_ne]; omega
          have e2 : (at_ == s.length) = false := by rw [beq_eq_false_iff_ne]; exact ha
          have e3 : ((at_ : Int) == ((bs s).size : Int)) = false := by rw [hss]; exact e1
          have hbs := bs_get s at_ hal
          have hsi : (at_ : Int) < ((bs s).size : Int) := by rw [hss]; omega
          have HB := Lib.hid hbw
          have HO := Lib.hid hown
          by_cases he : s[at_] = pat[k]
          · have HS := Lib.hid (sofar_sign hso hlt hc hal he)
            have q1 : ((s[at_].toNat : Int) == (pat[k].toNat : Int)) = true := by rw [he]; simp
            have q2 : (s[at_].toNat == pat[k].toNat) = true := by rw [he]; simp
            clear hso hown hbw hc he ha
            go_wp2_with fail
            go_quiet (fail)
            go_wp2_with fail
            go_roundw
            case rel => exact ⟨k + 1, at_ + 1, l, HS.out, by simp, by simp, owns_below HO.out (below_drewN _ _), by omega, HB.out.trans ((below_drewN _ _).mono HB.out.size)⟩
            all_goals (simp [intOf]; try omega)
          · have HX := Lib.hid (sofar_stop hso hlt hc (.inr ⟨hal, he⟩))
            have q1 : ((s[at_].toNat : Int) == (pat[k].toNat : Int)) = false := by
              rw [beq_eq_false_iff_ne]
              intro e
              exact he (UInt8.toNat_inj.1 (by omega))
            have q2 : (s[at_].toNat == pat[k].toNat) = false := by
              rw [beq_eq_false_iff_ne]
              intro e
              exact he (UInt8.toNat_inj.1 e)
            clear hso hown hbw hc he ha
            go_wp2_with fail
            go_quiet (fail)
            go_wp2_with fail
            go_ret2
            exact ⟨HB.out.trans ((below_drewN _ _).mono HB.out.size), .inr ⟨fun l h => (by rw [HX.out] at h; cases h), _, rfl⟩⟩
    · obtain rfl : k = pat.length := by omega
      have hki : ¬ ((pat.length : Int) < ((bs pat).size : Int)) := by rw [hps]; omega
      have hfin : readL pat s = some (l, s.drop at_) := by
        rw [hso.2.2, List.drop_length]
        simp [readL]
      obtain ⟨q, c, rfl, h1, h2, h3⟩ := owns_rd hown
      have HB := Lib.hid hbw
      have HIV := Lib.hid (show Iv wo (.slice q l.length c) (l.map fun n : Nat => (n : Int)) from ⟨q, c, by simp, by simpa using h1, h2, h3⟩)
      have HF := Lib.hid hfin
      clear hso hown hbw hfin h1 h2 h3
      by_cases ha : at_ = s.length
      · subst ha
        go_wp2_with fail
        go_ret2
        refine ⟨HB.out, .inl ⟨_, l, by rw [HF.out, List.drop_length], ?_, HIV.out⟩⟩
        simp [hss]
      · have e1 : ((at_ : Int) == (s.length : Int)) = false := by rw [beq_eq_false_iff_ne]; omega
        have e2 : (at_ == s.length) = false := by rw [beq_eq_false_iff_ne]; exact ha
        go_wp2_with fail
        go_ret2
        refine ⟨HB.out, .inr ⟨fun l' h => ?_, _, rfl⟩⟩
        rw [HF.out] at h
        have := congrArg (fun o : Option (List Nat × List UInt8) => (o.getD ([], [])).2.length) h
        simp at this
        omega
end Go.Proofs.YtgmiockaecklaaaGreatDoor

namespace Go.Proofs.YtgmiockaecklaaaGreatDoor
open Go.RowKit Go.Extern.Stop Go.Stop Go.Extern

theorem readL_count : ∀ (pat s : List UInt8) (l : List Nat) (t : List UInt8), readL pat s = some (l, t) → l.length = pat.count 35
  | [], s, l, t, h => by
    simp [readL] at h
    simp [← h.1]
  | c :: ps, s, l, t, h => by
    by_cases hc : c = 35
    · subst hc
      rw [readL_hash] at h
      split at h
      · rw [Option.map_eq_some_iff] at h
        obtain ⟨p, hp, he⟩ := h
        have := readL_count ps _ p.1 p.2 hp
        cases he
        simp [this]
      · cases h
    · cases s with
      | nil => rw [readL_nil c ps hc] at h; cases h
      | cons x xs =>
        rw [readL_sign c ps hc] at h
        split at h
        · have := readL_count ps xs l t h
          simp [this, hc]
        · cases h
/-- are all numbers below their limits? -/
def below : List Nat → List Nat → Bool
  | n :: l, m :: ms => decide (n < m) && below l ms
  | _, _ => true
def numsX (pat : List UInt8) (lims : List Nat) (s : List UInt8) : Except Nat (List Nat) :=
  match readL pat s with
  | some (l, []) => if below l lims = true then .ok l else .error 0
  | _ => .error 3
theorem below_iff : ∀ (l ms : List Nat), below l ms = true ↔ ∀ j (h : j < l.length) (h2 : j < ms.length), l[j] < ms[j]
  | [], ms => by simp [below]
  | n :: l, [] => by simp [below]
  | n :: l, m :: ms => by
    unfold below
    rw [Bool.and_eq_true, decide_eq_true_eq, below_iff l ms]
    constructor
    · rintro ⟨h1, h2⟩ j hj hj2
      cases j with
      | zero => exact h1
      | succ j => exact h2 j (by simpa using hj) (by simpa using hj2)
    · intro h
      exact ⟨h 0 (by simp) (by simp), fun j hj hj2 => h (j + 1) (by simpa using hj) (by simpa using hj2)⟩
def NumsR (x : Except Nat (List Nat)) (w : World) (e : Ending) (w' : World) : Prop :=
  Below w.heap.size w w' ∧ ((∃ u l, x = .ok l ∧ e = .returned (.tuple #[u, .int .i64 0]) ∧ Iv w' u (l.map fun n : Nat => (n : Int))) ∨ ∃ n : Nat, x = .error n ∧ e = .returned (.tuple #[.slice none 0 0, .int .i64 ((n + 1 : Nat) : Int)]))
theorem nums_none {pat s : List UInt8} {lims : List Nat} (h : ∀ l, readL pat s ≠ some (l, [])) : numsX pat lims s = .error 3 := by
  unfold numsX
  split
  · rename_i l he
    exact absurd he (h l)
  · rfl
theorem nums_some {pat s : List UInt8} {lims l : List Nat} (h : readL pat s = some (l, [])) : numsX pat lims s = if below l lims = true then .ok l else .error 0 := by
  unfold numsX
  rw [h]
set_option maxRecDepth 20000 in
set_option maxHeartbeats 2000000 in
theorem numbers_any (s pat : List UInt8) (lims : List Nat) (v : Value) (hs : s.length ≤ 1000) (hp : pat.length ≤ 100) (hc : pat.count 35 = lims.length) (w : World) (hv : Iv w v (lims.map fun n : Nat => (n : Int))) :
    Calls Tryz.prog 48 #[.string (bs s), .string (bs pat), v] w (NumsR (numsX pat lims s) w) := by
  have HR := Lib.hid (read_any s pat hs hp w)
  obtain ⟨p, cap, rfl, h1, h2, h3⟩ := hv
  have H3 := Lib.hid h3
  have hll : lims.length ≤ 100 := by have := List.count_le_length (a := (35 : UInt8)) (l := pat); omega
  rw [List.length_map] at h1
  simp only [List.length_map]
  clear h3
  go_enter Tryz.func48, Tryz.ntmps48
  go_wp2_with fail
  refine HR.out.mono ?_
  rintro e w1 ⟨hb, ⟨v, l, ho, rfl, hiv⟩ | ⟨hno, v, rfl⟩⟩
  · have HB := Lib.hid hb
    have hlen := readL_count _ _ _ _ ho
    obtain ⟨q, c, rfl, g1, g2, g3⟩ := hiv
    have G3 := Lib.hid g3
    have HIV := Lib.hid (show Iv w1 (.slice q (l.map fun n : Nat => (n : Int)).length c) (l.map fun n : Nat => (n : Int)) from ⟨q, c, rfl, g1, g2, g3⟩)
    have HO := Lib.hid ho
    have H31 := Lib.hid (H3.out.below hb)
    rw [List.length_map] at g1 HIV
    simp only [List.length_map]
    have HLEN := Lib.hid (hlen.trans hc)
    clear hb ho g3 hlen hc
    go_wp2_with fail
    go_loopw [22] (fun i wx => ∃ k : Nat, k ≤ l.length ∧ i = .int .i64 k ∧ (∀ j (h : j < l.length) (h2 : j < lims.length), j < k → l[j] < lims[j]) ∧ w1 = wx) (fun i _ => l.length - (intOf i).toNat)
    case atStart => exact ⟨0, by omega, rfl, fun j _ _ h => absurd h (by omega), rfl⟩
    case round =>
      obtain ⟨k, hk, rfl, hall, rfl⟩ := hrel
      by_cases hlt : k < l.length
      · have hk2 : k < lims.length := by rw [← HLEN.out]; exact hlt
        obtain ⟨b1, o1, rfl, c1⟩ := iv_cell G3.out (show k < (l.map fun n : Nat => (n : Int)).length by simpa using hlt)
        obtain ⟨b2, o2, rfl, c2⟩ := iv_cell H31.out (show k < (lims.map fun n : Nat => (n : Int)).length by simpa using hk2)
        rw [List.getElem_map] at c1 c2
        by_cases hm : l[k] < lims[k]
        · have HA := Lib.hid (show ∀ j (h : j < l.length) (h2 : j < lims.length), j < k + 1 → l[j] < lims[j] from fun j h h2 hj => by
            by_cases e : j = k
            · subst e; exact hm
            · exact hall j h h2 (by omega))
          have d1 : decide ((lims[k] : Int) ≤ (l[k] : Int)) = false := decide_eq_false (by omega)
          have d2 : decide (lims[k] ≤ l[k]) = false := decide_eq_false (by omega)
          clear hall hm
          generalize l[k] = A at *
          generalize lims[k] = M at *
          go_wp2_with fail
          go_roundw
          case rel => exact ⟨k + 1, by omega, by simp, HA.out, by trivial⟩
          all_goals (simp [intOf]; try omega)
        · have HX := Lib.hid (show numsX pat lims s = .error 0 by
            rw [nums_some HO.out, if_neg (fun h => hm ((below_iff _ _).1 h k hlt hk2))])
          have d1 : decide ((lims[k] : Int) ≤ (l[k] : Int)) = true := decide_eq_true (by omega)
          have d2 : decide (lims[k] ≤ l[k]) = true := decide_eq_true (by omega)
          clear hall hm
          generalize l[k] = A at *
          generalize lims[k] = M at *
          go_wp2_with fail
          go_ret2
          exact ⟨HB.out, .inr ⟨0, HX.out, rfl⟩⟩
      · obtain rfl : k = l.length := by omega
        have HX := Lib.hid (show numsX pat lims s = .ok l by
          rw [nums_some HO.out, if_pos ((below_iff _ _).2 (fun j h h2 => hall j h h2 h))])
        clear hall
        go_wp2_with fail
        go_ret2
        exact ⟨HB.out, .inl ⟨_, l, HX.out, rfl, HIV.out⟩⟩
  · have HB := Lib.hid hb
    have HX := Lib.hid (nums_none (lims := lims) hno)
    clear hb hno
    go_wp2_with fail
    go_ret2
    exact ⟨HB.out, .inr ⟨3, HX.out, rfl⟩⟩
end Go.Proofs.YtgmiockaecklaaaGreatDoor

namespace Go.Proofs.YtgmiockaecklaaaGreatDoor
open Go.RowKit

theorem fold_ge (l : List UInt8) : ∀ a : Nat, a * 10 ^ l.length ≤ l.foldl (fun n c => 10 * n + (c.toNat - 48)) a := by
  induction l with
  | nil => intro a; simp
  | cons x xs ih =>
    intro a
    rw [List.foldl_cons, List.length_cons, Nat.pow_succ]
    refine Nat.le_trans ?_ (ih _)
    rw [Nat.mul_comm (10 ^ xs.length) 10, ← Nat.mul_assoc]
    exact Nat.mul_le_mul_right _ (by omega)
theorem capV_take (l : List UInt8) : ∀ k, k ≤ l.length → capV (l.take k) = min (val7 (l.take k)) 1000000
  | 0, _ => by simp [capV, val7]
  | k + 1, hk => by
    have ih := capV_take l k (by omega)
    rw [List.take_add_one, List.getElem?_eq_getElem (show k < l.length by omega), Option.toList_some, capV_snoc, val7_snoc, ih]
    unfold capS
    split <;> omega
theorem capV_min (l : List UInt8) : capV l = min (val7 l) 1000000 := by
  have := capV_take l l.length (Nat.le_refl _)
  rwa [List.take_length] at this
theorem val7_take_le (l : List UInt8) (k : Nat) : val7 (l.take k) ≤ val7 l := by
  conv => rhs; rw [← List.take_append_drop k l]
  unfold val7
  rw [List.foldl_append]
  refine Nat.le_trans ?_ (fold_ge _ _)
  exact Nat.le_mul_of_pos_right _ (Nat.pow_pos (by omega))
theorem val7_big (l : List UInt8) (hh : headB l = true) (ha : l.all digitB = true) (h7 : 7 ≤ l.length) : 1000000 ≤ val7 (l.take 7) := by
  cases l with
  | nil => simp at h7
  | cons x xs =>
    have hx : x ≠ 48 := by
      intro e
      subst e
      have h1 : decide (1 < ((48 : UInt8) :: xs).length) = true := decide_eq_true (by omega)
      unfold headB at hh
      rw [h1] at hh
      simp at hh
    have hd : digitB x = true := by rw [List.all_cons, Bool.and_eq_true] at ha; exact ha.1
    have h48 := digitB_le hd
    have hx2 : x.toNat ≠ 48 := fun e => hx (UInt8.toNat_inj.1 e)
    have := fold_ge (xs.take 6) (x.toNat - 48)
    rw [List.length_take, Nat.min_eq_left (by simp at h7; omega)] at this
    unfold val7
    rw [List.take_succ_cons, List.foldl_cons]
    simp only [Nat.mul_zero, Nat.zero_add] at *
    omega
/-- what is read of a number's digits, and what the document reads -/
theorem cap_dig (t : List UInt8) (hh : headB t = true) (ha : t.all digitB = true) : capV t = min (val7 (t.take 7)) 1000000 := by
  rw [capV_min]
  by_cases h : 7 ≤ t.length
  · have h1 := val7_big t hh ha h
    have h2 := val7_take_le t 7
    omega
  · rw [List.take_of_length_le (by omega)]
end Go.Proofs.YtgmiockaecklaaaGreatDoor

namespace Go.Proofs.YtgmiockaecklaaaGreatDoor
open Go.RowKit

theorem cutT_split (c : UInt8) : ∀ (l p q : List UInt8), cutT c l = some (p, q) → l = p ++ c :: q
  | [], p, q, h => by simp [cutT] at h
  | x :: xs, p, q, h => by
    unfold cutT at h
    split at h
    · rename_i e
      cases h
      rw [e]; rfl
    · rw [Option.map_eq_some_iff] at h
      obtain ⟨⟨a, b⟩, h1, h2⟩ := h
      cases h2
      rw [cutT_split c xs _ _ h1]; rfl
theorem digs_un (t : List UInt8) : digs t ++ undigs t = t := List.takeWhile_append_dropWhile
theorem digs_all (t : List UInt8) : ∀ x ∈ digs t, digitB x = true := fun x hx => by
  have := List.all_takeWhile (p := digitB) (l := t)
  rw [List.all_eq_true] at this
  exact this x hx
theorem dig_notin {l : List UInt8} {c : UInt8} (h : ∀ x ∈ l, digitB x = true) (hc : digitB c = false) : c ∉ l := fun hm => by
  rw [h c hm] at hc; cases hc
theorem digX_ok {t : List UInt8} {n : Nat} (h : digX t = .ok n) : headB t = true ∧ (∀ x ∈ t, digitB x = true) ∧ n = val7 (t.take 7) := by
  unfold digX digT at h
  split at h
  · rename_i m hm
    split at hm
    · rename_i hc
      cases hm
      cases h
      exact ⟨hc.1, List.all_eq_true.1 hc.2, rfl⟩
    · cases hm
  · cases h
theorem digX_is {t : List UInt8} (h1 : headB t = true) (h2 : ∀ x ∈ t, digitB x = true) : digX t = .ok (val7 (t.take 7)) := by
  unfold digX digT
  rw [if_pos ⟨h1, List.all_eq_true.2 h2⟩]
theorem digX_or (t : List UInt8) : (∃ n, digX t = .ok n) ∨ digX t = .error 3 := by
  unfold digX
  cases digT t with
  | some n => exact .inl ⟨n, rfl⟩
  | none => exact .inr rfl
/-- a number at the end -/
theorem read_end {t : List UInt8} {n : Nat} (h : digX t = .ok n) : readL [35] t = some ([min n 1000000], []) := by
  obtain ⟨h1, h2, h3⟩ := digX_ok h
  have e1 : digs t = t := (tw_all t h2).1
  have e2 : undigs t = [] := (tw_all t h2).2
  rw [readL_hash, e1, if_pos h1, e2, cap_dig t h1 (List.all_eq_true.2 h2), ← h3]
  rfl
theorem end_read {t : List UInt8} {l : List Nat} (h : readL [35] t = some (l, [])) : ∃ n, digX t = .ok n := by
  rw [readL_hash] at h
  split at h
  · rename_i h1
    rw [Option.map_eq_some_iff] at h
    obtain ⟨p, hp, he⟩ := h
    have hu : undigs t = [] := by
      simp only [readL] at hp
      cases hp
      simp only [Prod.mk.injEq] at he
      exact he.2
    have e := digs_un t
    rw [hu, List.append_nil] at e
    exact ⟨_, digX_is (by rw [← e]; exact h1) (by rw [← e]; exact digs_all t)⟩
  · cases h
/-- a number ahead of a sign -/
theorem readq_num {p q : List UInt8} {c : UInt8} {n : Nat} (hc : digitB c = false) (h35 : c ≠ 35) (h : digX p = .ok n) (ps : List UInt8) : readL (35 :: c :: ps) (p ++ c :: q) = (readL ps q).map fun x => (min n 1000000 :: x.1, x.2) := by
  obtain ⟨h1, h2, h3⟩ := digX_ok h
  have e1 : digs (p ++ c :: q) = p := (tw_stop p h2 c q hc).1
  have e2 : undigs (p ++ c :: q) = c :: q := (tw_stop p h2 c q hc).2
  rw [readL_hash, e1, if_pos h1, e2, cap_dig p h1 (List.all_eq_true.2 h2), ← h3, readL_sign c ps h35, if_pos rfl]
theorem num_read {t : List UInt8} {c : UInt8} {ps : List UInt8} {l : List Nat} {r : List UInt8} (h35 : c ≠ 35) (h : readL (35 :: c :: ps) t = some (l, r)) : ∃ p q n l', t = p ++ c :: q ∧ digX p = .ok n ∧ readL ps q = some (l', r) := by
  rw [readL_hash] at h
  split at h
  · rename_i h1
    rw [Option.map_eq_some_iff] at h
    obtain ⟨x, hx, he⟩ := h
    have e := digs_un t
    cases hu : undigs t with
    | nil => rw [hu, readL_nil c ps h35] at hx; cases hx
    | cons y ys =>
      rw [hu, readL_sign c ps h35] at hx
      split at hx
      · rename_i e2
        subst e2
        cases he
        refine ⟨digs t, ys, _, x.1, ?_, digX_is h1 (digs_all t), ?_⟩
        · rw [← hu]; exact e.symm
        · exact hx
      · cases hx
  · cases h
theorem two_ok {t : List UInt8} {p : Nat × Nat} (c : UInt8) (h : twoT c t = .ok p) : ∃ a b, t = a ++ c :: b ∧ digX a = .ok p.1 ∧ digX b = .ok p.2 := by
  unfold twoT at h
  split at h
  · cases h
  · rename_i x hx
    split at h
    · cases h
    · rename_i a ha
      split at h
      · cases h
      · rename_i b hb
        cases h
        exact ⟨x.1, x.2, cutT_split c t x.1 x.2 hx, ha, hb⟩
theorem two_is {a b : List UInt8} {n m : Nat} {c : UInt8} (hc : digitB c = false) (ha : digX a = .ok n) (hb : digX b = .ok m) : twoT c (a ++ c :: b) = .ok (n, m) := by
  unfold twoT
  rw [cutT_at c a b (dig_notin (digX_ok ha).2.1 hc)]
  simp only [ha, hb]
theorem two_or (c : UInt8) (t : List UInt8) : (∃ p, twoT c t = .ok p) ∨ twoT c t = .error 3 := by
  unfold twoT
  split
  · exact .inr rfl
  · rename_i x hx
    rcases digX_or x.1 with ⟨a, ha⟩ | ha
    · rcases digX_or x.2 with ⟨b, hb⟩ | hb
      · exact .inl ⟨(a, b), by simp only [ha, hb]⟩
      · exact .inr (by simp only [ha, hb])
    · exact .inr (by simp only [ha])
theorem after_or (c : UInt8) (s : List UInt8) : (∃ t, s = c :: t ∧ afterT c s = .ok t) ∨ (afterT c s = .error 3 ∧ ∀ t, s ≠ c :: t) := by
  unfold afterT
  cases s with
  | nil => exact .inr ⟨rfl, fun t h => by cases h⟩
  | cons x xs =>
    by_cases h : x = c
    · subst h; exact .inl ⟨xs, rfl, if_pos rfl⟩
    · refine .inr ⟨if_neg h, fun t e => ?_⟩
      cases e
      exact h rfl
theorem sign_read {c : UInt8} {ps s : List UInt8} {x : List Nat × List UInt8} (h35 : c ≠ 35) (h : readL (c :: ps) s = some x) : ∃ t, s = c :: t ∧ readL ps t = some x := by
  cases s with
  | nil => rw [readL_nil c ps h35] at h; cases h
  | cons y ys =>
    rw [readL_sign c ps h35] at h
    split at h
    · rename_i e; subst e; exact ⟨ys, rfl, h⟩
    · cases h
theorem read_sign (c : UInt8) (h35 : c ≠ 35) (ps t : List UInt8) : readL (c :: ps) (c :: t) = readL ps t := by
  rw [readL_sign c ps h35, if_pos rfl]
theorem lim_min {n m : Nat} (hm : m ≤ 1000000) : (min n 1000000 < m) ↔ n < m := by omega
theorem nums_node (s : List UInt8) : numsX [110, 35] [4] s = (toNodeT s).map fun n => [n] := by
  unfold toNodeT
  rcases after_or 110 s with ⟨t, rfl, ht⟩ | ⟨ht, hno⟩
  · rw [ht]
    rcases digX_or t with ⟨n, hn⟩ | hn
    · rw [nums_some (l := [min n 1000000]) (by rw [read_sign 110 (by decide)]; exact read_end hn)]
      simp only [Except.bind, hn, limX]
      by_cases h : n ≤ 3
      · rw [if_pos (by simp [below]; omega), if_pos h, show min n 1000000 = n by omega]; rfl
      · rw [if_neg (by simp [below]; omega), if_neg h]; rfl
    · rw [nums_none (fun l hl => by
        rw [read_sign 110 (by decide)] at hl
        obtain ⟨n, h⟩ := end_read hl
        rw [hn] at h; cases h)]
      simp only [Except.bind, hn]; rfl
  · rw [ht, nums_none (fun l hl => by
      obtain ⟨t, h, _⟩ := sign_read (by decide) hl
      exact hno t h)]
    rfl
theorem nums_two (c : UInt8) (h35 : c ≠ 35) (m : Nat) (hm : m + 1 ≤ 1000000) (s : List UInt8) : numsX [c, 35, 46, 35] [4, m + 1] s = ((afterT c s).bind fun t => (twoT 46 t).bind fun p => (limX p.1 3).bind fun _ => (limX p.2 m).bind fun _ => (.ok p : Except Nat (Nat × Nat))).map fun p => [p.1, p.2] := by
  rcases after_or c s with ⟨t, rfl, ht⟩ | ⟨ht, hno⟩
  · rw [ht]
    rcases two_or 46 t with ⟨p, hp⟩ | hp
    · obtain ⟨a, b, rfl, ha, hb⟩ := two_ok 46 hp
      rw [nums_some (l := [min p.1 1000000, min p.2 1000000]) (by rw [read_sign c h35, readq_num (by decide) (by decide) ha, read_end hb]; rfl)]
      simp only [Except.bind, hp, limX]
      by_cases h : p.1 ≤ 3
      · by_cases h2 : p.2 ≤ m
        · rw [if_pos (by simp [below]; omega), if_pos h, if_pos h2, show min p.1 1000000 = p.1 by omega, show min p.2 1000000 = p.2 by omega]; rfl
        · rw [if_neg (by simp [below]; omega), if_pos h, if_neg h2]; rfl
      · rw [if_neg (by simp [below]; omega), if_neg h]; rfl
    · rw [nums_none (fun l hl => by
        rw [read_sign c h35] at hl
        obtain ⟨a, q, n, l', rfl, h1, h2⟩ := num_read (by decide) hl
        obtain ⟨k, h3⟩ := end_read h2
        rw [two_is (by decide) h1 h3] at hp; cases hp)]
      simp only [Except.bind, hp]; rfl
  · rw [ht, nums_none (fun l hl => by
      obtain ⟨t, h, _⟩ := sign_read h35 hl
      exact hno t h)]
    rfl
theorem nums_act (s : List UInt8) : numsX [97, 35, 46, 35] [4, 1000000] s = (toActT s).map fun p => [p.1, p.2] := nums_two 97 (by decide) 999999 (by omega) s
theorem nums_part (s : List UInt8) : numsX [112, 35, 46, 35] [4, 8] s = (toPartT s).map fun p => [p.1, p.2] := nums_two 112 (by decide) 7 (by omega) s
theorem reg_form (s : List UInt8) : (∃ a b r n m k, s = 97 :: (a ++ 46 :: (b ++ 47 :: r)) ∧ digX a = .ok n ∧ digX b = .ok m ∧ digX r = .ok k) ∨
    (toRegT s = .error 3 ∧ ∀ a b r n m k, s = 97 :: (a ++ 46 :: (b ++ 47 :: r)) → digX a = .ok n → digX b = .ok m → digX r = .ok k → False) := by
  by_cases hx : ∃ a b r n m k, s = 97 :: (a ++ 46 :: (b ++ 47 :: r)) ∧ digX a = .ok n ∧ digX b = .ok m ∧ digX r = .ok k
  · exact .inl hx
  · refine .inr ⟨?_, fun a b r n m k h1 h2 h3 h4 => hx ⟨a, b, r, n, m, k, h1, h2, h3, h4⟩⟩
    cases hc : cutT 47 s with
    | none => exact toRegT_none hc
    | some c =>
      rw [toRegT_some hc]
      rcases after_or 97 c.1 with ⟨t, he, ht⟩ | ⟨ht, _⟩
      · rw [bind_ok ht]
        rcases two_or 46 t with ⟨p, hp⟩ | hp
        · rw [bind_ok hp]
          rcases digX_or c.2 with ⟨k, hk⟩ | hk
          · obtain ⟨a, b, rfl, ha, hb⟩ := two_ok 46 hp
            refine absurd ⟨a, b, c.2, p.1, p.2, k, ?_, ha, hb, hk⟩ hx
            rw [cutT_split 47 s c.1 c.2 hc, he]
            simp
          · rw [bind_error hk]
        · rw [bind_error hp]
      · rw [bind_error ht]
theorem nums_reg (s : List UInt8) : numsX [97, 35, 46, 35, 47, 35] [4, 1000000, 6] s = (toRegT s).map fun p => [p.1, p.2.1, p.2.2] := by
  rcases reg_form s with ⟨a, b, r, n, m, k, rfl, ha, hb, hr⟩ | ⟨h, hno⟩
  · rw [nums_some (l := [min n 1000000, min m 1000000, min k 1000000]) (by rw [read_sign 97 (by decide), readq_num (by decide) (by decide) ha, readq_num (by decide) (by decide) hb, read_end hr]; rfl)]
    have hn : (47 : UInt8) ∉ 97 :: (a ++ 46 :: b) := by
      have h1 := dig_notin (c := 47) (digX_ok ha).2.1 (by decide)
      have h2 := dig_notin (c := 47) (digX_ok hb).2.1 (by decide)
      simp [h1, h2]
    have e : (97 : UInt8) :: (a ++ 46 :: (b ++ 47 :: r)) = (97 :: (a ++ 46 :: b)) ++ 47 :: r := by simp
    rw [e, toRegT_some (cutT_at 47 _ r hn)]
    rw [bind_ok (show afterT 97 ((97 : UInt8) :: (a ++ 46 :: b)) = .ok (a ++ 46 :: b) by unfold afterT; exact if_pos rfl), bind_ok (two_is (by decide) ha hb), bind_ok hr]
    simp only [Except.bind, limX]
    by_cases h1 : n ≤ 3
    · by_cases h2 : m ≤ 999999
      · by_cases h3 : k ≤ 5
        · rw [if_pos (by simp [below]; omega), if_pos h1, if_pos h2, if_pos h3, show min n 1000000 = n by omega, show min m 1000000 = m by omega, show min k 1000000 = k by omega]; rfl
        · rw [if_neg (by simp [below]; omega), if_pos h1, if_pos h2, if_neg h3]; rfl
      · rw [if_neg (by simp [below]; omega), if_pos h1, if_neg h2]; rfl
    · rw [if_neg (by simp [below]; omega), if_neg h1]; rfl
  · rw [h, nums_none (fun l hl => by
      obtain ⟨t, rfl, h1⟩ := sign_read (by decide) hl
      obtain ⟨a, q, n, l1, rfl, h2, h3⟩ := num_read (by decide) h1
      obtain ⟨b, r, m, l2, rfl, h4, h5⟩ := num_read (by decide) h3
      obtain ⟨k, h6⟩ := end_read h5
      exact hno a b r n m k rfl h2 h4 h6)]
    rfl
end Go.Proofs.YtgmiockaecklaaaGreatDoor

namespace Go.Proofs.YtgmiockaecklaaaGreatDoor
open Go.RowKit Go.Extern.Stop Go.Stop Go.Extern

theorem nums_ok {x : Except Nat (List Nat)} {l : List Nat} {w w' : World} {e : Ending} (h : NumsR x w e w') (hx : x = .ok l) :
    Below w.heap.size w w' ∧ ∃ u, e = .returned (.tuple #[u, .int .i64 0]) ∧ Iv w' u (l.map fun n : Nat => (n : Int)) := by
  obtain ⟨hb, ⟨u, m, hm, rfl, hi⟩ | ⟨n, hn, rfl⟩⟩ := h
  · rw [hx] at hm; cases hm
    exact ⟨hb, u, rfl, hi⟩
  · rw [hx] at hn; cases hn
theorem nums_bad {x : Except Nat (List Nat)} {k : Nat} {w w' : World} {e : Ending} (h : NumsR x w e w') (hx : x = .error k) :
    Below w.heap.size w w' ∧ e = .returned (.tuple #[.slice none 0 0, .int .i64 ((k + 1 : Nat) : Int)]) := by
  obtain ⟨hb, ⟨u, m, hm, rfl, hi⟩ | ⟨n, hn, rfl⟩⟩ := h
  · rw [hx] at hm; cases hm
  · rw [hx] at hn; cases hn
    exact ⟨hb, rfl⟩
theorem n_act (s : List UInt8) (hs : s.length ≤ 1000) (w : World) : Calls Tryz.prog 48 #[.string (bs s), .string ⟨#[97, 35, 46, 35]⟩, .slice (some ⟨w.heap.size, 0, none⟩) 2 2] (w.alloc (.cells #[.int .i64 4, .int .i64 1000000] 3)) (NumsR (numsX [97, 35, 46, 35] [4, 1000000] s) (w.alloc (.cells #[.int .i64 4, .int .i64 1000000] 3))) :=
  numbers_any s [97, 35, 46, 35] [4, 1000000] _ hs (by decide) (by decide) _ ⟨_, _, rfl, by decide, by unfold maxLen; decide, rd_new w #[.int .i64 4, .int .i64 1000000] _ _⟩
theorem n_act_ok {s : List UInt8} {n m : Nat} (h : toActT s = .ok (n, m)) (hs : s.length ≤ 1000) (w : World) : Calls Tryz.prog 48 #[.string (bs s), .string ⟨#[97, 35, 46, 35]⟩, .slice (some ⟨w.heap.size, 0, none⟩) 2 2] (w.alloc (.cells #[.int .i64 4, .int .i64 1000000] 3)) fun e w' => Below w.heap.size w w' ∧ ∃ u, e = .returned (.tuple #[u, .int .i64 0]) ∧ Iv w' u [(n : Int), (m : Int)] := by
  refine (n_act s hs w).mono ?_
  intro e w' hN
  obtain ⟨hb, u, he, hi⟩ := nums_ok hN (by rw [nums_act, h]; rfl)
  exact ⟨(below_alloc1 w _).trans (hb.mono (below_alloc1 w _).size), u, he, hi⟩
theorem n_act_bad {s : List UInt8} {k : Nat} (h : toActT s = .error k) (hs : s.length ≤ 1000) (w : World) : Calls Tryz.prog 48 #[.string (bs s), .string ⟨#[97, 35, 46, 35]⟩, .slice (some ⟨w.heap.size, 0, none⟩) 2 2] (w.alloc (.cells #[.int .i64 4, .int .i64 1000000] 3)) fun e w' => Below w.heap.size w w' ∧ e = .returned (.tuple #[.slice none 0 0, .int .i64 ((k + 1 : Nat) : Int)]) := by
  refine (n_act s hs w).mono ?_
  intro e w' hN
  obtain ⟨hb, he⟩ := nums_bad hN (by rw [nums_act, h]; rfl)
  exact ⟨(below_alloc1 w _).trans (hb.mono (below_alloc1 w _).size), he⟩
end Go.Proofs.YtgmiockaecklaaaGreatDoor
