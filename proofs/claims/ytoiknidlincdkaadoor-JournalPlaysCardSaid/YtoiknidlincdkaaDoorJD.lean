/-
  JourP: journals, plainly: frames, and what is read of bytes. No program.
  JourQ: journals, plainly: what Open, Put and Compact make of a journal; the document's journal beside it. No program.
  JourL: journals, plainly: what the laws' scripts come to. No program.
-/
import Derived.Test.YtoiknidlincdkaaDoorJB
import Derived.Test.YtoiknidlincdkaaDoorJC
namespace Go.Proofs.YtoiknidlincdkaaDoor
open Go.RowKit

def okRow (r : List UInt8) : Bool := decide (1 ≤ r.length) && decide (r.length ≤ 200)
theorem okRow_iff (r : List UInt8) : okRow r = true ↔ 1 ≤ r.length ∧ r.length ≤ 200 := by
  unfold okRow
  rw [Bool.and_eq_true, decide_eq_true_eq, decide_eq_true_eq]
/-- a row's frame -/
def frameJ (r : List UInt8) : List UInt8 := UInt8.ofNat (r.length / 256) :: UInt8.ofNat r.length :: sealed r
theorem frameJ_len (r : List UInt8) : (frameJ r).length = r.length + 6 := by
  unfold frameJ
  simp only [List.length_cons, sealed_len]
def framesJ (rs : List (List UInt8)) : List UInt8 := rs.flatMap frameJ
theorem framesJ_nil : framesJ [] = [] := rfl
theorem framesJ_cons (r : List UInt8) (rs : List (List UInt8)) : framesJ (r :: rs) = frameJ r ++ framesJ rs := by
  unfold framesJ
  rw [List.flatMap_cons]
theorem framesJ_app (rs ss : List (List UInt8)) : framesJ (rs ++ ss) = framesJ rs ++ framesJ ss := by
  unfold framesJ
  rw [List.flatMap_append]
theorem framesJ_take (rs : List (List UInt8)) (k : Nat) (h : k < rs.length) : framesJ (rs.take (k + 1)) = framesJ (rs.take k) ++ frameJ rs[k] := by
  rw [List.take_succ_eq_append_getElem h, framesJ_app, framesJ_cons, framesJ_nil, List.append_nil]
theorem framesJ_zero {rs : List (List UInt8)} : (framesJ rs).length = 0 ↔ rs = [] := by
  cases rs with
  | nil => simp [framesJ]
  | cons r rs =>
    rw [framesJ_cons, List.length_append, frameJ_len]
    constructor
    · intro h; omega
    · intro h; cases h
theorem framesJ_bound : ∀ (rs : List (List UInt8)) (m : Nat), (∀ r ∈ rs, r.length ≤ m) → (framesJ rs).length ≤ (m + 6) * rs.length
  | [], _, _ => by simp [framesJ]
  | r :: rs, m, h => by
    have h1 := h r (List.mem_cons_self ..)
    have h2 := framesJ_bound rs m (fun x hx => h x (List.mem_cons_of_mem _ hx))
    rw [framesJ_cons, List.length_append, frameJ_len, List.length_cons, Nat.mul_succ]
    omega
/-- how many bytes the row at the beginning says that it has -/
def cntJ (l : List UInt8) : Nat := (l.getD 0 0).toNat * 256 + (l.getD 1 0).toNat
/-- the row at the beginning -/
def headJ (l : List UInt8) : Option (List UInt8) :=
  if 2 ≤ l.length ∧ 1 ≤ cntJ l ∧ cntJ l ≤ 200 ∧ cntJ l + 6 ≤ l.length ∧ openErr ((l.drop 2).take (cntJ l + 4)) = 0 then some ((l.drop 2).take (cntJ l)) else none
theorem cnt_frame (r t : List UInt8) (h : okRow r = true) : cntJ (frameJ r ++ t) = r.length := by
  obtain ⟨h1, h2⟩ := (okRow_iff r).1 h
  unfold cntJ frameJ
  simp only [List.cons_append, List.getD_cons_zero, List.getD_cons_succ]
  rw [UInt8.toNat_ofNat', UInt8.toNat_ofNat']
  omega
theorem head_frame (r t : List UInt8) (h : okRow r = true) : headJ (frameJ r ++ t) = some r := by
  have hc := cnt_frame r t h
  obtain ⟨h1, h2⟩ := (okRow_iff r).1 h
  have hd : (frameJ r ++ t).drop 2 = sealed r ++ t := rfl
  have hl : (frameJ r ++ t).length = r.length + 6 + t.length := by rw [List.length_append, frameJ_len]
  have ht : (sealed r ++ t).take (r.length + 4) = sealed r := by
    rw [← sealed_len, List.take_left]
  have ht2 : (sealed r ++ t).take r.length = r := by
    unfold sealed
    rw [List.append_assoc, List.take_left]
  unfold headJ
  rw [hc, hd, ht, ht2, if_pos ⟨by omega, by omega, by omega, by omega, (open_sealed r).1⟩]
theorem openErr_sealed {l : List UInt8} (n : Nat) (hl : l.length = n + 4) (h : openErr l = 0) : l = sealed (l.take n) := by
  have e : l.take n ++ l.drop n = l := List.take_append_drop n l
  have h4 : (l.drop n).length = 4 := by rw [List.length_drop]; omega
  have h2 := openErr_app (l.take n) (l.drop n) h4
  rw [e, h] at h2
  by_cases hc : l.drop n = four (rsum (l.take n))
  · unfold sealed
    rw [← hc, e]
  · rw [if_neg hc] at h2
    omega
theorem toNat_two (a b : UInt8) (h : a.toNat * 256 + b.toNat ≤ 200) : UInt8.ofNat ((a.toNat * 256 + b.toNat) / 256) = a ∧ UInt8.ofNat (a.toNat * 256 + b.toNat) = b := by
  have ha : a.toNat = 0 := by omega
  have hb := b.toNat_lt
  have ea : a = 0 := UInt8.toNat_inj.1 (by rw [ha]; rfl)
  constructor
  · rw [ea]
    have : ((0 : UInt8).toNat * 256 + b.toNat) / 256 = 0 := by
      show (0 * 256 + b.toNat) / 256 = 0
      omega
    rw [this]
    rfl
  · rw [ha, Nat.zero_mul, Nat.zero_add]
    exact UInt8.ofNat_toNat
theorem head_some {l r : List UInt8} (h : headJ l = some r) : okRow r = true ∧ l = frameJ r ++ l.drop (r.length + 6) ∧ r.length = cntJ l := by
  unfold headJ at h
  split at h
  · rename_i hc
    obtain ⟨h1, h2, h3, h4, h5⟩ := hc
    obtain ⟨a, b, t, rfl⟩ : ∃ a b t, l = a :: b :: t := by
      cases l with
      | nil => simp at h1
      | cons a l =>
        cases l with
        | nil => simp at h1
        | cons b t => exact ⟨a, b, t, rfl⟩
    have hcn : cntJ (a :: b :: t) = a.toNat * 256 + b.toNat := rfl
    have hd : (a :: b :: t).drop 2 = t := rfl
    rw [hd] at h h5
    generalize hn : cntJ (a :: b :: t) = n at *
    simp only [List.length_cons] at h4
    have hr : r = t.take n := (Option.some.inj h).symm
    have hrl : r.length = n := by rw [hr, List.length_take]; omega
    have hs := openErr_sealed n (by rw [List.length_take]; omega) h5
    rw [List.take_take, Nat.min_eq_left (by omega), ← hr] at hs
    have htwo := toNat_two a b (by omega)
    rw [← hcn] at htwo
    refine ⟨(okRow_iff r).2 ⟨by omega, by omega⟩, ?_, hrl⟩
    unfold frameJ
    rw [hrl, htwo.1, htwo.2, ← hs]
    show a :: b :: t = a :: b :: (t.take (n + 4) ++ (a :: b :: t).drop (n + 6))
    rw [show (a :: b :: t).drop (n + 6) = t.drop (n + 4) from rfl, List.take_append_drop]
  · cases h
/-- a frame that is cut is none -/
theorem head_cut (r : List UInt8) (k : Nat) (h : okRow r = true) (hk : k < r.length + 6) : headJ ((frameJ r).take k) = none := by
  unfold headJ
  rw [if_neg]
  rintro ⟨h1, _, _, h4, _⟩
  have hl : ((frameJ r).take k).length = k := by rw [List.length_take, frameJ_len]; omega
  rw [hl] at h1 h4
  have hc : cntJ ((frameJ r).take k) = r.length := by
    have := cnt_frame r [] h
    rw [List.append_nil] at this
    rw [← this]
    obtain ⟨j, rfl⟩ : ∃ j, k = j + 2 := ⟨k - 2, by omega⟩
    rfl
  rw [hc] at h4
  omega
/-- the rows at the beginning of bytes, and how many bytes they have -/
def readN : Nat → List UInt8 → List (List UInt8) × Nat
  | 0, _ => ([], 0)
  | n + 1, l => match headJ l with
    | none => ([], 0)
    | some r => (r :: (readN n (l.drop (r.length + 6))).1, r.length + 6 + (readN n (l.drop (r.length + 6))).2)
def readJ (l : List UInt8) : List (List UInt8) × Nat := readN l.length l
theorem head_nil : headJ [] = none := by
  unfold headJ
  rw [if_neg]
  rintro ⟨h, _⟩
  simp at h
theorem head_len {l r : List UInt8} (h : headJ l = some r) : (l.drop (r.length + 6)).length + (r.length + 6) = l.length := by
  have h1 := (head_some h).2.1
  have h2 := congrArg List.length h1
  rw [List.length_append, frameJ_len] at h2
  rw [List.length_drop] at *
  omega
theorem readN_enough : ∀ (n m : Nat) (l : List UInt8), l.length ≤ n → l.length ≤ m → readN n l = readN m l
  | 0, m, l, h, _ => by
    obtain rfl : l = [] := List.eq_nil_of_length_eq_zero (by omega)
    cases m with
    | zero => rfl
    | succ m => unfold readN; rw [head_nil]
  | n + 1, 0, l, _, h => by
    obtain rfl : l = [] := List.eq_nil_of_length_eq_zero (by omega)
    unfold readN; rw [head_nil]
  | n + 1, m + 1, l, h1, h2 => by
    unfold readN
    cases hh : headJ l with
    | none => rfl
    | some r =>
      have hl := head_len hh
      simp only
      rw [readN_enough n m (l.drop (r.length + 6)) (by omega) (by omega)]
theorem readJ_none {l : List UInt8} (h : headJ l = none) : readJ l = ([], 0) := by
  unfold readJ
  cases l.length with
  | zero => rfl
  | succ n => unfold readN; rw [h]
theorem readJ_some {l r : List UInt8} (h : headJ l = some r) : readJ l = (r :: (readJ (l.drop (r.length + 6))).1, r.length + 6 + (readJ (l.drop (r.length + 6))).2) := by
  have hl := head_len h
  unfold readJ
  obtain ⟨n, hn⟩ : ∃ n, l.length = n + 1 := ⟨l.length - 1, by omega⟩
  rw [hn]
  conv => lhs; unfold readN
  rw [h]
  simp only
  rw [readN_enough n (l.drop (r.length + 6)).length _ (by omega) (Nat.le_refl _)]
theorem readJ_frames : ∀ (rs : List (List UInt8)) (t : List UInt8), (∀ r ∈ rs, okRow r = true) → readJ (framesJ rs ++ t) = (rs ++ (readJ t).1, (framesJ rs).length + (readJ t).2)
  | [], t, _ => by rw [framesJ_nil, List.nil_append, List.nil_append, List.length_nil, Nat.zero_add]
  | r :: rs, t, h => by
    have h1 := h r (List.mem_cons_self ..)
    have ih := readJ_frames rs t (fun x hx => h x (List.mem_cons_of_mem _ hx))
    have hh := head_frame r (framesJ rs ++ t) h1
    have hd : (frameJ r ++ (framesJ rs ++ t)).drop (r.length + 6) = framesJ rs ++ t := by
      rw [← frameJ_len, List.drop_left]
    rw [framesJ_cons, List.append_assoc, readJ_some hh, hd, ih, List.length_append, frameJ_len]
    refine Prod.ext rfl ?_
    simp only
    omega
theorem take_frame (r X : List UInt8) (k : Nat) : (frameJ r ++ X).take (r.length + 6 + k) = frameJ r ++ X.take k := by
  rw [List.take_append, List.take_of_length_le (by rw [frameJ_len]; omega), frameJ_len]
  congr 2
  omega
/-- what is read stands at the beginning -/
theorem readJ_ok (l : List UInt8) : (∀ r ∈ (readJ l).1, okRow r = true) ∧ l.take (readJ l).2 = framesJ (readJ l).1 ∧ (readJ l).2 = (framesJ (readJ l).1).length ∧ (readJ l).2 ≤ l.length := by
  have gen : ∀ (n : Nat) (l : List UInt8), l.length ≤ n → (∀ r ∈ (readJ l).1, okRow r = true) ∧ l.take (readJ l).2 = framesJ (readJ l).1 ∧ (readJ l).2 = (framesJ (readJ l).1).length ∧ (readJ l).2 ≤ l.length := by
    intro n
    induction n with
    | zero =>
      intro l hl
      obtain rfl : l = [] := List.eq_nil_of_length_eq_zero (by omega)
      rw [readJ_none head_nil]
      exact ⟨by simp, rfl, rfl, Nat.le_refl _⟩
    | succ n ih =>
      intro l hl
      cases hh : headJ l with
      | none =>
        rw [readJ_none hh]
        exact ⟨by simp, rfl, rfl, Nat.zero_le _⟩
      | some r =>
        have hlen := head_len hh
        obtain ⟨h1, h2, _⟩ := head_some hh
        obtain ⟨i1, i2, i3, i4⟩ := ih (l.drop (r.length + 6)) (by omega)
        rw [readJ_some hh]
        simp only
        refine ⟨fun x hx => ?_, ?_, ?_, by omega⟩
        · rcases List.mem_cons.1 hx with rfl | hx
          · exact h1
          · exact i1 x hx
        · rw [framesJ_cons, ← i2]
          have e := take_frame r (l.drop (r.length + 6)) (readJ (l.drop (r.length + 6))).2
          rwa [← h2] at e
        · rw [framesJ_cons, List.length_append, frameJ_len, ← i3]
  exact gen l.length l (Nat.le_refl _)
/-- rows whose bytes are cut: a beginning of them is read -/
theorem readJ_cut : ∀ (rs : List (List UInt8)) (k : Nat), (∀ r ∈ rs, okRow r = true) → ∃ i, i ≤ rs.length ∧ (readJ ((framesJ rs).take k)).1 = rs.take i
  | [], k, _ => ⟨0, Nat.le_refl _, by rw [framesJ_nil, List.take_nil, readJ_none head_nil]; rfl⟩
  | r :: rs, k, h => by
    have h1 := h r (List.mem_cons_self ..)
    by_cases hk : k < r.length + 6
    · refine ⟨0, Nat.zero_le _, ?_⟩
      have e : (framesJ (r :: rs)).take k = (frameJ r).take k := by
        rw [framesJ_cons, List.take_append, frameJ_len, show k - (r.length + 6) = 0 by omega, List.take_zero, List.append_nil]
      rw [e, readJ_none (head_cut r k h1 hk)]
      rfl
    · obtain ⟨i, hi, he⟩ := readJ_cut rs (k - (r.length + 6)) (fun x hx => h x (List.mem_cons_of_mem _ hx))
      refine ⟨i + 1, by simp only [List.length_cons]; omega, ?_⟩
      have e : (framesJ (r :: rs)).take k = frameJ r ++ (framesJ rs).take (k - (r.length + 6)) := by
        rw [framesJ_cons, List.take_append, frameJ_len, List.take_of_length_le (by rw [frameJ_len]; omega)]
      have hh := head_frame r ((framesJ rs).take (k - (r.length + 6))) h1
      have hd : (frameJ r ++ (framesJ rs).take (k - (r.length + 6))).drop (r.length + 6) = (framesJ rs).take (k - (r.length + 6)) := by
        rw [← frameJ_len, List.drop_left]
      rw [e, readJ_some hh, hd, he]
      rfl
theorem readJ_app_cut (rs ss : List (List UInt8)) (k : Nat) (h1 : ∀ r ∈ rs, okRow r = true) (h2 : ∀ r ∈ ss, okRow r = true) :
    ∃ i, i ≤ ss.length ∧ (readJ (framesJ rs ++ (framesJ ss).take k)).1 = rs ++ ss.take i := by
  obtain ⟨i, hi, he⟩ := readJ_cut ss k h2
  exact ⟨i, hi, by rw [readJ_frames rs _ h1, he]⟩
/-- the document's test: the frame of what follows the count is what stands there -/
theorem head_ref (l : List UInt8) (h7 : 7 ≤ l.length) (h1 : 1 ≤ cntJ l) (h2 : cntJ l ≤ 200) (h3 : cntJ l + 6 ≤ l.length) :
    headJ l = if frameJ ((l.drop 2).take (cntJ l)) = l.take (cntJ l + 6) then some ((l.drop 2).take (cntJ l)) else none := by
  have hrl : ((l.drop 2).take (cntJ l)).length = cntJ l := by rw [List.length_take, List.length_drop]; omega
  by_cases hc : frameJ ((l.drop 2).take (cntJ l)) = l.take (cntJ l + 6)
  · rw [if_pos hc]
    have hok : okRow ((l.drop 2).take (cntJ l)) = true := (okRow_iff _).2 ⟨by omega, by omega⟩
    have e : l = frameJ ((l.drop 2).take (cntJ l)) ++ l.drop (cntJ l + 6) := by rw [hc, List.take_append_drop]
    have := head_frame ((l.drop 2).take (cntJ l)) (l.drop (cntJ l + 6)) hok
    rwa [← e] at this
  · rw [if_neg hc]
    cases hh : headJ l with
    | none => rfl
    | some r =>
      obtain ⟨_, e, hl⟩ := head_some hh
      exfalso
      apply hc
      have e2 : (l.drop 2).take (cntJ l) = r := by
        rw [e, show (frameJ r ++ l.drop (r.length + 6)).drop 2 = sealed r ++ l.drop (r.length + 6) from rfl]
        have hcn : cntJ (frameJ r ++ l.drop (r.length + 6)) = r.length := by rw [← e]; exact hl.symm
        rw [hcn]
        unfold sealed
        rw [List.append_assoc, List.take_left]
      rw [e2, ← hl]
      conv => rhs; rw [e]
      rw [← frameJ_len, List.take_left]
theorem head_short {l : List UInt8} (h : l.length < 7) : headJ l = none := by
  unfold headJ
  rw [if_neg]
  rintro ⟨_, h1, _, h2, _⟩
  omega
theorem head_count {l : List UInt8} (h : ¬ (1 ≤ cntJ l ∧ cntJ l ≤ 200 ∧ cntJ l + 6 ≤ l.length)) : headJ l = none := by
  unfold headJ
  rw [if_neg]
  rintro ⟨_, h1, h2, h3, _⟩
  exact h ⟨h1, h2, h3⟩
end Go.Proofs.YtoiknidlincdkaaDoor

namespace Go.Proofs.YtoiknidlincdkaaDoor
open Go.RowKit

def okRows (rs : List (List UInt8)) : Bool := rs.all okRow
theorem okRows_iff (rs : List (List UInt8)) : okRows rs = true ↔ ∀ r ∈ rs, okRow r = true := by unfold okRows; rw [List.all_eq_true]
theorem okRows_app (rs ss : List (List UInt8)) : okRows (rs ++ ss) = (okRows rs && okRows ss) := by unfold okRows; rw [List.all_append]
theorem okRows_take {rs : List (List UInt8)} (h : okRows rs = true) (k : Nat) : okRows (rs.take k) = true := by
  rw [okRows_iff] at h ⊢
  exact fun r hr => h r (List.mem_of_mem_take hr)
theorem okRows_bound {rs : List (List UInt8)} (h : okRows rs = true) : (framesJ rs).length ≤ 206 * rs.length :=
  framesJ_bound rs 200 fun r hr => ((okRow_iff r).1 ((okRows_iff rs).1 h r hr)).2
/-- a journal: its tape, its rows, is it dead -/
structure JSt where
  t : TSt
  rows : List (List UInt8)
  dead : Bool
/-- the journal that Open makes of a tape -/
def openJ (t : TSt) : JSt := ⟨if (readJ t.l).2 < t.l.length then t.cut ((readJ t.l).2 : Int) else t, (readJ t.l).1, false⟩
def openE (t : TSt) : Nat := if (readJ t.l).2 < t.l.length then t.cutE ((readJ t.l).2 : Int) else 0
def JSt.putE (j : JSt) (rs : List (List UInt8)) : Nat :=
  if j.dead then 9 else if okRows rs = false then 4 else if rs = [] then 0 else
  if j.t.appendE (framesJ rs) = 0 then (j.t.append (framesJ rs)).stepE else j.t.appendE (framesJ rs)
def JSt.put (j : JSt) (rs : List (List UInt8)) : JSt :=
  if j.dead then j else if okRows rs = false then j else if rs = [] then j else
  if j.t.appendE (framesJ rs) = 0 then
    (if (j.t.append (framesJ rs)).stepE = 0 then ⟨(j.t.append (framesJ rs)).sync, j.rows ++ rs, false⟩ else ⟨(j.t.append (framesJ rs)).sync, j.rows, (j.t.append (framesJ rs)).stepE == 7⟩)
  else ⟨j.t.append (framesJ rs), j.rows, j.t.appendE (framesJ rs) == 7⟩
def JSt.compactE (j : JSt) (rs : List (List UInt8)) : Nat :=
  if j.dead then 9 else if okRows rs = false then 4 else j.t.swapE (framesJ rs)
def JSt.compact (j : JSt) (rs : List (List UInt8)) : JSt :=
  if j.dead then j else if okRows rs = false then j else
  if j.t.swapE (framesJ rs) = 0 then ⟨j.t.swap (framesJ rs), rs, false⟩ else ⟨j.t.swap (framesJ rs), j.rows, j.t.swapE (framesJ rs) == 7⟩
theorem TSt.stepE_cases (s : TSt) : s.stepE = 0 ∨ s.stepE = 7 := by unfold TSt.stepE; split <;> simp
theorem TSt.appendE_cases (s : TSt) (d : List UInt8) : s.appendE d = 0 ∨ s.appendE d = 6 ∨ s.appendE d = 7 := by
  unfold TSt.appendE
  split
  · simp
  · rcases s.stepE_cases with h | h <;> simp [h]
theorem TSt.swapE_cases (s : TSt) (d : List UInt8) : s.swapE d = 0 ∨ s.swapE d = 6 ∨ s.swapE d = 7 := by
  unfold TSt.swapE
  split
  · simp
  · rcases s.stepE_cases with h | h <;> simp [h]
/-- the document's journal -/
structure MJr where
  m : MSt
  rows : List (List UInt8)
  dead : Bool
def MSt.all (m : MSt) : List UInt8 := m.sure ++ m.tail
def openM (m : MSt) : MJr := ⟨if (readJ m.all).2 < m.all.length then m.cutTo ((readJ m.all).2 : Int) else m, (readJ m.all).1, false⟩
def MJr.putE (j : MJr) (rs : List (List UInt8)) : Nat :=
  if j.dead then 9 else if okRows rs = false then 4 else if rs = [] then 0 else
  if j.m.appendE (framesJ rs) = 0 then (j.m.append (framesJ rs)).stepE else j.m.appendE (framesJ rs)
def MJr.put (j : MJr) (rs : List (List UInt8)) : MJr :=
  if j.dead then j else if okRows rs = false then j else if rs = [] then j else
  if j.m.appendE (framesJ rs) = 0 then
    (if (j.m.append (framesJ rs)).stepE = 0 then ⟨(j.m.append (framesJ rs)).sync, j.rows ++ rs, false⟩ else ⟨(j.m.append (framesJ rs)).sync, j.rows, (j.m.append (framesJ rs)).stepE == 7⟩)
  else ⟨j.m.append (framesJ rs), j.rows, j.m.appendE (framesJ rs) == 7⟩
def MJr.compactE (j : MJr) (rs : List (List UInt8)) : Nat :=
  if j.dead then 9 else if okRows rs = false then 4 else j.m.swapE (framesJ rs)
def MJr.compact (j : MJr) (rs : List (List UInt8)) : MJr :=
  if j.dead then j else if okRows rs = false then j else
  if j.m.swapE (framesJ rs) = 0 then ⟨j.m.swap (framesJ rs), rs, false⟩ else ⟨j.m.swap (framesJ rs), j.rows, j.m.swapE (framesJ rs) == 7⟩
/-- a journal and the document's -/
structure RelJ (j : JSt) (k : MJr) : Prop where
  tape : Rel j.t k.m
  rows : j.rows = k.rows
  dead : j.dead = k.dead
  ok : okRows j.rows = true
theorem RelJ.put {j : JSt} {k : MJr} (h : RelJ j k) (rs : List (List UInt8)) : RelJ (j.put rs) (k.put rs) ∧ j.putE rs = k.putE rs := by
  obtain ⟨a1, a2⟩ := h.tape.append (framesJ rs)
  have a3 := a1.stepE
  have a4 := a1.sync
  by_cases h0 : j.dead = true
  · have h0' : k.dead = true := h.dead ▸ h0
    rw [JSt.put, MJr.put, JSt.putE, MJr.putE, if_pos h0, if_pos h0', if_pos h0, if_pos h0']
    exact ⟨h, rfl⟩
  have h0' : ¬ k.dead = true := h.dead ▸ h0
  rw [JSt.put, MJr.put, JSt.putE, MJr.putE, if_neg h0, if_neg h0', if_neg h0, if_neg h0']
  by_cases h1 : okRows rs = false
  · rw [if_pos h1, if_pos h1, if_pos h1, if_pos h1]
    exact ⟨h, rfl⟩
  rw [if_neg h1, if_neg h1, if_neg h1, if_neg h1]
  by_cases h2 : rs = []
  · rw [if_pos h2, if_pos h2, if_pos h2, if_pos h2]
    exact ⟨h, rfl⟩
  rw [if_neg h2, if_neg h2, if_neg h2, if_neg h2, ← a2, ← a3]
  refine ⟨?_, rfl⟩
  by_cases h3 : j.t.appendE (framesJ rs) = 0
  · rw [if_pos h3, if_pos h3]
    by_cases h4 : (j.t.append (framesJ rs)).stepE = 0
    · rw [if_pos h4, if_pos h4]
      refine ⟨a4, congrArg (· ++ rs) h.rows, rfl, ?_⟩
      show okRows (j.rows ++ rs) = true
      rw [okRows_app, h.ok]
      simpa using h1
    · rw [if_neg h4, if_neg h4]
      exact ⟨a4, h.rows, rfl, h.ok⟩
  · rw [if_neg h3, if_neg h3]
    exact ⟨a1, h.rows, rfl, h.ok⟩
theorem RelJ.compact {j : JSt} {k : MJr} (h : RelJ j k) (rs : List (List UInt8)) : RelJ (j.compact rs) (k.compact rs) ∧ j.compactE rs = k.compactE rs := by
  obtain ⟨a1, a2⟩ := h.tape.swap (framesJ rs)
  by_cases h0 : j.dead = true
  · have h0' : k.dead = true := h.dead ▸ h0
    rw [JSt.compact, MJr.compact, JSt.compactE, MJr.compactE, if_pos h0, if_pos h0', if_pos h0, if_pos h0']
    exact ⟨h, rfl⟩
  have h0' : ¬ k.dead = true := h.dead ▸ h0
  rw [JSt.compact, MJr.compact, JSt.compactE, MJr.compactE, if_neg h0, if_neg h0', if_neg h0, if_neg h0']
  by_cases h1 : okRows rs = false
  · rw [if_pos h1, if_pos h1, if_pos h1, if_pos h1]
    exact ⟨h, rfl⟩
  rw [if_neg h1, if_neg h1, if_neg h1, if_neg h1, ← a2]
  refine ⟨?_, rfl⟩
  by_cases h3 : j.t.swapE (framesJ rs) = 0
  · rw [if_pos h3, if_pos h3]
    exact ⟨a1, rfl, rfl, by simpa using h1⟩
  · rw [if_neg h3, if_neg h3]
    exact ⟨a1, h.rows, rfl, h.ok⟩
/-- Open of a tape and of the document's; the power is on -/
theorem RelJ.open {s : TSt} {m : MSt} (h : Rel s m) : RelJ (openJ s) (openM m) ∧ openE s = (if (readJ m.all).2 < m.all.length then m.cutE ((readJ m.all).2 : Int) else 0) := by
  have hl : s.l = m.all := h.l
  obtain ⟨a1, a2⟩ := h.cutTo ((readJ m.all).2 : Int)
  have ho : okRows (readJ m.all).1 = true := (okRows_iff _).2 (readJ_ok m.all).1
  unfold openJ openM openE
  rw [hl]
  by_cases hc : (readJ m.all).2 < m.all.length
  · rw [if_pos hc, if_pos hc, if_pos hc, if_pos hc]
    exact ⟨⟨a1, rfl, rfl, ho⟩, a2⟩
  · rw [if_neg hc, if_neg hc, if_neg hc, if_neg hc]
    exact ⟨⟨h, rfl, rfl, ho⟩, rfl⟩
end Go.Proofs.YtoiknidlincdkaaDoor

namespace Go.Proofs.YtoiknidlincdkaaDoor
open Go.RowKit

/-- a journal at rest: its rows' frames are on the tape, all sure -/
def JSt.rest (rs : List (List UInt8)) (r : Int) : JSt := ⟨TSt.P (framesJ rs) (framesJ rs).length r, rs, false⟩
theorem rest_nil (r : Int) : JSt.rest [] r = ⟨TSt.P [] 0 r, [], false⟩ := rfl
theorem openJ_P (l : List UInt8) (s : Nat) (r : Int) : openJ (TSt.P l s r) = ⟨if (readJ l).2 < l.length then (TSt.P l s r).cut ((readJ l).2 : Int) else TSt.P l s r, (readJ l).1, false⟩ := rfl
theorem openE_P (l : List UInt8) (s : Nat) (r : Int) : openE (TSt.P l s r) = if (readJ l).2 < l.length then (TSt.P l s r).cutE ((readJ l).2 : Int) else 0 := rfl
theorem open_rest (rs : List (List UInt8)) (s : Nat) (r : Int) (h : okRows rs = true) : openJ (TSt.P (framesJ rs) s r) = ⟨TSt.P (framesJ rs) s r, rs, false⟩ ∧ openE (TSt.P (framesJ rs) s r) = 0 := by
  have hr := readJ_frames rs [] ((okRows_iff rs).1 h)
  rw [List.append_nil, readJ_none head_nil, List.append_nil, Nat.add_zero] at hr
  rw [openJ_P, openE_P, hr]
  simp only [Nat.lt_irrefl, if_false]
  exact ⟨trivial, trivial⟩
theorem put_rest (rs ss : List (List UInt8)) (r : Int) (h : okRows ss = true) (hr : ((framesJ (rs ++ ss)).length : Int) ≤ r) : (JSt.rest rs r).put ss = JSt.rest (rs ++ ss) r ∧ (JSt.rest rs r).putE ss = 0 := by
  have hn : ¬ okRows ss = false := by rw [h]; decide
  have hl : ((framesJ rs).length : Int) + (framesJ ss).length ≤ r := by
    have : (framesJ (rs ++ ss)).length = (framesJ rs).length + (framesJ ss).length := by rw [framesJ_app, List.length_append]
    omega
  obtain ⟨a1, a2⟩ := p_append (framesJ rs) (framesJ rs).length r (framesJ ss) hl
  have e1 : (JSt.rest rs r).t = TSt.P (framesJ rs) (framesJ rs).length r := rfl
  unfold JSt.put JSt.putE
  rw [if_neg (show ¬ (JSt.rest rs r).dead = true from Bool.false_ne_true), if_neg (show ¬ (JSt.rest rs r).dead = true from Bool.false_ne_true), if_neg hn, if_neg hn]
  by_cases h2 : ss = []
  · subst h2
    rw [if_pos rfl, if_pos rfl, List.append_nil]
    exact ⟨rfl, rfl⟩
  · rw [if_neg h2, if_neg h2, e1, a2, if_pos rfl, if_pos rfl, a1, p_stepE, if_pos rfl, p_sync]
    refine ⟨?_, rfl⟩
    unfold JSt.rest
    rw [framesJ_app]
theorem put_bad (j : JSt) (ss : List (List UInt8)) (hd : j.dead = false) (h : okRows ss = false) : j.put ss = j ∧ j.putE ss = 4 := by
  have hd' : ¬ j.dead = true := by rw [hd]; decide
  unfold JSt.put JSt.putE
  rw [if_neg hd', if_neg hd', if_pos h, if_pos h]
  exact ⟨rfl, rfl⟩
theorem compact_bad (j : JSt) (ss : List (List UInt8)) (hd : j.dead = false) (h : okRows ss = false) : j.compact ss = j ∧ j.compactE ss = 4 := by
  have hd' : ¬ j.dead = true := by rw [hd]; decide
  unfold JSt.compact JSt.compactE
  rw [if_neg hd', if_neg hd', if_pos h, if_pos h]
  exact ⟨rfl, rfl⟩
/-- Put where the power lasts one step -/
theorem put_arm (rs ss : List (List UInt8)) (r : Int) (h : okRows ss = true) (hne : ss ≠ []) (hr : ((framesJ (rs ++ ss)).length : Int) ≤ r) :
    (⟨(TSt.P (framesJ rs) (framesJ rs).length r).arm 1, rs, false⟩ : JSt).put ss = ⟨⟨true, true, -1, framesJ rs ++ framesJ ss, (framesJ rs).length, r⟩, rs, true⟩ ∧
    (⟨(TSt.P (framesJ rs) (framesJ rs).length r).arm 1, rs, false⟩ : JSt).putE ss = 7 := by
  have hn : ¬ okRows ss = false := by rw [h]; decide
  have hl : ((framesJ rs).length : Int) + (framesJ ss).length ≤ r := by
    have : (framesJ (rs ++ ss)).length = (framesJ rs).length + (framesJ ss).length := by rw [framesJ_app, List.length_append]
    omega
  have hf : ((TSt.P (framesJ rs) (framesJ rs).length r).arm 1).full (framesJ ss) = false := by
    show decide (r - ((framesJ rs).length : Int) < ((framesJ ss).length : Int)) = false
    rw [decide_eq_false_iff_not]; omega
  have a1 : ((TSt.P (framesJ rs) (framesJ rs).length r).arm 1).append (framesJ ss) = ⟨false, true, 0, framesJ rs ++ framesJ ss, (framesJ rs).length, r⟩ := by
    unfold TSt.append
    rw [hf]
    rfl
  have a2 : ((TSt.P (framesJ rs) (framesJ rs).length r).arm 1).appendE (framesJ ss) = 0 := by
    unfold TSt.appendE
    rw [hf]
    rfl
  unfold JSt.put JSt.putE
  simp only [Bool.false_eq_true, if_false, hn, hne, a2, if_true, a1]
  exact ⟨rfl, rfl⟩
theorem crash_arm (l : List UInt8) (s : Nat) (r k : Int) : TSt.crash ⟨true, true, -1, l, s, r⟩ k = TSt.P (l.take (s + min k.toNat (l.length - s))) (s + min k.toNat (l.length - s)) r := rfl
/-- what is opened behind a Put whose power went -/
theorem open_cut (rs ss : List (List UInt8)) (r k : Int) (h1 : okRows rs = true) (h2 : okRows ss = true) :
    ∃ i, i ≤ ss.length ∧ openJ (TSt.crash ⟨true, true, -1, framesJ rs ++ framesJ ss, (framesJ rs).length, r⟩ k) = JSt.rest (rs ++ ss.take i) r ∧ openE (TSt.crash ⟨true, true, -1, framesJ rs ++ framesJ ss, (framesJ rs).length, r⟩ k) = 0 := by
  rw [crash_arm, take_app]
  generalize hm : min k.toNat ((framesJ rs ++ framesJ ss).length - (framesJ rs).length) = m
  have hml : m ≤ (framesJ ss).length := by rw [← hm, List.length_append]; omega
  obtain ⟨i, hi, he⟩ := readJ_app_cut rs ss m ((okRows_iff rs).1 h1) ((okRows_iff ss).1 h2)
  obtain ⟨o1, o2, o3, o4⟩ := readJ_ok (framesJ rs ++ (framesJ ss).take m)
  rw [he] at o2 o3
  have hlen : (framesJ rs ++ (framesJ ss).take m).length = (framesJ rs).length + m := by rw [List.length_append, List.length_take, Nat.min_eq_left hml]
  refine ⟨i, hi, ?_⟩
  rw [openJ_P, openE_P]
  by_cases hc : (readJ (framesJ rs ++ (framesJ ss).take m)).2 < (framesJ rs ++ (framesJ ss).take m).length
  · obtain ⟨c1, c2⟩ := p_cut (framesJ rs ++ (framesJ ss).take m) ((framesJ rs).length + m) r (readJ (framesJ rs ++ (framesJ ss).take m)).2 o4
    rw [if_pos hc, if_pos hc, c1, c2, he, o2, o3]
    exact ⟨rfl, rfl⟩
  · rw [if_neg hc, if_neg hc, he]
    have e : (readJ (framesJ rs ++ (framesJ ss).take m)).2 = (framesJ rs ++ (framesJ ss).take m).length := by omega
    rw [e, List.take_of_length_le (Nat.le_refl _)] at o2
    refine ⟨?_, rfl⟩
    unfold JSt.rest
    rw [← o2, hlen]
theorem crash_rest (rs : List (List UInt8)) (r k : Int) : (JSt.rest rs r).t.crash k = (JSt.rest rs r).t := by
  unfold JSt.rest
  show TSt.crash (TSt.P _ _ _) k = _
  rw [p_crash, Nat.sub_self, Nat.min_zero, Nat.add_zero, List.take_of_length_le (Nat.le_refl _)]
/-- Compact where the power lasts n steps, n ≤ 1 -/
theorem compact_arm (rs ss : List (List UInt8)) (r : Int) (n : Nat) (h : okRows ss = true) (hr : ((framesJ ss).length : Int) ≤ r) :
    (⟨(TSt.P (framesJ rs) (framesJ rs).length r).arm (n : Int), rs, false⟩ : JSt).compact ss = (if n = 0 then ⟨⟨true, true, -1, framesJ rs, (framesJ rs).length, r⟩, rs, true⟩ else ⟨⟨false, true, (n : Int) - 1, framesJ ss, (framesJ ss).length, r⟩, ss, false⟩) ∧
    (⟨(TSt.P (framesJ rs) (framesJ rs).length r).arm (n : Int), rs, false⟩ : JSt).compactE ss = if n = 0 then 7 else 0 := by
  have hn : ¬ okRows ss = false := by rw [h]; decide
  have hroom : ¬ ((TSt.P (framesJ rs) (framesJ rs).length r).arm (n : Int)).room < ((framesJ ss).length : Int) := by show ¬ r < _; omega
  have harm : (TSt.P (framesJ rs) (framesJ rs).length r).arm (n : Int) = ⟨false, true, (n : Int), framesJ rs, (framesJ rs).length, r⟩ := by
    unfold TSt.arm TSt.P
    simp
  have hst : (⟨false, true, (n : Int), framesJ rs, (framesJ rs).length, r⟩ : TSt).step = ⟨(n : Int) == 0, true, (n : Int) - 1, framesJ rs, (framesJ rs).length, r⟩ := rfl
  unfold JSt.compact JSt.compactE TSt.swapE TSt.swap
  simp only [Bool.false_eq_true, if_false, hn, hroom]
  rw [harm]
  unfold TSt.stepE TSt.set
  rw [hst]
  by_cases h0 : n = 0
  · subst h0
    simp
  · have hb : ((n : Int) == 0) = false := by rw [beq_eq_false_iff_ne]; omega
    simp only [hb, h0]
    refine ⟨?_, ?_⟩ <;> simp
/-- Open of any bytes -/
theorem open_bytes (b : List UInt8) (s : Nat) (r : Int) : (openJ (TSt.P b s r)).t.l = b.take (readJ b).2 ∧ (openJ (TSt.P b s r)).rows = (readJ b).1 ∧ openE (TSt.P b s r) = 0 := by
  obtain ⟨_, _, _, o4⟩ := readJ_ok b
  rw [openJ_P, openE_P]
  by_cases hc : (readJ b).2 < b.length
  · obtain ⟨c1, c2⟩ := p_cut b s r (readJ b).2 o4
    rw [if_pos hc, if_pos hc, c1, c2]
    exact ⟨rfl, rfl, rfl⟩
  · rw [if_neg hc, if_neg hc]
    refine ⟨?_, rfl, rfl⟩
    show b = _
    rw [List.take_of_length_le (by omega)]
end Go.Proofs.YtoiknidlincdkaaDoor
