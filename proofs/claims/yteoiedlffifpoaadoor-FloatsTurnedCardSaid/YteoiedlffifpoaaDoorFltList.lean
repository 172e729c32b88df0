/-
  FltList: lists of floats as the walks meet them; floats.Least.
-/
import Derived.Test.YteoiedlffifpoaaDoorLawBackoff
import Derived.Test.YteoiedlffifpoaaDoorLawGrow
import Derived.Deep.DeepHandedRow
import Derived.Lib.LaidTab
import Derived.ChangeSame
namespace Go.Proofs.YteoiedlffifpoaaDoor
open Go.RowKit Ieee Go.ChangeShapes Go.WideShapes Go.ChangeAt
attribute [local go_sem] flt_def fgt_def feq_def fne_def

def fvs (l : List Nat) : List Value := l.map (.float .f64)
theorem fvs_len (l : List Nat) : (fvs l).length = l.length := by simp [fvs]
theorem fvs_get (l : List Nat) (i : Nat) (h : i < l.length) : (fvs l)[i]? = some (.float .f64 l[i]) := by simp [fvs, h]
theorem fvs_nil (l : List Nat) : fvs l = [] ↔ l = [] := by simp [fvs]
/-- THE SLICE VALUE v IS THE LIST l OF FLOATS' BITS in w. -/
def Fl (w : World) (v : Value) (l : List Nat) : Prop :=
  (∃ p cap, v = .slice p l.length cap ∧ l.length ≤ cap ∧ cap ≤ maxLen ∧ Rd w p (fvs l)) ∧ ∀ x ∈ l, x < 18446744073709551616
theorem Fl.keep {w w' : World} {v : Value} {l : List Nat} (h : Fl w v l) (hk : ∀ a v, w.cell? a = some v → w'.cell? a = some v) : Fl w' v l := by
  obtain ⟨⟨p, cap, rfl, h1, h2, h3⟩, h4⟩ := h
  exact ⟨⟨p, cap, rfl, h1, h2, h3.keep hk⟩, h4⟩
theorem fl_cell {w : World} {p : Option Addr} {l : List Nat} (h : Rd w p (fvs l)) {k : Nat} (hk : k < l.length) :
    ∃ b off, p = some ⟨b, off, none⟩ ∧ w.cell? ⟨b, off + k, none⟩ = some (.float .f64 l[k]) := by
  obtain ⟨b, off, hp, hc⟩ := h.has (by rw [Ne, fvs_nil]; intro e; subst e; simp at hk)
  exact ⟨b, off, hp, hc k _ (fvs_get l k hk)⟩
theorem trod_f64 {H : Type} {enc : TypeId × Value → H} {P : Program} {w : World} {base : Nat} {sp : Nat → Bool} {held : Bool} {fuel : Nat} {e : TypeId} {v : Value} {x : DataW H × List MemPlace}
    (he : P.underlying e = some (.float .f64)) (h : DataW.trod enc P w base sp held fuel e [v] = some x) : ∃ y : Nat, v = .float .f64 y ∧ y < 18446744073709551616 := by
  cases fuel with
  | zero => simp [DataW.trod] at h
  | succ n =>
    simp only [DataW.trod, he] at h
    split at h
    all_goals rename_i he2 hcs
    all_goals first | (cases h; done) | (cases he2; done) | skip
    all_goals
      first
        | (cases hcs; done)
        | (simp only [TypeDesc.float.injEq, Option.some.injEq] at he2
           subst he2
           simp only [List.cons.injEq, and_true] at hcs
           subst hcs
           split at h
           · rename_i hw
             obtain ⟨rfl, hw⟩ := hw
             exact ⟨_, rfl, by simpa [Lit.wf] using hw⟩
           · cases h)
theorem open_f64s {H : Type} {enc : TypeId × Value → H} {P : Program} {t e : TypeId} {w : World} {base : Nat} {sp : Nat → Bool} {held : Bool} {fuel : Nat} {cs : List Value} {x : DataW H × List MemPlace}
    (ht : P.underlying t = some (.slice e)) (he : P.underlying e = some (.float .f64)) (hce : P.cellsOf e = 1) (h : DataW.trod enc P w base sp held fuel t cs = some x) :
    ∃ v l, cs = [v] ∧ Fl w v l := by
  rcases Deep.open_slice1 ht hce h with ⟨rfl, _⟩ | ⟨a, len, cap, m, n, V, D, Pl, rfl, _, hlc, hm, hmm, _, hcell⟩
  · exact ⟨_, [], rfl, ⟨none, 0, rfl, by simp, by unfold maxLen; omega, .inl rfl⟩, by simp⟩
  · have hlm : len ≤ m := by rw [hmm]; split <;> omega
    have hall : ∀ i, ∃ y : Nat, i < m → V i = .float .f64 y ∧ y < 18446744073709551616 := by
      intro i
      by_cases hi : i < m
      · obtain ⟨y, hy, hlt⟩ := trod_f64 he (hcell i hi).2
        exact ⟨y, fun _ => ⟨hy, hlt⟩⟩
      · exact ⟨0, fun h => absurd h hi⟩
    obtain ⟨L, hL⟩ := Classical.axiomOfChoice hall
    refine ⟨_, (List.range len).map L, rfl, ⟨some a, cap, by simp, by simpa using hlc, hm, ?_⟩, ?_⟩
    · by_cases h0 : len = 0
      · left; subst h0; rfl
      · right
        have h00 := (hcell 0 (by omega)).1
        have hsp : a.spot = none := by
          have : a.add 0 = a := by simp [Addr.add]
          rw [this] at h00
          unfold World.cell? at h00
          split at h00
          · split at h00
            · cases h00
            · rename_i hs; simpa using hs
          · cases h00
        obtain ⟨b, off, s⟩ := a
        simp only at hsp
        subst hsp
        refine ⟨b, off, rfl, fun i u hu => ?_⟩
        simp only [fvs, List.getElem?_map, Option.map_eq_some_iff] at hu
        obtain ⟨y, ⟨j, hj, rfl⟩, rfl⟩ := hu
        obtain ⟨hi, rfl⟩ := List.getElem?_eq_some_iff.1 hj
        simp only [List.length_range] at hi
        simp only [List.getElem_range]
        have := (hcell i (by omega)).1
        rw [cell_add] at this
        rw [this, (hL i (by omega)).1]
    · intro y hy
      obtain ⟨i, hi, rfl⟩ := List.mem_map.1 hy
      exact (hL i (by have := List.mem_range.1 hi; omega)).2
/-- the lesser of two by the text -/
def leastStep (m x : Nat) : Nat := if cmpI (place x) (place m) < 0 then x else m
def leastF (l : List Nat) : Nat := l.foldl leastStep infR
theorem least_take (l : List Nat) (k : Nat) (h : k < l.length) : leastF (l.take (k + 1)) = leastStep (leastF (l.take k)) l[k] := by
  unfold leastF; rw [List.take_succ_eq_append_getElem h, List.foldl_append]; rfl
theorem leastF_lt (l : List Nat) (h : ∀ x ∈ l, x < 18446744073709551616) : leastF l < 18446744073709551616 := by
  unfold leastF
  have : ∀ (l : List Nat) (m : Nat), m < 18446744073709551616 → (∀ x ∈ l, x < 18446744073709551616) → l.foldl leastStep m < 18446744073709551616 := by
    intro l
    induction l with
    | nil => intro m hm _; exact hm
    | cons x l ih =>
      intro m hm hl
      apply ih
      · unfold leastStep; split
        · exact hl x (by simp)
        · exact hm
      · exact fun y hy => hl y (by simp [hy])
  exact this l infR (by decide) h
theorem least_pre (l : List Nat) (h : ∀ x ∈ l, x < 18446744073709551616) (k : Nat) : leastF (l.take k) < 18446744073709551616 :=
  leastF_lt _ fun x hx => h x (List.mem_of_mem_take hx)
set_option maxRecDepth 20000 in
set_option maxHeartbeats 1000000 in
theorem least_any (v : Value) (l : List Nat) (w : World) (hl : l.length ≤ 1099511627776) (hv : Fl w v l) :
    Calls Tryd.prog 17 #[v] w (Gives w (.float .f64 (plainN (leastF l)))) := by
  obtain ⟨⟨p, cap, rfl, h1, h2, h3⟩, h4⟩ := hv
  have H3 := Lib.hid h3
  have H4 := Lib.hid h4
  clear h3 h4
  unfold maxLen at h2
  go_enter Tryd.func17, Tryd.ntmps17
  go_wp2_with fail
  refine (inf_any w).mono ?_
  rintro e w1 ⟨rfl, hb1⟩
  go_wp2_with fail
  go_loopw [3, 9] (fun m i wr => ∃ k : Nat, k ≤ l.length ∧ i = .int .i64 k ∧ m = .float .f64 (leastF (l.take k)) ∧ Below w.heap.size w wr) (fun _ i _ => l.length - (intOf i).toNat)
  case atStart => exact ⟨0, by omega, rfl, rfl, hb1⟩
  case round =>
    obtain ⟨k, hk, rfl, rfl, hbw⟩ := hrel
    by_cases hlt : k < l.length
    · obtain ⟨b, off, rfl, hc⟩ := fl_cell H3.out hlt
      have hcw := Below.keeps hbw _ _ hc
      have HS := Lib.hid (least_take l k hlt)
      have hx : l[k] < 18446744073709551616 := H4.out _ (List.getElem_mem hlt)
      have hm := least_pre l H4.out k
      generalize leastF (l.take k) = m at *
      generalize l[k] = x at *
      clear hc
      go_wp2_with fail
      refine (order_any x m hx hm wr).mono ?_
      rintro e w5 ⟨rfl, hb5'⟩
      have hb5 := hbw.trans (hb5'.mono hbw.size)
      clear hb5'
      by_cases hneg : cmpI (place x) (place m) < 0
      · have HL := Lib.hid (show leastStep m x = x by unfold leastStep; rw [if_pos hneg])
        have d1 := decide_eq_true hneg
        clear hneg
        go_wp2_with fail
        go_roundw
        case rel => exact ⟨k + 1, by omega, by go_num, by rw [HS.out, HL.out], hb5⟩
        case measure => simp [intOf]; omega
      · have HL := Lib.hid (show leastStep m x = m by unfold leastStep; rw [if_neg hneg])
        have d1 := decide_eq_false hneg
        clear hneg
        go_wp2_with fail
        go_roundw
        case rel => exact ⟨k + 1, by omega, by go_num, by rw [HS.out, HL.out], hb5⟩
        case measure => simp [intOf]; omega
    · obtain rfl : k = l.length := by omega
      rw [List.take_of_length_le (Nat.le_refl _)]
      have hm := leastF_lt l H4.out
      generalize leastF l = m at *
      go_wp2_with fail
      refine (plain_any m hm wr).mono ?_
      rintro e w5 ⟨rfl, hb5'⟩
      have hb5 := hbw.trans (hb5'.mono hbw.size)
      clear hb5'
      go_wp2_with fail
      go_ret
      exact ⟨rfl, hb5⟩
end Go.Proofs.YteoiedlffifpoaaDoor
