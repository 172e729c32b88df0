/-
  Within: an act that does acts: CatchWithin's own functions.
-/
import Derived.Test.YtliapmjocgohfaaDoorLawAll
namespace Go.Proofs.YtliapmjocgohfaaDoor
open Go.RowKit Go.Extern.Stop Go.Stop Go.Extern

theorem owns_set {w : World} {base size n b : Nat} {e t : TypeId} {v : Value} {xs : List Value} {cs : Array Value} (h : w.ownsRow base e size v n xs) (hb : Blk w b t cs) (hne : e ≠ t) (i : Nat) (u : Value) : (w.setCell ⟨b, i, none⟩ u).ownsRow base e size v n xs := by
  refine ⟨h.1, ?_⟩
  rcases h.2 with h2 | ⟨g, cap, cur, rfl, hg, hh, hr⟩
  · exact .inl h2
  · refine .inr ⟨g, cap, cur, rfl, hg, (Below.heap_setCell _ _ _ _ ?_).trans hh, hr⟩
    exact Blk.ne_ (t := e) (cs := cur) hh hb hne
theorem owns_grown2 {w w' : World} {base base' size size' n n' : Nat} {e e' : TypeId} {v v' : Value} {xs xs' : List Value} (h : w.ownsRow base e size v n xs) (hg : w.grownBy w' v'.ownBlock) (ho : w.ownsRow base' e' size' v' n' xs') (hne : e' ≠ e) : w'.ownsRow base e size v n xs := by
  refine ⟨h.1, ?_⟩
  rcases h.2 with h2 | ⟨g, cap, cur, rfl, hgb, hh, hr⟩
  · exact .inl h2
  · exact .inr ⟨g, cap, cur, rfl, hgb, grown_blk hg ho hh hne, hr⟩
/-- how many of all acts panic -/
def sumBad (kls : List (List Nat)) : Nat := (kls.map (fun kl => badN (kl.map kindE))).sum
theorem sumBad_snoc (a : List (List Nat)) (kl : List Nat) : sumBad (a ++ [kl]) = sumBad a + badN (kl.map kindE) := by simp [sumBad]
theorem sumBad_le (a : List (List Nat)) (h : ∀ kl ∈ a, kl.length ≤ 20) : sumBad a ≤ 20 * a.length := by
  induction a with
  | nil => simp [sumBad]
  | cons x xs ih =>
    have h1 := badN_le (x.map kindE)
    have h2 := h x (List.mem_cons_self ..)
    have h3 := ih (fun kl hk => h kl (List.mem_cons_of_mem _ hk))
    simp only [List.length_map] at h1
    simp only [sumBad, List.map_cons, List.sum_cons, List.length_cons] at *
    omega
/-- the value v is the act that does the acts of kinds kl -/
def WOf (B bc bp : Nat) (w : World) (kl : List Nat) (v : Value) : Prop :=
  ∃ b q c, v = .func (.func 22) #[] #[.pointer (some ⟨b, 0, none⟩), .pointer (some ⟨bc, 0, none⟩), .pointer (some ⟨bp, 0, none⟩)] ∧ B ≤ b ∧ Blk w b 38 #[.slice q kl.length c] ∧ w.ownsRow B 3 1 (.slice q kl.length c) kl.length (ivs (kvs kl))
theorem WOf.below {B bc bp : Nat} {w w' : World} {kl : List Nat} {v : Value} (h : WOf B bc bp w kl v) (hb : Below w.heap.size w w') : WOf B bc bp w' kl v := by
  obtain ⟨b, q, c, h1, h2, h3, h4⟩ := h
  exact ⟨b, q, c, h1, h2, h3.below hb h3.lt, owns_below h4 hb⟩
def WRow (B bc bp : Nat) (w : World) (kls : List (List Nat)) (vs : List Value) : Prop := vs.length = kls.length ∧ ∀ (i : Nat) v kl, vs[i]? = some v → kls[i]? = some kl → WOf B bc bp w kl v
theorem WRow.below {B bc bp : Nat} {w w' : World} {kls : List (List Nat)} {vs : List Value} (h : WRow B bc bp w kls vs) (hb : Below w.heap.size w w') : WRow B bc bp w' kls vs := ⟨h.1, fun i v k h1 h2 => (h.2 i v k h1 h2).below hb⟩
theorem WRow.grown {B bc bp base n : Nat} {w w' : World} {kls : List (List Nat)} {vs xs : List Value} {v : Value} (h : WRow B bc bp w kls vs) (hg : w.grownBy w' v.ownBlock) (ho : w.ownsRow base 1 1 v n xs) : WRow B bc bp w' kls vs := ⟨h.1, fun i v' k h1 h2 => by
  obtain ⟨b, q, c, h1, h2, h3, h4⟩ := h.2 i v' k h1 h2
  exact ⟨b, q, c, h1, h2, grown_blk hg ho h3 (by decide), owns_grown2 h4 hg ho (by decide)⟩⟩
theorem WRow.snoc {B bc bp : Nat} {w : World} {kls : List (List Nat)} {vs : List Value} (h : WRow B bc bp w kls vs) {kl : List Nat} {v : Value} (hv : WOf B bc bp w kl v) : WRow B bc bp w (kls ++ [kl]) (vs ++ [v]) := by
  refine ⟨by simp [h.1], fun i v' k' h1 h2 => ?_⟩
  by_cases hi : i < vs.length
  · rw [List.getElem?_append_left hi] at h1
    rw [List.getElem?_append_left (by rw [← h.1]; exact hi)] at h2
    exact h.2 i v' k' h1 h2
  · rw [List.getElem?_append_right (by omega)] at h1
    rw [List.getElem?_append_right (by rw [← h.1]; omega), ← h.1] at h2
    by_cases h0 : i - vs.length = 0
    · rw [h0] at h1 h2
      cases h1; cases h2
      exact hv
    · rw [List.getElem?_eq_none (by simp; omega)] at h1
      cases h1
/-- the counts behind i acts -/
def WC (bc bp : Nat) (kls : List (List Nat)) (i : Nat) (w : World) : Prop := ∃ n : Int, 0 ≤ n ∧ n ≤ ((20 * i : Nat) : Int) ∧ Blk w bc 3 #[.int .i64 n] ∧ Blk w bp 3 #[.int .i64 ((sumBad (kls.take i) : Nat) : Int)]
set_option maxRecDepth 20000 in
theorem within1_any (w : World) (E : Nat → Addr) (sy : Addr) (B b bc bp m P : Nat) (q : Option Addr) (c : Nat) (kl : List Nat) (n : Int) (hk : ∀ k ∈ kl, k ≤ 21) (hl : kl.length ≤ 20) (hm : m ≤ 400) (hP : P ≤ 400) (hn : 0 ≤ n ∧ n ≤ (m : Int)) (hbcB : bc < B) (hbpB : bp < B) (hne : bc ≠ bp)
    (hb : Blk w b 38 #[.slice q kl.length c]) (hown : w.ownsRow B 3 1 (.slice q kl.length c) kl.length (ivs (kvs kl))) (hbc : Blk w bc 3 #[.int .i64 n]) (hbp : Blk w bp 3 #[.int .i64 (P : Int)])
    (he : ∀ w', But [bc, bp] w w' → Errs15 w' E sy) :
    Calls Tryd.prog 22 #[.pointer (some ⟨b, 0, none⟩), .pointer (some ⟨bc, 0, none⟩), .pointer (some ⟨bp, 0, none⟩)] w fun e w2 => But [bc, bp] w w2 ∧ (∃ n' : Int, 0 ≤ n' ∧ n' ≤ ((m + kl.length : Nat) : Int) ∧ Blk w2 bc 3 #[.int .i64 n']) ∧ Blk w2 bp 3 #[.int .i64 ((P + badN (kl.map kindE) : Nat) : Int)] ∧ e = .returned (.tuple #[]) := by
  have hbc1 := hbc.lt
  have hbp1 := hbp.lt
  have cb := (hb.cell 0).trans rfl
  obtain ⟨_, _, he', _, _, hr⟩ := owns_rd hown
  cases he'
  have hw : ∀ w' w'', But [bc] w' w'' → But [bc, bp] w' w'' := fun w' w'' h => ⟨h.os, h.tape, h.output, h.size, fun k hk hn => h.block k hk (by simp at hn ⊢; exact hn.1)⟩
  have HA := Lib.hid (acts_any w q c kl bc hk (by omega) hr)
  have HE := Lib.hid he
  have HBC := Lib.hid hbc
  have HBP := Lib.hid hbp
  have HW := Lib.hid hw
  have hbn := badN_le (kl.map kindE)
  rw [List.length_map] at hbn
  have HN := Lib.hid hn
  clear hb hown hbc hbp he hr hw hk hn
  go_enter Tryd.func22, Tryd.ntmps22
  go_wp2_with fail
  refine HA.out.mono ?_
  rintro e w3 ⟨q3, c3, vs3, rfl, ho3, hr3, hx3, hb3⟩
  have HA3 := Lib.hid (all_any [bc] w3 E (CntC bc m) q3 c3 vs3 (kl.map kindE) (acting_of w3 E sy w.heap.size bc m q3 c3 kl vs3 (by omega) (by omega) hbc1 hb3.size ho3 hr3 hx3 (fun w' h => HE.out w' ((But.of_below hb3).trans (HW.out _ _ h)))) ⟨n, HN.out.1, HN.out.2, HBC.out.below hb3 hbc1⟩)
  rw [hr3.1] at HA3
  have HBP3 := Lib.hid (HBP.out.below hb3 hbp1)
  have HU3 := Lib.hid (But.of_below (S := [bc, bp]) hb3)
  clear ho3 hr3 hx3 hb3 HA
  go_wp2_with fail
  refine HA3.out.mono ?_
  rintro e w4 ⟨rfl, hbut, n4, hn4, hn4', hc4⟩
  have hp4 := hbut.blk HBP3.out (by simp; omega)
  have cp := (hp4.cell 0).trans rfl
  have fp := hp4.frozen 0
  have HP4 := Lib.hid hp4
  have HC4 := Lib.hid hc4
  have HU4 := Lib.hid (HU3.out.trans (HW.out _ _ hbut))
  clear hbut hc4 hp4 HA3
  generalize hnb : badN (kl.map kindE) = NB at *
  have HNB := Lib.hid hnb
  clear hnb
  generalize errV E (firstE (kl.map kindE)) = ev at *
  go_wp2_with fail
  go_end0
  refine ⟨HU4.out.set_ _ _ _ (by simp), ⟨n4, hn4, hn4', HC4.out.far hne 0 _⟩, ?_⟩
  have := HP4.out.set_ 0 (.int .i64 ((P : Int) + (NB : Int)))
  rw [HNB.out]
  simpa using this
theorem wacting_of (w0 : World) (E : Nat → Addr) (sy : Addr) (B bc bp : Nat) (q : Option Addr) (c : Nat) (kls : List (List Nat)) (vs : List Value) (hl : kls.length ≤ 20) (hls : ∀ kl ∈ kls, kl.length ≤ 20 ∧ ∀ k ∈ kl, k ≤ 21) (hbc : bc < B) (hbp : bp < B) (hne : bc ≠ bp) (hB : B ≤ w0.heap.size)
    (hown : w0.ownsRow B 1 1 (.slice q kls.length c) kls.length vs) (hrow : WRow B bc bp w0 kls vs) (he : ∀ w', But [bc, bp] w0 w' → Errs15 w' E sy) :
    Acting [bc, bp] w0 E (WC bc bp kls) q vs (kls.map (fun _ => 0)) := by
  refine ⟨by simp [hrow.1], by rw [hrow.1]; omega, by simp; omega, ?_, fun w' h => (he w' h).errs, ?_, ?_, ?_⟩
  · rintro i w w' ⟨n, h1, h2, h3, h4⟩ hb
    exact ⟨n, h1, h2, h3.below hb (by omega), h4.below hb (by omega)⟩
  · intro w' h
    obtain ⟨_, _, he', _, _, hr⟩ := owns_rd (owns_but hown h (by simp; omega))
    cases he'
    exact hr
  · intro x hx
    obtain ⟨k, _, rfl⟩ := List.mem_map.1 hx
    omega
  · intro i v x hv hx
    rw [List.getElem?_map, Option.map_eq_some_iff] at hx
    obtain ⟨kl, hk, rfl⟩ := hx
    have hil : i < kls.length := by
      by_cases h : i < kls.length
      · exact h
      · rw [List.getElem?_eq_none (by omega)] at hk; cases hk
    have hmem : kl ∈ kls := List.mem_of_getElem? hk
    obtain ⟨b, q', c', rfl, hbb, hbs, hbo⟩ := hrow.2 i v kl hv hk
    refine .inr ⟨_, _, rfl, fun w => by simp [go_sem], ?_⟩
    rintro w1 hw1 ⟨n, h1, h2, h3, h4⟩
    have hsb : sumBad (kls.take i) ≤ 400 := by
      have := sumBad_le (kls.take i) (fun kl hk => (hls kl (List.mem_of_mem_take hk)).1)
      rw [List.length_take] at this
      omega
    refine (within1_any w1 E sy B b bc bp (20 * i) (sumBad (kls.take i)) q' c' kl n (hls kl hmem).2 (hls kl hmem).1 (by omega) hsb ⟨h1, h2⟩ hbc hbp hne (hw1.blk hbs (by simp; omega)) (owns_but hbo hw1 (by simp; omega)) h3 h4 (fun w' h => he w' (hw1.trans h))).mono ?_
    rintro e w2 ⟨a1, ⟨n', a2, a3, a4⟩, a5, rfl⟩
    have hkl := (hls kl hmem).1
    refine ⟨a1, ⟨n', a2, by omega, a4, ?_⟩, .inl ⟨rfl, rfl⟩⟩
    rw [show kls.take (i + 1) = kls.take i ++ [kl] by rw [List.take_add_one, hk]; rfl, sumBad_snoc]
    exact a5
end Go.Proofs.YtliapmjocgohfaaDoor
