/-
  NetK: nets of letters from 0 to 1; rows of strings beside a net.
-/
import Derived.Test.YtbbhecadpbnobaaDoorNetAl
import Derived.Test.YtbbhecadpbnobaaDoorNI
namespace Go.Proofs.YtbbhecadpbnobaaDoor
open Go.RowKit

def kS (L : List (List UInt8)) (f : Int → Int → Bool) (x : Int) : NSt := ⟨2, L.map fun l => (0, 1, l), f, x⟩
section
variable {L : List (List UInt8)} {f : Int → Int → Bool} {x : Int}
theorem kS_len : (kS L f x).ls.length = L.length := by simp [kS]
theorem kS_has : (kS L f x).has 0 = true ∧ (kS L f x).has 1 = true := ⟨rfl, rfl⟩
theorem kS_cut (b : Bool) : (kS L f x).cut 0 1 b = kS L (setW f 0 1 b) x ∧ (kS L f x).cutE 0 1 = 0 := ⟨rfl, rfl⟩
theorem setW_at (b : Bool) : setW f 0 1 b 0 1 = b := by unfold setW; rw [if_pos ⟨rfl, rfl⟩]
theorem kS_putT {l : List UInt8} (h : f 0 1 = true) (hl : l.length ≤ 1000) : (kS L f x).put (0, 1, l) = kS L f (x + 1) ∧ (kS L f x).putE (0, 1, l) = 0 ∧ (kS L f x).putB (0, 1, l) = false := by
  have h1 : ¬ 1000 < l.length := by omega
  have hc : (kS L f x).cuts 0 1 = true := h
  unfold NSt.put NSt.putE NSt.putB
  simp only [kS_has.1, kS_has.2, hc, h1]
  exact ⟨rfl, rfl, rfl⟩
theorem kS_add {l : List UInt8} (hL : L.length < 64) : (kS L f x).add (0, 1, l) = kS (L ++ [l]) f x ∧ (kS L f x).addE = 0 := by
  unfold NSt.add NSt.addE
  rw [kS_len, if_pos hL, if_pos hL]
  exact ⟨by simp [kS], rfl⟩
theorem kS_putF {l : List UInt8} (h : f 0 1 = false) (hl : l.length ≤ 1000) (hL : L.length < 64) : (kS L f x).put (0, 1, l) = kS (L ++ [l]) f x ∧ (kS L f x).putE (0, 1, l) = 0 ∧ (kS L f x).putB (0, 1, l) = true := by
  have h1 : ¬ 1000 < l.length := by omega
  have hc : (kS L f x).cuts 0 1 = false := h
  have ha := kS_add (L := L) (f := f) (x := x) (l := l) hL
  have hd : decide (L.length < 64) = true := decide_eq_true hL
  unfold NSt.put NSt.putE NSt.putB
  simp only [kS_has.1, kS_has.2, hc, h1, ha.1, ha.2, kS_len, hd]
  exact ⟨rfl, rfl, rfl⟩
theorem kS_take (i : Nat) : (kS L f x).cutOut i = kS (L.eraseIdx i) f x := by
  unfold NSt.cutOut kS
  simp only [List.eraseIdx_eq_take_drop_succ, List.map_append, List.map_take, List.map_drop]
theorem kS_get {i : Nat} (hi : i < L.length) : (kS L f x).ls[i]? = some (0, 1, L[i]) := by simp [kS, hi]
end
/-- strings, as cells -/
def svs (L : List (List UInt8)) : List Value := L.map fun l => .string (bs l)
theorem svs_len (L : List (List UInt8)) : (svs L).length = L.length := by simp [svs]
theorem svs_app (L M : List (List UInt8)) : svs (L ++ M) = svs L ++ svs M := by simp [svs]
theorem svs_get {L : List (List UInt8)} {i : Nat} (hi : i < L.length) : (svs L)[i]? = some (.string (bs L[i])) := by simp [svs, hi]
theorem svs_one {L : List (List UInt8)} : ∀ u ∈ svs L, u.oneCell' = true := by
  intro u hu
  obtain ⟨l, _, rfl⟩ := List.mem_map.1 hu
  rfl
theorem svs_erase (L : List (List UInt8)) (i : Nat) : svs (L.eraseIdx i) = (svs L).eraseIdx i := by
  simp only [svs, List.eraseIdx_eq_take_drop_succ, List.map_append, List.map_take, List.map_drop]
theorem strI : (Tryd.prog.info? 9).map (fun i => (i.zero, i.size, i.bytes)) = some (some (.string ⟨#[]⟩), 1, 16) := by kernel_rfl
theorem but_gr {w w' : World} {q : Option Nat} (k : w.grownBy w' q) : But q.toList w w' :=
  ⟨k.os, k.tape, k.output, k.size, fun j hj hn => k.block j hj (by rintro rfl; simp at hn)⟩
theorem byt_far {w0 w w' : World} {v : Value} {l : List UInt8} {S : List Nat} (h : Byt w0 v l) (hb : Below w0.heap.size w0 w) (hS : ∀ s ∈ S, w0.heap.size ≤ s) (k : But S w w') : Byt w' v l :=
  h.below (hb.trans (k.below hS hb.size))
/-- a row of strings turns: the net stays -/
theorem Nn.strs {w w' : World} {n b m base : Nat} {p : Option Nat} {c : Nat} {st : NSt} {v : Value} {ys : List Value} (h : Nn w n b p c st) (ho : w.ownsRow base 9 1 v m ys) (k : But v.ownBlock.toList w w') : Nn w' n b p c st := by
  obtain ⟨_, _, _, _, hne⟩ := h.types
  have hB : ∀ g, v.ownBlock = some g → ∃ cs, Blk w g 9 cs := fun g hg => by
    rcases ho.2 with ⟨h0, _⟩ | ⟨g9, cap, cur, h0, _, hh, _⟩
    · rw [h0] at hg; cases hg
    · rw [h0] at hg
      cases hg
      exact ⟨cur, hh⟩
  have hS : ∀ g T cs, Blk w g T cs → T ≠ 9 → v.ownBlock.toList.contains g = false := fun g T cs hg hT => by
    rw [Bool.eq_false_iff]
    intro hc
    obtain ⟨cs', hcs⟩ := hB g (by simpa using hc)
    exact Blk.ne_ hg hcs hT rfl
  have hO : ∀ (base size m : Nat) (e : TypeId) (u : Value) (ys : List Value), w.ownsRow base e size u m ys → e ≠ 9 → ∀ g, u.ownBlock = some g → v.ownBlock.toList.contains g = false := fun base size m e u ys ho hne g hg => by
    rcases ho.2 with ⟨h0, _⟩ | ⟨g9, cap, cur, h0, _, hh, _⟩
    · rw [h0] at hg; cases hg
    · rw [h0] at hg
      cases hg
      exact hS _ _ _ (show Blk w g9 e cur from hh) hne
  obtain ⟨⟨u, xs, h1, h2, h3, h4, h5⟩, h6⟩ := h
  refine ⟨⟨u, xs, h1, h2, k.blk h3 (hS _ _ _ h3 (by decide)), k.owns2 (hO _ _ _ _ _ _ h4 (by decide)) h4, fun x hx => k.owns2 (hO _ _ _ _ _ _ (h5 x hx) (by decide)) (h5 x hx)⟩, h6.but k ?_⟩
  rw [Bool.eq_false_iff]
  intro hc
  obtain ⟨cs', hcs⟩ := hB b (by simpa using hc)
  exact hne _ _ _ hcs rfl
/-- the net turns: a row of strings stays -/
theorem Nn.keepS {w w' : World} {n b m base : Nat} {p : Option Nat} {c : Nat} {st : NSt} {v : Value} {ys : List Value} (h : Nn w n b p c st) (ho : w.ownsRow base 9 1 v m ys) (k : But (nS n b p) w w') : w'.ownsRow base 9 1 v m ys :=
  k.owns2 (fun g hg => by
    rcases ho.2 with ⟨h0, _⟩ | ⟨g9, cap, cur, h0, _, hh, _⟩
    · rw [h0] at hg; cases hg
    · rw [h0] at hg
      cases hg
      exact h.nostr (show Blk w g9 _ cur from hh)) ho
/-- a row of strings without the i-th, in place -/
theorem str_cells (cur : Array Value) (n cap i k : Nat) (hk : k = i + 1) (hi : i < n) (hn : n ≤ cap) (hs : cur.size = cap) (us news : List Value) (hus : cur.toList.take n = us) (hnews : news = us.drop k) (hnl : news.length = n - k) :
    (setsAt cur i news).toList.take (n - 1) = us.eraseIdx i := by
  have hl : us.length = n := by rw [← hus, List.length_take]; simp; omega
  apply List.ext_getElem?
  intro j
  rw [List.getElem?_take, List.eraseIdx_eq_take_drop_succ, ← hk, ← hnews]
  have hlt : (us.take i).length = i := by rw [List.length_take]; omega
  by_cases hj : j < n - 1
  · rw [if_pos hj, Array.getElem?_toList, setsAt_get _ _ _ _ (by omega)]
    by_cases h1 : i ≤ j
    · rw [if_pos (by omega), List.getElem?_append_right (by omega), hlt]
    · rw [if_neg (by omega), List.getElem?_append_left (by omega), List.getElem?_take, if_pos (by omega), ← hus, List.getElem?_take, if_pos (by omega), Array.getElem?_toList]
  · rw [if_neg hj, List.getElem?_eq_none (by rw [List.length_append]; omega)]
/-- what is moved -/
theorem str_src (L : List (List UInt8)) (cur : Array Value) (g cap i : Nat) (hi : i < L.length) (hle : L.length ≤ cap) (hl : L.length ≤ 1000) (hcur : cur.toList.take L.length = svs L) :
    ∃ i2 ad, ∃ news : List Value, i2 = i + 1 ∧ i2 ≤ L.length ∧ wrap64 ((i : Int) + 1) = (i2 : Int) ∧ cutp (some ⟨g, 0, none⟩) i2 cap 1 = some ad ∧ news = (svs L).drop i2 ∧ news.length = L.length - i2 ∧ ∀ w', Blk w' g 9 cur → ∀ j u, news[j]? = some u → w'.cell? (ad.add j) = some u := by
  have hw2 : wrap64 ((i : Int) + 1) = ((i + 1 : Nat) : Int) := by unfold wrap64; omega
  have hnl : ((svs L).drop (i + 1)).length = L.length - (i + 1) := by rw [List.length_drop, svs_len]
  by_cases hcap : cap = i + 1
  · refine ⟨i + 1, ⟨g, 0, none⟩, _, rfl, hi, hw2, by unfold cutp; rw [if_pos hcap], rfl, hnl, fun w' hb' j u hu => ?_⟩
    have := (List.getElem?_eq_some_iff.1 hu).1
    omega
  · refine ⟨i + 1, _, _, rfl, hi, hw2, by unfold cutp; rw [if_neg hcap]; rfl, rfl, hnl, fun w' hb' j u hu => ?_⟩
    have hj := (List.getElem?_eq_some_iff.1 hu).1
    rw [List.getElem?_drop, ← hcur, List.getElem?_take, if_pos (by omega), Array.getElem?_toList] at hu
    have hx : ((⟨g, 0, none⟩ : Addr).add ((i + 1) * 1)).add j = ⟨g, i + 1 + j, none⟩ := by rw [cell_add, cell_add, Nat.zero_add, Nat.mul_one]
    rw [hx, hb'.cell]
    exact hu
/-- the blocks of a net lie behind B -/
theorem nS_low {B N : Nat} {p : Option Nat} (hN : B ≤ N) (hp : ∀ q, p = some q → B ≤ q) : ∀ x ∈ nS (N + 1) N p, B ≤ x := fun x hx => by
  rcases mem_nS.1 hx with h | h | h
  · omega
  · omega
  · exact hp x h
theorem nx_low {B : Nat} {w : World} {p p' : Option Nat} (h : Nx w p p') (hp : ∀ q, p = some q → B ≤ q) (hB : B ≤ w.heap.size) : ∀ q, p' = some q → B ≤ q := fun q hq => by
  rcases h with h | h
  · exact hp q (h ▸ hq)
  · exact Nat.le_trans hB (h q hq)
end Go.Proofs.YtbbhecadpbnobaaDoor
