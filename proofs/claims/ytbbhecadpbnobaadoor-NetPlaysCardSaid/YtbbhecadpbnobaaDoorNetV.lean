/-
  NetV: letters moved and moved back; letters as parts of drawn regions.
-/
import Derived.Test.YtbbhecadpbnobaaDoorNetE
namespace Go.Proofs.YtbbhecadpbnobaaDoor
open Go.RowKit

def movL (L : List (List UInt8)) (i t : Nat) (l : List UInt8) : List (List UInt8) := (L.eraseIdx i).take t ++ l :: (L.eraseIdx i).drop t
theorem kS_moved {L : List (List UInt8)} {f : Int → Int → Bool} {x : Int} (i t : Nat) (l : List UInt8) : (kS L f x).moved i t (0, 1, l) = kS (movL L i t l) f x := by
  unfold NSt.moved kS movL
  simp only [List.eraseIdx_eq_take_drop_succ, List.map_append, List.map_take, List.map_drop, List.map_cons]
theorem movL_len {L : List (List UInt8)} {i t : Nat} (l : List UInt8) (hi : i < L.length) : (movL L i t l).length = L.length := by
  unfold movL
  rw [List.length_append, List.length_cons, List.length_take, List.length_drop, List.length_eraseIdx, if_pos hi]
  omega
theorem movL_get {L : List (List UInt8)} {i t : Nat} (l : List UInt8) (hi : i < L.length) (ht : t < L.length) : (movL L i t l)[t]? = some l := by
  unfold movL
  have hl : ((L.eraseIdx i).take t).length = t := by rw [List.length_take, List.length_eraseIdx, if_pos hi]; omega
  rw [List.getElem?_append_right (by omega), hl, Nat.sub_self]
  rfl
theorem movL_back {L : List (List UInt8)} {i t : Nat} (hi : i < L.length) (ht : t < L.length) : movL (movL L i t L[i]) t i L[i] = L := by
  have hl : ((L.eraseIdx i).take t).length = t := by rw [List.length_take, List.length_eraseIdx, if_pos hi]; omega
  have he : (movL L i t L[i]).eraseIdx t = L.eraseIdx i := by
    unfold movL
    rw [List.eraseIdx_append_of_length_le (by omega), hl, Nat.sub_self, List.eraseIdx_zero, List.tail_cons, List.take_append_drop]
  have h2 : movL (movL L i t L[i]) t i L[i] = ((movL L i t L[i]).eraseIdx t).take i ++ L[i] :: ((movL L i t L[i]).eraseIdx t).drop i := rfl
  rw [h2, he, List.eraseIdx_eq_take_drop_succ]
  have h3 : (L.take i).length = i := by rw [List.length_take]; omega
  rw [List.take_append_of_le_length (by omega), List.take_of_length_le (by omega), List.drop_append_of_le_length (by omega), List.drop_of_length_le (by omega), List.nil_append, ← List.drop_eq_getElem_cons hi, List.take_append_drop]
theorem movL_mem {L : List (List UInt8)} {i t : Nat} {l y : List UInt8} (hl : l ∈ L) (hy : y ∈ movL L i t l) : y ∈ L := by
  unfold movL at hy
  rcases List.mem_append.1 hy with hy | hy
  · exact List.mem_of_mem_eraseIdx (List.mem_of_mem_take hy)
  · rcases List.mem_cons.1 hy with rfl | hy
    · exact hl
    · exact List.mem_of_mem_eraseIdx (List.mem_of_mem_drop hy)
theorem kS_el {L : List (List UInt8)} {f : Int → Int → Bool} {x : Int} (h : ∀ l ∈ L, l.length ≤ 1000) : ∀ y ∈ (kS L f x).ls, y.2.2.length ≤ 1000 := by
  intro y hy
  obtain ⟨l, hl, rfl⟩ := List.mem_map.1 hy
  exact h l hl
/-- letters that a call has handed out -/
def PLts (B : Nat) (ls : List Lt) (m : Nat) : Part := ⟨fun v => ∃ g c, v = .slice (some ⟨g, 0, none⟩) m c, fun w v => ∃ xs, xs.map (·.1) = ls ∧ LetF B w v xs⟩
def POwn (B : Nat) (l : List UInt8) : Part := ⟨fun v => ∃ p c, v = .slice p l.length c, fun w v => w.ownsRow B 5 1 v l.length (bvs l)⟩
theorem LetF.below {B : Nat} {w w' : World} {v : Value} {xs : List (Lt × Value)} (h : LetF B w v xs) (k : Below w.heap.size w w') : LetF B w' v xs := h.keep fun _ _ _ hb => hb.below k hb.lt
theorem owns_some {w : World} {B n : Nat} {e : TypeId} {size : Nat} {v : Value} {xs : List Value} (h : w.ownsRow B e size v n xs) (hn : 0 < n) : ∃ g c, v = .slice (some ⟨g, 0, none⟩) n c := by
  rcases h.2 with ⟨_, h0⟩ | ⟨g, cap, cur, rfl, _⟩
  · omega
  · exact ⟨g, cap, rfl⟩
theorem LetF.lower {B B' : Nat} {w : World} {v : Value} {xs : List (Lt × Value)} (h : LetF B w v xs) (hB : B' ≤ B) : LetF B' w v xs := ⟨owns_lower h.own hB, fun x hx => owns_lower (h.dat x hx) hB, h.apart⟩
/-- the k-th letter of those: its cells -/
theorem LetF.at_ {B : Nat} {w : World} {g m c : Nat} {xs : List (Lt × Value)} {ls : List Lt} (h : LetF B w (.slice (some ⟨g, 0, none⟩) m c) xs) (hx : xs.map (·.1) = ls) {k : Nat} {x : Lt} (hk : ls[k]? = some x) :
    ∃ u, w.ownsRow B 5 1 u x.2.2.length (bvs x.2.2) ∧ w.cell? ⟨g, k * 3, none⟩ = some (.int .i64 x.1) ∧ w.cell? ⟨g, k * 3 + 1, none⟩ = some (.int .i64 x.2.1) ∧ w.cell? ⟨g, k * 3 + 2, none⟩ = some u := by
  have hlt : k < xs.length := by
    have := (List.getElem?_eq_some_iff.1 hk).1
    rw [← hx, List.length_map] at this
    exact this
  have hx1 : xs[k].1 = x := by
    rw [← hx, List.getElem?_map, List.getElem?_eq_getElem hlt] at hk
    simpa using hk
  obtain ⟨y0, y1, y2⟩ := cel_get xs k hlt
  have hd := h.dat xs[k] (List.getElem_mem hlt)
  rw [hx1] at hd y0 y1
  obtain ⟨p, c9, he, _, _, hr⟩ := owns_rd h.own
  obtain ⟨rfl, _, rfl⟩ : some ⟨g, 0, none⟩ = p ∧ m = xs.length ∧ c = c9 := by simpa using he
  obtain ⟨g9, off9, hg9, hc⟩ := hr.has (by intro e; rw [e] at y0; simp at y0)
  cases hg9
  refine ⟨_, hd, ?_, ?_, ?_⟩
  · have := hc _ _ y0; rwa [Nat.zero_add] at this
  · have := hc _ _ y1; rwa [Nat.zero_add] at this
  · have := hc _ _ y2; rwa [Nat.zero_add] at this
def PFactN (c : Value) (F : World → Prop) : Part := ⟨fun v => v = c, fun w _ => F w⟩
/-- the call at the place jc turns the blocks S; any other operation nothing -/
def rNet (jc : Nat) (S : List Nat) (j : Nat) (w w' : World) : Prop := if j = jc then But S w w' else Below w.heap.size w w'
theorem rNet_at {jc : Nat} {S : List Nat} {w w' : World} : rNet jc S jc w w' = But S w w' := by unfold rNet; rw [if_pos rfl]
theorem rNet_o {jc j : Nat} {S : List Nat} {w w' : World} (h : j ≠ jc) : rNet jc S j w w' = Below w.heap.size w w' := by unfold rNet; rw [if_neg h]
theorem rNet_but {jc j : Nat} {S : List Nat} {w w' : World} (h : rNet jc S j w w') : But S w w' := by
  unfold rNet at h
  split at h
  · exact h
  · exact But.of_below h
end Go.Proofs.YtbbhecadpbnobaaDoor
