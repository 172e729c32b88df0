/-
  NetCopy: the walk of a net's Copy.
-/
import Derived.Test.YtbbhecadpbnobaaDoorNetTake
namespace Go.Proofs.YtbbhecadpbnobaaDoor
open Go.RowKit

set_option maxRecDepth 20000 in
set_option maxHeartbeats 400000 in
theorem ncopy_any (w : World) (E : Nat → Addr) (he : ErrsOn [0, 2, 5] w E) (n b : Nat) (p : Option Nat) (c : Nat) (st : NSt) (h : Nn w n b p c st) (i : Nat) (x : Lt) (hx : st.ls[i]? = some x) (hxl : x.2.2.length ≤ 1000) :
    Calls Tryd.prog 15 #[.pointer (some ⟨n, 0, none⟩), .int .i64 i] w (NOut n b p c (st.add x) (errV E st.addE) w) := by
  have hi := (List.getElem?_eq_some_iff.1 hx).1
  have ht := h.types
  obtain ⟨g, cap, cur, xs, rfl, hm, hb, hg, hc1, hc2, hc3, hc4, hel⟩ := h.row (by rintro e; rw [e] at hi; simp at hi)
  have hl : xs.length = st.ls.length := by rw [← hm, List.length_map]
  have hix : i < xs.length := by omega
  obtain ⟨y0, y1, y2⟩ := cel_get xs i hix
  have hx1 : xs[i].1 = x := by
    rw [← hm, List.getElem?_map, List.getElem?_eq_getElem hix] at hx
    simpa using hx
  have hrd : ∀ j u, j < xs.length * 3 → (cel xs)[j]? = some u → cur[j]? = some u := fun j u hj hu => by
    rw [← hc4, List.getElem?_take, if_pos hj, Array.getElem?_toList] at hu
    exact hu
  have z0 := hrd _ _ (by omega) y0
  have z1 := hrd _ _ (by omega) y1
  have z2 := hrd _ _ (by omega) y2
  have hux := hel xs[i] (List.getElem_mem hix)
  rw [hx1] at z0 z1 hux
  obtain ⟨u, hu⟩ : ∃ u, xs[i].2 = u := ⟨_, rfl⟩
  rw [hu] at z2 hux
  have H1 := Lib.hid (there_any _ n b (some g) c st h i)
  have d1 : (decide ((0 : Int) ≤ (i : Int)) && decide ((i : Int) < (st.ls.length : Int))) = true := by simp [hi]
  rw [d1] at H1
  have a0 := (hg.cell (i * 3)).trans z0
  have a1 := (hg.cell (i * 3 + 1)).trans z1
  have a2 := (hg.cell (i * 3 + 2)).trans z2
  have k1 := (hb.cell 1).trans rfl
  have hby : ∀ w', But (nS n b (some g)) w w' → Byt w' u x.2.2 := fun w' k => owns_byt (k.owns2 (fun q hq => by
    have hne : q ≠ n ∧ q ≠ b ∧ q ≠ g := by
      rcases hux.2 with ⟨h0, _⟩ | ⟨g9, cap9, cur9, h0, _, hh, _⟩
      · rw [h0] at hq; cases hq
      · rw [h0] at hq
        cases hq
        exact ⟨Blk.ne_ (show Blk w _ _ cur9 from hh) hb (by decide), fun e => ht.2.2.2.2 _ _ _ (show Blk w _ _ cur9 from hh) e.symm, Blk.ne_ (show Blk w _ _ cur9 from hh) hg (by decide)⟩
    rw [Bool.eq_false_iff]
    intro hc
    rcases mem_nS.1 (List.contains_iff_mem.1 hc) with e | e | e
    · exact hne.1 e
    · exact hne.2.1 e
    · exact hne.2.2 (Option.some.inj e).symm) hux)
  obtain ⟨qu, ku, hqu, _⟩ := owns_rd hux
  subst hqu
  have HAD := Lib.hid (nadd_any w E he n b (some g) c st h x.1 x.2.1 _ x.2.2 hxl hby)
  clear h ht hm hb hg hc3 hc4 hel y0 y1 y2 hrd z0 z1 z2 d1 hl hx hx1 hux hu he hby
  go_enter Tryd.func15, Tryd.ntmps15
  go_wp2_with fail
  refine H1.out.mono ?_
  rintro e w1 ⟨rfl, rfl⟩
  go_wp2_with fail
  refine HAD.out.mono ?_
  rintro e w1 ⟨rfl, hn1, k1'⟩
  have HR := Lib.hid (And.intro hn1 k1')
  clear hn1 k1'
  go_wp2_with fail
  go_ret
  exact ⟨rfl, HR.out.1, HR.out.2⟩
end Go.Proofs.YtbbhecadpbnobaaDoor
