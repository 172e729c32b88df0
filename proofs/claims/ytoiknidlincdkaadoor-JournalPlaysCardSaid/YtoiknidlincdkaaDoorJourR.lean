/-
  JourR: Rows, Len, Size, Dead.
-/
import Derived.Test.YtoiknidlincdkaaDoorJourO
namespace Go.Proofs.YtoiknidlincdkaaDoor
open Go.RowKit

/-- a list of rows, all of it fresh: from block B on -/
def OutJ (w : World) (B : Nat) (v : Value) (ls : List (List UInt8)) : Prop :=
  ∃ us : List Value, us.length = ls.length ∧ w.ownsRow B 22 1 v ls.length us ∧ ∀ (i : Nat) (l : List UInt8), ls[i]? = some l → ∃ u, us[i]? = some u ∧ w.ownsRow B 5 1 u l.length (bvs l)
theorem OutJ.below {w w' : World} {B : Nat} {v : Value} {ls : List (List UInt8)} (h : OutJ w B v ls) (k : Below w.heap.size w w') : OutJ w' B v ls := by
  obtain ⟨us, a, b, c⟩ := h
  exact ⟨us, a, owns_below b k, fun i f hf => by obtain ⟨u, hu, ho⟩ := c i f hf; exact ⟨u, hu, owns_below ho k⟩⟩
theorem OutJ.lower {w : World} {B B' : Nat} {v : Value} {ls : List (List UInt8)} (h : OutJ w B v ls) (hB : B' ≤ B) : OutJ w B' v ls := by
  obtain ⟨us, a, b, c⟩ := h
  exact ⟨us, a, owns_lower b hB, fun i f hf => by obtain ⟨u, hu, ho⟩ := c i f hf; exact ⟨u, hu, owns_lower ho hB⟩⟩
theorem OutJ.bytl {w : World} {B : Nat} {v : Value} {ls : List (List UInt8)} (h : OutJ w B v ls) : BytL w v ls := by
  obtain ⟨us, a, b, c⟩ := h
  obtain ⟨p, cap, hv, h1, h2, h3⟩ := owns_rd b
  exact ⟨p, cap, us, hv, h1, h2, h3, a, fun i f hf => by obtain ⟨u, hu, ho⟩ := c i f hf; exact ⟨u, hu, owns_byt ho⟩⟩
theorem OutJ.add {w2 w3 : World} {B : Nat} {v v3 : Value} {ls : List (List UInt8)} {us : List Value} {l : List UInt8} {u : Value} (hus : us.length = ls.length)
    (ho3 : w3.ownsRow B 22 1 v3 (ls.length + 1) (us ++ [u])) (hown : w2.ownsRow B 22 1 v ls.length us) (hg3 : w2.grownBy w3 v.ownBlock)
    (hel : ∀ (i : Nat) (l : List UInt8), ls[i]? = some l → ∃ u, us[i]? = some u ∧ w2.ownsRow B 5 1 u l.length (bvs l)) (hu : w2.ownsRow B 5 1 u l.length (bvs l)) : OutJ w3 B v3 (ls ++ [l]) := by
  refine ⟨us ++ [u], by simp [hus], ?_, fun i f' hf => ?_⟩
  · rw [List.length_append]
    exact ho3
  · by_cases hi : i < ls.length
    · rw [List.getElem?_append_left hi] at hf
      obtain ⟨u', hu', ho⟩ := hel i f' hf
      exact ⟨u', by rw [List.getElem?_append_left (by omega)]; exact hu', grown_owns hg3 hown ho (by decide)⟩
    · rw [List.getElem?_append_right (by omega)] at hf
      have hi0 : i - ls.length = 0 := by
        have := (List.getElem?_eq_some_iff.1 hf).1
        simp at this; omega
      rw [hi0] at hf
      obtain rfl : l = f' := by simpa using hf
      exact ⟨_, by rw [List.getElem?_append_right (by omega), hus, hi0]; rfl, grown_owns hg3 hown hu (by decide)⟩
def RowsR (ls : List (List UInt8)) (w : World) (e : Ending) (w' : World) : Prop := ∃ v, e = .returned v ∧ OutJ w' w.heap.size v ls ∧ Below w.heap.size w w'
set_option maxRecDepth 20000 in
set_option maxHeartbeats 4000000 in
theorem rowsOf_any (w : World) (j a : Nat) (p o : Option Nat) (X : List Nat) (st : JSt) (h : Jn w j a p o X st) (hr1 : st.rows.length ≤ 100000) :
    Calls Tryd.prog 18 #[.pointer (some ⟨j, 0, none⟩)] w (RowsR st.rows w) := by
  obtain ⟨v, -, hbj, hrr⟩ := h.j
  have c1 := (hbj.cell 1).trans rfl
  have hokl := fun l hl => ((okRow_iff l).1 ((okRows_iff st.rows).1 h.ok l hl)).2
  have HOKL := Lib.hid hokl
  have hyl := hrr.bytl
  generalize st.rows = ls at *
  obtain ⟨pl, cl, us0, rfl, k1, k2, k3, k4, k5⟩ := hyl
  have H3 := Lib.hid k3
  have H5 := Lib.hid k5
  unfold maxLen at k2
  obtain ⟨i0, hi, hz0, hz1, hz2⟩ := info_parts rowInfo
  clear hbj hrr h hokl k3 k4 k5
  go_enter Tryd.func18, Tryd.ntmps18
  go_wp2_with fail
  clear c1
  go_loopw [3, 11] (fun o i wr => ∃ k : Nat, k ≤ ls.length ∧ i = .int .i64 k ∧ OutJ wr w.heap.size o (ls.take k) ∧ Below w.heap.size w wr) (fun _ i _ => ls.length - (intOf i).toNat)
  case atStart =>
    exact ⟨0, by omega, rfl, ⟨[], rfl, ⟨rfl, .inl ⟨rfl, rfl⟩⟩, by simp⟩, Below.refl _ _⟩
  case round =>
    obtain ⟨k, hk, rfl, hout, hbw⟩ := hrel
    have HTK := Lib.hid (fun (hlt : k < ls.length) => show ls.take (k + 1) = ls.take k ++ [ls[k]] by rw [List.take_succ_eq_append_getElem hlt])
    have hLl : (ls.take k).length ≤ 100000 := by rw [List.length_take]; omega
    have HEN := Lib.hid (fun (hge : k = ls.length) => show ls.take k = ls by rw [hge, List.take_of_length_le (Nat.le_refl _)])
    generalize ls.take k = L at *
    obtain ⟨us, hus, hown0, hel⟩ := id hout
    obtain ⟨po, co, rfl, _, _, _⟩ := owns_rd hown0
    have HO := Lib.hid hout
    have HUS := Lib.hid hus
    have HOWN := Lib.hid hown0
    have HEL := Lib.hid hel
    clear hout hus hown0 hel
    by_cases hlt : k < ls.length
    · obtain ⟨b, off, pu, cu, rfl, hcell', hq1, hq2, hq3⟩ := bytL_cell H3.out H5.out hlt
      have hcell := Below.keeps hbw _ _ hcell'
      have HBY := Lib.hid (show Byt wr (.slice pu ls[k].length cu) ls[k] from ⟨pu, cu, rfl, hq1, hq2, hq3.keep (Below.keeps hbw)⟩)
      have HTK := Lib.hid (HTK.out hlt)
      have hl2 := HOKL.out ls[k] (List.getElem_mem hlt)
      clear hcell' hq1 hq2 hq3
      generalize ls[k] = l at *
      have HC := Lib.hid (clone_any _ l wr (by omega) HBY.out)
      go_wp2_with fail
      refine HC.out.mono ?_
      rintro e w2 ⟨v, rfl, ho2, hb2⟩
      have hbw2 := hbw.trans (hb2.mono hbw.size)
      obtain ⟨p2, c2, rfl, hp1, hp2, hp3⟩ := owns_rd ho2
      have hal := below_alloc1 w2 (.cells #[.slice p2 l.length c2] 22)
      have hown := owns_below (owns_below HOWN.out hb2) hal
      have hs3 := (below_alloc hbw2 (.cells #[.slice p2 l.length c2] 22)).size
      have HD := Lib.hid (owns_below (owns_lower ho2 hbw.size) hal)
      have HB2 := Lib.hid hb2
      have HBW2 := Lib.hid hbw2
      clear hb2 hp1 hp2 hp3 ho2 HC hbw2 hal
      go_wp2_with (at_builtin; refine wpList_app (.tmp 15) (.tmp 18) 39 rfl rfl w.heap.size 22 i0 (.slice none 0 0) 1 24 Tryd.underlying39 hi hz0 hz1 hz2 rfl (by decide) _ _ _ rfl hown _ _ _ [.slice p2 l.length c2] rfl rfl (rd_at _ #[_] _ _ _ rfl) ?b1 ?b2 ?b3 hs3 ?_)
      case b1 => first | trivial | exact rfl | simp [Value.oneCell']
      case b2 => unfold maxLen; omega
      case b3 => omega
      intro v4 w4 ho4 hg4
      have hal := below_alloc1 w2 (.cells #[.slice p2 l.length c2] 22)
      have hbw4 := (below_alloc HBW2.out (.cells #[.slice p2 l.length c2] 22)).grown hg4 hs3 (fun j hj => (hown.lt j hj).1)
      have HO4 := Lib.hid (show OutJ w4 w.heap.size v4 (L ++ [l]) from OutJ.add HUS.out ho4 hown hg4 (fun i f hf => by
        obtain ⟨u, hu, ho⟩ := HEL.out i f hf
        exact ⟨u, hu, owns_below (owns_below ho HB2.out) hal⟩) HD.out)
      obtain ⟨p4, c4, rfl, _, _, _⟩ := owns_rd ho4
      clear hown ho4 hg4 hs3 hal
      go_wp2_with fail
      go_roundw
      case rel => exact ⟨k + 1, by omega, by go_num, by rw [HTK.out]; exact HO4.out, hbw4⟩
      case measure => simp [intOf]; omega
    · obtain rfl : k = ls.length := by omega
      have e := HEN.out rfl
      clear HTK HEN
      subst e
      go_wp2_with fail
      go_ret
      exact ⟨_, rfl, HO.out, hbw⟩
theorem lenOf_any (w : World) (j a : Nat) (p o : Option Nat) (X : List Nat) (st : JSt) (h : Jn w j a p o X st) :
    Calls Tryd.prog 23 #[.pointer (some ⟨j, 0, none⟩)] w fun e w' => e = .returned (.int .i64 (st.rows.length : Int)) ∧ w = w' := by
  obtain ⟨v, -, hbj, hrr⟩ := h.j
  have c1 := (hbj.cell 1).trans rfl
  obtain ⟨pl, cl, us0, rfl, _⟩ := hrr.bytl
  clear hbj hrr h
  go_enter Tryd.func23, Tryd.ntmps23
  go_wp2_with fail
  go_ret
  exact ⟨rfl, rfl⟩
theorem sizeOf_any (w : World) (j a : Nat) (p o : Option Nat) (X : List Nat) (st : JSt) (h : Jn w j a p o X st) :
    Calls Tryd.prog 19 #[.pointer (some ⟨j, 0, none⟩)] w fun e w' => e = .returned (.int .i64 ((framesJ st.rows).length : Int)) ∧ w = w' := by
  obtain ⟨v, -, hbj, hrr⟩ := h.j
  have c1 := (hbj.cell 2).trans rfl
  clear hbj hrr h
  go_enter Tryd.func19, Tryd.ntmps19
  go_wp2_with fail
  go_ret
  exact ⟨rfl, rfl⟩
theorem deadOf_any (w : World) (j a : Nat) (p o : Option Nat) (X : List Nat) (st : JSt) (h : Jn w j a p o X st) :
    Calls Tryd.prog 25 #[.pointer (some ⟨j, 0, none⟩)] w fun e w' => e = .returned (.bool st.dead) ∧ w = w' := by
  obtain ⟨v, -, hbj, hrr⟩ := h.j
  have c1 := (hbj.cell 3).trans rfl
  clear hbj hrr h
  go_enter Tryd.func25, Tryd.ntmps25
  go_wp2_with fail
  go_ret
  exact ⟨rfl, rfl⟩
end Go.Proofs.YtoiknidlincdkaaDoor
