/-
  NetTo: a net's To: its letters to a node, handed over one by one.
-/
import Derived.Test.YtbbhecadpbnobaaDoorNetV
namespace Go.Proofs.YtbbhecadpbnobaaDoor
open Go.RowKit
attribute [local go_sem] Oper.semAt_some

/-- how many of the first i letters go to the node -/
def cntT (ls : List Lt) (node : Int) (i : Nat) : Nat := ((ls.take i).filter fun x => x.2.1 == node).length
theorem cntT_zero (ls : List Lt) (node : Int) : cntT ls node 0 = 0 := rfl
theorem cntT_succ {ls : List Lt} {node : Int} {i : Nat} {x : Lt} (hx : ls[i]? = some x) : cntT ls node (i + 1) = cntT ls node i + if x.2.1 == node then 1 else 0 := by
  obtain ⟨hi, hx2⟩ := List.getElem?_eq_some_iff.1 hx
  unfold cntT
  rw [List.take_succ_eq_append_getElem hi, List.filter_append, List.length_append, hx2]
  congr 1
  cases h : (x.2.1 == node) <;> simp [h]
theorem cntT_mono {ls : List Lt} {node : Int} {i j : Nat} (h : i ≤ j) : cntT ls node i ≤ cntT ls node j := by
  unfold cntT
  have h1 : ls.take i = (ls.take j).take i := by rw [List.take_take, Nat.min_eq_left h]
  rw [h1]
  exact List.Sublist.length_le (List.Sublist.filter _ (List.take_sublist _ _))
theorem cntT_lt {ls : List Lt} {node : Int} {i : Nat} {x : Lt} (hx : ls[i]? = some x) (hm : (x.2.1 == node) = true) : cntT ls node i < cntT ls node ls.length := by
  have h1 := cntT_succ (node := node) hx
  rw [if_pos hm] at h1
  have h2 := cntT_mono (ls := ls) (node := node) (show i + 1 ≤ ls.length from (List.getElem?_eq_some_iff.1 hx).1)
  omega
/-- what is handed over in the j-th round -/
def KnT (ls : List Lt) (node : Int) (j : Nat) (args : Array Value) (_ W : World) : Prop :=
  ∃ (i : Nat) (x : Lt) (u : Value), ls[i]? = some x ∧ (x.2.1 == node) = true ∧ cntT ls node i = j ∧ args = #[.int .i64 (i : Int), .agg #[.int .i64 x.1, .int .i64 x.2.1, u]] ∧ W.ownsRow 0 5 1 u x.2.2.length (bvs x.2.2)
theorem to_any (w : World) (n : Nat) (node : Int) :
    Calls Tryd.prog 22 #[.pointer (some ⟨n, 0, none⟩), .int .i64 node] w fun e w' => e = .returned (.func (.func 36) #[] #[.pointer (some ⟨w.heap.size, 0, none⟩), .pointer (some ⟨w.heap.size + 1, 0, none⟩)]) ∧ w' = (w.alloc (.cells #[.pointer (some ⟨n, 0, none⟩)] 26)).alloc (.cells #[.int .i64 node] 3) := by
  have hmf := @run_mkF Tryd.prog
  go_enter Tryd.func22, Tryd.ntmps22
  go_wp2_with fail
  go_ret
  exact ⟨rfl, rfl⟩
theorem LetF.kb {B C : Nat} {w w' : World} {v : Value} {xs : List (Lt × Value)} (h : LetF B w v xs) (hC : C ≤ B) (k : KB C w w') : LetF B w' v xs := by
  have ho : ∀ (size m : Nat) (e : TypeId) (u : Value) (ys : List Value), w.ownsRow B e size u m ys → w'.ownsRow B e size u m ys := fun size m e u ys h => by
    refine ⟨h.1, ?_⟩
    rcases h.2 with h2 | ⟨g, cap, cur, rfl, hB, hh, r⟩
    · exact .inl h2
    · exact .inr ⟨g, cap, cur, rfl, hB, k g _ _ (Nat.le_trans hC hB) hh, r⟩
  exact ⟨ho _ _ _ _ _ h.own, fun x hx => ho _ _ _ _ _ (h.dat x hx), h.apart⟩
set_option maxRecDepth 20000 in
set_option maxHeartbeats 4000000 in
theorem to1_in (F : Fence) (hF : FreeF F) (hro : F.round = none) (mm l b1 b2 B : Nat) (w : World) (n b : Nat) (p : Option Nat) (c : Nat) (st : NSt) (h : Nn w n b p c st) (hle : st.ls.length ≤ 1000) (hel : ∀ x ∈ st.ls, x.2.2.length ≤ 1000) (node : Int) (J : Nat → World → Prop)
    (hG : ∀ k A, J k A → Below w.heap.size w A ∧ A.cell? ⟨b1, 0, none⟩ = some (.pointer (some ⟨n, 0, none⟩)) ∧ A.cell? ⟨b2, 0, none⟩ = some (.int .i64 node)) (hK : ∀ k A B, J k A → Below A.heap.size A B → J k B)
    (hY : ∀ k args A W, k < cntT st.ls node st.ls.length → J k A → Below A.heap.size A W → KnT st.ls node k args A W → YieldAt F (mm - 1) Tryd.prog l args W fun e W' => e = .returned (.bool true) ∧ J (k + 1) W' ∧ KB B W W') (W : World) (hB : B ≤ W.heap.size) (h0 : J 0 W) :
    CallsIn F mm Tryd.prog 36 #[.func (.yield l) #[] #[], .pointer (some ⟨b1, 0, none⟩), .pointer (some ⟨b2, 0, none⟩)] W fun e W' => (∃ v, e = .returned v) ∧ J (cntT st.ls node st.ls.length) W' := by
  obtain ⟨hlow, hb1, hb2⟩ := hG 0 W h0
  have HG := Lib.hid hG
  have HK := Lib.hid hK
  have HY := Lib.hid hY
  have hdep := hF.depth
  have HF := Lib.hid hF
  have HN := Lib.hid (h.below hlow)
  have HEL := Lib.hid hel
  have H0 := Lib.hid h0
  clear hG hK hY h hlow hel h0 hb2
  refine callsIn_of_wp Tryd.func36 rfl (hF.fn _) ?_ hro
  clear hF
  simp only [Tryd.ntmps36, List.size_toArray, List.length_cons, List.length_nil, Nat.reduceAdd, Nat.reduceSub, Array.replicate_succ, Array.replicate_zero, List.push_toArray, List.append_toArray, List.nil_append, List.cons_append]
  gi_wp2
  clear hb1
  refine ⟨HF.out.fn _, ?_⟩
  refine (HF.out.calls _ _ _ _ _ _ (letters_any W n b p c st HN.out hle HEL.out)).mono ?_
  rintro e W1 ⟨⟨v, xs, rfl, hx, hL⟩, hk1⟩
  have hxl : xs.length = st.ls.length := by
    have := congrArg List.length hx
    rwa [List.length_map] at this
  have HX := Lib.hid hx
  have HL := Lib.hid hL
  have HJ1 := Lib.hid (HK.out 0 _ _ H0.out hk1)
  obtain ⟨pv, cv, rfl, _⟩ := owns_rd hL.own
  have HXL := Lib.hid hxl
  clear hx hL hk1 H0
  rw [hxl]
  clear hxl
  gi_wp2
  gi_loopw [9] (fun i wr => ∃ k : Nat, k ≤ st.ls.length ∧ i = .int .i64 (k : Int) ∧ J (cntT st.ls node k) wr ∧ KB B W1 wr) (fun i _ => st.ls.length - (intOf i).toNat)
  case atStart => exact ⟨0, by omega, rfl, HJ1.out, KB.refl _ _⟩
  case round =>
    obtain ⟨k, hk, rfl, hj, hkb⟩ := hrel
    have HJ := Lib.hid hj
    have HKB := Lib.hid hkb
    clear hj hkb HJ1
    by_cases hlt : k < st.ls.length
    · have hxk : st.ls[k]? = some st.ls[k] := List.getElem?_eq_getElem hlt
      obtain ⟨g, cg, hv⟩ := owns_some HL.out.own (by rw [HXL.out]; omega)
      obtain ⟨rfl, rfl⟩ : pv = some ⟨g, 0, none⟩ ∧ cv = cg := by simpa using hv
      obtain ⟨u, ho, a0, a1, a2⟩ := (HL.out.kb hB HKB.out).at_ HX.out hxk
      obtain ⟨_, hbx1, hbx2⟩ := HG.out _ wr HJ.out
      generalize st.ls[k] = x at *
      obtain ⟨f, t, d⟩ := x
      simp only at ho a0 a1 a2
      have HXK := Lib.hid hxk
      have HO := Lib.hid ho
      obtain ⟨pu, cu, rfl, _⟩ := owns_rd ho
      have HNB := Lib.hid (below_alloc1 wr (.cells #[.int .i64 f, .int .i64 t, .slice pu d.length cu] 37))
      have hbl := Blk.new wr 37 #[.int .i64 f, .int .i64 t, .slice pu d.length cu]
      have z0 := (hbl.cell 0).trans rfl
      have z1 := (hbl.cell 1).trans rfl
      have z2 := (hbl.cell 2).trans rfl
      have hc2 := Below.keeps HNB.out _ _ hbx2
      clear ho hxk hbx1 hbl hv
      cases hm : (t == node) with
      | false =>
        have HST := Lib.hid (show cntT st.ls node (k + 1) = cntT st.ls node k from by rw [cntT_succ HXK.out]; simp [hm])
        gi_wp2
        refine ⟨fun _ h => (by cases h), ?_⟩
        gi_wp2
        have HJ3 := Lib.hid (HK.out _ _ _ HJ.out HNB.out)
        go_roundw
        case rel => exact ⟨k + 1, by omega, by go_num, by rw [HST.out]; exact HJ3.out, HKB.out.trans (KB.of_below HNB.out)⟩
        case measure => simp [intOf]; omega
      | true =>
        have HST := Lib.hid (show cntT st.ls node (k + 1) = cntT st.ls node k + 1 from by rw [cntT_succ HXK.out]; simp [hm])
        obtain ⟨fn, tmps, assign, body, hy, hR⟩ := HY.out (cntT st.ls node k) #[.int .i64 (k : Int), .agg #[.int .i64 f, .int .i64 t, .slice pu d.length cu]] wr _ (cntT_lt HXK.out hm) HJ.out HNB.out ⟨k, _, _, HXK.out, hm, rfl, rfl, owns_lower (owns_below HO.out HNB.out) (Nat.zero_le _)⟩
        have HR := Lib.hid hR
        clear hR
        gi_wp2
        refine HR.out.mono ?_
        rintro e w3 ⟨rfl, hj3, hkb3⟩
        have HJ3 := Lib.hid hj3
        have HK3 := Lib.hid ((HKB.out.trans (KB.of_below HNB.out)).trans hkb3)
        clear hj3 hkb3 hy
        gi_wp2
        go_roundw
        case rel => exact ⟨k + 1, by omega, by go_num, by rw [HST.out]; exact HJ3.out, HK3.out⟩
        case measure => simp [intOf]; omega
    · have HKK := Lib.hid (show k = st.ls.length by omega)
      gi_wp2
      go_end0
      exact ⟨⟨_, rfl⟩, by rw [← HKK.out]; exact HJ.out⟩
end Go.Proofs.YtbbhecadpbnobaaDoor
