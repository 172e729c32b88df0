/- SpQ -/
import Derived.Test.YthboiahdheehkaaGreatDoorPA
import Derived.Test.YthboiahdheehkaaGreatDoorPF
import Derived.Maps.OwnSet
import Derived.Maps.StringElems
import Derived.StringKeys
import Derived.Deep.LoopGhost
open List renaming take_append_drop → lJ
open Go.Lib renaming hid → hI
open Option renaming bind_some → oC
open Nat renaming le_refl → nR
open Go.Proofs.Tryz renaming prog → pG
open Go.Value renaming string → S
open Go.Ending renaming returned → T
open Go.Obj renaming cells → OO
namespace Go.Proofs.YthboiahdheehkaaGreatDoor
section
set_option maxHeartbeats 4000000
set_option maxRecDepth 20000
open Go.RowKit
theorem look_one {p sp : List UInt8} : lookF [(p, sp)] p = some sp := by
 unfold lookF
 simp
theorem xr (p : List UInt8) : ([p] : List (List UInt8)).getD 0 [] = p := rfl
end
section
set_option maxHeartbeats 4000000
set_option maxRecDepth 20000
open Go.RowKit
theorem look_app (a b : List (List UInt8 × List UInt8)) (p : List UInt8) : lookF (a ++ b) p = match lookF b p with | some v => some v | none => lookF a p := by
 unfold lookF
 rw [List.reverse_append, List.find?_append]
 cases b.reverse.find? (fun d => d.1 == p) <;> rfl
theorem look_snoc (a : List (List UInt8 × List UInt8)) (q v p : List UInt8) : lookF (a ++ [(q, v)]) p = if p = q then some v else lookF a p := by
 rw [look_app]
 by_cases h : p = q
 ·subst h
  rw [if_pos rfl, look_one]
 ·rw [if_neg h]
  have : lookF [(q, v)] p = none := by
   unfold lookF
   simp [Ne.symm h]
  rw [this]
mutual
def Tr.inS (l : List (List UInt8)) : Tr → Prop
 | .node nm ats ks _ => (nm.getD 0 [] = [] ∨ nm.getD 0 [] ∈ l) ∧ (∀ a ∈ ats, a.getD 0 [] = [] ∨ a.getD 0 [] ∈ l) ∧ Tr.inSL l ks
def Tr.inSL (l : List (List UInt8)) : List Tr → Prop
 | [] => True
 | k :: ks => k.inS l ∧ Tr.inSL l ks
end
mutual
theorem inS_mono {l m : List (List UInt8)} (h : ∀ s ∈ l, s ∈ m) : ∀ e : Tr, e.inS l → e.inS m
 | .node nm ats ks t, he => by
  unfold Tr.inS at he ⊢
  exact ⟨he.1.imp id (h _), fun a ha => (he.2.1 a ha).imp id (h _), inSL_mono h ks he.2.2⟩
theorem inSL_mono {l m : List (List UInt8)} (h : ∀ s ∈ l, s ∈ m) : ∀ ks : List Tr, Tr.inSL l ks → Tr.inSL m ks
 | [], _ => by unfold Tr.inSL; trivial
 | k :: ks, he => by
  unfold Tr.inSL at he ⊢
  exact ⟨inS_mono h k he.1, inSL_mono h ks he.2⟩
end
theorem add_mono (l : List (List UInt8)) (s : List UInt8) : ∀ x ∈ l, x ∈ addF l s := by
 intro x hx
 unfold addF
 split
 ·exact hx
 ·exact List.mem_append_left _ hx
theorem add_in (l : List (List UInt8)) (s : List UInt8) : s = [] ∨ s ∈ addF l s := by
 unfold addF
 split
 ·rename_i h
  rcases h with h | h
  ·exact .inr (by simpa using h)
  ·exact .inl h
 ·exact .inr (by simp)
def goodS (l : List (List UInt8)) : Prop := l.Nodup ∧ [] ∉ l
theorem add_good {l : List (List UInt8)} (s : List UInt8) (h : goodS l) : goodS (addF l s) := by
 unfold addF
 split
 ·exact h
 ·rename_i hn
  simp only [not_or] at hn
  have hs : s ∉ l := by simpa using hn.1
  refine ⟨?_, ?_⟩
  ·rw [List.nodup_append]
   refine ⟨h.1, by simp, ?_⟩
   intro a ha b hb e
   rw [List.mem_singleton] at hb
   subst hb e
   exact hs ha
  ·intro hm
   rcases List.mem_append.1 hm with hm | hm
   ·exact h.2 hm
   ·rw [List.mem_singleton] at hm
    exact hn.2 hm.symm
theorem fold_mono : ∀ (ats : List (List (List UInt8))) (l : List (List UInt8)), ∀ x ∈ l, x ∈ ats.foldl (fun l a => addF l (a.getD 0 [])) l
 | [], _, x, hx => hx
 | a :: ats, l, x, hx => fold_mono ats _ x (add_mono l _ x hx)
theorem fold_in : ∀ (ats : List (List (List UInt8))) (l : List (List UInt8)), ∀ a ∈ ats, a.getD 0 [] = [] ∨ a.getD 0 [] ∈ ats.foldl (fun l a => addF l (a.getD 0 [])) l
 | a :: ats, l, b, hb => by
  rcases List.mem_cons.1 hb with rfl | hb
  ·exact (add_in l _).imp id (fold_mono ats _ _)
  ·exact fold_in ats _ b hb
theorem fold_good : ∀ (ats : List (List (List UInt8))) (l : List (List UInt8)), goodS l → goodS (ats.foldl (fun l a => addF l (a.getD 0 [])) l)
 | [], _, h => h
 | a :: ats, l, h => fold_good ats _ (add_good _ h)
mutual
theorem meet_all : ∀ (e : Tr) (l : List (List UInt8)), (∀ s ∈ l, s ∈ e.meet l) ∧ e.inS (e.meet l) ∧ (goodS l → goodS (e.meet l))
 | .node nm ats ks t, l => by
  unfold Tr.meet Tr.inS
  obtain ⟨h1, h2, h3⟩ := meetL_all ks (ats.foldl (fun l a => addF l (a.getD 0 [])) (addF l (nm.getD 0 [])))
  refine ⟨fun s hs => h1 s (fold_mono ats _ s (add_mono l _ s hs)), ⟨?_, ?_, h2⟩, fun hg => h3 (fold_good ats _ (add_good _ hg))⟩
  ·exact (add_in l (nm.getD 0 [])).imp id (fun h => h1 _ (fold_mono ats _ _ h))
  ·exact fun a ha => (fold_in ats _ a ha).imp id (h1 _)
theorem meetL_all : ∀ (ks : List Tr) (l : List (List UInt8)), (∀ s ∈ l, s ∈ Tr.meetL l ks) ∧ Tr.inSL (Tr.meetL l ks) ks ∧ (goodS l → goodS (Tr.meetL l ks))
 | [], l => by
  unfold Tr.meetL Tr.inSL
  exact ⟨fun s hs => hs, trivial, id⟩
 | k :: ks, l => by
  unfold Tr.meetL Tr.inSL
  obtain ⟨h1, h2, h3⟩ := meet_all k l
  obtain ⟨g1, g2, g3⟩ := meetL_all ks (k.meet l)
  exact ⟨fun s hs => g1 s (h1 s hs), ⟨inS_mono g1 k h2, g2⟩, fun hg => g3 (h3 hg)⟩
end
theorem meet_in (e : Tr) : e.inS (e.meet []) ∧ goodS (e.meet []) := ⟨(meet_all e []).2.1, (meet_all e []).2.2 ⟨by simp, by simp⟩⟩
theorem prefixed_in {l : List (List UInt8)} {n : List (List UInt8)} (hg : goodS l) (h : n.getD 0 [] = [] ∨ n.getD 0 [] ∈ l) : prefixedF l n = if n.getD 0 [] = [] then n.getD 1 [] else prefF (l.idxOf (n.getD 0 [])) ++ 58 :: n.getD 1 [] := by
 unfold prefixedF
 by_cases h0 : n.getD 0 [] = []
 ·rw [if_pos h0, if_neg]
  rw [h0]
  intro hlt
  exact hg.2 (List.idxOf_lt_length_iff.1 hlt)
 ·rw [if_neg h0, if_pos]
  exact List.idxOf_lt_length_iff.2 (h.resolve_left h0)
end
section
set_option maxHeartbeats 4000000
set_option maxRecDepth 20000
open Go.RowKit
theorem strKeyed : Maps.Keyed pG 9 := Maps.string_keyed Tryz.underlying9
theorem str_key (s : List UInt8) (hs : shS s) : keyOf pG 9 (S (bs s)) = some (.string s) := by
 have h := WideMaps.keyOf_string_mk (P := pG) (k := 9) Tryz.underlying9 (s := bs s) (by rw [bs_size]; unfold maxLen; have := hs; omega)
 rw [show (bs s).data.toList = s from by simp [bs]] at h
 exact h
def MapS (w : World) (b n : Nat) (f : List UInt8 → Option (List UInt8)) : Prop :=
 ∃ D : DataW Unit, w.ownsMap pG 9 (plainElem pG 9) b n D ∧
  ∀ s, shS s → Maps.has D (.string s) = (f s).isSome ∧ D.atKey (.string s) (.lit (.string [])) = .lit (.string ((f s).getD []))
theorem maps_made (w : World) : MapS (w.alloc (.map #[] 0)) w.heap.size 0 (fun _ => none) :=
 ⟨_, World.ownsMap_made w _ _ _, fun s _ => ⟨rfl, rfl⟩⟩
theorem MapS.lt {w : World} {b n : Nat} {f : List UInt8 → Option (List UInt8)} (h : MapS w b n f) : b < w.heap.size := by
 obtain ⟨D, h1, _⟩ := h
 exact h1.lt
theorem MapS.kept {w w' : World} {b n : Nat} {f : List UInt8 → Option (List UInt8)} (h : MapS w b n f) (k : ∀ o, w.heap[b]? = some o → w'.heap[b]? = some o) : MapS w' b n f := by
 obtain ⟨D, ⟨es, clock, hb, F, hs, hD⟩, h2⟩ := h
 exact ⟨D, ⟨es, clock, k _ hb, F, hs, hD⟩, h2⟩
theorem MapS.below {w w' : World} {b n : Nat} {f : List UInt8 → Option (List UInt8)} (h : MapS w b n f) (hb : Below w.heap.size w w') : MapS w' b n f :=
 h.kept fun _ ho => (hb.block b h.lt).trans ho
theorem zero_str (w : World) : (zeroValue 9).run pG w = .ok (S ⟨#[]⟩) w := by kernel_rfl
theorem elem_str (s : List UInt8) (hs : s.length ≤ 1000000) : plainElem (H := Unit) pG 9 (S (bs s)) = some (.lit (.string s), []) := by
 have h := plainElem_string (H := Unit) (P := pG) (e := 9) Tryz.underlying9 (s := bs s) (by rw [bs_size]; unfold maxLen; omega)
 rw [show (bs s).data.toList = s from by simp [bs]] at h
 exact h
theorem MapS.look {w : World} {b n : Nat} {f : List UInt8 → Option (List UInt8)} (h : MapS w b n f) {s : List UInt8} (hs : shS s) :
  (Instr.lookup 189 (.map (some b)) (S (bs s)) true).run pG w = .ok (.tuple #[S (bs ((f s).getD [])), .bool (f s).isSome]) w := by
 obtain ⟨D, h1, h2⟩ := h
 obtain ⟨v, ps, hrun, hv⟩ := h1.look_ok strKeyed Tryz.underlying189 (zero_str w) (elem_str [] (by simp)) (str_key s hs)
 rw [(h2 s hs).2] at hv
 rw [(h2 s hs).1] at hrun
 obtain ⟨x, rfl, hx, _⟩ := plainElem_string_inv Tryz.underlying9 hv
 have hx1 : (DataW.lit (.string ((f s).getD [])) : DataW Unit) = .lit (.string x.data.toList) := congrArg Prod.fst hx
 simp only [DataW.lit.injEq, Lit.string.injEq] at hx1
 rw [hx1]
 rw [hrun]
 congr 3
def setS (f : List UInt8 → Option (List UInt8)) (s v : List UInt8) : List UInt8 → Option (List UInt8) := fun s' => if s' = s then some v else f s'
theorem but_turned {w w' : World} {b : Nat} (h : w.mapTurned w' b) : But [b] w w' := by
 have hg := h.grown
 exact ⟨hg.os, hg.tape, hg.output, hg.size, fun k hk hn => hg.block k hk (by rintro e; cases e; simp at hn)⟩
theorem MapS.store {w : World} {b n : Nat} {f : List UInt8 → Option (List UInt8)} (h : MapS w b n f) (hn : n < 1000000) {s v : List UInt8} (hs : shS s) (hv : shS v) :
  ∃ w', (Instr.mapUpdate 189 (.map (some b)) (S (bs s)) (S (bs v))).run pG w = .ok () w' ∧ MapS w' b (n + 1) (setS f s v) ∧ But [b] w w' := by
 obtain ⟨D, h1, h2⟩ := h
 obtain ⟨w', hrun, ho, ht⟩ := h1.store strKeyed Tryz.underlying189 (by unfold maxLen; omega) (str_key s hs) (elem_str v hv)
 have hkl := strKeyed.key (str_key s hs)
 refine ⟨w', hrun, ⟨_, ho, fun s' hs' => ?_⟩, but_turned ht⟩
 unfold setS
 by_cases e : s' = s
 ·subst e
  rw [if_pos rfl, Maps.has_put_same h1.isMap hkl, Maps.atKey_put_same h1.isMap hkl]
  exact ⟨rfl, rfl⟩
 ·rw [if_neg e, Maps.has_put_other (by simpa using e), Maps.atKey_put_other (by simpa using e)]
  exact h2 s' hs'
end
section
set_option maxHeartbeats 4000000
set_option maxRecDepth 20000
open Go.RowKit
attribute [local go_sem] bs_toList
theorem sfail_y (w : World) : Calls pG 84 #[.bool true] w (fun e w' => e = T (.tuple #[]) ∧ w' = w) := by
 go_enter Tryz.func84, Tryz.ntmps84
 go_wp2_with fail
 go_end0
 exact ⟨rfl, rfl⟩
theorem sfail_n (w : World) (E : Nat → Addr) (he : Errs w E) : Calls pG 84 #[.bool false] w (fun e w' => e = .panicked (panE E 3) ∧ w' = w) := by
 have cE := he.form
 unfold panE errAt
 go_enter Tryz.func84, Tryz.ntmps84
 go_wp2_with fail
 exact ⟨rfl, rfl, rfl⟩
theorem split_any (l : List UInt8) (hm : shS l) (w : World) (hg : LibG w) : Calls pG 190 #[S (bs l)] w (Gives w (.tuple #[S (bs (splitF l).1), S (bs (splitF l).2)])) := by
 obtain ⟨m, hg⟩ := hg.cut
 have HC := hI (Tryz.strings_Cut (bs l) ⟨#[58]⟩ m w (by rw [bs_size]; have := hm; omega) hg)
 rw [show (bs l).data.toList = l from by simp [bs], show (⟨#[58]⟩ : ByteArray).data.toList = [58] from rfl, lib_cut] at HC
 unfold Gives splitF
 cases hc : cutB 58 l with
 | none =>
  rw [hc] at HC
  clear hc
  go_enter Tryz.func190, Tryz.ntmps190
  go_wp2_with (go_at_call 168; refine HC.out.mono ?_; rintro e w1 ⟨rfl, n, rfl⟩)
  go_ret2
  exact ⟨rfl, below_drewN w n⟩
 | some p =>
  obtain ⟨a, b⟩ := p
  rw [hc] at HC
  dsimp only at HC
  clear hc
  go_enter Tryz.func190, Tryz.ntmps190
  go_wp2_with (go_at_call 168; refine HC.out.mono ?_; rintro e w1 ⟨rfl, n, rfl⟩)
  go_ret2
  exact ⟨rfl, below_drewN w n⟩
theorem split_sh {l : List UInt8} (h : shS l) : shS (splitF l).1 ∧ shS (splitF l).2 := by
 unfold splitF
 cases hc : cutB 58 l with
 | none => exact ⟨by simp [shS], h⟩
 | some p =>
  obtain ⟨a, b⟩ := p
  have := congrArg List.length (cutB_app hc)
  simp at this
  unfold shS at h ⊢
  simp only
  omega
theorem sown_any (p : List UInt8) (w : World) : Calls pG 191 #[S (bs p)] w fun e w' => e = T (.bool (ownF p)) ∧ w' = w := by
 have HX : RowKit.Hid (ownF p = ((p == [120, 109, 108]) || (p == [120, 109, 108, 110, 115]))) := hI rfl
 obtain ⟨R, hR⟩ : ∃ R, ownF p = R := ⟨_, rfl⟩
 rw [hR] at HX ⊢
 clear hR
 cases h1 : (p == [120, 109, 108]) <;> cases h2 : (p == [120, 109, 108, 110, 115]) <;> rw [h1, h2] at HX
 all_goals
  obtain rfl : R = _ := HX.out
  clear HX
  go_enter Tryz.func191, Tryz.ntmps191
  go_wp2_with fail
  go_ret
  exact ⟨rfl, rfl⟩
def FoR {α : Type} (E : Nat → Addr) (o : Option α) (V : α → Value) (w : World) (e : Ending) (w' : World) : Prop :=
 Below w.heap.size w w' ∧ ((∃ a, o = some a ∧ e = T (V a)) ∨ (o = none ∧ e = .panicked (panE E 3)))
def declV (d : Option (List UInt8)) : Value := .tuple #[S (bs (d.getD [])), .bool d.isSome]
theorem decl_any (E : Nat → Addr) (n v : List UInt8) (hn : shS n) (w : World) (hg : LibG w) (hE : Errs w E) :
  Calls pG 189 #[.agg #[S (bs n), S (bs v)]] w (FoR E (declF [n, v]) declV w) := by
 have HB := hI (below_alloc1 w (OO #[S (bs n), S (bs v)] 186))
 have HN := hI (Blk.new w 186 #[S (bs n), S (bs v)])
 have c0 := (HN.out.cell 0).trans rfl
 have HD : RowKit.Hid (declF [n, v] = if (n == [120, 109, 108, 110, 115]) = true then some (some []) else if ((splitF n).1 == [120, 109, 108, 110, 115]) = true then (if (v == []) = true ∨ ownF (splitF n).2 = true then none else some (some (splitF n).2)) else some none) := hI (by
  unfold declF xmlnsL
  simp)
 have HS := hI (split_any n hn _ (hg.below HB.out))
 have HE := hI hE
 generalize declF [n, v] = O at *
 cases h1 : (n == [120, 109, 108, 110, 115]) <;> rw [h1] at HD
 rotate_left 1
 ·obtain rfl : O = _ := HD.out.trans (if_pos rfl)
  clear HD HS hg hE
  go_enter Tryz.func189, Tryz.ntmps189
  go_wp2_with fail
  go_ret2
  exact ⟨HB.out, .inl ⟨_, rfl, rfl⟩⟩
 have HD := hI (HD.out.trans (if_neg (by decide)))
 have HOW := hI (fun w => sown_any (splitF n).2 w)
 generalize (splitF n).1 = p at *
 generalize (splitF n).2 = q at *
 cases h2 : (p == [120, 109, 108, 110, 115]) <;> rw [h2] at HD
 ·obtain rfl : O = _ := HD.out.trans (if_neg (by decide))
  clear HD hg hE
  go_enter Tryz.func189, Tryz.ntmps189
  go_wp2_with (go_at_call 190; refine HS.out.mono ?_; rintro e w2 ⟨rfl, hb2⟩)
  go_ret2
  exact ⟨HB.out.trans (hb2.mono HB.out.size), .inl ⟨_, rfl, rfl⟩⟩
 have HD := hI (HD.out.trans (if_pos rfl))
 have hv0 : v.isEmpty = (v == []) := by cases v <;> rfl
 have hv1 : (bs v).toList.isEmpty = (v == []) := isE_bs v
 have HFY := hI (fun w => sfail_y w)
 have HFN := hI (fun w2 (hb2 : Below (w.alloc (OO #[S (bs n), S (bs v)] 186)).heap.size (w.alloc (OO #[S (bs n), S (bs v)] 186)) w2) => sfail_n w2 E (HE.out.below (HB.out.trans (hb2.mono HB.out.size))))
 clear hg hE
 cases h3 : (v == []) <;> rw [h3] at HD hv0 hv1
 rotate_left 1
 ·obtain rfl : O = _ := HD.out.trans (if_pos (.inl rfl))
  clear HD
  go_enter Tryz.func189, Tryz.ntmps189
  go_wp2_with (first | (go_at_call 190; refine HS.out.mono ?_; rintro e w2 ⟨rfl, hb2⟩; have k1 := ((HN.out.below hb2 HN.out.lt).cell 1).trans rfl) | (go_at_call 84; refine (HFN.out _ hb2).mono ?_; rintro e w3 ⟨rfl, rfl⟩))
  exact ⟨rfl, HB.out.trans (hb2.mono HB.out.size), .inr ⟨rfl, rfl⟩⟩
 cases h4 : ownF q <;> rw [h4] at HD HOW
 ·obtain rfl : O = _ := HD.out.trans (if_neg (by decide))
  clear HD
  go_enter Tryz.func189, Tryz.ntmps189
  go_wp2_with (first | (go_at_call 190; refine HS.out.mono ?_; rintro e w2 ⟨rfl, hb2⟩; have k1 := ((HN.out.below hb2 HN.out.lt).cell 1).trans rfl) | (go_at_call 191; refine (HOW.out _).mono ?_; rintro e w3 ⟨rfl, rfl⟩) | (go_at_call 84; refine (HFY.out _).mono ?_; rintro e w3 ⟨rfl, rfl⟩))
  go_ret2
  exact ⟨HB.out.trans (hb2.mono HB.out.size), .inl ⟨_, rfl, rfl⟩⟩
 ·obtain rfl : O = _ := HD.out.trans (if_pos (.inr rfl))
  clear HD
  go_enter Tryz.func189, Tryz.ntmps189
  go_wp2_with (first | (go_at_call 190; refine HS.out.mono ?_; rintro e w2 ⟨rfl, hb2⟩; have k1 := ((HN.out.below hb2 HN.out.lt).cell 1).trans rfl) | (go_at_call 191; refine (HOW.out _).mono ?_; rintro e w3 ⟨rfl, rfl⟩) | (go_at_call 84; refine (HFN.out _ hb2).mono ?_; rintro e w3 ⟨rfl, rfl⟩))
  exact ⟨rfl, HB.out.trans (hb2.mono HB.out.size), .inr ⟨rfl, rfl⟩⟩
end
section
set_option maxHeartbeats 4000000
set_option maxRecDepth 20000
open Go.RowKit
attribute [local go_sem] bs_toList
section
variable {α : Type} {E : Nat → Addr} {V : α → Value} {w w' : World} {e : Ending}
theorem FoR.ok {a : α} (h : FoR E (some a) V w e w') : e = T (V a) ∧ Below w.heap.size w w' := by
 rcases h.2 with ⟨b, h1, h2⟩ | ⟨h1, _⟩
 ·cases h1; exact ⟨h2, h.1⟩
 ·cases h1
theorem FoR.no (h : FoR E none V w e w') : e = .panicked (panE E 3) ∧ Below w.heap.size w w' := by
 rcases h.2 with ⟨b, h1, h2⟩ | ⟨_, h2⟩
 ·cases h1
 ·exact ⟨h2, h.1⟩
end
abbrev Decls := List (List UInt8 × List UInt8)
def addD (d : Option (List UInt8)) (v : List UInt8) (ds : Decls) : Decls := match d with | none => ds | some p => (p, v) :: ds
theorem decls_nil : declsF [] = some [] := rfl
theorem decls_cons (a : List (List UInt8)) (l : List (List (List UInt8))) : declsF (a :: l) = (declF a).bind fun d => (declsF l).map fun ds => addD d (a.getD 1 []) ds := by
 conv => lhs; unfold declsF
 cases declF a with
 | none => rfl
 | some d => cases d <;> rfl
theorem addD_app (d : Option (List UInt8)) (v : List UInt8) (a b : Decls) : addD d v (a ++ b) = addD d v a ++ b := by cases d <;> rfl
theorem decls_app : ∀ (xs ys : List (List (List UInt8))), declsF (xs ++ ys) = (declsF xs).bind fun a => (declsF ys).map fun b => a ++ b
 | [], ys => by
  rw [List.nil_append, decls_nil]
  simp
 | x :: xs, ys => by
  rw [List.cons_append, decls_cons, decls_cons]
  cases hx : declF x with
  | none => rfl
  | some d =>
   simp only [oC]
   rw [decls_app xs ys]
   cases declsF xs with
   | none => rfl
   | some a =>
    simp only [oC, Option.map_some]
    cases declsF ys with
    | none => rfl
    | some b => simp only [Option.map_some, addD_app]
theorem decls_one (a : List (List UInt8)) : declsF [a] = (declF a).map fun d => addD d (a.getD 1 []) [] := by
 rw [decls_cons, decls_nil]
 cases declF a <;> rfl
theorem decls_bad {ats : List (List (List UInt8))} {j : Nat} (h : declsF (ats.take j) = none) : declsF ats = none := by
 rw [← lJ j ats, decls_app, h]
 rfl
theorem decls_step {ats : List (List (List UInt8))} {j : Nat} {dj : Decls} (h : j < ats.length) (hd : declsF (ats.take j) = some dj) : declsF (ats.take (j + 1)) = (declF ats[j]).map fun d => dj ++ addD d (ats[j].getD 1 []) [] := by
 rw [List.take_succ_eq_append_getElem h, decls_app, hd, decls_one]
 simp only [oC, Option.map_map]
 rfl
theorem decl_sh {n v q : List UInt8} (hn : shS n) (h : declF [n, v] = some (some q)) : shS q := by
 have h2 : (if n = xmlnsL then some (some []) else if (splitF n).1 = xmlnsL then (if v = [] ∨ ownF (splitF n).2 = true then none else some (some (splitF n).2)) else some none) = some (some q) := h
 split at h2
 ·cases h2; simp [shS]
 ·split at h2
  ·split at h2
   ·cases h2
   ·cases h2; exact (split_sh hn).2
  ·cases h2
theorem but_below {B b : Nat} {w w' : World} (h : But [b] w w') (hb : B ≤ b) (hB : B ≤ w.heap.size) : Below B w w' := ⟨h.os, h.tape, h.output, h.size, fun k hk => h.block k (by omega) (by simp; omega)⟩
def ScC (w : World) : Value → List Decls → Prop
 | v, [] => v = .pointer none
 | v, d :: ls => ∃ s m n v', v = .pointer (some ⟨s, 0, none⟩) ∧ Blk w s 249 #[v', .map (some m)] ∧ MapS w m n (lookF d) ∧ ScC w v' ls
theorem ScC.below {w w' : World} (hb : Below w.heap.size w w') : ∀ {v : Value} {ls : List Decls}, ScC w v ls → ScC w' v ls
 | v, [], h => h
 | v, d :: ls, h => by
  obtain ⟨s, m, n, v', h1, h2, h3, h4⟩ := h
  exact ⟨s, m, n, v', h1, h2.below hb h2.lt, h3.below hb, ScC.below hb h4⟩
def allD (ls : List Decls) : Decls := ls.reverse.flatten
theorem allD_cons (d : Decls) (ls : List Decls) : allD (d :: ls) = allD ls ++ d := by simp [allD]
theorem ScC.one {w : World} {v : Value} {ls : List Decls} (h : ScC w v ls) : ∃ a, v = .pointer a := by
 cases ls with
 | nil => exact ⟨none, h⟩
 | cons d ls => obtain ⟨s, m, n, v', h1, _⟩ := h; exact ⟨_, h1⟩
theorem find_any (p : List UInt8) (hp : shS p) : ∀ (ls : List Decls) (v : Value) (w : World), ScC w v ls →
  Calls pG 192 #[v, S (bs p)] w fun e w' => e = T (.tuple #[S (bs ((lookF (allD ls) p).getD [])), .bool ((lookF (allD ls) p).isSome || p == [])]) ∧ w' = w := by
 intro ls v w h
 have H := hI h
 have hi0 : p.isEmpty = (p == []) := by cases p <;> rfl
 have hi1 : (bs p).toList.isEmpty = (p == []) := isE_bs p
 obtain ⟨R, hR⟩ : ∃ R, lookF (allD ls) p = R := ⟨_, rfl⟩
 obtain ⟨B, hB⟩ : ∃ B, (p == []) = B := ⟨_, rfl⟩
 rw [hR, hB]
 rw [hB] at hi0 hi1
 have HR := hI hR
 obtain ⟨a, rfl⟩ := h.one
 clear h hR hB
 go_enter Tryz.func192, Tryz.ntmps192
 go_wp2_with fail
 go_loopg [0] ls.length (fun gk i wr => ∃ ms, ms.length = gk ∧ ScC w i ms ∧ lookF (allD ms) p = R ∧ wr = w)
 case atStart => exact ⟨ls, rfl, H.out, HR.out, rfl⟩
 case round =>
  obtain ⟨ms, hlen, hsc, hl, rfl⟩ := hrel
  cases ms with
  | nil =>
   obtain rfl : _ = Value.pointer none := hsc
   have hR0 : R = none := hl.symm
   subst hR0
   cases B
   all_goals
    go_wp2_with fail
    go_ret2
    exact ⟨rfl, rfl⟩
  | cons d ms =>
   obtain ⟨s, m, n, v', rfl, hb, hm, hsc⟩ := hsc
   obtain ⟨k0, k1, -⟩ := hb.cc
   have hlk := hm.look hp
   rw [allD_cons, look_app] at hl
   obtain ⟨a', rfl⟩ := hsc.one
   cases hf : lookF d p with
   | some x =>
    rw [hf] at hl hlk
    have hR0 : R = some x := hl.symm
    subst hR0
    clear hb hm
    go_wp2_with fail
    go_ret2
    exact ⟨by simp, rfl⟩
   | none =>
    rw [hf] at hl hlk
    have HSC := hI hsc
    have HL := hI hl
    clear hb hm hsc hl
    go_wp2_with fail
    go_roundg ms.length
    case measure => simp at hlen; omega
    case rel => exact ⟨ms, rfl, HSC.out, HL.out, rfl⟩
theorem below_any (E : Nat → Addr) (ls : List Decls) (v : Value) (pa : Option Addr) (ca : Nat) (ats : List (List (List UInt8))) (w : World) (hsc : ScC w v ls) (hk : ∀ a ∈ ats, a.length = 1 + 1) (hs : ∀ a ∈ ats, ∀ s ∈ a, shS s) (hA : Rd w pa (acells ats)) (hca : ca ≤ maxLen) (hnc : ats.length ≤ ca) (hna : ats.length ≤ 100000) (hg : LibG w) (hE : Errs w E) :
  Calls pG 141 #[v, .slice pa ats.length ca] w fun e w' => Below w.heap.size w w' ∧ ((∃ d v', declsF ats = some d ∧ e = T v' ∧ ScC w' v' (d :: ls)) ∨ (declsF ats = none ∧ e = .panicked (panE E 3))) := by
 have HA := hI hA
 have HK := hI hk
 have HG := hI hg
 have HE := hI hE
 have HS := hI hs
 have HSC := hI hsc
 have hca' := hca
 unfold maxLen at hca'
 obtain ⟨va, rfl⟩ := hsc.one
 have hmm := @run_makeMap pG
 obtain ⟨R, hR⟩ : ∃ R, declsF ats = R := ⟨_, rfl⟩
 rw [hR]
 have HR := hI hR
 clear hA hk hg hs hE hsc hR
 go_enter Tryz.func141, Tryz.ntmps141
 go_wp2_with fail
 go_loopw [16] (fun i wr => ∃ (j : Nat) (dj : Decls) (n : Nat), j ≤ ats.length ∧ i = .int .i64 j ∧ declsF (ats.take j) = some dj ∧ n ≤ j ∧ Blk wr (w.heap.size + 1) 249 #[.pointer va, .map (some w.heap.size)] ∧ MapS wr w.heap.size n (lookF dj) ∧ Below w.heap.size w wr) (fun i _ => ats.length - (intOf i).toNat)
 case atStart =>
  refine ⟨0, [], 0, by omega, rfl, rfl, nR _, ?_, (maps_made w).below (below_alloc1 _ _), below_alloc (below_alloc1 w _) _⟩
  have := Blk.new (w.alloc (.map #[] 0)) 249 #[.pointer va, .map (some w.heap.size)]
  rwa [World.size_alloc] at this
 case round =>
  obtain ⟨j, dj, n, hj, rfl, hdj, hnj, hblk, hmap, hbw⟩ := hrel
  by_cases hlt : j < ats.length
  ·obtain ⟨e1, o1, x0, x1, rfl, hgx, hx0, hx1⟩ := at_1 HA.out HK.out hlt
   have hx0 := Below.keeps hbw _ _ hx0
   have hx1 := Below.keeps hbw _ _ hx1
   have hlt' : (j : Int) < (ats.length : Int) := by omega
   have hx0s : shS x0 := HS.out _ (List.getElem_mem hlt) x0 (by rw [hgx]; simp)
   have hx1s : shS x1 := HS.out _ (List.getElem_mem hlt) x1 (by rw [hgx]; simp)
   have hst := decls_step hlt hdj
   rw [hgx] at hst
   have hbA := hbw.alloc hbw.size (OO #[S (bs x0), S (bs x1)] 186)
   have HD := hI (decl_any E x0 x1 hx0s _ (HG.out.below hbA) (HE.out.below hbA))
   have HNA := hI (Blk.new wr 186 #[S (bs x0), S (bs x1)])
   have HBL := hI (hblk.alloc (OO #[S (bs x0), S (bs x1)] 186))
   have HMP := hI (hmap.below (below_alloc1 wr (OO #[S (bs x0), S (bs x1)] 186)))
   have HBA := hI hbA
   have HST := hI hst
   obtain ⟨c0, c1, -⟩ := HNA.out.cc
   have hszw := hbw.size
   have hlw := hblk.lt
   clear hgx hdj hst hblk hmap hbw hbA
   have HQ := hI (fun q => decl_sh (q := q) (v := x1) hx0s)
   generalize declF [x0, x1] = O at *
   cases O with
   | none =>
    have hR0 : R = none := by
     rw [← HR.out]
     exact decls_bad HST.out
    have HR0 := hI hR0
    clear hR0
    go_wp2_with (go_at_call 189; refine (HD.out.mono fun _ _ h => h.no).mono ?_; rintro e w2 ⟨rfl, hb2⟩)
    exact ⟨rfl, HBA.out.trans (hb2.mono HBA.out.size), .inr ⟨HR0.out, rfl⟩⟩
   | some d =>
    cases d with
    | none =>
     have HD2 := hI (HD.out.mono (R' := fun e w' => e = T (.tuple #[S ⟨#[]⟩, .bool false]) ∧ Below (wr.alloc (OO #[S (bs x0), S (bs x1)] 186)).heap.size (wr.alloc (OO #[S (bs x0), S (bs x1)] 186)) w') fun _ _ h => h.ok)
     go_wp2_with (go_at_call 189; refine HD2.out.mono ?_; rintro e w2 ⟨rfl, hb2⟩)
     go_roundw
     case rel => exact ⟨j + 1, dj, n, by omega, by go_num, by rw [HST.out]; simp [addD], by omega, HBL.out.below hb2 HBL.out.lt, HMP.out.below hb2, HBA.out.trans (hb2.mono HBA.out.size)⟩
     case measure => simp [intOf]; omega
    | some q =>
     have hqs : shS q := HQ.out q rfl
     have HD2 := hI (HD.out.mono (R' := fun e w' => e = T (.tuple #[S (bs q), .bool true]) ∧ Below (wr.alloc (OO #[S (bs x0), S (bs x1)] 186)).heap.size (wr.alloc (OO #[S (bs x0), S (bs x1)] 186)) w') fun _ _ h => h.ok)
     go_wp2_with (go_at_call 189; refine HD2.out.mono ?_; rintro e w2 ⟨rfl, hb2⟩)
     have hb20 := HBA.out.trans (hb2.mono HBA.out.size)
     have hL2 := HBL.out.below hb2 HBL.out.lt
     have hM2 := HMP.out.below hb2
     have d1 := ((HNA.out.below hb2 HNA.out.lt).cell 1).trans rfl
     have k1 := (hL2.cell 1).trans rfl
     have HL2 := hI hL2
     have HM2 := hI hM2
     have HB20 := hI hb20
     clear hL2 hM2 hb20 hb2 c0 c1 hx0 hx1
     refine wp_phi_tail (List.take 7 _) (List.drop 7 _) (lJ 7 _).symm (fun w' => (w'.cell? ⟨w.heap.size + 1, 0 + 1, none⟩ = some (.map (some w.heap.size))) ∧ (w'.cell? ⟨wr.heap.size, 0 + 1, none⟩ = some (S (bs x1))) ∧ Below w2.heap.size w2 w') [] [] (by kernel_rfl) (by kernel_rfl) ?_ ?_ ⟨k1, d1, ((Below.refl _ w2)).drew⟩ ?_
     ·rintro w1' w2' ⟨g1, g2, hIB⟩ hb
      exact ⟨Below.keeps hb _ _ g1, Below.keeps hb _ _ g2, hIB.trans (hb.mono hIB.size)⟩
     ·intro p hp; cases hp
     simp only [List.take_succ_cons, List.take_zero, List.drop_succ_cons, List.drop_zero]
     repeat ((first | refine phi_skipK rfl (fun K hK => ?_) | (refine phi_pureK rfl rfl (fun K hK => ?_); apply Exists.intro; constructor; (focus (rintro w' ⟨g1, g2, hIB⟩; skip; first | (go_simp; done) | (go_simp; (try go_bits); (try go_simp); rfl) | go_simp)))); simp only [Act.put, List.setIfInBounds_toArray, List.set_cons_succ, List.set_cons_zero, List.cons_append, List.nil_append]; apply hK; clear hK K)
     refine phi_done ?_
     rintro w3 ⟨g1, g2, hb3⟩ _
     obtain ⟨w4, hrun, hM4, hk4⟩ := (HM2.out.below hb3).store (by omega) hqs hx1s
     have HM4 := hI hM4
     have HK4 := hI hk4
     clear hM4 hk4 k1 d1 g1 g2
     have hl2 := HL2.out.lt
     have hb3s := hb3.size
     go_wp2_with fail
     go_roundw
     case rel =>
      refine ⟨j + 1, dj ++ [(q, x1)], n + 1, by omega, by go_num, by rw [HST.out]; simp [addD], by omega, ?_, ?_, ?_⟩
      ·exact (HK4.out.block _ (by omega) (by simp)).trans (HL2.out.below hb3 HL2.out.lt)
      ·have : setS (lookF dj) q x1 = lookF (dj ++ [(q, x1)]) := by funext p'; rw [look_snoc]; rfl
       rw [← this]
       exact HM4.out
      ·exact (HB20.out.trans (hb3.mono HB20.out.size)).trans (but_below HK4.out (nR _) (by omega))
     case measure => simp [intOf]; omega
  ·obtain rfl : j = ats.length := by omega
   rw [List.take_of_length_le (nR _)] at hdj
   have hR0 : R = some dj := by rw [← HR.out]; exact hdj
   have HR0 := hI hR0
   clear hR0
   have HF : RowKit.Hid (ScC wr (.pointer (some ⟨w.heap.size + 1, 0, none⟩)) (dj :: ls)) := hI ⟨_, _, n, _, rfl, hblk, hmap, HSC.out.below hbw⟩
   have HB := hI hbw
   clear hdj hblk hmap hbw
   go_wp2_with fail
   go_ret
   exact ⟨HB.out, .inl ⟨dj, _, HR0.out, rfl, HF.out⟩⟩
end
section
set_option maxHeartbeats 4000000
set_option maxRecDepth 20000
open Go.RowKit
attribute [local go_sem] bs_toList
def nmV (n : List (List UInt8)) : Value := .agg (strs n).toArray
theorem nameSp_eq (ds : Decls) (s : List UInt8) (attr : Bool) : nameSp ds s attr = if ownF (splitF s).1 = true then none else if ((splitF s).1 == []) = true ∧ attr = true then some [[], (splitF s).2] else if ((lookF ds (splitF s).1).isSome || (splitF s).1 == []) = true then some [(lookF ds (splitF s).1).getD [], (splitF s).2] else none := by
 unfold nameSp
 by_cases h1 : ownF (splitF s).1 = true
 ·rw [if_pos h1, if_pos h1]
 rw [if_neg h1, if_neg h1]
 by_cases h2 : (splitF s).1 = [] ∧ attr = true
 ·rw [if_pos h2, if_pos ⟨by rw [h2.1]; rfl, h2.2⟩]
 have h2' : ¬ (((splitF s).1 == []) = true ∧ attr = true) := fun h => h2 ⟨beq_iff_eq.1 h.1, h.2⟩
 rw [if_neg h2, if_neg h2']
 clear h1 h2 h2'
 generalize (splitF s).1 = p at *
 cases h3 : lookF ds p with
 | some sp => exact (if_pos rfl).symm
 | none =>
  by_cases h4 : p = []
  ·subst h4
   rfl
  ·show (if p = [] then _ else none) = _
   rw [if_neg h4]
   exact (if_neg (fun h => h4 (beq_iff_eq.1 h))).symm
theorem sname_any (E : Nat → Addr) (ls : List Decls) (v : Value) (s : List UInt8) (hs : shS s) (attr : Bool) (w : World) (hsc : ScC w v ls) (hg : LibG w) (hE : Errs w E) :
  Calls pG 142 #[v, S (bs s), .bool attr] w (FoR E (nameSp (allD ls) s attr) nmV w) := by
 have HO : RowKit.Hid (nameSp (allD ls) s attr = _) := hI (nameSp_eq (allD ls) s attr)
 have HB := hI (below_alloc1 w (OO #[S ⟨#[]⟩, S ⟨#[]⟩] 41))
 have HN := hI (Blk.new w 41 #[S ⟨#[]⟩, S ⟨#[]⟩])
 have HS := hI (split_any s hs _ (hg.below HB.out))
 have hps := (split_sh hs).1
 have HE := hI hE
 have HSC := hI hsc
 obtain ⟨va, rfl⟩ := hsc.one
 clear hg hE hsc
 generalize nameSp (allD ls) s attr = O at *
 have HOW := hI (fun w => sown_any (splitF s).1 w)
 generalize hp : (splitF s).1 = p at *
 generalize hq : (splitF s).2 = q at *
 clear hp hq
 have HFY := hI (fun w => sfail_y w)
 have HFN := hI (fun w2 (hb2 : Below (w.alloc (OO #[S ⟨#[]⟩, S ⟨#[]⟩] 41)).heap.size (w.alloc (OO #[S ⟨#[]⟩, S ⟨#[]⟩] 41)) w2) => sfail_n w2 E (HE.out.below (HB.out.trans (hb2.mono HB.out.size))))
 have HFI := hI (fun w2 (hb2 : Below (w.alloc (OO #[S ⟨#[]⟩, S ⟨#[]⟩] 41)).heap.size (w.alloc (OO #[S ⟨#[]⟩, S ⟨#[]⟩] 41)) w2) => find_any p hps ls (.pointer va) w2 (HSC.out.below (HB.out.trans (hb2.mono HB.out.size))))
 cases h1 : ownF p <;> rw [h1] at HO HOW
 rotate_left 1
 ·have HO0 : RowKit.Hid (O = none) := hI (HO.out.trans (if_pos rfl))
  clear HO
  go_enter Tryz.func142, Tryz.ntmps142
  go_wp2_with (first | (go_at_call 190; refine HS.out.mono ?_; rintro e w2 ⟨rfl, hb2⟩) | (go_at_call 191; refine (HOW.out _).mono ?_; rintro e w3 ⟨rfl, rfl⟩) | (go_at_call 84; refine (HFN.out _ hb2).mono ?_; rintro e w3 ⟨rfl, rfl⟩))
  exact ⟨rfl, HB.out.trans (hb2.mono HB.out.size), .inr ⟨HO0.out, rfl⟩⟩
 have HO := hI (HO.out.trans (if_neg (by decide)))
 have hp0 : p.isEmpty = (p == []) := by cases p <;> rfl
 have hp1 : (bs p).toList.isEmpty = (p == []) := isE_bs p
 generalize lookF (allD ls) p = L at *
 by_cases h2 : (p == []) = true ∧ attr = true
 ·have HO0 : RowKit.Hid (O = some [[], q]) := hI (HO.out.trans (if_pos h2))
  obtain ⟨h2, rfl⟩ := h2
  rw [h2] at hp0 hp1
  clear HO HFI
  go_enter Tryz.func142, Tryz.ntmps142
  go_wp2_with (first | (go_at_call 190; refine HS.out.mono ?_; rintro e w2 ⟨rfl, hb2⟩) | (go_at_call 191; refine (HOW.out _).mono ?_; rintro e w3 ⟨rfl, rfl⟩) | (go_at_call 84; refine (HFY.out _).mono ?_; rintro e w3 ⟨rfl, rfl⟩) | (refine wpList_store (.tmp 6) (.tmp 26) 41 rfl rfl w.heap.size 0 _ _ #[S ⟨#[]⟩, S (bs q)] rfl rfl (HN.out.below hb2 HN.out.lt) ?s0 ?s1 ?s2 ?_))
  case s0 => kernel_rfl
  case s1 => simp [Value.oneCell']
  case s2 => simp
  intro w8 hb8 ho8
  rw [putCells_all #[S ⟨#[]⟩, S ⟨#[]⟩] #[S ⟨#[]⟩, S (bs q)] rfl] at hb8
  obtain ⟨z0, z1, -⟩ := hb8.cc
  have HBW := hI ((HB.out.trans (hb2.mono HB.out.size)).trans (ho8.below (nR _)))
  clear hb8 ho8
  go_wp2_with fail
  refine bodyPost_ret (v := .agg #[S ⟨#[]⟩, S (bs q)]) (by simp [results, Tryz.results142, go_sem, z0, z1]) rfl ?_
  exact ⟨HBW.out, .inl ⟨_, HO0.out, rfl⟩⟩
 have HO := hI (HO.out.trans (if_neg h2))
 have hpk : (p == []) = false ∨ attr = false := by
  cases hpe : (p == [])
  ·exact .inl rfl
  ·cases attr
   ·exact .inr rfl
   ·exact absurd ⟨hpe, rfl⟩ h2
 clear h2
 obtain ⟨b1, hb1⟩ : ∃ b1, (p == []) = b1 := ⟨_, rfl⟩
 obtain ⟨th, hth⟩ : ∃ th, (L.isSome || p == []) = th := ⟨_, rfl⟩
 have HTH := hI hth
 rw [hth] at HO HFI
 rw [hb1] at hp0 hp1 hpk
 clear hth hb1
 have HFI := HFI
 generalize L.getD [] = sp at *
 cases th with
 | false =>
  have HO0 : RowKit.Hid (O = none) := hI (HO.out.trans (if_neg (by decide)))
  clear HO
  rcases hpk with rfl | rfl
  ·go_enter Tryz.func142, Tryz.ntmps142
   go_wp2_with (first | (go_at_call 190; refine HS.out.mono ?_; rintro e w2 ⟨rfl, hb2⟩) | (go_at_call 191; refine (HOW.out _).mono ?_; clear HOW; rintro e w3 ⟨rfl, rfl⟩) | (go_at_call 84; refine (HFY.out _).mono ?_; clear HFY; rintro e w3 ⟨rfl, rfl⟩) | (go_at_call 192; refine (HFI.out _ hb2).mono ?_; rintro e w3 ⟨rfl, rfl⟩) | (go_at_call 84; refine (HFN.out _ hb2).mono ?_; rintro e w3 ⟨rfl, rfl⟩))
   exact ⟨rfl, HB.out.trans (hb2.mono HB.out.size), .inr ⟨HO0.out, rfl⟩⟩
  ·cases b1
   all_goals
    go_enter Tryz.func142, Tryz.ntmps142
    go_wp2_with (first | (go_at_call 190; refine HS.out.mono ?_; rintro e w2 ⟨rfl, hb2⟩) | (go_at_call 191; refine (HOW.out _).mono ?_; clear HOW; rintro e w3 ⟨rfl, rfl⟩) | (go_at_call 84; refine (HFY.out _).mono ?_; clear HFY; rintro e w3 ⟨rfl, rfl⟩) | (go_at_call 192; refine (HFI.out _ hb2).mono ?_; rintro e w3 ⟨rfl, rfl⟩) | (go_at_call 84; refine (HFN.out _ hb2).mono ?_; rintro e w3 ⟨rfl, rfl⟩))
    exact ⟨rfl, HB.out.trans (hb2.mono HB.out.size), .inr ⟨HO0.out, rfl⟩⟩
 | true =>
  have HO0 : RowKit.Hid (O = some [sp, q]) := hI (HO.out.trans (if_pos rfl))
  clear HO
  have hcs : (b1 = false ∧ attr = false) ∨ (b1 = false ∧ attr = true) ∨ (b1 = true ∧ attr = false) := by
   cases b1 <;> cases attr <;> simp_all
  clear hpk
  rcases hcs with ⟨rfl, rfl⟩ | ⟨rfl, rfl⟩ | ⟨rfl, rfl⟩
  all_goals
   go_enter Tryz.func142, Tryz.ntmps142
   go_wp2_with (first | (go_at_call 190; refine HS.out.mono ?_; rintro e w2 ⟨rfl, hb2⟩) | (go_at_call 191; refine (HOW.out _).mono ?_; rintro e w3 ⟨rfl, rfl⟩) | (go_at_call 84; refine (HFY.out _).mono ?_; rintro e w3 ⟨rfl, rfl⟩) | (go_at_call 192; refine (HFI.out _ hb2).mono ?_; rintro e w3 ⟨rfl, rfl⟩) | (refine wpList_store (.tmp 6) (.tmp 37) 41 rfl rfl w.heap.size 0 _ _ #[S (bs sp), S (bs q)] rfl rfl (HN.out.below hb2 HN.out.lt) ?s0 ?s1 ?s2 ?_))
   case s0 => kernel_rfl
   case s1 => simp [Value.oneCell']
   case s2 => simp
   intro w8 hb8 ho8
   rw [putCells_all #[S ⟨#[]⟩, S ⟨#[]⟩] #[S (bs sp), S (bs q)] rfl] at hb8
   obtain ⟨z0, z1, -⟩ := hb8.cc
   have HBW := hI ((HB.out.trans (hb2.mono HB.out.size)).trans (ho8.below (nR _)))
   clear hb8 ho8
   go_wp2_with fail
   refine bodyPost_ret (v := .agg #[S (bs sp), S (bs q)]) (by simp [results, Tryz.results142, go_sem, z0, z1]) rfl ?_
   exact ⟨HBW.out, .inl ⟨_, HO0.out, rfl⟩⟩
end
end Go.Proofs.YthboiahdheehkaaGreatDoor
