/- PcP -/
import Derived.Test.YthboiahdheehkaaGreatDoorPA
import Derived.Test.YthboiahdheehkaaGreatDoorPC
import Derived.Test.YthboiahdheehkaaGreatDoorPN
import Derived.Test.YthboiahdheehkaaGreatDoorPE
import Derived.Test.YthboiahdheehkaaGreatDoorPJ
import Derived.Test.YthboiahdheehkaaGreatDoorSU
open List renaming length_append → lF, not_mem_nil → lG, length_cons → lH, mem_cons → lI, length_nil → lP
open Option renaming bind_eq_some_iff → oA, map_eq_some_iff → oB
open Nat renaming le_trans → nT
namespace Go.Proofs.YthboiahdheehkaaGreatDoor
section
open Go.RowKit
end
section
open Go.RowKit
mutual
def Tr.cap (A L : Nat) : Tr → Prop
 | .node nm ats ks t => (∀ s ∈ nm, s.length ≤ L) ∧ ats.length ≤ A ∧ (∀ a ∈ ats, ∀ s ∈ a, s.length ≤ L) ∧ t.length ≤ L ∧ Tr.capL A L ks
def Tr.capL (A L : Nat) : List Tr → Prop
 | [] => True
 | k :: ks => k.cap A L ∧ Tr.capL A L ks
end
mutual
theorem cap_ssz {A L : Nat} : ∀ x : Tr, x.cap A L → x.ssz L
 | .node nm ats ks t, h => by
  unfold Tr.cap at h
  unfold Tr.ssz
  exact ⟨h.1, h.2.2.1, h.2.2.2.1, capL_ssz ks h.2.2.2.2⟩
theorem capL_ssz {A L : Nat} : ∀ ks : List Tr, Tr.capL A L ks → Tr.sszL L ks
 | [], _ => by unfold Tr.sszL; trivial
 | k :: ks, h => by
  unfold Tr.capL at h
  unfold Tr.sszL
  exact ⟨cap_ssz k h.1, capL_ssz ks h.2⟩
end
mutual
theorem cap_nms {A L : Nat} : ∀ x : Tr, x.cap A L → x.nms.length ≤ x.sz * (A + 1)
 | .node nm ats ks t, h => by
  unfold Tr.cap at h
  rw [nms_head, lH, lF, List.length_map, Tr.sz, Nat.add_mul, Nat.one_mul]
  have := capL_nms ks h.2.2.2.2
  have := h.2.1
  omega
theorem capL_nms {A L : Nat} : ∀ ks : List Tr, Tr.capL A L ks → (Tr.nmsL ks).length ≤ Tr.szL ks * (A + 1)
 | [], _ => by rw [Tr.nmsL]; simp
 | k :: ks, h => by
  unfold Tr.capL at h
  rw [Tr.nmsL, Tr.szL, lF, Nat.add_mul]
  have := cap_nms k h.1
  have := capL_nms ks h.2
  omega
end
theorem getD_cap {L : Nat} {l : List (List UInt8)} (h : ∀ s ∈ l, s.length ≤ L) (i : Nat) : (l.getD i []).length ≤ L := by
 rw [List.getD_eq_getElem?_getD]
 cases e : l[i]? with
 | none => simp
 | some s => exact h s (List.mem_of_getElem? e)
theorem atT_cap {L : Nat} : ∀ (ats : List (List (List UInt8))), (∀ a ∈ ats, ∀ s ∈ a, s.length ≤ L) → (ats.flatMap atT).length ≤ ats.length * (7 * L + 8)
 | [], _ => by simp
 | a :: ats, h => by
  rw [List.flatMap_cons, lF, lH, Nat.add_mul, Nat.one_mul]
  have h1 := atT_cap ats fun b hb => h b (by simp [hb])
  have h2 := getD_cap (h a (by simp)) 0
  have h3 := getD_cap (h a (by simp)) 1
  have h4 := escF_len true _ (a.getD 1 []) (Nat.le_refl _)
  have h5 : (atT a).length = 4 + (a.getD 0 []).length + (escF true (a.getD 1 [])).length := by
   unfold atT
   simp only [lF, lH, lP]
   omega
  omega
mutual
theorem cap_wrt {A L : Nat} : ∀ x : Tr, x.cap A L → x.wrt.length ≤ x.sz * ((A + 2) * (7 * L + 8))
 | .node nm ats ks t, h => by
  unfold Tr.cap at h
  have h1 := getD_cap h.1 0
  have h2 := atT_cap ats h.2.2.1
  have h3 := escF_len false _ t (Nat.le_refl _)
  have h4 := capL_wrt ks h.2.2.2.2
  have h5 : ats.length * (7 * L + 8) ≤ A * (7 * L + 8) := Nat.mul_le_mul_right _ h.2.1
  have h6 := h.2.2.2.1
  rw [Tr.sz, Nat.add_mul, Nat.one_mul]
  rw [Nat.add_mul A 2] at h4 ⊢
  generalize Tr.szL ks * (A * (7 * L + 8) + 2 * (7 * L + 8)) = Z at *
  generalize A * (7 * L + 8) = Y at *
  generalize ats.length * (7 * L + 8) = X at *
  unfold Tr.wrt
  split
  ·omega
  ·split <;> simp only [lF, lH, lP] <;> omega
theorem capL_wrt {A L : Nat} : ∀ ks : List Tr, Tr.capL A L ks → (Tr.wrtL ks).length ≤ Tr.szL ks * ((A + 2) * (7 * L + 8))
 | [], _ => by unfold Tr.wrtL; simp
 | k :: ks, h => by
  unfold Tr.capL at h
  rw [Tr.wrtL, Tr.szL, lF, Nat.add_mul]
  have := cap_wrt k h.1
  have := capL_wrt ks h.2
  omega
end
mutual
theorem few_sm : ∀ x : Tr, x.few → x.sm
 | .node nm ats ks t, h => by
  unfold Tr.few at h
  unfold Tr.sm
  exact ⟨by omega, by omega, fewL_sm ks h.2.2⟩
theorem fewL_sm : ∀ ks : List Tr, Tr.fewL ks → Tr.smL ks
 | [], _ => by unfold Tr.smL; trivial
 | k :: ks, h => by
  unfold Tr.fewL at h
  unfold Tr.smL
  exact ⟨few_sm k h.1, fewL_sm ks h.2⟩
end
theorem cap_all {A L N : Nat} {x : Tr} (h : x.cap A L) (hs : x.sz ≤ N) (hN : N ≤ 100) (hL : L ≤ 500) (hA : A ≤ 900) (hm : N * ((A + 2) * (7 * L + 8)) ≤ 100000000) :
  x.ssz L ∧ x.shr ∧ x.few ∧ x.sm ∧ x.sz ≤ 1000 ∧ x.nms.length ≤ N * (A + 1) ∧ x.wrt.length ≤ 100000000 := by
 have h1 := nT (cap_nms x h) (Nat.mul_le_mul_right (A + 1) hs)
 have h2 := nT (cap_wrt x h) (Nat.mul_le_mul_right _ hs)
 have h3 : N * (A + 1) ≤ 100 * 901 := Nat.mul_le_mul hN (by omega)
 have hf := nms_few (show (90100 : Nat) ≤ 100000 by omega) x (nT h1 h3)
 exact ⟨cap_ssz x h, ssz_shr (by omega) x (cap_ssz x h), hf, few_sm x hf, by omega, h1, by omega⟩
theorem dd_four {n : Nat} (h : n < 10000) : (Lib.decDigits n).length ≤ 4 := by
 rw [Lib.decDigits]
 split
 ·simp
 ·rw [lF, List.length_singleton, Lib.decDigits]
  split
  ·simp
  ·rw [lF, List.length_singleton, Lib.decDigits]
   split
   ·simp
   ·rw [lF, List.length_singleton, Lib.decDigits]
    split
    ·simp
    ·omega
theorem pref_five {i : Nat} (h : i < 9000) : (prefF i).length ≤ 5 := by
 unfold prefF
 have := dd_four (n := i + 1) (by omega)
 rw [lH]
 omega
theorem prefixed_cap {l : List (List UInt8)} {n : List (List UInt8)} {L : Nat} (hl : l.length < 9000) (h : ∀ s ∈ n, s.length ≤ L) : (prefixedF l n).length ≤ L + 6 := by
 unfold prefixedF
 have h1 := getD_cap h 1
 split
 ·have := pref_five (i := l.idxOf (n.getD 0 [])) (by omega)
  rw [lF, lH]
  omega
 ·omega
theorem wriAts_cap {l : List (List UInt8)} {L : Nat} (hl : l.length < 9000) : ∀ (ats bts : List (List (List UInt8))), wriAts l ats = some bts → (∀ a ∈ ats, ∀ s ∈ a, s.length ≤ L) → bts.length = ats.length ∧ (∀ a ∈ bts, a.length = 2 ∧ ∀ s ∈ a, s.length ≤ L + 6)
 | [], bts, h, _ => by
  unfold wriAts at h
  cases h
  exact ⟨rfl, by simp⟩
 | a :: ats, bts, h, hL => by
  unfold wriAts at h
  split at h
  ·cases h
  ·obtain ⟨xs, hx, rfl⟩ := oB.1 h
   have ih := wriAts_cap hl ats xs hx fun b hb => hL b (by simp [hb])
   have h1 := prefixed_cap hl (hL a (by simp))
   have h2 := getD_cap (hL a (by simp)) 2
   refine ⟨by simp [ih.1], ?_⟩
   intro b hb
   rcases lI.1 hb with rfl | hb
   ·refine ⟨rfl, ?_⟩
    intro s hs
    simp only [lI, lG, or_false] at hs
    rcases hs with rfl | rfl <;> omega
   ·exact ih.2 b hb
mutual
theorem wri_cap {l : List (List UInt8)} {A L : Nat} (hl : l.length < 9000) : ∀ (x y : Tr), x.wri l = some y → x.cap A L → y.cap A (L + 6) ∧ y.sz = x.sz ∧ y.ok 1
 | .node nm ats ks t, y, h, hc => by
  unfold Tr.cap at hc
  unfold Tr.wri at h
  split at h
  ·split at h
   ·rename_i hz
    cases h
    obtain ⟨h1, h2⟩ := hz
    have : ks = [] := List.length_eq_zero_iff.1 h2
    subst this
    unfold Tr.cap Tr.capL Tr.ok Tr.okL
    exact ⟨⟨by simp, by simp, by simp, by omega, trivial⟩, rfl, rfl, by simp, trivial⟩
   ·cases h
  ·split at h
   ·cases h
   ·obtain ⟨bts, hb, h⟩ := oA.1 h
    obtain ⟨xs, hx, rfl⟩ := oB.1 h
    have h1 := wriAts_cap hl ats bts hb hc.2.2.1
    have h2 := wriL_cap hl ks xs hx hc.2.2.2.2
    have h3 := prefixed_cap hl hc.1
    unfold Tr.cap Tr.ok Tr.sz
    have := hc.2.1
    have := hc.2.2.2.1
    exact ⟨⟨by simpa using h3, by omega, fun a ha => (h1.2 a ha).2, by omega, h2.1⟩, by rw [h2.2.1], rfl, fun a ha => (h1.2 a ha).1, h2.2.2⟩
theorem wriL_cap {l : List (List UInt8)} {A L : Nat} (hl : l.length < 9000) : ∀ (ks xs : List Tr), Tr.wriL l ks = some xs → Tr.capL A L ks → Tr.capL A (L + 6) xs ∧ Tr.szL xs = Tr.szL ks ∧ Tr.okL 1 xs
 | [], xs, h, _ => by
  unfold Tr.wriL at h
  cases h
  unfold Tr.capL Tr.okL
  exact ⟨trivial, rfl, trivial⟩
 | k :: ks, xs, h, hc => by
  unfold Tr.capL at hc
  unfold Tr.wriL at h
  obtain ⟨x, hx, h⟩ := oA.1 h
  obtain ⟨ys, hy, rfl⟩ := oB.1 h
  have h1 := wri_cap hl k x hx hc.1
  have h2 := wriL_cap hl ks ys hy hc.2
  unfold Tr.capL Tr.okL Tr.szL
  exact ⟨⟨h1.1, h2.1⟩, by rw [h1.2.1, h2.2.1], h1.2.2, h2.2.2⟩
end
theorem decl_cap {l : List (List UInt8)} {L : Nat} (hL : 11 ≤ L) (hl : l.length < 9000) (h : ∀ s ∈ l, s.length ≤ L) : ∀ a ∈ declOf l, a.length = 2 ∧ ∀ s ∈ a, s.length ≤ L := by
 intro a ha
 unfold declOf at ha
 obtain ⟨i, hi, rfl⟩ := List.mem_map.1 ha
 rw [List.mem_range] at hi
 refine ⟨rfl, ?_⟩
 intro s hs
 simp only [lI, lG, or_false] at hs
 rcases hs with rfl | rfl
 ·have := pref_five (i := i) (by omega)
  have h5 : xmlnsL.length = 5 := rfl
  rw [lF, lH]
  omega
 ·exact getD_cap h i
mutual
theorem cap_le {A A' L : Nat} (h : A ≤ A') : ∀ x : Tr, x.cap A L → x.cap A' L
 | .node nm ats ks t, hx => by
  unfold Tr.cap at hx ⊢
  exact ⟨hx.1, nT hx.2.1 h, hx.2.2.1, hx.2.2.2.1, capL_le h ks hx.2.2.2.2⟩
theorem capL_le {A A' L : Nat} (h : A ≤ A') : ∀ ks : List Tr, Tr.capL A L ks → Tr.capL A' L ks
 | [], _ => by unfold Tr.capL; trivial
 | k :: ks, hx => by
  unfold Tr.capL at hx ⊢
  exact ⟨cap_le h k hx.1, capL_le h ks hx.2⟩
end
theorem with_cap {l : List (List UInt8)} {A B L : Nat} {y : Tr} (hL : 11 ≤ L) (hl : l.length < 9000) (hB : l.length ≤ B) (h : ∀ s ∈ l, s.length ≤ L) (hy : y.cap A L) (hk : y.ok 1) : (withDecl l y).cap (A + B) L ∧ (withDecl l y).ok 1 ∧ (withDecl l y).sz = y.sz := by
 obtain ⟨nm, ats, ks, t⟩ := y
 unfold withDecl
 unfold Tr.cap at hy ⊢
 unfold Tr.ok at hk ⊢
 have hd := decl_cap hL hl h
 refine ⟨⟨hy.1, ?_, ?_, hy.2.2.2.1, ?_⟩, ⟨hk.1, ?_, hk.2.2⟩, rfl⟩
 ·rw [lF, decl_len]; have := hy.2.1; omega
 ·intro a ha
  rcases List.mem_append.1 ha with ha | ha
  ·exact (hd a ha).2
  ·exact hy.2.2.1 a ha
 ·exact capL_le (Nat.le_add_right A B) ks hy.2.2.2.2
 ·intro a ha
  rcases List.mem_append.1 ha with ha | ha
  ·exact (hd a ha).1
  ·exact hk.2.1 a ha
end
section
open Go.RowKit
mutual
theorem ssz_up {L M : Nat} (h : L ≤ M) : ∀ x : Tr, x.ssz L → x.ssz M
 | .node nm ats ks t, hx => by
  unfold Tr.ssz at hx ⊢
  exact ⟨fun s hs => nT (hx.1 s hs) h, fun a ha s hs => nT (hx.2.1 a ha s hs) h, nT hx.2.2.1 h, sszL_up h ks hx.2.2.2⟩
theorem sszL_up {L M : Nat} (h : L ≤ M) : ∀ ks : List Tr, Tr.sszL L ks → Tr.sszL M ks
 | [], _ => by unfold Tr.sszL; trivial
 | k :: ks, hx => by
  unfold Tr.sszL at hx ⊢
  exact ⟨ssz_up h k hx.1, sszL_up h ks hx.2⟩
end
theorem writeF_fits {x y : Tr} (hx : x.ok 2) (hc : x.cap 20 300) (hs : x.sz ≤ 30) (h : writeF x = some y) : y.ok 1 ∧ y.shr := by
 have hn := cap_nms x hc
 have hn2 : x.sz * (20 + 1) ≤ 30 * 21 := Nat.mul_le_mul_right _ hs
 have hl : (x.meet []).length ≤ 630 := by
  rw [meet_nms x [] hx]
  have := met_len x.nms []
  simp only [lP] at this
  omega
 have hm : ∀ s ∈ x.meet [], s.length ≤ 306 := by
  rw [meet_nms x [] hx]
  exact met_small x.nms [] (by simp) fun n hn s hs => nT (ssz_nms x (cap_ssz x hc) n hn s hs) (by omega)
 unfold writeF at h
 obtain ⟨z, hz, h⟩ := oA.1 h
 obtain ⟨b, _, h⟩ := oA.1 h
 split at h
 ·cases h
  obtain ⟨h1, h2, h3⟩ := wri_cap (by omega) x z hz hc
  obtain ⟨g1, g2, g3⟩ := with_cap (B := 630) (by omega) (by omega) hl hm h1 h3
  have := cap_all g1 (N := 30) (by omega) (by omega) (by omega) (by omega) (by omega)
  exact ⟨g2, this.2.1⟩
 ·cases h
theorem capL_app {A L : Nat} {xs ys : List Tr} (hx : Tr.capL A L xs) (hy : Tr.capL A L ys) : Tr.capL A L (xs ++ ys) := by
 induction xs with
 | nil => exact hy
 | cons x xs ih =>
  have h : x.cap A L ∧ Tr.capL A L xs := hx
  exact ⟨h.1, ih h.2⟩
theorem okL_app' {k : Nat} {xs ys : List Tr} (hx : Tr.okL k xs) (hy : Tr.okL k ys) : Tr.okL k (xs ++ ys) := by
 induction xs with
 | nil => exact hy
 | cons x xs ih =>
  have h : x.ok k ∧ Tr.okL k xs := hx
  exact ⟨h.1, ih h.2⟩
theorem szL_app : ∀ xs ys : List Tr, Tr.szL (xs ++ ys) = Tr.szL xs + Tr.szL ys
 | [], ys => by simp [Tr.szL]
 | x :: xs, ys => by
  have h1 : Tr.szL (x :: (xs ++ ys)) = x.sz + Tr.szL (xs ++ ys) := by rw [Tr.szL]
  have h2 : Tr.szL (x :: xs) = x.sz + Tr.szL xs := by rw [Tr.szL]
  rw [List.cons_append, h1, h2, szL_app xs ys]
  omega
theorem simp_cap {lo tx : List UInt8} (hl : lo.length ≤ 300) (ht : tx.length ≤ 300) : (simpT addrL lo tx).cap 20 300 := by
 refine ⟨?_, by simp, by simp, by simp, ⟨by simp, by simp, by simp, ht, trivial⟩, trivial⟩
 intro s hs
 simp only [lI, lG, or_false] at hs
 rcases hs with rfl | rfl
 ·decide
 ·exact hl
theorem simp_ok (lo tx : List UInt8) : (simpT addrL lo tx).ok 2 := ⟨rfl, by simp, ⟨rfl, by simp, trivial⟩, trivial⟩
structure Env.small (e : Env) : Prop where
 act : e.act.length ≤ 300
 tto : e.to.length ≤ 300
 iid : e.id.length ≤ 300
 frm : e.frm.length ≤ 300
 rel : e.rel.length ≤ 300
 hds : Tr.capL 20 300 e.hds
 bdy : e.bdy.cap 20 300
 hok : Tr.okL 2 e.hds
 bok : e.bdy.ok 2
 sz : Tr.szL e.hds + e.bdy.sz ≤ 16
theorem Env.small.tree {e : Env} (h : e.small) : e.tree.ok 2 ∧ e.tree.cap 20 300 ∧ e.tree.sz ≤ 30 := by
 have ha : (simpT addrL cAction e.act).cap 20 300 := simp_cap (by decide) h.act
 have ht : (simpT addrL cTo e.to).cap 20 300 := simp_cap (by decide) h.tto
 have hi : (simpT addrL cMessageID e.id).cap 20 300 := simp_cap (by decide) h.iid
 have hf : Tr.capL 20 300 (if e.frm = [] then [] else [fromT e.frm]) := by
  split
  ·trivial
  ·exact ⟨⟨by decide, by simp, by simp, by simp, simp_cap (by decide) h.frm, trivial⟩, trivial⟩
 have hr : Tr.capL 20 300 (if e.rel = [] then [] else [simpT addrL cRelatesTo e.rel]) := by
  split
  ·trivial
  ·exact ⟨simp_cap (by decide) h.rel, trivial⟩
 have of' : Tr.okL 2 (if e.frm = [] then [] else [fromT e.frm]) := by
  split
  ·trivial
  ·exact ⟨⟨rfl, by simp, simp_ok _ _, trivial⟩, trivial⟩
 have or' : Tr.okL 2 (if e.rel = [] then [] else [simpT addrL cRelatesTo e.rel]) := by
  split
  ·trivial
  ·exact ⟨simp_ok _ _, trivial⟩
 have sf : Tr.szL (if e.frm = [] then [] else [fromT e.frm]) ≤ 3 := by
  split
  ·simp [Tr.szL]
  ·simp [Tr.szL, fromT, simpT, Tr.sz]
 have sr : Tr.szL (if e.rel = [] then [] else [simpT addrL cRelatesTo e.rel]) ≤ 2 := by
  split
  ·simp [Tr.szL]
  ·simp [Tr.szL, simpT, Tr.sz]
 refine ⟨⟨rfl, by simp, ⟨rfl, by simp, ?_⟩, ⟨rfl, by simp, h.bok, trivial⟩, trivial⟩, ⟨by decide, by simp, by simp, by simp, ⟨by decide, by simp, by simp, by simp, ?_⟩, ⟨by decide, by simp, by simp, by simp, h.bdy, trivial⟩, trivial⟩, ?_⟩
 ·exact ⟨simp_ok _ _, simp_ok _ _, simp_ok _ _, okL_app' of' (okL_app' or' h.hok)⟩
 ·exact ⟨ha, ht, hi, capL_app hf (capL_app hr h.hds)⟩
 ·have := h.sz
  unfold Env.tree Env.hdrs
  simp only [Tr.sz, Tr.szL, szL_app, simpT] at sf sr ⊢
  omega
theorem Env.small.fits {e : Env} (h : e.small) : ∀ y, e.formed = some y → y.ok 1 ∧ y.shr := by
 intro y hy
 unfold Env.formed at hy
 split at hy
 ·exact writeF_fits h.tree.1 h.tree.2.1 h.tree.2.2 hy
 ·cases hy
theorem Env.small.formed_any {E : Nat → Addr} {e : Env} (h : e.small) (cs : Array Value) (w : World) (hg : LibG w) (hE : Errs w E) (hc : EnvC w e cs) :
  Calls Tryz.prog 39 #[.agg cs] w (FmR E e.formed w) := by
 have h2 := cap_all h.tree.2.1 h.tree.2.2 (by omega) (by omega) (by omega) (by omega)
 refine soformed_any E e cs w hg hE hc h.tree.1 (ssz_up (by omega) _ h2.1) (by have := h2.2.2.2.2.2.1; omega)
end
end Go.Proofs.YthboiahdheehkaaGreatDoor
