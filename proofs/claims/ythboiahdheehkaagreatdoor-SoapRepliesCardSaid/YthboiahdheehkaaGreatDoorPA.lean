/- XmlP -/
import Derived.Lib.ValidU
import Derived.Lib.MapLaws
import Derived.WalkKit
import Derived.Test.YthboiahdheehkaaGreatDoorBA
import Derived.Lib.ItoaNum
import Derived.Lib.TrimAscii
import Derived.Lib.IndexMore
import Derived.Lib.TrimUEq
open List renaming cons_append → lD, nil_append → lE, length_append → lF, not_mem_nil → lG, length_cons → lH, mem_cons → lI, take_append_drop → lJ, length_nil → lP, take_succ_eq_append_getElem → lR, getD_cons_zero → lS
open Option renaming map_eq_some_iff → oB, bind_some → oC
open Bool renaming and_eq_true → bA
open Nat renaming le_refl → nR
namespace Go.Proofs.YthboiahdheehkaaGreatDoor
section
open Go.RowKit
def letB (c : UInt8) : Bool := (decide (97 ≤ c.toNat) && decide (c.toNat ≤ 122)) || (decide (65 ≤ c.toNat) && decide (c.toNat ≤ 90)) || c == 95
def sgnB (c : UInt8) : Bool := letB c || (decide (48 ≤ c.toNat) && decide (c.toNat ≤ 57)) || c == 45 || c == 46
def partB (l : List UInt8) : Bool := match l with | [] => false | c :: _ => decide (l.length ≤ 64) && letB c && l.all sgnB
def cutB (c : UInt8) : List UInt8 → Option (List UInt8 × List UInt8)
 | [] => none
 | x :: xs => if x = c then some ([], xs) else (cutB c xs).map fun p => (x :: p.1, p.2)
def nameB (s : List UInt8) : Bool := match cutB 58 s with | none => partB s | some (a, b) => partB a && partB b
def mayB (r : Nat) : Bool := r == 9 || r == 10 || r == 13 || (decide (32 ≤ r) && decide (r < 55296)) || (decide (57344 ≤ r) && decide (r ≤ 1114111) && r != 65534 && r != 65535)
def badB (l : List UInt8) : Bool := (Lib.decodeL l).1 == 65533 && (Lib.decodeL l).2 == 1
def sigGo : Nat → List UInt8 → Bool
 | 0, _ => true
 | n + 1, l => if l = [] then true else if badB l = true ∨ mayB (Lib.decodeL l).1 = false then false else sigGo n (l.drop (Lib.decodeL l).2)
def sigB (l : List UInt8) : Bool := sigGo l.length l
def runGo : Nat → List UInt8 → Bool
 | 0, _ => true
 | n + 1, l => if l = [] then true else if mayB (Lib.decodeL l).1 = false then false else runGo n (l.drop (Lib.decodeL l).2)
theorem sig_run : ∀ (n : Nat) (l : List UInt8), sigGo n l = (Lib.validGoD n l && runGo n l)
 | 0, _ => rfl
 | n + 1, l => by
  unfold sigGo Lib.validGoD runGo
  by_cases h0 : l = []
  ·rw [if_pos h0, if_pos h0, if_pos h0]; rfl
  ·rw [if_neg h0, if_neg h0, if_neg h0]
   by_cases hb : (Lib.decodeL l).1 = 65533 ∧ (Lib.decodeL l).2 = 1
   ·rw [if_pos (.inl (by unfold badB; simp [hb.1, hb.2])), if_pos hb, Bool.false_and]
   ·have hb2 : badB l = false := by
     unfold badB
     rw [Bool.eq_false_iff]
     intro h
     simp only [bA, beq_iff_eq] at h
     exact hb h
    rw [if_neg hb]
    cases hm : mayB (Lib.decodeL l).1
    ·rw [if_pos (.inr rfl), if_pos rfl, Bool.and_false]
    ·rw [if_neg (by rw [hb2]; simp), if_neg (by decide), sig_run n]
def escT (r : Nat) (value : Bool) : Option (List UInt8) :=
 if r = 60 then some [38, 108, 116, 59] else if r = 62 then some [38, 103, 116, 59] else if r = 38 then some [38, 97, 109, 112, 59] else if r = 13 then some [38, 35, 49, 51, 59]
 else if value = false then none else if r = 34 then some [38, 113, 117, 111, 116, 59] else if r = 9 then some [38, 35, 57, 59] else if r = 10 then some [38, 35, 49, 48, 59] else none
def escOne (value : Bool) (l : List UInt8) : List UInt8 :=
 if badB l = true ∨ mayB (Lib.decodeL l).1 = false then [] else (escT (Lib.decodeL l).1 value).getD (l.take (Lib.decodeL l).2)
def escGo : Nat → Bool → List UInt8 → List UInt8
 | 0, _, _ => []
 | n + 1, v, l => if l = [] then [] else escOne v l ++ escGo n v (l.drop (Lib.decodeL l).2)
def escF (v : Bool) (l : List UInt8) : List UInt8 := escGo l.length v l
theorem escGo_more : ∀ (n m : Nat) (v : Bool) (l : List UInt8), l.length ≤ n → l.length ≤ m → escGo n v l = escGo m v l
 | 0, m, v, l, h, _ => by
  obtain rfl : l = [] := List.length_eq_zero_iff.1 (by omega)
  cases m <;> simp [escGo]
 | n + 1, 0, v, l, _, h => by
  obtain rfl : l = [] := List.length_eq_zero_iff.1 (by omega)
  simp [escGo]
 | n + 1, m + 1, v, l, h1, h2 => by
  unfold escGo
  by_cases h0 : l = []
  ·rw [if_pos h0, if_pos h0]
  ·have hw := Lib.decodeL_width l
   have hl : 0 < l.length := List.length_pos_iff.2 h0
   rw [if_neg h0, if_neg h0, escGo_more n m v _ (by rw [List.length_drop]; omega) (by rw [List.length_drop]; omega)]
theorem escF_step (v : Bool) (l : List UInt8) (h : l ≠ []) : escF v l = escOne v l ++ escF v (l.drop (Lib.decodeL l).2) := by
 have hw := Lib.decodeL_width l
 have hl : 0 < l.length := List.length_pos_iff.2 h
 unfold escF
 obtain ⟨n, hn⟩ : ∃ n, l.length = n + 1 := ⟨l.length - 1, by omega⟩
 rw [hn]
 conv => lhs; unfold escGo
 rw [if_neg h, escGo_more n _ v _ (by rw [List.length_drop]; omega) (nR _)]
theorem sigGo_more : ∀ (n m : Nat) (l : List UInt8), l.length ≤ n → l.length ≤ m → sigGo n l = sigGo m l
 | 0, m, l, h, _ => by
  obtain rfl : l = [] := List.length_eq_zero_iff.1 (by omega)
  cases m <;> simp [sigGo]
 | n + 1, 0, l, _, h => by
  obtain rfl : l = [] := List.length_eq_zero_iff.1 (by omega)
  simp [sigGo]
 | n + 1, m + 1, l, h1, h2 => by
  unfold sigGo
  by_cases h0 : l = []
  ·rw [if_pos h0, if_pos h0]
  ·have hw := Lib.decodeL_width l
   have hl : 0 < l.length := List.length_pos_iff.2 h0
   rw [if_neg h0, if_neg h0, sigGo_more n m _ (by rw [List.length_drop]; omega) (by rw [List.length_drop]; omega)]
theorem sigB_step (l : List UInt8) (h : l ≠ []) : sigB l = if badB l = true ∨ mayB (Lib.decodeL l).1 = false then false else sigB (l.drop (Lib.decodeL l).2) := by
 have hw := Lib.decodeL_width l
 have hl : 0 < l.length := List.length_pos_iff.2 h
 unfold sigB
 obtain ⟨n, hn⟩ : ∃ n, l.length = n + 1 := ⟨l.length - 1, by omega⟩
 rw [hn]
 conv => lhs; unfold sigGo
 rw [if_neg h, sigGo_more n _ _ (by rw [List.length_drop]; omega) (nR _)]
end
section
open Go.RowKit
def Gives (w : World) (v : Value) (e : Ending) (w' : World) : Prop := e = .returned v ∧ Below w.heap.size w w'
end
section
open Go.RowKit
inductive Tr where
 | node (nm : List (List UInt8)) (ats : List (List (List UInt8))) (ks : List Tr) (t : List UInt8)
def Tr.nm : Tr → List (List UInt8) | .node nm _ _ _ => nm
def Tr.ats : Tr → List (List (List UInt8)) | .node _ ats _ _ => ats
def Tr.ks : Tr → List Tr | .node _ _ ks _ => ks
def Tr.t : Tr → List UInt8 | .node _ _ _ t => t
def strs (l : List (List UInt8)) : List Value := l.map fun s => .string (bs s)
theorem strs_len (l : List (List UInt8)) : (strs l).length = l.length := by simp [strs]
def acells (ats : List (List (List UInt8))) : List Value := ats.flatMap strs
mutual
def Tr.ok (k : Nat) : Tr → Prop
 | .node nm ats ks _ => nm.length = k ∧ (∀ a ∈ ats, a.length = k + 1) ∧ Tr.okL k ks
def Tr.okL (k : Nat) : List Tr → Prop
 | [] => True
 | x :: xs => x.ok k ∧ Tr.okL k xs
end
mutual
def TrC (w : World) (P : Nat → Prop) : Tr → List Value → Prop
 | .node nm ats ks t, cs => ∃ pa ca pk ck css, cs = strs nm ++ [.slice pa ats.length ca, .slice pk ks.length ck, .string (bs t)] ∧
   (ats.length ≤ ca ∧ ca ≤ maxLen ∧ Rd w pa (acells ats) ∧ ∀ a, pa = some a → P a.block) ∧
   (ks.length ≤ ck ∧ ck ≤ maxLen ∧ Rd w pk css.flatten ∧ ∀ a, pk = some a → P a.block) ∧ TrL w P ks css
def TrL (w : World) (P : Nat → Prop) : List Tr → List (List Value) → Prop
 | [], css => css = []
 | k :: ks, css => ∃ c cs, css = c :: cs ∧ TrC w P k c ∧ TrL w P ks cs
end
theorem Rd.keepP {w w' : World} {p : Option Addr} {xs : List Value} (h : Rd w p xs) {P : Nat → Prop} (hP : ∀ a, p = some a → P a.block) (hk : ∀ a v, P a.block → w.cell? a = some v → w'.cell? a = some v) : Rd w' p xs := by
 rcases h with h | ⟨b, off, hp, hc⟩
 ·exact .inl h
 ·exact .inr ⟨b, off, hp, fun i u hu => hk ⟨b, off + i, none⟩ _ (show P b from hP ⟨b, off, none⟩ hp) (hc i u hu)⟩
mutual
theorem TrC.keepP {w w' : World} {P : Nat → Prop} (hk : ∀ a v, P a.block → w.cell? a = some v → w'.cell? a = some v) : ∀ (x : Tr) (cs : List Value), TrC w P x cs → TrC w' P x cs
 | .node nm ats ks t, cs, h => by
  unfold TrC at h ⊢
  obtain ⟨pa, ca, pk, ck, css, h1, h2, h3, h4⟩ := h
  exact ⟨pa, ca, pk, ck, css, h1, ⟨h2.1, h2.2.1, h2.2.2.1.keepP h2.2.2.2 hk, h2.2.2.2⟩, ⟨h3.1, h3.2.1, h3.2.2.1.keepP h3.2.2.2 hk, h3.2.2.2⟩, TrL.keepP hk ks css h4⟩
theorem TrL.keepP {w w' : World} {P : Nat → Prop} (hk : ∀ a v, P a.block → w.cell? a = some v → w'.cell? a = some v) : ∀ (xs : List Tr) (css : List (List Value)), TrL w P xs css → TrL w' P xs css
 | [], css, h => by unfold TrL at h ⊢; exact h
 | x :: xs, css, h => by
  unfold TrL at h ⊢
  obtain ⟨c, cs, h1, h2, h3⟩ := h
  exact ⟨c, cs, h1, TrC.keepP hk x c h2, TrL.keepP hk xs cs h3⟩
end
mutual
theorem TrC.imp {w : World} {P Q : Nat → Prop} (hk : ∀ b, P b → Q b) : ∀ (x : Tr) (cs : List Value), TrC w P x cs → TrC w Q x cs
 | .node nm ats ks t, cs, h => by
  unfold TrC at h ⊢
  obtain ⟨pa, ca, pk, ck, css, h1, h2, h3, h4⟩ := h
  exact ⟨pa, ca, pk, ck, css, h1, ⟨h2.1, h2.2.1, h2.2.2.1, fun a ha => hk _ (h2.2.2.2 a ha)⟩, ⟨h3.1, h3.2.1, h3.2.2.1, fun a ha => hk _ (h3.2.2.2 a ha)⟩, TrL.imp hk ks css h4⟩
theorem TrL.imp {w : World} {P Q : Nat → Prop} (hk : ∀ b, P b → Q b) : ∀ (xs : List Tr) (css : List (List Value)), TrL w P xs css → TrL w Q xs css
 | [], css, h => by unfold TrL at h ⊢; exact h
 | x :: xs, css, h => by
  unfold TrL at h ⊢
  obtain ⟨c, cs, h1, h2, h3⟩ := h
  exact ⟨c, cs, h1, TrC.imp hk x c h2, TrL.imp hk xs cs h3⟩
end
theorem TrC.below {w w' : World} {P : Nat → Prop} {x : Tr} {cs : List Value} (h : TrC w P x cs) (hb : Below w.heap.size w w') : TrC w' P x cs := h.keepP (fun a v _ hv => Below.keeps hb a v hv)
theorem TrL.below {w w' : World} {P : Nat → Prop} {xs : List Tr} {css : List (List Value)} (h : TrL w P xs css) (hb : Below w.heap.size w w') : TrL w' P xs css := h.keepP (fun a v _ hv => Below.keeps hb a v hv)
theorem TrC.len {w : World} {P : Nat → Prop} {x : Tr} {cs : List Value} (h : TrC w P x cs) : cs.length = x.nm.length + 3 := by
 cases x
 unfold TrC at h
 obtain ⟨pa, ca, pk, ck, css, rfl, _⟩ := h
 simp [strs_len, Tr.nm]
theorem TrL.len {w : World} {P : Nat → Prop} : ∀ {xs : List Tr} {css : List (List Value)}, TrL w P xs css → css.length = xs.length
 | [], css, h => by unfold TrL at h; rw [h]; rfl
 | x :: xs, css, h => by
  unfold TrL at h
  obtain ⟨c, cs, rfl, _, h3⟩ := h
  simp [TrL.len h3]
theorem TrL.get {w : World} {P : Nat → Prop} : ∀ {xs : List Tr} {css : List (List Value)}, TrL w P xs css → ∀ (i : Nat) (hi : i < xs.length), ∃ c, css[i]? = some c ∧ TrC w P xs[i] c
 | [], css, h, i, hi => by simp at hi
 | x :: xs, css, h, i, hi => by
  unfold TrL at h
  obtain ⟨c, cs, rfl, h2, h3⟩ := h
  cases i with
  | zero => exact ⟨c, rfl, h2⟩
  | succ i => exact h3.get i (by simpa using hi)
theorem TrL.app {w : World} {P : Nat → Prop} : ∀ {xs ys : List Tr} {css dss : List (List Value)}, TrL w P xs css → TrL w P ys dss → TrL w P (xs ++ ys) (css ++ dss)
 | [], ys, css, dss, h, h' => by unfold TrL at h; rw [h]; exact h'
 | x :: xs, ys, css, dss, h, h' => by
  unfold TrL at h
  obtain ⟨c, cs, rfl, h2, h3⟩ := h
  rw [lD, lD]
  unfold TrL
  exact ⟨c, cs ++ dss, rfl, h2, TrL.app h3 h'⟩
theorem TrL.one {w : World} {P : Nat → Prop} {x : Tr} {c : List Value} (h : TrC w P x c) : TrL w P [x] [c] := by
 unfold TrL
 exact ⟨c, [], rfl, h, by unfold TrL; rfl⟩
theorem okL_get (k : Nat) : ∀ (xs : List Tr), Tr.okL k xs → ∀ (i : Nat) (hi : i < xs.length), (xs[i]).ok k
 | [], _, i, hi => by simp at hi
 | x :: xs, h, i, hi => by
  unfold Tr.okL at h
  cases i with
  | zero => exact h.1
  | succ i => exact okL_get k xs h.2 i (by simpa using hi)
theorem flat_get {α : Type} (m : Nat) : ∀ (css : List (List α)), (∀ c ∈ css, c.length = m) → ∀ (i j : Nat) (c : List α) (u : α), css[i]? = some c → c[j]? = some u → css.flatten[i * m + j]? = some u
 | [], _, i, j, c, u, h, _ => by simp at h
 | d :: ds, hm, i, j, c, u, h, h' => by
  have hd : d.length = m := hm d (by simp)
  rw [List.flatten_cons]
  cases i with
  | zero =>
   rw [List.getElem?_cons_zero, Option.some.injEq] at h
   subst h
   rw [Nat.zero_mul, Nat.zero_add, List.getElem?_append_left (List.getElem?_eq_some_iff.1 h').1]
   exact h'
  | succ i =>
   rw [List.getElem?_append_right (by rw [hd, Nat.succ_mul]; omega), hd, show (i + 1) * m + j - m = i * m + j by rw [Nat.succ_mul]; omega]
   exact flat_get m ds (fun c hc => hm c (by simp [hc])) i j c u (by simpa using h) h'
theorem at_cell {w : World} {p : Option Addr} {ats : List (List (List UInt8))} {k : Nat} (h : Rd w p (acells ats)) (hk : ∀ a ∈ ats, a.length = k + 1) {i : Nat} (hi : i < ats.length) :
  ∃ b off, p = some ⟨b, off, none⟩ ∧ ∀ (j : Nat) (hj : j < k + 1), w.cell? ⟨b, off + (i * (k + 1) + j), none⟩ = some (.string (bs (ats[i][j]'(by rw [hk _ (List.getElem_mem hi)]; exact hj)))) := by
 have hl : ats[i].length = k + 1 := hk _ (List.getElem_mem hi)
 have g : ∀ (j : Nat) (hj : j < k + 1), (acells ats)[i * (k + 1) + j]? = some (.string (bs (ats[i][j]'(by rw [hl]; exact hj)))) := by
  intro j hj
  unfold acells
  rw [List.flatMap_def]
  refine flat_get (k + 1) (ats.map strs) (fun c hc => ?_) i j (strs ats[i]) _ (by simp [hi]) (by simp [strs, hl, hj])
  obtain ⟨a, ha, rfl⟩ := List.mem_map.1 hc
  rw [strs_len, hk a ha]
 obtain ⟨b, off, hp, hc⟩ := h.has (fun e => by have := g 0 (by omega); rw [e] at this; simp at this)
 exact ⟨b, off, hp, fun j hj => hc _ _ (g j hj)⟩
theorem kid_cell {w : World} {p : Option Addr} {ks : List Tr} {css : List (List Value)} {P : Nat → Prop} {k : Nat} (h : Rd w p css.flatten) (hL : TrL w P ks css) (hk : Tr.okL k ks) {i : Nat} (hi : i < ks.length) :
  ∃ b off c, p = some ⟨b, off, none⟩ ∧ TrC w P ks[i] c ∧ c.length = k + 3 ∧ ∀ (j : Nat) (hj : j < c.length), w.cell? ⟨b, off + (i * (k + 3) + j), none⟩ = some c[j] := by
 obtain ⟨c, hc, hT⟩ := hL.get i hi
 have hlen : ∀ d ∈ css, d.length = k + 3 := by
  intro d hd
  obtain ⟨n, hn, rfl⟩ := List.getElem_of_mem hd
  have hn' : n < ks.length := by rw [← hL.len]; exact hn
  obtain ⟨d', hd', hT'⟩ := hL.get n hn'
  rw [List.getElem?_eq_getElem hn, Option.some.injEq] at hd'
  have ho := okL_get k ks hk n hn'
  rw [hd', hT'.len]
  cases hx : ks[n]
  rw [hx] at ho
  unfold Tr.ok at ho
  simp [Tr.nm, ho.1]
 have hcl : c.length = k + 3 := hlen c (List.mem_of_getElem? hc)
 have g : ∀ (j : Nat) (hj : j < c.length), css.flatten[i * (k + 3) + j]? = some c[j] := fun j hj => flat_get (k + 3) css hlen i j c _ hc (by simp [hj])
 obtain ⟨b, off, hp, hcc⟩ := h.has (fun e => by have := g 0 (by omega); rw [e] at this; simp at this)
 exact ⟨b, off, c, hp, hT, hcl, fun j hj => hcc _ _ (g j hj)⟩
end
section
open Go.RowKit
mutual
def Tr.eqb : Tr → Tr → Bool
 | .node n1 a1 k1 t1, .node n2 a2 k2 t2 => (n1 == n2) && (t1 == t2) && (a1 == a2) && Tr.eqbL k1 k2
def Tr.eqbL : List Tr → List Tr → Bool
 | [], [] => true
 | x :: xs, y :: ys => x.eqb y && Tr.eqbL xs ys
 | [], _ :: _ => false
 | _ :: _, [] => false
end
mutual
theorem Tr.eqb_refl : ∀ x : Tr, x.eqb x = true
 | .node n a k t => by unfold Tr.eqb; simp [Tr.eqbL_refl k]
theorem Tr.eqbL_refl : ∀ xs : List Tr, Tr.eqbL xs xs = true
 | [] => by unfold Tr.eqbL; rfl
 | x :: xs => by unfold Tr.eqbL; simp [Tr.eqb_refl x, Tr.eqbL_refl xs]
end
mutual
theorem Tr.eqb_eq : ∀ x y : Tr, x.eqb y = true → x = y
 | .node n1 a1 k1 t1, .node n2 a2 k2 t2, h => by
  unfold Tr.eqb at h
  simp only [bA, beq_iff_eq] at h
  obtain ⟨⟨⟨rfl, rfl⟩, rfl⟩, h4⟩ := h
  rw [Tr.eqbL_eq k1 k2 h4]
theorem Tr.eqbL_eq : ∀ xs ys : List Tr, Tr.eqbL xs ys = true → xs = ys
 | [], [], _ => rfl
 | x :: xs, y :: ys, h => by
  unfold Tr.eqbL at h
  simp only [bA] at h
  rw [Tr.eqb_eq x y h.1, Tr.eqbL_eq xs ys h.2]
 | [], _ :: _, h => by unfold Tr.eqbL at h; cases h
 | _ :: _, [], h => by unfold Tr.eqbL at h; cases h
end
theorem Tr.eqbL_len {xs ys : List Tr} (h : xs.length ≠ ys.length) : Tr.eqbL xs ys = false := by
 rw [Bool.eq_false_iff]
 intro e
 exact h (by rw [Tr.eqbL_eq xs ys e])
theorem Tr.eqbL_drop {xs ys : List Tr} (h : xs.length = ys.length) {i : Nat} (hi : i < xs.length) :
  Tr.eqbL (xs.drop i) (ys.drop i) = (xs[i].eqb (ys[i]'(h ▸ hi)) && Tr.eqbL (xs.drop (i + 1)) (ys.drop (i + 1))) := by
 rw [List.drop_eq_getElem_cons hi, List.drop_eq_getElem_cons (show i < ys.length from h ▸ hi)]
 conv => lhs; unfold Tr.eqbL
mutual
def Tr.sz : Tr → Nat
 | .node _ _ ks _ => 1 + Tr.szL ks
def Tr.szL : List Tr → Nat
 | [] => 0
 | x :: xs => x.sz + Tr.szL xs
end
theorem Tr.sz_get : ∀ (xs : List Tr) (i : Nat) (hi : i < xs.length), xs[i].sz ≤ Tr.szL xs
 | [], i, hi => by simp at hi
 | x :: xs, i, hi => by
  unfold Tr.szL
  cases i with
  | zero => simp
  | succ i => have := Tr.sz_get xs i (by simpa using hi); simp; omega
theorem Tr.sz_pos (x : Tr) : 1 ≤ x.sz := by cases x; unfold Tr.sz; omega
theorem Tr.sz_kid (x : Tr) (i : Nat) (hi : i < x.ks.length) : x.ks[i].sz < x.sz := by
 obtain ⟨nm, ats, ks, t⟩ := x
 have h : ks[i].sz ≤ Tr.szL ks := Tr.sz_get ks i hi
 show ks[i].sz < Tr.sz (.node nm ats ks t)
 rw [Tr.sz]
 omega
theorem two_of {l : List (List UInt8)} (h : l.length = 2) : ∃ a b, l = [a, b] := by
 match l, h with
 | [a, b], _ => exact ⟨a, b, rfl⟩
theorem one_of {l : List (List UInt8)} (h : l.length = 1) : ∃ a, l = [a] := by
 match l, h with
 | [a], _ => exact ⟨a, rfl⟩
theorem three_of {l : List (List UInt8)} (h : l.length = 3) : ∃ a b c, l = [a, b, c] := by
 match l, h with
 | [a, b, c], _ => exact ⟨a, b, c, rfl⟩
theorem take_step {α : Type} {xs ys : List α} {i : Nat} (hx : i < xs.length) (hy : i < ys.length) (h : xs.take i = ys.take i) (he : xs[i] = ys[i]) : xs.take (i + 1) = ys.take (i + 1) := by
 rw [lR hx, lR hy, h, he]
end
section
open Go.RowKit
def Tr.name (x : Tr) : List UInt8 := x.nm.getD 0 []
def atsB : List (List UInt8) → List (List (List UInt8)) → Bool
 | _, [] => true
 | seen, a :: l => nameB (a.getD 0 []) && sigB (a.getD 1 []) && !seen.contains (a.getD 0 []) && atsB (seen ++ [a.getD 0 []]) l
def txtB (prev : Bool) (k : Tr) : Bool := !(k.t == []) && !prev && decide (k.ats.length = 0) && decide (k.ks.length = 0) && sigB k.t
mutual
def Tr.rgt : Nat → Tr → Bool
 | d, .node nm ats ks t => decide (d ≤ 12) && nameB (nm.getD 0 []) && (t == []) && atsB [] ats && decide (ats.length ≤ 12) && Tr.rgtL d false ks
def Tr.rgtL : Nat → Bool → List Tr → Bool
 | _, _, [] => true
 | d, prev, k :: ks => if (k.name == []) = false then Tr.rgt (d + 1) k && Tr.rgtL d false ks else txtB prev k && Tr.rgtL d true ks
end
def atT (a : List (List UInt8)) : List UInt8 := [32] ++ a.getD 0 [] ++ [61, 34] ++ escF true (a.getD 1 []) ++ [34]
mutual
def Tr.wrt : Tr → List UInt8
 | .node nm ats ks t => if nm.getD 0 [] = [] then escF false t else
   [60] ++ nm.getD 0 [] ++ ats.flatMap atT ++ (if ks.length = 0 then [47, 62] else [62] ++ Tr.wrtL ks ++ ([60, 47] ++ nm.getD 0 [] ++ [62]))
def Tr.wrtL : List Tr → List UInt8
 | [] => []
 | k :: ks => k.wrt ++ Tr.wrtL ks
end
def textE (x : Tr) : Nat := if x.rgt 1 = false then 4 else if 20000 < x.wrt.length then 3 else 0
def textS (x : Tr) : List UInt8 := if textE x = 0 then x.wrt else []
theorem wrtL_nil : Tr.wrtL [] = [] := by rw [Tr.wrtL]
theorem wrtL_cons (x : Tr) (xs : List Tr) : Tr.wrtL (x :: xs) = x.wrt ++ Tr.wrtL xs := by rw [Tr.wrtL]
theorem wrtL_append : ∀ xs ys : List Tr, Tr.wrtL (xs ++ ys) = Tr.wrtL xs ++ Tr.wrtL ys
 | [], ys => by rw [lE, wrtL_nil, lE]
 | x :: xs, ys => by rw [lD, wrtL_cons, wrtL_cons, wrtL_append xs ys, List.append_assoc]
theorem wrtL_take {xs : List Tr} {i : Nat} (h : i < xs.length) : Tr.wrtL (xs.take (i + 1)) = Tr.wrtL (xs.take i) ++ xs[i].wrt := by
 rw [lR h, wrtL_append]
 rw [wrtL_cons, wrtL_nil, List.append_nil]
theorem wrtL_le {xs : List Tr} {i : Nat} : (Tr.wrtL (xs.take i)).length ≤ (Tr.wrtL xs).length := by
 conv => rhs; rw [← lJ i xs, wrtL_append, lF]
 omega
theorem atT_take {xs : List (List (List UInt8))} {i : Nat} (h : i < xs.length) : (xs.take (i + 1)).flatMap atT = (xs.take i).flatMap atT ++ atT xs[i] := by
 rw [lR h, List.flatMap_append]
 simp
theorem rgtL_drop {xs : List Tr} {i d : Nat} {p : Bool} (h : i < xs.length) : Tr.rgtL d p (xs.drop i) = if (xs[i].name == []) = false then Tr.rgt (d + 1) xs[i] && Tr.rgtL d false (xs.drop (i + 1)) else txtB p xs[i] && Tr.rgtL d true (xs.drop (i + 1)) := by
 rw [List.drop_eq_getElem_cons h]
 conv => lhs; unfold Tr.rgtL
theorem atsB_drop {xs : List (List (List UInt8))} {i : Nat} (h : i < xs.length) : atsB ((xs.take i).map fun a => a.getD 0 []) (xs.drop i) = (nameB (xs[i].getD 0 []) && sigB (xs[i].getD 1 []) && !((xs.take i).map fun a => a.getD 0 []).contains (xs[i].getD 0 []) && atsB ((xs.take (i + 1)).map fun a => a.getD 0 []) (xs.drop (i + 1))) := by
 rw [List.drop_eq_getElem_cons h, lR h, List.map_append]
 conv => lhs; unfold atsB
 rfl
end
section
open Go.RowKit
def xmlL : List UInt8 := [120, 109, 108]
def xmlnsL : List UInt8 := [120, 109, 108, 110, 115]
def splitF (s : List UInt8) : List UInt8 × List UInt8 := match cutB 58 s with | none => ([], s) | some p => p
def ownF (p : List UInt8) : Bool := p == xmlL || p == xmlnsL
def declF (a : List (List UInt8)) : Option (Option (List UInt8)) :=
 if a.getD 0 [] = xmlnsL then some (some [])
 else if (splitF (a.getD 0 [])).1 = xmlnsL then (if a.getD 1 [] = [] ∨ ownF (splitF (a.getD 0 [])).2 = true then none else some (some (splitF (a.getD 0 [])).2))
 else some none
def declsF : List (List (List UInt8)) → Option (List (List UInt8 × List UInt8))
 | [] => some []
 | a :: l => (declF a).bind fun d => (declsF l).map fun ds => match d with | none => ds | some p => (p, a.getD 1 []) :: ds
def lookF (ds : List (List UInt8 × List UInt8)) (p : List UInt8) : Option (List UInt8) := (ds.reverse.find? (fun d => d.1 == p)).map (·.2)
def nameSp (ds : List (List UInt8 × List UInt8)) (s : List UInt8) (attr : Bool) : Option (List (List UInt8)) :=
 if ownF (splitF s).1 = true then none
 else if (splitF s).1 = [] ∧ attr = true then some [[], (splitF s).2]
 else match lookF ds (splitF s).1 with
  | some sp => some [sp, (splitF s).2]
  | none => if (splitF s).1 = [] then some [[], (splitF s).2] else none
def atSp (ds : List (List UInt8 × List UInt8)) (a : List (List UInt8)) : Option (Option (List (List UInt8))) :=
 match declF a with
 | none => none
 | some (some _) => some none
 | some none => if (splitF (a.getD 0 [])).1 ≠ [] ∧ (splitF (a.getD 0 [])).2 = xmlnsL then none else (nameSp ds (a.getD 0 []) true).map fun n => some (n ++ [a.getD 1 []])
def atsSp (ds : List (List UInt8 × List UInt8)) : List (List (List UInt8)) → List (List (List UInt8)) → Option (List (List (List UInt8)))
 | out, [] => some out
 | out, a :: l => match atSp ds a with
  | none => none
  | some none => atsSp ds out l
  | some (some x) => if out.any (fun b => b.take 2 == x.take 2) then none else atsSp ds (out ++ [x]) l
mutual
def Tr.res : List (List UInt8 × List UInt8) → Tr → Option Tr
 | ds, .node nm ats ks t => if nm.getD 0 [] = [] then some (.node [[], []] [] [] t) else
   (declsF ats).bind fun d => (nameSp (ds ++ d) (nm.getD 0 []) false).bind fun n => (atsSp (ds ++ d) [] ats).bind fun bts => (Tr.resL (ds ++ d) ks).map fun k => .node n bts k []
def Tr.resL : List (List UInt8 × List UInt8) → List Tr → Option (List Tr)
 | _, [] => some []
 | ds, k :: ks => (Tr.res ds k).bind fun x => (Tr.resL ds ks).map fun xs => x :: xs
end
def resolveF (x : Tr) : Option Tr := if x.rgt 1 = true then x.res [] else none
def zeroX : Tr := .node [[]] [] [] []
def addF (l : List (List UInt8)) (s : List UInt8) : List (List UInt8) := if l.contains s = true ∨ s = [] then l else l ++ [s]
mutual
def Tr.meet : List (List UInt8) → Tr → List (List UInt8)
 | l, .node nm ats ks _ => Tr.meetL (ats.foldl (fun l a => addF l (a.getD 0 [])) (addF l (nm.getD 0 []))) ks
def Tr.meetL : List (List UInt8) → List Tr → List (List UInt8)
 | l, [] => l
 | l, k :: ks => Tr.meetL (Tr.meet l k) ks
end
def localB (s : List UInt8) : Bool := nameB s && !s.contains 58
def prefF (i : Nat) : List UInt8 := 110 :: Lib.decDigits (i + 1)
def prefixedF (l : List (List UInt8)) (n : List (List UInt8)) : List UInt8 :=
 if l.idxOf (n.getD 0 []) < l.length then prefF (l.idxOf (n.getD 0 [])) ++ 58 :: n.getD 1 [] else n.getD 1 []
def wriAts (l : List (List UInt8)) : List (List (List UInt8)) → Option (List (List (List UInt8)))
 | [] => some []
 | a :: bts => if localB (a.getD 1 []) = false ∨ (a.getD 0 [] = [] ∧ a.getD 1 [] = xmlnsL) then none else (wriAts l bts).map fun xs => [prefixedF l a, a.getD 2 []] :: xs
mutual
def Tr.wri : List (List UInt8) → Tr → Option Tr
 | l, .node nm ats ks t => if nm.getD 0 [] = [] ∧ nm.getD 1 [] = [] then (if ats.length = 0 ∧ ks.length = 0 then some (.node [[]] [] [] t) else none) else
   if localB (nm.getD 1 []) = false then none else (wriAts l ats).bind fun bts => (Tr.wriL l ks).map fun xs => .node [prefixedF l nm] bts xs t
def Tr.wriL : List (List UInt8) → List Tr → Option (List Tr)
 | _, [] => some []
 | l, k :: ks => (Tr.wri l k).bind fun x => (Tr.wriL l ks).map fun xs => x :: xs
end
def declOf (l : List (List UInt8)) : List (List (List UInt8)) := (List.range l.length).map fun i => [xmlnsL ++ 58 :: prefF i, l.getD i []]
def withDecl (l : List (List UInt8)) : Tr → Tr
 | .node nm ats ks t => .node nm (declOf l ++ ats) ks t
def writeF (e : Tr) : Option Tr := (e.wri (e.meet [])).bind fun x => (resolveF (withDecl (e.meet []) x)).bind fun b => if b.eqb e = true then some (withDecl (e.meet []) x) else none
end
section
open Go.RowKit
def namedF (s : List UInt8) : Option (List UInt8) :=
 if s = [108, 116] then some [60] else if s = [103, 116] then some [62] else if s = [97, 109, 112] then some [38] else if s = [113, 117, 111, 116] then some [34] else if s = [97, 112, 111, 115] then some [39] else none
def lowF (c : UInt8) : UInt8 := if 65 ≤ c.toNat ∧ c.toNat ≤ 70 then UInt8.ofNat (c.toNat + 32) else c
def digF (c : UInt8) : Option Nat := if 48 ≤ c.toNat ∧ c.toNat ≤ 57 then some (c.toNat - 48) else if 97 ≤ c.toNat ∧ c.toNat ≤ 102 then some (c.toNat - 87) else none
def numGo (base : Nat) : Nat → List UInt8 → Option Nat
 | n, [] => some n
 | n, c :: l => match digF (lowF c) with | none => none | some d => if d < base then numGo base (n * base + d) l else none
def numR (base : Nat) (s : List UInt8) : Option (List UInt8) :=
 if s = [] ∨ 8 < s.length then none else (numGo base 0 s).bind fun n => if mayB n = true then some (Lib.encodeRune (n : Int)) else none
def refF (s : List UInt8) : Option (List UInt8) :=
 match namedF s with
 | some t => some t
 | none => match s with
  | 35 :: 120 :: t => numR 16 t
  | 35 :: t => numR 10 t
  | _ => none
def textGo : Nat → List UInt8 → Option (List UInt8)
 | 0, _ => some []
 | n + 1, s => match cutB 38 s with
  | none => some s
  | some (a, b) => match cutB 59 b with
   | none => none
   | some (nm, rest) => (refF nm).bind fun t => (textGo n rest).map fun u => a ++ t ++ u
def textD (s : List UInt8) : Option (List UInt8) := if sigB s = true then textGo (s.length + 1) s else none
theorem cutB_cons (c x : UInt8) (xs : List UInt8) : cutB c (x :: xs) = if x = c then some ([], xs) else (cutB c xs).map fun p => (x :: p.1, p.2) := rfl
theorem cutB_len {c : UInt8} : ∀ {s a b : List UInt8}, cutB c s = some (a, b) → a.length + 1 + b.length = s.length
 | [], a, b, h => by cases h
 | x :: xs, a, b, h => by
  unfold cutB at h
  split at h
  ·cases h; simp; omega
  ·rw [oB] at h
   obtain ⟨⟨p, q⟩, h1, h2⟩ := h
   cases h2
   have := cutB_len h1
   simp
   omega
theorem textGo_more : ∀ (n m : Nat) (s : List UInt8), s.length < n → s.length < m → textGo n s = textGo m s
 | 0, _, _, h, _ => by omega
 | _, 0, _, _, h => by omega
 | n + 1, m + 1, s, h1, h2 => by
  unfold textGo
  cases h : cutB 38 s with
  | none => rfl
  | some p =>
   obtain ⟨a, b⟩ := p
   simp only
   have e1 := cutB_len h
   cases hb : cutB 59 b with
   | none => rfl
   | some q =>
    obtain ⟨nm, rest⟩ := q
    simp only
    have e2 := cutB_len hb
    rw [textGo_more n m rest (by omega) (by omega)]
def textR (s : List UInt8) : Option (List UInt8) := textGo (s.length + 1) s
theorem textR_eq (s : List UInt8) : textR s = match cutB 38 s with
  | none => some s
  | some (a, b) => match cutB 59 b with
   | none => none
   | some (nm, rest) => (refF nm).bind fun t => (textR rest).map fun u => a ++ t ++ u := by
 unfold textR
 conv => lhs; unfold textGo
 cases h : cutB 38 s with
 | none => rfl
 | some p =>
  obtain ⟨a, b⟩ := p
  simp only
  have e1 := cutB_len h
  cases hb : cutB 59 b with
  | none => rfl
  | some q =>
   obtain ⟨nm, rest⟩ := q
   simp only
   have e2 := cutB_len hb
   rw [textGo_more s.length (rest.length + 1) rest (by omega) (by omega)]
theorem textR_cons {c : UInt8} (h : c ≠ 38) (s : List UInt8) : textR (c :: s) = (textR s).map fun u => c :: u := by
 rw [textR_eq (c :: s), textR_eq s, cutB_cons, if_neg h]
 cases cutB 38 s with
 | none => rfl
 | some p =>
  obtain ⟨a, b⟩ := p
  simp only [Option.map_some]
  cases cutB 59 b with
  | none => rfl
  | some q =>
   obtain ⟨nm, rest⟩ := q
   simp only
   cases refF nm with
   | none => rfl
   | some t =>
    simp only [oC]
    cases textR rest <;> rfl
theorem textR_app : ∀ (x m : List UInt8), (∀ c ∈ x, c ≠ 38) → textR (x ++ m) = (textR m).map fun u => x ++ u
 | [], m, _ => by
  rw [lE]
  cases textR m <;> rfl
 | c :: x, m, h => by
  rw [lD, textR_cons (h c (by simp)), textR_app x m (fun d hd => h d (by simp [hd]))]
  cases textR m <;> rfl
theorem textR_ref (nm t m : List UInt8) (hn : cutB 59 (nm ++ 59 :: m) = some (nm, m)) (ht : refF nm = some t) : textR (38 :: (nm ++ 59 :: m)) = (textR m).map fun u => t ++ u := by
 rw [textR_eq (38 :: (nm ++ 59 :: m)), cutB_cons, if_pos rfl]
 simp only
 rw [hn]
 simp only
 rw [ht]
 simp only [oC]
 cases textR m <;> rfl
theorem getD_take (l m : List UInt8) (w i : Nat) (hi : i < w) (hw : w ≤ l.length) : (l.take w ++ m).getD i 0 = l.getD i 0 := by
 rw [List.getD_eq_getElem?_getD, List.getD_eq_getElem?_getD, List.getElem?_append_left (by rw [List.length_take]; omega), List.getElem?_take_of_lt hi]
theorem decode_take (l m : List UInt8) (h : l ≠ []) (hb : badB l = false) : Lib.decodeL (l.take (Lib.decodeL l).2 ++ m) = Lib.decodeL l := by
 have hle := Lib.decodeL_le l h
 have hl : 0 < l.length := List.length_pos_iff.2 h
 have hb' : ¬ ((Lib.decodeL l).1 = 65533 ∧ (Lib.decodeL l).2 = 1) := by
  intro hh
  unfold badB at hb
  rw [hh.1, hh.2] at hb
  cases hb
 have k0 := (l.getD 0 0).toNat_lt
 rcases Lib.decodeN_shape l.length (l.getD 0 0).toNat (l.getD 1 0).toNat (l.getD 2 0).toNat (l.getD 3 0).toNat with ⟨c, e⟩ | ⟨c1, c2, c3, cv, e⟩ | ⟨c1, c2, c3, c4, cv, cs, e⟩ | ⟨c1, c2, c3, c4, c5, cv, cw, e⟩ | e
 all_goals
  rw [← Lib.decodeL_N] at e
  rw [e] at hle hb' ⊢
  simp only at hle hb' ⊢
 ·rw [Lib.decodeL_N, getD_take l m 1 0 (by omega) hle]
  unfold Lib.decodeN
  rw [if_pos c]
 ·have hlen : (l.take 2 ++ m).length = 2 + m.length := by rw [lF, List.length_take]; omega
  rw [Lib.decodeL_N, hlen, getD_take l m 2 0 (by omega) hle, getD_take l m 2 1 (by omega) hle]
  generalize ((l.take 2 ++ m).getD 2 0).toNat = q2
  generalize ((l.take 2 ++ m).getD 3 0).toNat = q3
  unfold Lib.decodeN
  (repeat' split)
  all_goals first | (exfalso; omega) | rfl
 ·have hlen : (l.take 3 ++ m).length = 3 + m.length := by rw [lF, List.length_take]; omega
  rw [Lib.decodeL_N, hlen, getD_take l m 3 0 (by omega) hle, getD_take l m 3 1 (by omega) hle, getD_take l m 3 2 (by omega) hle]
  generalize ((l.take 3 ++ m).getD 3 0).toNat = q3
  unfold Lib.decodeN
  (repeat' split)
  all_goals first | (exfalso; omega) | rfl
 ·have hlen : (l.take 4 ++ m).length = 4 + m.length := by rw [lF, List.length_take]; omega
  rw [Lib.decodeL_N, hlen, getD_take l m 4 0 (by omega) hle, getD_take l m 4 1 (by omega) hle, getD_take l m 4 2 (by omega) hle, getD_take l m 4 3 (by omega) hle]
  unfold Lib.decodeN
  (repeat' split)
  all_goals first | (exfalso; omega) | rfl
 ·simp at hb'
theorem bad_take (l m : List UInt8) (h : l ≠ []) (hb : badB l = false) : badB (l.take (Lib.decodeL l).2 ++ m) = false := by
 unfold badB
 rw [decode_take l m h hb]
 exact hb
theorem sig_take (l m : List UInt8) (h : l ≠ []) (hb : badB l = false) (hm : mayB (Lib.decodeL l).1 = true) : sigB (l.take (Lib.decodeL l).2 ++ m) = sigB m := by
 have hw := Lib.decodeL_width l
 have hle := Lib.decodeL_le l h
 rw [sigB_step _ (by intro e; have := congrArg List.length e; rw [lF, List.length_take, lP] at this; omega), decode_take l m h hb, bad_take l m h hb, if_neg (by simp [hm])]
 congr 1
 rw [List.drop_append_of_le_length (by rw [List.length_take]; omega), List.drop_of_length_le (by rw [List.length_take]; omega), lE]
theorem dec_ascii (c : UInt8) (m : List UInt8) (h : c.toNat < 128) : Lib.decodeL (c :: m) = (c.toNat, 1) := Lib.decodeL_ascii c m h
theorem sig_ascii (c : UInt8) (m : List UInt8) (h : c.toNat < 128) (hm : mayB c.toNat = true) : sigB (c :: m) = sigB m := by
 rw [sigB_step _ (by simp), dec_ascii c m h, if_neg]
 ·rfl
 ·unfold badB
  rw [dec_ascii c m h]
  simp [hm]
  omega
theorem sig_asciis : ∀ (x m : List UInt8), (∀ c ∈ x, c.toNat < 128 ∧ mayB c.toNat = true) → sigB (x ++ m) = sigB m
 | [], _, _ => rfl
 | c :: x, m, h => by
  rw [lD, sig_ascii c _ (h c (by simp)).1 (h c (by simp)).2, sig_asciis x m (fun d hd => h d (by simp [hd]))]
end
section
open Go.RowKit
theorem sign_bytes (l : List UInt8) (h : l ≠ []) (hb : badB l = false) :
  ((Lib.decodeL l).1 < 128 ∧ (Lib.decodeL l).2 = 1 ∧ l.take 1 = [UInt8.ofNat (Lib.decodeL l).1]) ∨ (128 ≤ (Lib.decodeL l).1 ∧ ∀ c ∈ l.take (Lib.decodeL l).2, 128 ≤ c.toNat) := by
 have hle := Lib.decodeL_le l h
 have hl : 0 < l.length := List.length_pos_iff.2 h
 have hb' : ¬ ((Lib.decodeL l).1 = 65533 ∧ (Lib.decodeL l).2 = 1) := by
  intro hh
  unfold badB at hb
  rw [hh.1, hh.2] at hb
  cases hb
 have k0 := (l.getD 0 0).toNat_lt
 have k1 := (l.getD 1 0).toNat_lt
 have k2 := (l.getD 2 0).toNat_lt
 have k3 := (l.getD 3 0).toNat_lt
 rcases Lib.decodeN_shape l.length (l.getD 0 0).toNat (l.getD 1 0).toNat (l.getD 2 0).toNat (l.getD 3 0).toNat with ⟨c, e⟩ | ⟨c1, c2, c3, cv, e⟩ | ⟨c1, c2, c3, c4, cv, cs, e⟩ | ⟨c1, c2, c3, c4, c5, cv, cw, e⟩ | e
 all_goals
  rw [← Lib.decodeL_N] at e
  rw [e] at hle hb' ⊢
  simp only at hle hb' ⊢
 ·exact .inl ⟨c, trivial, by rw [Lib.takeA l hl, UInt8.ofNat_toNat]⟩
 ·refine .inr ⟨by omega, ?_⟩
  rw [Lib.takeB l c2]
  simp only [lI, lG, or_false, forall_eq_or_imp, forall_eq]
  omega
 ·refine .inr ⟨by omega, ?_⟩
  rw [Lib.takeC l c2]
  simp only [lI, lG, or_false, forall_eq_or_imp, forall_eq]
  omega
 ·refine .inr ⟨by omega, ?_⟩
  rw [Lib.takeD l c2]
  simp only [lI, lG, or_false, forall_eq_or_imp, forall_eq]
  omega
 ·simp at hb'
theorem escT_none {r : Nat} {v : Bool} (h : escT r v = none) : r ≠ 38 ∧ r ≠ 60 ∧ (v = true → r ≠ 34) := by
 unfold escT at h
 refine ⟨?_, ?_, ?_⟩
 ·rintro rfl; cases v <;> simp at h
 ·rintro rfl; cases v <;> simp at h
 ·rintro rfl rfl; simp at h
theorem escT_some {r : Nat} {v : Bool} {t : List UInt8} (h : escT r v = some t) :
  r < 128 ∧ (∀ c ∈ t, c.toNat < 128 ∧ mayB c.toNat = true) ∧ ∃ nm, t = 38 :: (nm ++ [59]) ∧ refF nm = some [UInt8.ofNat r] ∧ (∀ m, cutB 59 (nm ++ 59 :: m) = some (nm, m)) ∧ (∀ c ∈ t, c ≠ 60 ∧ c ≠ 34) := by
 unfold escT at h
 repeat' split at h
 all_goals first | cases h | skip
 ·rename_i e; subst e
  exact ⟨by omega, by decide, [108, 116], rfl, by decide +kernel, fun m => rfl, by decide⟩
 ·rename_i e; subst e
  exact ⟨by omega, by decide, [103, 116], rfl, by decide +kernel, fun m => rfl, by decide⟩
 ·rename_i e; subst e
  exact ⟨by omega, by decide, [97, 109, 112], rfl, by decide +kernel, fun m => rfl, by decide⟩
 ·rename_i e; subst e
  exact ⟨by omega, by decide, [35, 49, 51], rfl, by decide +kernel, fun m => rfl, by decide⟩
 ·rename_i e; subst e
  exact ⟨by omega, by decide, [113, 117, 111, 116], rfl, by decide +kernel, fun m => rfl, by decide⟩
 ·rename_i e; subst e
  exact ⟨by omega, by decide, [35, 57], rfl, by decide +kernel, fun m => rfl, by decide⟩
 ·rename_i e; subst e
  exact ⟨by omega, by decide, [35, 49, 48], rfl, by decide +kernel, fun m => rfl, by decide⟩
theorem escF_nil (v : Bool) : escF v [] = [] := rfl
theorem text_esc (v : Bool) : ∀ (n : Nat) (l : List UInt8), l.length ≤ n → sigB l = true → textR (escF v l) = some l ∧ sigB (escF v l) = true := by
 intro n
 induction n with
 | zero =>
  intro l hl _
  obtain rfl : l = [] := List.length_eq_zero_iff.1 (by omega)
  exact ⟨rfl, rfl⟩
 | succ n ih =>
  intro l hl hs
  by_cases h0 : l = []
  ·subst h0; exact ⟨rfl, rfl⟩
  rw [sigB_step l h0] at hs
  split at hs
  ·cases hs
  rename_i hno
  simp only [not_or, Bool.not_eq_true, Bool.not_eq_false] at hno
  obtain ⟨hb, hm⟩ := hno
  have hw := Lib.decodeL_width l
  have hll : 0 < l.length := List.length_pos_iff.2 h0
  obtain ⟨i1, i2⟩ := ih (l.drop (Lib.decodeL l).2) (by rw [List.length_drop]; omega) hs
  rw [escF_step v l h0]
  have e1 : escOne v l = (escT (Lib.decodeL l).1 v).getD (l.take (Lib.decodeL l).2) := by
   unfold escOne
   rw [if_neg (by rw [hb, hm]; simp)]
  rw [e1]
  cases ht : escT (Lib.decodeL l).1 v with
  | none =>
   show textR (l.take (Lib.decodeL l).2 ++ escF v (l.drop (Lib.decodeL l).2)) = some l ∧ sigB (l.take (Lib.decodeL l).2 ++ escF v (l.drop (Lib.decodeL l).2)) = true
   refine ⟨?_, ?_⟩
   ·rw [textR_app _ _ ?_, i1]
    ·show some (l.take _ ++ l.drop _) = _
     rw [lJ]
    ·have hr := (escT_none ht).1
     rcases sign_bytes l h0 hb with ⟨a1, a2, a3⟩ | ⟨a1, a2⟩
     ·rw [a2, a3]
      intro c hc
      simp only [List.mem_singleton] at hc
      subst hc
      intro e
      apply hr
      have := congrArg UInt8.toNat e
      rw [UInt8.toNat_ofNat'] at this
      have h38 : (38 : UInt8).toNat = 38 := rfl
      omega
     ·intro c hc e
      have := a2 c hc
      subst e
      have h38 : (38 : UInt8).toNat = 38 := rfl
      omega
   ·rw [sig_take l _ h0 hb hm]
    exact i2
  | some t =>
   show textR (t ++ escF v (l.drop (Lib.decodeL l).2)) = some l ∧ sigB (t ++ escF v (l.drop (Lib.decodeL l).2)) = true
   obtain ⟨hr, hasc, nm, rfl, hrf, hcut, _⟩ := escT_some ht
   refine ⟨?_, ?_⟩
   ·rw [show 38 :: (nm ++ [59]) ++ escF v (l.drop (Lib.decodeL l).2) = 38 :: (nm ++ 59 :: escF v (l.drop (Lib.decodeL l).2)) by simp, textR_ref nm _ _ (hcut _) hrf, i1]
    rcases sign_bytes l h0 hb with ⟨a1, a2, a3⟩ | ⟨a1, a2⟩
    ·rw [a2, ← a3]
     show some (l.take 1 ++ l.drop 1) = _
     rw [lJ]
    ·omega
   ·rw [sig_asciis _ _ hasc]
    exact i2
theorem textD_esc (v : Bool) (l : List UInt8) (h : sigB l = true) : textD (escF v l) = some l := by
 obtain ⟨h1, h2⟩ := text_esc v l.length l (nR _) h
 unfold textD
 rw [if_pos h2]
 exact h1
theorem esc_marks (v : Bool) : ∀ (n : Nat) (l : List UInt8), l.length ≤ n → ∀ c ∈ escF v l, c ≠ 60 ∧ (v = true → c ≠ 34) := by
 intro n
 induction n with
 | zero =>
  intro l hl c hc
  obtain rfl : l = [] := List.length_eq_zero_iff.1 (by omega)
  cases hc
 | succ n ih =>
  intro l hl c hc
  by_cases h0 : l = []
  ·subst h0; cases hc
  have hw := Lib.decodeL_width l
  have hll : 0 < l.length := List.length_pos_iff.2 h0
  rw [escF_step v l h0, List.mem_append] at hc
  rcases hc with hc | hc
  ·unfold escOne at hc
   split at hc
   ·cases hc
   ·rename_i hno
    simp only [not_or, Bool.not_eq_true, Bool.not_eq_false] at hno
    cases ht : escT (Lib.decodeL l).1 v with
    | none =>
     rw [ht] at hc
     have hc : c ∈ l.take (Lib.decodeL l).2 := hc
     have hr := escT_none ht
     have h60 : (60 : UInt8).toNat = 60 := rfl
     have h34 : (34 : UInt8).toNat = 34 := rfl
     rcases sign_bytes l h0 hno.1 with ⟨a1, a2, a3⟩ | ⟨a1, a2⟩
     ·rw [a2, a3] at hc
      simp only [List.mem_singleton] at hc
      have hcn : c.toNat = (Lib.decodeL l).1 := by rw [hc, UInt8.toNat_ofNat']; omega
      refine ⟨?_, ?_⟩
      ·rintro rfl; omega
      ·rintro hv rfl
       have := hr.2.2 hv
       omega
     ·have := a2 c hc
      refine ⟨?_, ?_⟩
      ·rintro rfl; omega
      ·rintro _ rfl; omega
    | some t =>
     rw [ht] at hc
     have hc : c ∈ t := hc
     obtain ⟨_, _, nm, _, _, _, hmk⟩ := escT_some ht
     exact ⟨(hmk c hc).1, fun _ => (hmk c hc).2⟩
  ·exact ih _ (by rw [List.length_drop]; omega) c hc
theorem esc_ne {v : Bool} {l : List UInt8} (h : l ≠ []) (hs : sigB l = true) : escF v l ≠ [] := by
 intro e
 have h1 := textD_esc v l hs
 rw [e] at h1
 injection h1 with h1
 exact h h1.symm
end
section
open Go.RowKit
def isBl (c : UInt8) : Bool := c == 32 || c == 9 || c == 10 || c == 13
def nmC (c : UInt8) : Bool := sgnB c || c == 58
def blankR (s : List UInt8) : List UInt8 := s.dropWhile isBl
def nameR (s : List UInt8) : Option (List UInt8 × List UInt8) := if nameB (s.takeWhile nmC) = true then some (s.takeWhile nmC, s.dropWhile nmC) else none
def cutR : List UInt8 → List UInt8 → Option (List UInt8)
 | [], s => some s
 | _ :: _, [] => none
 | c :: t, x :: s => if x = c then cutR t s else none
def upR (p : UInt8 → Bool) (s : List UInt8) : Option (List UInt8 × List UInt8) := if s.any p = true then some (s.takeWhile (fun c => !p c), s.dropWhile (fun c => !p c)) else none
def attrR (s : List UInt8) : Option (List (List UInt8) × List UInt8) :=
 (nameR s).bind fun a => (cutR [61] (blankR a.2)).bind fun s => match blankR s with
  | [] => none
  | m :: t => if m = 34 ∨ m = 39 then (upR (fun c => c == m || c == 60) t).bind fun v => (cutR [m] v.2).bind fun s => (textD v.1).map fun u => ([a.1, u], s) else none
def moreB (s t : List UInt8) : Bool := decide (t.length < s.length) && (match t with | [] => false | c :: _ => c != 47 && c != 62)
def attrsR : Nat → List (List (List UInt8)) → List UInt8 → Option (List (List (List UInt8)) × List UInt8)
 | 0, _, _ => none
 | n + 1, out, s => if moreB s (blankR s) = true then (attrR (blankR s)).bind fun a => if out.length < 12 ∧ (out.any fun b => b.getD 0 [] == a.1.getD 0 []) = false then attrsR n (out ++ [a.1]) a.2 else none else some (out, blankR s)
def textK (u : List UInt8) : Tr := .node [[]] [] [] u
mutual
def elemP : Nat → Nat → List UInt8 → Except Nat (Tr × List UInt8)
 | 0, _, _ => .error 3
 | n + 1, d, s =>
  match (cutR [60] s).bind nameR with
  | none => .error 3
  | some (nm, s) =>
   if 12 < d + 1 then .error 10 else
   match attrsR (s.length + 1) [] s with
   | none => .error 3
   | some (ats, s) =>
    match s with
    | 47 :: t => match cutR [62] t with
     | none => .error 3
     | some s => .ok (.node [nm] ats [] [], s)
    | _ => match cutR [62] s with
     | none => .error 3
     | some s => match contP n (d + 1) [] s with
      | .error e => .error e
      | .ok (ks, s) => match (cutR [60, 47] s).bind nameR with
       | none => .error 3
       | some (nm', s) => if nm' = nm then match cutR [62] (blankR s) with
         | none => .error 3
         | some s => .ok (.node [nm] ats ks [], s)
        else .error 3
def contP : Nat → Nat → List Tr → List UInt8 → Except Nat (List Tr × List UInt8)
 | 0, _, _, _ => .error 3
 | n + 1, d, out, s =>
  match cutR [60, 47] s with
  | some _ => .ok (out, s)
  | none => match upR (fun c => c == 60) s with
   | none => .error 3
   | some ([], _) => match elemP n d s with
    | .error e => .error e
    | .ok (x, s) => contP n d (out ++ [x]) s
   | some (t, s) => match textD t with
    | none => .error 3
    | some u => contP n d (out ++ [textK u]) s
end
def parseE (s : List UInt8) : Except Nat Tr :=
 if 20000 < s.length then .error 2 else
 match elemP (2 * s.length + 2) 0 s with
 | .error e => .error e
 | .ok (x, []) => .ok x
 | .ok (_, _ :: _) => .error 3
theorem part_all {l : List UInt8} (h : partB l = true) : l.all nmC = true ∧ ∃ c t, l = c :: t ∧ letB c = true := by
 unfold partB at h
 cases l with
 | nil => cases h
 | cons c t =>
  simp only [bA] at h
  refine ⟨?_, c, t, rfl, h.1.2⟩
  rw [List.all_eq_true]
  intro x hx
  unfold nmC
  rw [List.all_eq_true.1 h.2 x hx]
  rfl
theorem cutB_app {c : UInt8} : ∀ {s a b : List UInt8}, cutB c s = some (a, b) → s = a ++ c :: b
 | [], a, b, h => by cases h
 | x :: xs, a, b, h => by
  rw [cutB_cons] at h
  split at h
  ·rename_i e; cases h; rw [e]; rfl
  ·rw [oB] at h
   obtain ⟨⟨p, q⟩, h1, h2⟩ := h
   cases h2
   rw [cutB_app h1]
   rfl
theorem name_all {l : List UInt8} (h : nameB l = true) : l.all nmC = true ∧ ∃ c t, l = c :: t ∧ letB c = true := by
 unfold nameB at h
 cases hc : cutB 58 l with
 | none => rw [hc] at h; exact part_all h
 | some p =>
  obtain ⟨a, b⟩ := p
  rw [hc] at h
  simp only [bA] at h
  obtain ⟨h1, c, t, rfl, h2⟩ := part_all h.1
  obtain ⟨h3, _⟩ := part_all h.2
  rw [cutB_app hc]
  refine ⟨?_, c, t ++ 58 :: b, rfl, h2⟩
  rw [List.all_append, h1, List.all_cons, h3]
  rfl
theorem take_stop {p : UInt8 → Bool} : ∀ {l m : List UInt8}, l.all p = true → (∀ c t, m = c :: t → p c = false) → (l ++ m).takeWhile p = l ∧ (l ++ m).dropWhile p = m
 | [], m, _, hm => by
  cases m with
  | nil => exact ⟨rfl, rfl⟩
  | cons c t =>
   have := hm c t rfl
   simp [List.takeWhile_cons, List.dropWhile_cons, this]
 | c :: l, m, h, hm => by
  rw [List.all_cons, bA] at h
  obtain ⟨h1, h2⟩ := take_stop h.2 hm
  rw [lD, List.takeWhile_cons, List.dropWhile_cons, h.1]
  simp only [if_true]
  rw [h1, h2]
  exact ⟨rfl, rfl⟩
theorem nameR_app {l m : List UInt8} (h : nameB l = true) (hm : ∀ c t, m = c :: t → nmC c = false) : nameR (l ++ m) = some (l, m) := by
 obtain ⟨h1, h2⟩ := take_stop (name_all h).1 hm
 unfold nameR
 rw [h1, h2, if_pos h]
theorem letB_no {c : UInt8} (h : letB c = true) : isBl c = false ∧ c ≠ 47 ∧ c ≠ 62 ∧ c ≠ 60 := by
 refine ⟨?_, ?_, ?_, ?_⟩
 ·cases hb : isBl c with
  | false => rfl
  | true =>
   unfold isBl at hb
   simp only [Bool.or_eq_true, beq_iff_eq] at hb
   rcases hb with ((rfl | rfl) | rfl) | rfl <;> exact absurd h (by decide)
 all_goals (rintro rfl; exact absurd h (by decide))
theorem blank_let {c : UInt8} (t : List UInt8) (h : isBl c = false) : blankR (c :: t) = c :: t := by
 unfold blankR
 rw [List.dropWhile_cons, h]
 rfl
theorem upR_stop {p : UInt8 → Bool} {l t : List UInt8} {c : UInt8} (hl : ∀ x ∈ l, p x = false) (hc : p c = true) : upR p (l ++ c :: t) = some (l, c :: t) := by
 have hl2 : l.all (fun c => !p c) = true := by
  rw [List.all_eq_true]
  intro x hx
  rw [hl x hx]
  rfl
 obtain ⟨h1, h2⟩ := take_stop (p := fun c => !p c) (m := c :: t) hl2 (fun d u e => by cases e; rw [hc]; rfl)
 unfold upR
 rw [h1, h2, if_pos]
 rw [List.any_append, List.any_cons, hc]
 simp
theorem attrR_app {nm v m : List UInt8} (hn : nameB nm = true) (hv : sigB v = true) : attrR (nm ++ ([61, 34] ++ escF true v ++ [34]) ++ m) = some ([nm, v], m) := by
 unfold attrR
 rw [List.append_assoc, nameR_app hn (fun c t e => by injection e with e1 e2; rw [← e1]; decide)]
 simp only [oC]
 show ((cutR [61] (blankR (61 :: 34 :: (escF true v ++ [34] ++ m)))).bind _) = _
 rw [blank_let _ (show isBl 61 = false by decide)]
 show ((some (34 :: (escF true v ++ [34] ++ m)) : Option (List UInt8)).bind _) = _
 simp only [oC]
 rw [blank_let _ (show isBl 34 = false by decide)]
 simp only
 rw [if_pos (by simp), List.append_assoc]
 show ((upR (fun c => c == 34 || c == 60) (escF true v ++ 34 :: m)).bind _) = _
 rw [upR_stop (c := 34) (fun x hx => by
  have := esc_marks true v.length v (nR _) x hx
  simp [this.1, this.2 rfl]) (by decide)]
 simp only [oC]
 show ((some m : Option (List UInt8)).bind _) = _
 simp only [oC]
 rw [textD_esc true v hv]
 rfl
def stops (m : List UInt8) : Prop := ∃ c t, m = c :: t ∧ (c = 47 ∨ c = 62)
theorem attrsR_app : ∀ (ats : List (List (List UInt8))) (n : Nat) (out : List (List (List UInt8))) (m : List UInt8), ats.length < n → out.length + ats.length ≤ 12 → (∀ a ∈ ats, a.length = 2) → atsB (out.map fun a => a.getD 0 []) ats = true → stops m →
  attrsR n out (ats.flatMap atT ++ m) = some (out ++ ats, m)
 | _, 0, _, _, h, _, _, _, _ => by omega
 | [], n + 1, out, m, _, _, _, _, hm => by
  obtain ⟨c, t, rfl, hc⟩ := hm
  have hb : isBl c = false := by rcases hc with rfl | rfl <;> decide
  show attrsR (n + 1) out (c :: t) = _
  unfold attrsR
  rw [blank_let t hb, if_neg, List.append_nil]
  unfold moreB
  simp
 | a :: ats, n + 1, out, m, hn, ho, h2, hb, hm => by
  have ha2 := h2 a (by simp)
  obtain ⟨nm, v, rfl⟩ : ∃ nm v, a = [nm, v] := by
   match a, ha2 with
   | [x, y], _ => exact ⟨x, y, rfl⟩
  unfold atsB at hb
  simp only [bA, Bool.not_eq_true'] at hb
  obtain ⟨⟨⟨b1, b2⟩, b3⟩, b4⟩ := hb
  have b1 : nameB nm = true := b1
  have b2 : sigB v = true := b2
  obtain ⟨_, c, t, rfl, hl⟩ := name_all b1
  obtain ⟨l1, l2, l3, _⟩ := letB_no hl
  have e : ([c :: t, v] :: ats).flatMap atT ++ m = 32 :: ((c :: t) ++ ([61, 34] ++ escF true v ++ [34]) ++ (ats.flatMap atT ++ m)) := by
   simp [atT]
  rw [e]
  have hbl : blankR (32 :: ((c :: t) ++ ([61, 34] ++ escF true v ++ [34]) ++ (ats.flatMap atT ++ m))) = (c :: t) ++ ([61, 34] ++ escF true v ++ [34]) ++ (ats.flatMap atT ++ m) := by
   unfold blankR
   rw [List.dropWhile_cons, show isBl 32 = true by decide]
   simp only [if_true]
   rw [show (c :: t) ++ ([61, 34] ++ escF true v ++ [34]) ++ (ats.flatMap atT ++ m) = c :: (t ++ ([61, 34] ++ escF true v ++ [34]) ++ (ats.flatMap atT ++ m)) by simp, List.dropWhile_cons, l1]
   rfl
  unfold attrsR
  rw [hbl, if_pos]
  refine (congrArg (fun z => Option.bind z _) (attrR_app (nm := c :: t) (v := v) (m := ats.flatMap atT ++ m) b1 b2)).trans ?_
  ·simp only [oC]
   rw [if_pos, attrsR_app ats n (out ++ [[c :: t, v]]) m (by simp at hn; omega) (by simp at ho ⊢; omega) (fun x hx => h2 x (by simp [hx])) (by rw [List.map_append]; exact b4) hm]
   ·simp
   ·refine ⟨by simp at ho; omega, ?_⟩
    rw [← b3, List.contains_eq_any_beq, List.any_map]
    congr 1
    funext b
    simp [Function.comp_def, BEq.comm]
  ·unfold moreB
   rw [show (c :: t) ++ ([61, 34] ++ escF true v ++ [34]) ++ (ats.flatMap atT ++ m) = c :: (t ++ ([61, 34] ++ escF true v ++ [34]) ++ (ats.flatMap atT ++ m)) by simp]
   simp [l2, l3]
end
section
open Go.RowKit
mutual
def Tr.fu : Tr → Nat
 | .node nm _ ks _ => if nm.getD 0 [] = [] then 0 else 2 + Tr.fuL ks
def Tr.fuL : List Tr → Nat
 | [] => 0
 | k :: ks => 1 + k.fu + Tr.fuL ks
end
theorem at_head (ats : List (List (List UInt8))) (m : List UInt8) (hm : stops m) : ∀ c t, ats.flatMap atT ++ m = c :: t → nmC c = false := by
 intro c t e
 cases ats with
 | nil =>
  obtain ⟨x, u, rfl, hx⟩ := hm
  have e : x :: u = c :: t := e
  injection e with e1 e2
  subst e1
  rcases hx with rfl | rfl <;> decide
 | cons a ats =>
  have e : (32 : UInt8) :: _ = c :: t := e
  injection e with e1 e2
  subst e1
  decide
theorem at_count : ∀ (ats : List (List (List UInt8))), ats.length ≤ (ats.flatMap atT).length
 | [] => by simp
 | a :: ats => by
  have := at_count ats
  rw [List.flatMap_cons, lF]
  have : 1 ≤ (atT a).length := by unfold atT; simp
  rw [lH]
  omega
theorem name_ne {l : List UInt8} (h : nameB l = true) : l ≠ [] := by
 obtain ⟨_, c, t, rfl, _⟩ := name_all h
 simp
theorem kids_head (d : Nat) (ks : List Tr) (m : List UInt8) (h : Tr.rgtL d true ks = true) : ∃ t, Tr.wrtL ks ++ 60 :: m = 60 :: t := by
 cases ks with
 | nil => exact ⟨m, by rw [wrtL_nil]; rfl⟩
 | cons k ks =>
  unfold Tr.rgtL at h
  split at h
  ·rename_i hn
   obtain ⟨nm, ats, kk, tx⟩ := k
   have hn : nm.getD 0 [] ≠ [] := by simpa [Tr.name, Tr.nm] using hn
   rw [wrtL_cons]
   unfold Tr.wrt
   rw [if_neg hn]
   exact ⟨_, by simp only [List.append_assoc, lD, lE]; rfl⟩
  ·unfold txtB at h
   simp at h
mutual
theorem elem_app : ∀ (e : Tr) (n d : Nat) (m : List UInt8), e.ok 1 → e.rgt (d + 1) = true → e.fu ≤ n → elemP n d (e.wrt ++ m) = .ok (e, m)
 | .node nm ats ks tx, n, d, m, hok, hr, hn => by
  unfold Tr.ok at hok
  obtain ⟨h1, h2, h3⟩ := hok
  obtain ⟨a, rfl⟩ := one_of h1
  unfold Tr.rgt at hr
  simp only [bA, decide_eq_true_eq, beq_iff_eq] at hr
  obtain ⟨⟨⟨⟨⟨r1, r2⟩, r3⟩, r4⟩, r5⟩, r6⟩ := hr
  have r2 : nameB a = true := r2
  subst r3
  have hane : a ≠ [] := name_ne r2
  unfold Tr.fu at hn
  rw [if_neg (show ¬ ([a] : List (List UInt8)).getD 0 [] = [] from hane)] at hn
  obtain ⟨n, rfl⟩ : ∃ k, n = k + 1 := ⟨n - 1, by omega⟩
  unfold Tr.wrt
  rw [if_neg (show ¬ ([a] : List (List UInt8)).getD 0 [] = [] from hane)]
  by_cases hk : ks.length = 0
  ·obtain rfl : ks = [] := List.length_eq_zero_iff.1 hk
   rw [if_pos (show ([] : List Tr).length = 0 from rfl)]
   rw [show [60] ++ ([a] : List (List UInt8)).getD 0 [] ++ ats.flatMap atT ++ [47, 62] ++ m = 60 :: (a ++ (ats.flatMap atT ++ (47 :: 62 :: m))) by simp]
   unfold elemP
   rw [show (cutR [60] (60 :: (a ++ (ats.flatMap atT ++ (47 :: 62 :: m))))).bind nameR = some (a, ats.flatMap atT ++ (47 :: 62 :: m)) from by
    show (some _ : Option (List UInt8)).bind nameR = _
    exact nameR_app r2 (at_head ats _ ⟨_, _, rfl, .inl rfl⟩)]
   simp only
   rw [if_neg (by omega), attrsR_app ats _ [] (47 :: 62 :: m) (by have := at_count ats; rw [lF]; omega) (by simpa using r5) h2 r4 ⟨_, _, rfl, .inl rfl⟩]
   simp only [lE]
   rw [show cutR [62] (62 :: m) = some m from rfl]
  ·rw [if_neg hk]
   rw [show [60] ++ ([a] : List (List UInt8)).getD 0 [] ++ ats.flatMap atT ++ ([62] ++ Tr.wrtL ks ++ ([60, 47] ++ ([a] : List (List UInt8)).getD 0 [] ++ [62])) ++ m = 60 :: (a ++ (ats.flatMap atT ++ (62 :: (Tr.wrtL ks ++ 60 :: 47 :: (a ++ 62 :: m))))) by simp]
   unfold elemP
   rw [show (cutR [60] (60 :: (a ++ (ats.flatMap atT ++ (62 :: (Tr.wrtL ks ++ 60 :: 47 :: (a ++ 62 :: m))))))).bind nameR = some (a, ats.flatMap atT ++ (62 :: (Tr.wrtL ks ++ 60 :: 47 :: (a ++ 62 :: m)))) from by
    show (some _ : Option (List UInt8)).bind nameR = _
    exact nameR_app r2 (at_head ats _ ⟨_, _, rfl, .inr rfl⟩)]
   simp only
   rw [if_neg (by omega), attrsR_app ats _ [] (62 :: (Tr.wrtL ks ++ 60 :: 47 :: (a ++ 62 :: m))) (by have := at_count ats; rw [lF]; omega) (by simpa using r5) h2 r4 ⟨_, _, rfl, .inr rfl⟩]
   simp only [lE]
   split
   ·rename_i e
    injection e with e1 _
    exact absurd e1 (by decide)
   rw [show cutR [62] (62 :: (Tr.wrtL ks ++ 60 :: 47 :: (a ++ 62 :: m))) = some (Tr.wrtL ks ++ 60 :: 47 :: (a ++ 62 :: m)) from rfl]
   simp only
   rw [cont_app ks n (d + 1) false [] (a ++ 62 :: m) h3 r6 (by omega)]
   simp only [lE]
   rw [show (cutR [60, 47] (60 :: 47 :: (a ++ 62 :: m))).bind nameR = some (a, 62 :: m) from by
    show (some _ : Option (List UInt8)).bind nameR = _
    exact nameR_app r2 (fun c t e => by injection e with e1 e2; rw [← e1]; decide)]
   simp only
   rw [if_pos trivial, blank_let m (show isBl 62 = false by decide), show cutR [62] (62 :: m) = some m from rfl]
theorem cont_app : ∀ (ks : List Tr) (n d : Nat) (prev : Bool) (out : List Tr) (m : List UInt8), Tr.okL 1 ks → Tr.rgtL d prev ks = true → 1 + Tr.fuL ks ≤ n → contP n d out (Tr.wrtL ks ++ 60 :: 47 :: m) = .ok (out ++ ks, 60 :: 47 :: m)
 | [], n, d, prev, out, m, _, _, hn => by
  obtain ⟨n, rfl⟩ : ∃ k, n = k + 1 := ⟨n - 1, by omega⟩
  rw [wrtL_nil, lE, List.append_nil]
  unfold contP
  rw [show cutR [60, 47] (60 :: 47 :: m) = some m from rfl]
 | k :: ks, n, d, prev, out, m, hok, hr, hn => by
  unfold Tr.okL at hok
  unfold Tr.fuL at hn
  obtain ⟨n, rfl⟩ : ∃ j, n = j + 1 := ⟨n - 1, by omega⟩
  unfold Tr.rgtL at hr
  rw [wrtL_cons, List.append_assoc]
  split at hr
  ·rename_i hnm
   rw [bA] at hr
   have hh : ∃ c t, k.wrt ++ (Tr.wrtL ks ++ 60 :: 47 :: m) = 60 :: c :: t ∧ letB c = true := by
    obtain ⟨nm, ats, kk, tx⟩ := k
    have hnm : nm.getD 0 [] ≠ [] := by simpa [Tr.name, Tr.nm] using hnm
    have h := hr.1
    unfold Tr.rgt at h
    simp only [bA] at h
    obtain ⟨_, c, t, e, hl⟩ := name_all h.1.1.1.1.2
    unfold Tr.wrt
    rw [if_neg hnm, e]
    exact ⟨c, _, by simp only [List.append_assoc, lD, lE]; rfl, hl⟩
   obtain ⟨c, t, he, hl⟩ := hh
   have hc47 := (letB_no hl).2.1
   unfold contP
   rw [show cutR [60, 47] (k.wrt ++ (Tr.wrtL ks ++ 60 :: 47 :: m)) = none from by
    rw [he]
    show (if c = 47 then cutR [] t else none) = none
    rw [if_neg hc47]]
   simp only
   rw [show upR (fun c => c == 60) (k.wrt ++ (Tr.wrtL ks ++ 60 :: 47 :: m)) = some ([], k.wrt ++ (Tr.wrtL ks ++ 60 :: 47 :: m)) from by
    rw [he]
    exact upR_stop (l := []) (fun x hx => by cases hx) (by decide)]
   simp only
   rw [elem_app k n d (Tr.wrtL ks ++ 60 :: 47 :: m) hok.1 hr.1 (by omega)]
   simp only
   rw [cont_app ks n d false (out ++ [k]) m hok.2 hr.2 (by omega)]
   simp
  ·rename_i hnm
   rw [bA] at hr
   obtain ⟨nm, ats, kk, tx⟩ := k
   have hnm2 : nm.getD 0 [] = [] := by simpa [Tr.name, Tr.nm] using hnm
   clear hnm
   have h := hr.1
   unfold txtB at h
   simp only [bA, Bool.not_eq_true', beq_eq_false_iff_ne, decide_eq_true_eq] at h
   obtain ⟨⟨⟨⟨t1, t2⟩, t3⟩, t4⟩, t5⟩ := h
   have t1 : tx ≠ [] := t1
   have t5 : sigB tx = true := t5
   obtain rfl : ats = [] := List.length_eq_zero_iff.1 t3
   obtain rfl : kk = [] := List.length_eq_zero_iff.1 t4
   have hok1 := hok.1
   unfold Tr.ok at hok1
   obtain ⟨a, rfl⟩ := one_of hok1.1
   have ha : a = [] := hnm2
   subst ha
   obtain ⟨t, ht⟩ := kids_head d ks (47 :: m) hr.2
   unfold Tr.wrt
   rw [if_pos (show ([[]] : List (List UInt8)).getD 0 [] = [] from rfl), ht]
   have hm1 : ∀ x ∈ escF false tx, x ≠ 60 := fun x hx => (esc_marks false tx.length tx (nR _) x hx).1
   have hne : escF false tx ≠ [] := esc_ne (v := false) t1 t5
   have htd : textD (escF false tx) = some tx := textD_esc false tx t5
   generalize escF false tx = u at *
   obtain ⟨x, xs, rfl⟩ : ∃ x xs, u = x :: xs := by
    cases u with
    | nil => exact absurd rfl hne
    | cons x xs => exact ⟨x, xs, rfl⟩
   have hx60 := hm1 x (by simp)
   unfold contP
   rw [show cutR [60, 47] (x :: xs ++ 60 :: t) = none from by
    show (if x = 60 then cutR [47] (xs ++ 60 :: t) else none) = none
    rw [if_neg hx60]]
   simp only
   rw [upR_stop (p := fun c => c == 60) (l := x :: xs) (c := 60) (fun y hy => by simpa using hm1 y hy) (by decide)]
   simp only
   rw [htd]
   simp only
   rw [← ht, cont_app ks n d true (out ++ [textK tx]) m hok.2 hr.2 (by omega)]
   simp [textK]
end
end
section
open Go.RowKit
mutual
theorem fu_el : ∀ (e : Tr) (d : Nat), e.ok 1 → e.rgt d = true → e.fu + 2 ≤ e.wrt.length
 | .node nm ats ks tx, d, hok, hr => by
  unfold Tr.ok at hok
  obtain ⟨h1, h2, h3⟩ := hok
  obtain ⟨a, rfl⟩ := one_of h1
  unfold Tr.rgt at hr
  simp only [bA, decide_eq_true_eq, beq_iff_eq] at hr
  obtain ⟨⟨⟨⟨⟨_, r2⟩, _⟩, _⟩, _⟩, r6⟩ := hr
  have r2 : nameB a = true := r2
  have hane : a ≠ [] := name_ne r2
  have hal : 0 < a.length := List.length_pos_iff.2 hane
  have h := fu_kids ks d false h3 r6
  unfold Tr.fu Tr.wrt
  rw [if_neg (show ¬ ([a] : List (List UInt8)).getD 0 [] = [] from hane), if_neg (show ¬ ([a] : List (List UInt8)).getD 0 [] = [] from hane)]
  cases ks with
  | nil =>
   rw [if_pos (show ([] : List Tr).length = 0 from rfl)]
   simp only [Tr.fuL, lF, lH, lP, lS]
   omega
  | cons k ks =>
   rw [if_neg (show ¬ (k :: ks).length = 0 by simp)]
   simp only [lF, lH, lP, lS]
   omega
theorem fu_kids : ∀ (ks : List Tr) (d : Nat) (prev : Bool), Tr.okL 1 ks → Tr.rgtL d prev ks = true → Tr.fuL ks ≤ (Tr.wrtL ks).length
 | [], _, _, _, _ => by unfold Tr.fuL; omega
 | k :: ks, d, prev, hok, hr => by
  unfold Tr.okL at hok
  unfold Tr.rgtL at hr
  rw [wrtL_cons, lF]
  unfold Tr.fuL
  split at hr
  ·rw [bA] at hr
   have h1 := fu_el k (d + 1) hok.1 hr.1
   have h2 := fu_kids ks d false hok.2 hr.2
   omega
  ·rename_i hnm
   rw [bA] at hr
   have h2 := fu_kids ks d true hok.2 hr.2
   obtain ⟨nm, ats, kk, tx⟩ := k
   have hnm2 : nm.getD 0 [] = [] := by simpa [Tr.name, Tr.nm] using hnm
   have h := hr.1
   unfold txtB at h
   simp only [bA, Bool.not_eq_true', beq_eq_false_iff_ne, decide_eq_true_eq] at h
   obtain ⟨⟨⟨⟨t1, _⟩, _⟩, _⟩, t5⟩ := h
   have t1 : tx ≠ [] := t1
   have t5 : sigB tx = true := t5
   have := List.length_pos_iff.2 (esc_ne (v := false) t1 t5)
   unfold Tr.fu Tr.wrt
   rw [if_pos hnm2, if_pos hnm2]
   omega
end
theorem parse_wrt {e : Tr} (hok : e.ok 1) (h : textE e = 0) : parseE e.wrt = .ok e := by
 unfold textE at h
 have hr : e.rgt 1 = true := by
  cases hr : e.rgt 1 with
  | true => rfl
  | false => rw [hr, if_pos rfl] at h; cases h
 rw [hr, if_neg (by decide)] at h
 have hl : ¬ 20000 < e.wrt.length := by
  intro hl
  rw [if_pos hl] at h
  cases h
 have hf := fu_el e 1 hok hr
 have := elem_app e (2 * e.wrt.length + 2) 0 [] hok hr (by omega)
 rw [List.append_nil] at this
 unfold parseE
 rw [if_neg hl, this]
end
section
open Go.RowKit
theorem cut_index (c : UInt8) : ∀ s : List UInt8, (cutB c s = none ∧ Lib.index s [c] = -1) ∨ ∃ a b, cutB c s = some (a, b) ∧ Lib.index s [c] = (a.length : Int)
 | [] => .inl ⟨rfl, rfl⟩
 | x :: xs => by
  rw [cutB_cons]
  unfold Lib.index
  by_cases h : x = c
  ·subst h
   rw [if_pos rfl, if_pos (by simp [List.isPrefixOf])]
   exact .inr ⟨[], xs, rfl, rfl⟩
  ·rw [if_neg h, if_neg (by simp [List.isPrefixOf, Ne.symm h])]
   rcases cut_index c xs with ⟨h1, h2⟩ | ⟨a, b, h1, h2⟩
   ·rw [h1, h2]
    exact .inl ⟨rfl, rfl⟩
   ·rw [h1, h2]
    refine .inr ⟨x :: a, b, rfl, ?_⟩
    have : ((a.length : Int) == -1) = false := by rw [beq_eq_false_iff_ne]; omega
    rw [this]
    simp
theorem lib_cut (c : UInt8) (s : List UInt8) : Lib.cut s [c] = match cutB c s with | none => (s, [], false) | some (a, b) => (a, b, true) := by
 unfold Lib.cut
 rcases cut_index c s with ⟨h1, h2⟩ | ⟨a, b, h1, h2⟩
 ·rw [h1, h2]
  rfl
 ·rw [h1, h2, if_pos (by omega), cutB_app h1]
  simp
end
section
open Go.RowKit
theorem escOne_len (v : Bool) (l : List UInt8) : (escOne v l).length ≤ 6 := by
 unfold escOne
 split
 ·simp
 ·cases h : escT (Lib.decodeL l).1 v with
  | none =>
   show (l.take (Lib.decodeL l).2).length ≤ 6
   have : (Lib.decodeL l).2 ≤ 4 := by
    rw [Lib.decodeL_N]
    unfold Lib.decodeN
    (repeat' split)
    all_goals simp
   rw [List.length_take]
   omega
  | some t =>
   show t.length ≤ 6
   unfold escT at h
   repeat' split at h
   all_goals first | cases h | skip
   all_goals simp
end
section
open Go.RowKit
theorem dec_drop (s : ByteArray) (pos : Nat) : Utf8.decode s pos = Lib.decodeL (s.data.toList.drop pos) := by
 rw [Lib.decode_N, Lib.decodeL_N, List.length_drop]
 simp only [List.getD_eq_getElem?_getD, List.getElem?_drop, Nat.add_zero]
theorem drop_ne {s : ByteArray} {pos : Nat} (h : pos < s.size) : s.data.toList.drop pos ≠ [] := by
 intro e
 have := congrArg List.length e
 rw [List.length_drop, lP] at this
 have h2 : s.data.toList.length = s.size := Array.length_toList
 omega
theorem esc_at {v : Bool} {s : ByteArray} {pos : Nat} (h : pos < s.size) : escF v (s.data.toList.drop pos) = escOne v (s.data.toList.drop pos) ++ escF v (s.data.toList.drop (pos + (Utf8.decode s pos).2)) := by
 rw [escF_step v _ (drop_ne h), List.drop_drop, dec_drop]
theorem run_nil (n : Nat) : runGo n [] = true := by
 cases n with
 | zero => rfl
 | succ n => unfold runGo; rw [if_pos rfl]
theorem run_at {s : ByteArray} {pos n : Nat} (h : pos < s.size) : runGo (n + 1) (s.data.toList.drop pos) = if mayB (Utf8.decode s pos).1 = false then false else runGo n (s.data.toList.drop (pos + (Utf8.decode s pos).2)) := by
 conv => lhs; unfold runGo
 rw [if_neg (drop_ne h), List.drop_drop, dec_drop]
theorem bad_dec {s : ByteArray} {pos : Nat} : badB (s.data.toList.drop pos) = ((Utf8.decode s pos).1 == 65533 && (Utf8.decode s pos).2 == 1) := by
 unfold badB
 rw [dec_drop]
theorem esc_self {v : Bool} {s : ByteArray} {pos : Nat} (h : pos < s.size) (hb : badB (s.data.toList.drop pos) = false) (hm : mayB (Utf8.decode s pos).1 = true) (ht : escT (Utf8.decode s pos).1 v = none) : escOne v (s.data.toList.drop pos) = Lib.encodeRune ((Utf8.decode s pos).1 : Int) := by
 unfold escOne
 rw [dec_drop] at hm ht ⊢
 rw [if_neg (by simp [hb, hm]), ht]
 refine (Lib.encode_decode _ (drop_ne h) ?_).symm
 intro hh
 unfold badB at hb
 rw [hh.1, hh.2] at hb
 cases hb
theorem esc_by {v : Bool} {s : ByteArray} {pos : Nat} {t : List UInt8} (hb : badB (s.data.toList.drop pos) = false) (hm : mayB (Utf8.decode s pos).1 = true) (ht : escT (Utf8.decode s pos).1 v = some t) : escOne v (s.data.toList.drop pos) = t := by
 unfold escOne
 rw [dec_drop] at hm ht
 rw [if_neg (by simp [hb, hm]), ht]
 rfl
theorem esc_off {v : Bool} {s : ByteArray} {pos : Nat} (h : badB (s.data.toList.drop pos) = true ∨ mayB (Utf8.decode s pos).1 = false) : escOne v (s.data.toList.drop pos) = [] := by
 unfold escOne
 rw [dec_drop] at h
 rw [if_pos h]
end
end Go.Proofs.YthboiahdheehkaaGreatDoor
