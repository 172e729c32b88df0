/-
  Tree: elements in memory: trees of names, attributes, kids and texts. No program.
-/
import Derived.Test.YtgmiockaecklaaaGreatDoorBA
namespace Go.Proofs.YtgmiockaecklaaaGreatDoor
open Go.RowKit

/-- an element: its name's texts (one, or its space and its local part), its attributes (each the texts of its name, then its value), its kids, its text -/
inductive Tr where
  | node (nm : List (List UInt8)) (ats : List (List (List UInt8))) (ks : List Tr) (t : List UInt8)
def Tr.nm : Tr → List (List UInt8) | .node nm _ _ _ => nm
def Tr.ats : Tr → List (List (List UInt8)) | .node _ ats _ _ => ats
def Tr.ks : Tr → List Tr | .node _ _ ks _ => ks
def Tr.t : Tr → List UInt8 | .node _ _ _ t => t
theorem Tr.eta (x : Tr) : x = .node x.nm x.ats x.ks x.t := by cases x; rfl
def strs (l : List (List UInt8)) : List Value := l.map fun s => .string (bs s)
theorem strs_len (l : List (List UInt8)) : (strs l).length = l.length := by simp [strs]
/-- the cells of attributes -/
def acells (ats : List (List (List UInt8))) : List Value := ats.flatMap strs
mutual
/-- are the names of k texts? -/
def Tr.ok (k : Nat) : Tr → Prop
  | .node nm ats ks _ => nm.length = k ∧ (∀ a ∈ ats, a.length = k + 1) ∧ Tr.okL k ks
def Tr.okL (k : Nat) : List Tr → Prop
  | [] => True
  | x :: xs => x.ok k ∧ Tr.okL k xs
end
mutual
/-- THE CELLS cs ARE THE TREE in w; its rows stand in blocks of P -/
def TrC (w : World) (P : Nat → Prop) : Tr → List Value → Prop
  | .node nm ats ks t, cs => ∃ pa ca pk ck css, cs = strs nm ++ [.slice pa ats.length ca, .slice pk ks.length ck, .string (bs t)] ∧
      (ats.length ≤ ca ∧ ca ≤ maxLen ∧ Rd w pa (acells ats) ∧ ∀ a, pa = some a → P a.block) ∧
      (ks.length ≤ ck ∧ ck ≤ maxLen ∧ Rd w pk css.flatten ∧ ∀ a, pk = some a → P a.block) ∧ TrL w P ks css
def TrL (w : World) (P : Nat → Prop) : List Tr → List (List Value) → Prop
  | [], css => css = []
  | k :: ks, css => ∃ c cs, css = c :: cs ∧ TrC w P k c ∧ TrL w P ks cs
end
theorem Rd.keepP {w w' : World} {p : Option Addr} {xs : List Value} (h : Rd w p xs) {P : Nat → Prop} (hP : ∀ a, p = some a → P a.block) (hk : ∀ a v, P a.block → w.cell? a = some v → w'.cell? a = some v) : Rd w' p xs := by
  rcases h with h | ⟨b, off, hp, hc⟩
  · exact .inl h
  · exact .inr ⟨b, off, hp, fun i u hu => hk ⟨b, off + i, none⟩ _ (show P b from hP ⟨b, off, none⟩ hp) (hc i u hu)⟩
mutual
theorem TrC.keepP {w w' : World} {P : Nat → Prop} (hk : ∀ a v, P a.block → w.cell? a = some v → w'.cell? a = some v) : ∀ (x : Tr) (cs : List Value), TrC w P x cs → TrC w' P x cs
  | .node nm ats ks t, cs, h => by
    unfold TrC at h ⊢
    obtain ⟨pa, ca, pk, ck, css, h1, h2, h3, h4⟩ := h
    exact ⟨pa, ca, pk, ck, css, h1, ⟨h2.1, h2.2.1, h2.2.2.1.keepP h2.2.2.2 hk, h2.2.2.2⟩, ⟨h3.1, h3.2.1, h3.2.2.1.keepP h3.2.2.2 hk, h3.2.2.2⟩, TrL.keepP hk ks css h4⟩
theorem TrL.keepP {w w' : World} {P : Nat → Prop} (hk : ∀ a v, P a.block → w.cell? a = some v → w'.cell? a = some v) : ∀ (xs : List Tr) (css : List (List Value)), TrL w P xs css → TrL w' P xs css
  | [], css, h => by unfold TrL at h ⊢; exact h
  | x :: xs, css, h => by
    unfold TrL at h ⊢
    obtain ⟨c, cs, h1, h2, h3⟩ := h
    exact ⟨c, cs, h1, TrC.keepP hk x c h2, TrL.keepP hk xs cs h3⟩
end
mutual
theorem TrC.imp {w : World} {P Q : Nat → Prop} (hk : ∀ b, P b → Q b) : ∀ (x : Tr) (cs : List Value), TrC w P x cs → TrC w Q x cs
  | .node nm ats ks t, cs, h => by
    unfold TrC at h ⊢
    obtain ⟨pa, ca, pk, ck, css, h1, h2, h3, h4⟩ := h
    exact ⟨pa, ca, pk, ck, css, h1, ⟨h2.1, h2.2.1, h2.2.2.1, fun a ha => hk _ (h2.2.2.2 a ha)⟩, ⟨h3.1, h3.2.1, h3.2.2.1, fun a ha => hk _ (h3.2.2.2 a ha)⟩, TrL.imp hk ks css h4⟩
theorem TrL.imp {w : World} {P Q : Nat → Prop} (hk : ∀ b, P b → Q b) : ∀ (xs : List Tr) (css : List (List Value)), TrL w P xs css → TrL w Q xs css
  | [], css, h => by unfold TrL at h ⊢; exact h
  | x :: xs, css, h => by
    unfold TrL at h ⊢
    obtain ⟨c, cs, h1, h2, h3⟩ := h
    exact ⟨c, cs, h1, TrC.imp hk x c h2, TrL.imp hk xs cs h3⟩
end
theorem TrC.below {w w' : World} {P : Nat → Prop} {x : Tr} {cs : List Value} (h : TrC w P x cs) (hb : Below w.heap.size w w') : TrC w' P x cs := h.keepP (fun a v _ hv => Below.keeps hb a v hv)
theorem TrL.below {w w' : World} {P : Nat → Prop} {xs : List Tr} {css : List (List Value)} (h : TrL w P xs css) (hb : Below w.heap.size w w') : TrL w' P xs css := h.keepP (fun a v _ hv => Below.keeps hb a v hv)
/-- the value of a tree -/
def TrV (w : World) (P : Nat → Prop) (x : Tr) (v : Value) : Prop := ∃ cs, v = .agg cs.toArray ∧ TrC w P x cs
theorem TrV.below {w w' : World} {P : Nat → Prop} {x : Tr} {v : Value} (h : TrV w P x v) (hb : Below w.heap.size w w') : TrV w' P x v := by
  obtain ⟨cs, rfl, hc⟩ := h
  exact ⟨cs, rfl, hc.below hb⟩
theorem TrC.len {w : World} {P : Nat → Prop} {x : Tr} {cs : List Value} (h : TrC w P x cs) : cs.length = x.nm.length + 3 := by
  cases x
  unfold TrC at h
  obtain ⟨pa, ca, pk, ck, css, rfl, _⟩ := h
  simp [strs_len, Tr.nm]
theorem TrL.len {w : World} {P : Nat → Prop} : ∀ {xs : List Tr} {css : List (List Value)}, TrL w P xs css → css.length = xs.length
  | [], css, h => by unfold TrL at h; rw [h]; rfl
  | x :: xs, css, h => by
    unfold TrL at h
    obtain ⟨c, cs, rfl, _, h3⟩ := h
    simp [TrL.len h3]
theorem TrL.get {w : World} {P : Nat → Prop} : ∀ {xs : List Tr} {css : List (List Value)}, TrL w P xs css → ∀ (i : Nat) (hi : i < xs.length), ∃ c, css[i]? = some c ∧ TrC w P xs[i] c
  | [], css, h, i, hi => by simp at hi
  | x :: xs, css, h, i, hi => by
    unfold TrL at h
    obtain ⟨c, cs, rfl, h2, h3⟩ := h
    cases i with
    | zero => exact ⟨c, rfl, h2⟩
    | succ i => exact h3.get i (by simpa using hi)
theorem TrL.app {w : World} {P : Nat → Prop} : ∀ {xs ys : List Tr} {css dss : List (List Value)}, TrL w P xs css → TrL w P ys dss → TrL w P (xs ++ ys) (css ++ dss)
  | [], ys, css, dss, h, h' => by unfold TrL at h; rw [h]; exact h'
  | x :: xs, ys, css, dss, h, h' => by
    unfold TrL at h
    obtain ⟨c, cs, rfl, h2, h3⟩ := h
    rw [List.cons_append, List.cons_append]
    unfold TrL
    exact ⟨c, cs ++ dss, rfl, h2, TrL.app h3 h'⟩
theorem TrL.one {w : World} {P : Nat → Prop} {x : Tr} {c : List Value} (h : TrC w P x c) : TrL w P [x] [c] := by
  unfold TrL
  exact ⟨c, [], rfl, h, by unfold TrL; rfl⟩
theorem okL_get (k : Nat) : ∀ (xs : List Tr), Tr.okL k xs → ∀ (i : Nat) (hi : i < xs.length), (xs[i]).ok k
  | [], _, i, hi => by simp at hi
  | x :: xs, h, i, hi => by
    unfold Tr.okL at h
    cases i with
    | zero => exact h.1
    | succ i => exact okL_get k xs h.2 i (by simpa using hi)
/-- a cell of rows that are laid one behind the other -/
theorem flat_get {α : Type} (m : Nat) : ∀ (css : List (List α)), (∀ c ∈ css, c.length = m) → ∀ (i j : Nat) (c : List α) (u : α), css[i]? = some c → c[j]? = some u → css.flatten[i * m + j]? = some u
  | [], _, i, j, c, u, h, _ => by simp at h
  | d :: ds, hm, i, j, c, u, h, h' => by
    have hd : d.length = m := hm d (by simp)
    rw [List.flatten_cons]
    cases i with
    | zero =>
      rw [List.getElem?_cons_zero, Option.some.injEq] at h
      subst h
      rw [Nat.zero_mul, Nat.zero_add, List.getElem?_append_left (List.getElem?_eq_some_iff.1 h').1]
      exact h'
    | succ i =>
      rw [List.getElem?_append_right (by rw [hd, Nat.succ_mul]; omega), hd, show (i + 1) * m + j - m = i * m + j by rw [Nat.succ_mul]; omega]
      exact flat_get m ds (fun c hc => hm c (by simp [hc])) i j c u (by simpa using h) h'
/-- the cells of the attribute i -/
theorem at_cell {w : World} {p : Option Addr} {ats : List (List (List UInt8))} {k : Nat} (h : Rd w p (acells ats)) (hk : ∀ a ∈ ats, a.length = k + 1) {i : Nat} (hi : i < ats.length) :
    ∃ b off, p = some ⟨b, off, none⟩ ∧ ∀ (j : Nat) (hj : j < k + 1), w.cell? ⟨b, off + (i * (k + 1) + j), none⟩ = some (.string (bs (ats[i][j]'(by rw [hk _ (List.getElem_mem hi)]; exact hj)))) := by
  have hl : ats[i].length = k + 1 := hk _ (List.getElem_mem hi)
  have g : ∀ (j : Nat) (hj : j < k + 1), (acells ats)[i * (k + 1) + j]? = some (.string (bs (ats[i][j]'(by rw [hl]; exact hj)))) := by
    intro j hj
    unfold acells
    rw [List.flatMap_def]
    refine flat_get (k + 1) (ats.map strs) (fun c hc => ?_) i j (strs ats[i]) _ (by simp [hi]) (by simp [strs, hl, hj])
    obtain ⟨a, ha, rfl⟩ := List.mem_map.1 hc
    rw [strs_len, hk a ha]
  obtain ⟨b, off, hp, hc⟩ := h.has (fun e => by have := g 0 (by omega); rw [e] at this; simp at this)
  exact ⟨b, off, hp, fun j hj => hc _ _ (g j hj)⟩
/-- the cells of the kid i -/
theorem kid_cell {w : World} {p : Option Addr} {ks : List Tr} {css : List (List Value)} {P : Nat → Prop} {k : Nat} (h : Rd w p css.flatten) (hL : TrL w P ks css) (hk : Tr.okL k ks) {i : Nat} (hi : i < ks.length) :
    ∃ b off c, p = some ⟨b, off, none⟩ ∧ TrC w P ks[i] c ∧ c.length = k + 3 ∧ ∀ (j : Nat) (hj : j < c.length), w.cell? ⟨b, off + (i * (k + 3) + j), none⟩ = some c[j] := by
  obtain ⟨c, hc, hT⟩ := hL.get i hi
  have hlen : ∀ d ∈ css, d.length = k + 3 := by
    intro d hd
    obtain ⟨n, hn, rfl⟩ := List.getElem_of_mem hd
    have hn' : n < ks.length := by rw [← hL.len]; exact hn
    obtain ⟨d', hd', hT'⟩ := hL.get n hn'
    rw [List.getElem?_eq_getElem hn, Option.some.injEq] at hd'
    have ho := okL_get k ks hk n hn'
    rw [hd', hT'.len]
    cases hx : ks[n]
    rw [hx] at ho
    unfold Tr.ok at ho
    simp [Tr.nm, ho.1]
  have hcl : c.length = k + 3 := hlen c (List.mem_of_getElem? hc)
  have g : ∀ (j : Nat) (hj : j < c.length), css.flatten[i * (k + 3) + j]? = some c[j] := fun j hj => flat_get (k + 3) css hlen i j c _ hc (by simp [hj])
  obtain ⟨b, off, hp, hcc⟩ := h.has (fun e => by have := g 0 (by omega); rw [e] at this; simp at this)
  exact ⟨b, off, c, hp, hT, hcl, fun j hj => hcc _ _ (g j hj)⟩
end Go.Proofs.YtgmiockaecklaaaGreatDoor
