/- SrpP -/
import Derived.Test.YthboiahdheehkaaGreatDoorPQ
import Derived.Test.YthboiahdheehkaaGreatDoorSJ
import Derived.Test.YthboiahdheehkaaGreatDoorBA
import Derived.Test.YthboiahdheehkaaGreatDoorPD
open List renaming length_append → lF
open Go.Value renaming string → S
open Go.Value renaming slice → C
open Go.Value renaming pointer → A
namespace Go.Proofs.YthboiahdheehkaaGreatDoor
open Go.RowKit
mutual
theorem TrC.toX {w : World} {P : Nat → Prop} : ∀ (x : Tr) (cs : List Value), TrC w P x cs → TrX w P x cs
 | .node nm ats ks t, cs, h => by
  unfold TrC at h
  unfold TrX
  obtain ⟨pa, ca, pk, ck, css, h1, h2, h3, h4⟩ := h
  exact ⟨pa, ca, pk, ck, css, h1, ⟨h2.1, h2.2.1, h2.2.2.1, fun _ a ha => h2.2.2.2 a ha⟩, ⟨h3.1, h3.2.1, h3.2.2.1, fun a ha => h3.2.2.2 a ha⟩, TrL.toX ks css h4⟩
theorem TrL.toX {w : World} {P : Nat → Prop} : ∀ (xs : List Tr) (css : List (List Value)), TrL w P xs css → TrXL w P xs css
 | [], css, h => by unfold TrL at h; unfold TrXL; exact h
 | x :: xs, css, h => by
  unfold TrL at h
  unfold TrXL
  obtain ⟨c, cs, h1, h2, h3⟩ := h
  exact ⟨c, cs, h1, TrC.toX x c h2, TrL.toX xs cs h3⟩
end
theorem piece_fit (q : List (List UInt8)) : (pieceT q).ok 2 ∧ (pieceT q).sm := by
 unfold pieceT Tr.ok Tr.sm
 split <;> split <;> simp [Tr.ok, Tr.okL, Tr.sm, Tr.smL]
theorem pieces_fit : ∀ (qs : List (List (List UInt8))), Tr.okL 2 (qs.map pieceT) ∧ Tr.smL (qs.map pieceT)
 | [] => by unfold Tr.okL Tr.smL; exact ⟨trivial, trivial⟩
 | q :: qs => by
  rw [List.map_cons]
  unfold Tr.okL Tr.smL
  exact ⟨⟨(piece_fit q).1, (pieces_fit qs).1⟩, (piece_fit q).2, (pieces_fit qs).2⟩
def Env.fit (e : Env) : Prop := (Tr.okL 2 e.hds ∧ e.bdy.ok 2) ∧ (Tr.smL e.hds ∧ e.bdy.sm) ∧ e.hds.length ≤ 1000000
theorem parts_fit (t0 t1 t2 t3 t4 : List UInt8) (qs : List (List (List UInt8))) (h : qs.length ≤ 1000) : (partsE t0 t1 t2 t3 t4 qs).fit := by
 refine ⟨⟨(pieces_fit _).1, ?_⟩, ⟨(pieces_fit _).2, ?_⟩, ?_⟩
 ·cases qs with
  | nil => show zeroT2.ok 2; unfold zeroT2 Tr.ok; simp [Tr.okL]
  | cons q qs => exact (piece_fit q).1
 ·cases qs with
  | nil => show zeroT2.sm; unfold zeroT2 Tr.sm; simp [Tr.smL]
  | cons q qs => exact (piece_fit q).2
 ·show ((qs.drop 1).map pieceT).length ≤ 1000000
  rw [List.length_map, List.length_drop]
  omega
end Go.Proofs.YthboiahdheehkaaGreatDoor
namespace Go.Proofs.YthboiahdheehkaaGreatDoor
end Go.Proofs.YthboiahdheehkaaGreatDoor
namespace Go.Proofs.YthboiahdheehkaaGreatDoor
open Go.RowKit
def TreeLike (T : World → (Nat → Prop) → Value → Prop) : Prop := (∀ w (P Q : Nat → Prop) v, (∀ b, P b → Q b) → T w P v → T w Q v) ∧ ∀ w w' P v, Below w.heap.size w w' → T w P v → T w' P v
def TvT (x : Tr) (w : World) (P : Nat → Prop) (v : Value) : Prop := ∃ cs : List Value, v = .agg cs.toArray ∧ TrX w P x cs
def TvE (e : Env) (w : World) (P : Nat → Prop) (v : Value) : Prop := ∃ cs : Array Value, v = .agg cs ∧ EnvX w P e cs
theorem TvT_like (x : Tr) : TreeLike (TvT x) :=
 ⟨fun _ _ _ _ h ⟨cs, e, t⟩ => ⟨cs, e, TrX.imp h _ _ t⟩, fun _ _ _ _ hb ⟨cs, e, t⟩ => ⟨cs, e, t.below hb⟩⟩
theorem EnvX.imp {w : World} {P Q : Nat → Prop} {e : Env} {cs : Array Value} (h : EnvX w P e cs) (hP : ∀ b, P b → Q b) : EnvX w Q e cs := by
 obtain ⟨ph, ch, cssH, b0, b1, bt, pa, na, ca, pk, nk, ck, h1, h2, h3, h4, h5, h6, h7, h8⟩ := h
 exact ⟨ph, ch, cssH, b0, b1, bt, pa, na, ca, pk, nk, ck, h1, h2, h3, h4, h5, fun a ha => hP _ (h6 a ha), TrXL.imp hP _ _ h7, TrX.imp hP _ _ h8⟩
theorem EnvX.below {w w' : World} {P : Nat → Prop} {e : Env} {cs : Array Value} (h : EnvX w P e cs) (hb : Below w.heap.size w w') : EnvX w' P e cs := by
 obtain ⟨ph, ch, cssH, b0, b1, bt, pa, na, ca, pk, nk, ck, h1, h2, h3, h4, h5, h6, h7, h8⟩ := h
 exact ⟨ph, ch, cssH, b0, b1, bt, pa, na, ca, pk, nk, ck, h1, h2, h3, h4, h5.keep (Below.keeps hb), h6, h7.below hb, h8.below hb⟩
theorem EnvX.only {g : Nat} {w w' : World} {P : Nat → Prop} {e : Env} {cs : Array Value} (h : EnvX w P e cs) (k : Only g w w') (hP : ∀ b, P b → b ≠ g) : EnvX w' P e cs := by
 obtain ⟨ph, ch, cssH, b0, b1, bt, pa, na, ca, pk, nk, ck, h1, h2, h3, h4, h5, h6, h7, h8⟩ := h
 exact ⟨ph, ch, cssH, b0, b1, bt, pa, na, ca, pk, nk, ck, h1, h2, h3, h4, h5.keepP h6 (fun a v hp hc => (World.cell?_of_block (k.block a.block (hP _ hp))).trans hc), h6, h7.only k hP, TrX.only h8 k hP⟩
theorem TvE_like (e : Env) : TreeLike (TvE e) :=
 ⟨fun _ _ _ _ h ⟨cs, e, t⟩ => ⟨cs, e, t.imp h⟩, fun _ _ _ _ hb ⟨cs, e, t⟩ => ⟨cs, e, t.below hb⟩⟩
def PTree (L : Nat) (T : World → (Nat → Prop) → Value → Prop) (val : Value → Prop) : Part := ⟨val, fun w v => T w (fun b => L ≤ b ∧ b < w.heap.size) v⟩
theorem PTree_stays {L : Nat} {T : World → (Nat → Prop) → Value → Prop} {val : Value → Prop} (h : TreeLike T) {w w' : World} {v : Value} (hb : Below w.heap.size w w') (hf : (PTree L T val).fact w v) : (PTree L T val).fact w' v :=
 h.1 _ _ _ _ (fun _ k => ⟨k.1, Nat.lt_of_lt_of_le k.2 hb.size⟩) (h.2 _ _ _ _ hb hf)
def JJ (L : Nat) (ts : List (Nat × (World → (Nat → Prop) → Value → Prop))) (ls : List Nat) (i : Nat) (v : Value) (j : Nat) (v' : Value) (w : World) : Prop :=
 (∀ T, (i, T) ∈ ts → j ∈ ls → ∀ g, v' = A (some ⟨g, 0, none⟩) → T w (fun b => L ≤ b ∧ b < w.heap.size ∧ b ≠ g) v) ∧ (i ∈ ls → j ∈ ls → v ≠ v')
theorem JJ_stays {L : Nat} {ts : List (Nat × (World → (Nat → Prop) → Value → Prop))} {ls : List Nat} (h : ∀ p ∈ ts, TreeLike p.2) {I : World → Prop} : ∀ i v j v' w w', I w → Below w.heap.size w w' → JJ L ts ls i v j v' w → JJ L ts ls i v j v' w' :=
 fun i v j v' w w' _ hb hj => ⟨fun T hT ha g hg => (h _ hT).1 _ _ _ _ (fun _ k => ⟨k.1, Nat.lt_of_lt_of_le k.2.1 hb.size, k.2.2⟩) ((h _ hT).2 _ _ _ _ hb (hj.1 T hT ha g hg)), hj.2⟩
theorem treeJ {L : Nat} {ps : List (Nat × Part)} {ts : List (Nat × (World → (Nat → Prop) → Value → Prop))} {ls : List Nat} {i : Nat} {T : World → (Nat → Prop) → Value → Prop} {val : Value → Prop} {w w' : World} {v : Value} (hL : TreeLike T) (hLw : L ≤ w.heap.size) (hT1 : ∀ T', (i, T') ∈ ts → T' = T) (hia : i ∉ ls)
  (hAs : ∀ j ∈ ls, ∀ q', planOf ps j = some q' → ∀ v', q'.fact w v' → ∀ g, v' = A (some ⟨g, 0, none⟩) → g < w.heap.size)
  (hv : val v) (hT : T w' (fun b => w.heap.size ≤ b ∧ b < w'.heap.size) v) (hb : Below w.heap.size w w') :
  ((PTree L T val).val v ∧ (PTree L T val).fact w' v ∧ Below w.heap.size w w') ∧ ∀ i' q', i' ≠ i → planOf ps i' = some q' → ∀ v', q'.val v' → q'.fact w v' → JJ L ts ls i' v' i v w' ∧ JJ L ts ls i v i' v' w' :=
 ⟨⟨hv, hL.1 _ _ _ _ (fun _ k => ⟨Nat.le_trans hLw k.1, k.2⟩) hT, hb⟩, fun i' q' _ hp v' _ hf => ⟨⟨fun _ _ ha => absurd ha hia, fun _ ha => absurd ha hia⟩, fun T' hm ha g hg => by
  obtain rfl := hT1 T' hm
  have := hAs i' ha q' hp v' hf g hg
  exact hL.1 _ _ _ _ (fun b k => ⟨Nat.le_trans hLw k.1, k.2, by have := k.1; omega⟩) hT, fun ha => absurd ha hia⟩⟩
theorem allocJ {L : Nat} {ps : List (Nat × Part)} {ts : List (Nat × (World → (Nat → Prop) → Value → Prop))} {ls : List Nat} {i B0 : Nat} {t : TypeId} {cells : Array Value} {w : World} (hB : B0 ≤ w.heap.size) (hni : ∀ T', (i, T') ∉ ts) (hAs : ∀ j ∈ ls, j ≠ i → ∀ q', planOf ps j = some q' → ∀ v', q'.fact w v' → ∀ g, v' = A (some ⟨g, 0, none⟩) → g < w.heap.size)
  (hTs : ∀ p ∈ ts, TreeLike p.2 ∧ ∀ q', planOf ps p.1 = some q' → ∀ v', q'.fact w v' → p.2 w (fun b => L ≤ b ∧ b < w.heap.size) v') :
  ((PNew B0 t cells).val (A (some ⟨w.heap.size, 0, none⟩)) ∧ (PNew B0 t cells).fact (w.alloc (.cells cells t)) (A (some ⟨w.heap.size, 0, none⟩)) ∧ Below w.heap.size w (w.alloc (.cells cells t))) ∧
   ∀ i' q', i' ≠ i → planOf ps i' = some q' → ∀ v', q'.val v' → q'.fact w v' → JJ L ts ls i' v' i (A (some ⟨w.heap.size, 0, none⟩)) (w.alloc (.cells cells t)) ∧ JJ L ts ls i (A (some ⟨w.heap.size, 0, none⟩)) i' v' (w.alloc (.cells cells t)) := by
 have hb := below_alloc1 w (.cells cells t)
 have hne : ∀ i' q', i' ≠ i → planOf ps i' = some q' → ∀ v', q'.fact w v' → i' ∈ ls → v' ≠ A (some ⟨w.heap.size, 0, none⟩) := fun i' q' hn hp v' hf hi e => absurd (hAs i' hi hn q' hp v' hf _ e) (Nat.lt_irrefl _)
 refine ⟨⟨⟨_, rfl⟩, fun g hg => ?_, hb⟩, fun i' q' hn hp v' _ hf => ⟨⟨fun T' hm _ g hg => ?_, fun hi _ => hne i' q' hn hp v' hf hi⟩, fun T' hm _ => absurd hm (hni T'), fun _ hi e => hne i' q' hn hp v' hf hi e.symm⟩⟩
 ·obtain rfl : w.heap.size = g := by simpa using hg
  exact ⟨hB, Blk.new _ _ _⟩
 ·obtain rfl : w.heap.size = g := by simpa using hg
  obtain ⟨hl, hq⟩ := hTs _ hm
  exact hl.1 _ _ _ _ (fun b k => ⟨k.1, by rw [World.size_alloc]; omega, by omega⟩) (hl.2 _ _ _ _ hb (hq q' hp v' hf))
theorem trx_cells {w : World} {P : Nat → Prop} {x : Tr} {cs : List Value} {b0 b1 : List UInt8} (h : TrX w P x cs) (hn : x.nm = [b0, b1]) : ∃ pa na ca pk nk ck bt, cs = [S (bs b0), S (bs b1), C pa na ca, C pk nk ck, S (bs bt)] := by
 obtain ⟨nm, ats, ks, t⟩ := x
 unfold TrX at h
 obtain ⟨pa, ca, pk, ck, css, rfl, _⟩ := h
 simp only [Tr.nm] at hn
 subst hn
 exact ⟨_, _, _, _, _, _, _, rfl⟩
end Go.Proofs.YthboiahdheehkaaGreatDoor
namespace Go.Proofs.YthboiahdheehkaaGreatDoor
open Go.RowKit
theorem rd_eq {w : World} {p : Option Addr} {xs ys : List Value} (h : Rd w p xs) (k : Rd w p ys) (hl : xs.length = ys.length) : xs = ys := by
 rcases h with rfl | ⟨b, off, rfl, hc⟩
 ·exact (List.eq_nil_of_length_eq_zero hl.symm).symm
 ·rcases k with rfl | ⟨b', off', hp, hc'⟩
  ·exact List.eq_nil_of_length_eq_zero hl
  ·cases hp
   refine List.ext_getElem hl fun i h1 h2 => ?_
   have e1 := hc i xs[i] (by simp)
   have e2 := hc' i ys[i] (by simp)
   exact Option.some.inj (e1.symm.trans e2)
theorem trxl_leneq {w w' : World} {P Q : Nat → Prop} : ∀ (xs : List Tr) (css dss : List (List Value)), TrXL w P xs css → TrXL w' Q xs dss → css.flatten.length = dss.flatten.length
 | [], css, dss, h, k => by unfold TrXL at h k; subst h; subst k; rfl
 | x :: xs, css, dss, h, k => by
  unfold TrXL at h k
  obtain ⟨c, cs, rfl, h1, h2⟩ := h
  obtain ⟨d, ds, rfl, k1, k2⟩ := k
  rw [List.flatten_cons, List.flatten_cons, lF, lF, h1.len, k1.len, trxl_leneq xs cs ds h2 k2]
theorem trxl_flateq {w w' : World} {P Q : Nat → Prop} : ∀ (xs : List Tr) (css dss : List (List Value)), TrXL w P xs css → TrXL w' Q xs dss → css.flatten = dss.flatten → css = dss
 | [], css, dss, h, k, _ => by unfold TrXL at h k; subst h; subst k; rfl
 | x :: xs, css, dss, h, k, e => by
  unfold TrXL at h k
  obtain ⟨c, cs, rfl, h1, h2⟩ := h
  obtain ⟨d, ds, rfl, k1, k2⟩ := k
  rw [List.flatten_cons, List.flatten_cons] at e
  obtain ⟨rfl, e2⟩ := List.append_inj e (h1.len.trans k1.len.symm)
  rw [trxl_flateq xs cs ds h2 k2 e2]
mutual
theorem TrX.and {w : World} {P Q : Nat → Prop} : ∀ (x : Tr) (cs : List Value), TrX w P x cs → TrX w Q x cs → TrX w (fun b => P b ∧ Q b) x cs
 | .node nm ats ks t, cs, h, k => by
  unfold TrX at h k ⊢
  obtain ⟨pa, ca, pk, ck, css, rfl, h2, h3, h4⟩ := h
  obtain ⟨qa, da, qk, dk, dss, e, k2, k3, k4⟩ := k
  have e := List.append_cancel_left e
  simp only [List.cons.injEq, Value.slice.injEq, and_true, true_and] at e
  obtain ⟨⟨rfl, rfl⟩, rfl, rfl⟩ := e
  have hf := rd_eq h3.2.2.1 k3.2.2.1 (trxl_leneq ks css dss h4 k4)
  obtain rfl := trxl_flateq ks css dss h4 k4 hf
  exact ⟨pa, ca, pk, ck, css, rfl, ⟨h2.1, h2.2.1, h2.2.2.1, fun e a ha => ⟨h2.2.2.2 e a ha, k2.2.2.2 e a ha⟩⟩, ⟨h3.1, h3.2.1, h3.2.2.1, fun a ha => ⟨h3.2.2.2 a ha, k3.2.2.2 a ha⟩⟩, TrXL.and ks css h4 k4⟩
theorem TrXL.and {w : World} {P Q : Nat → Prop} : ∀ (xs : List Tr) (css : List (List Value)), TrXL w P xs css → TrXL w Q xs css → TrXL w (fun b => P b ∧ Q b) xs css
 | [], css, h, _ => by unfold TrXL at h ⊢; exact h
 | x :: xs, css, h, k => by
  unfold TrXL at h k ⊢
  obtain ⟨c, cs, rfl, h1, h2⟩ := h
  obtain ⟨d, ds, e, k1, k2⟩ := k
  cases e
  exact ⟨c, cs, rfl, TrX.and x c h1 k1, TrXL.and xs cs h2 k2⟩
end
theorem EnvX.and {w : World} {P Q : Nat → Prop} {e : Env} {cs : Array Value} (h : EnvX w P e cs) (k : EnvX w Q e cs) : EnvX w (fun b => P b ∧ Q b) e cs := by
 obtain ⟨ph, ch, css, b0, b1, bt, pa, na, ca, pk, nk, ck, rfl, h2, h3, h4, h5, h6, h7, h8⟩ := h
 obtain ⟨qh, dh, dss, d0, d1, dt, qa, ma, da, qk, mk, dk, e1, k2, k3, k4, k5, k6, k7, k8⟩ := k
 have e1 := congrArg Array.toList e1
 simp only [List.cons.injEq, Value.slice.injEq, and_true, true_and] at e1
 obtain ⟨⟨rfl, rfl⟩, e5, e6, ⟨rfl, rfl, rfl⟩, ⟨rfl, rfl, rfl⟩, e7⟩ := e1
 rw [← e5, ← e6, ← e7] at k8
 have hf := rd_eq h5 k5 (trxl_leneq _ css dss h7 k7)
 obtain rfl := trxl_flateq _ css dss h7 k7 hf
 exact ⟨ph, ch, css, b0, b1, bt, pa, na, ca, pk, nk, ck, rfl, h2, h3, h4, h5, fun a ha => ⟨h6 a ha, k6 a ha⟩, TrXL.and _ _ h7 k7, TrX.and _ _ h8 k8⟩
def PEnv (e : Env) (val : Value → Prop) : Part := ⟨val, fun w v => ∃ cs : Array Value, v = .agg cs ∧ EnvC w e cs⟩
theorem PEnv_stays {e : Env} {val : Value → Prop} {w w' : World} {v : Value} (hb : Below w.heap.size w w') (h : (PEnv e val).fact w v) : (PEnv e val).fact w' v := by
 obtain ⟨cs, h1, h2⟩ := h
 exact ⟨cs, h1, h2.below hb⟩
theorem PEnv.get {e : Env} {val : Value → Prop} {w : World} {cs : Array Value} (h : (PEnv e val).fact w (.agg cs)) : EnvC w e cs := by
 obtain ⟨cs', h1, h2⟩ := h
 injection h1 with h1
 subst h1
 exact h2
theorem TvE.get {e : Env} {P : Nat → Prop} {w : World} {cs : Array Value} (h : TvE e w P (.agg cs)) : EnvX w P e cs := by
 obtain ⟨cs', h1, h2⟩ := h
 injection h1 with h1
 subst h1
 exact h2
theorem bodyT_any {w w' : World} {P Q : Nat → Prop} {cs : List Value} (h : TrX w P bodyT cs) (hP : ∀ b, P b → Q b) : TrX w' Q bodyT cs := by
 unfold bodyT TrX at h ⊢
 obtain ⟨pa, ca, pk, ck, css, e, h2, h3, h4⟩ := h
 unfold TrXL at h4
 subst h4
 exact ⟨pa, ca, pk, ck, [], e, ⟨h2.1, h2.2.1, .inl rfl, fun e => absurd rfl e⟩, ⟨h3.1, h3.2.1, .inl rfl, fun a ha => hP _ (h3.2.2.2 a ha)⟩, by unfold TrXL; rfl⟩
theorem bodyT_cells {w : World} {P : Nat → Prop} {cs : List Value} (h : TrX w P bodyT cs) : ∃ p c q d, cs = [S (bs [117]), S (bs [98]), C p 0 c, C q 0 d, S (bs [])] := by
 unfold bodyT TrX at h
 obtain ⟨pa, ca, pk, ck, css, rfl, _⟩ := h
 exact ⟨_, _, _, _, rfl⟩
theorem bodyT_envC {w w' : World} {P : Nat → Prop} {a b c d f : List UInt8} {p q : Option Addr} {n m : Nat} (h : TrX w P bodyT [S (bs [117]), S (bs [98]), C p 0 n, C q 0 m, S (bs [])]) (hP : ∀ b, P b → b < w'.heap.size) :
  EnvC w' ⟨a, b, c, d, f, [], bodyT⟩ #[S (bs a), S (bs b), S (bs c), S (bs d), S (bs f), C none 0 0, S (bs [117]), S (bs [98]), C p 0 n, C q 0 m, S (bs [])] :=
 ⟨none, 0, [], [117], [98], [], p, 0, n, q, 0, m, rfl, rfl, Nat.le_refl _, by decide, .inl rfl, rfl, bodyT_any h hP⟩
theorem rep_fit (a b c d f : List UInt8) : Env.fit ⟨a, b, c, d, f, [], bodyT⟩ := by
 refine ⟨⟨trivial, ?_⟩, ⟨trivial, ?_⟩, Nat.zero_le _⟩
 ·show bodyT.ok 2; unfold bodyT Tr.ok; simp [Tr.okL]
 ·show bodyT.sm; unfold bodyT Tr.sm; simp [Tr.smL]
end Go.Proofs.YthboiahdheehkaaGreatDoor
