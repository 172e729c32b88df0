/-
  NetR2: the walks of the document's net: Put, Copy, Cut.
-/
import Derived.Test.YtbbhecadpbnobaaDoorNetR
import Derived.Test.YtbbhecadpbnobaaDoorNetV
namespace Go.Proofs.YtbbhecadpbnobaaDoor
open Go.RowKit
attribute [local go_sem] bs_toList bs_size
attribute [local irreducible] wpPhi wpPhiU

/-- the call gives r; the document's net is st -/
def MOut (m : Nat) (q : Option Nat) (R : List Nat) (st : NSt) (r : Value) (w : World) (e : Ending) (w' : World) : Prop :=
  e = .returned r ∧ (∃ q', Nx w q q' ∧ Mn w' m q' R st) ∧ But (mS m q R) w w'
theorem MOut.same {m : Nat} {q : Option Nat} {R : List Nat} {st : NSt} {r : Value} {w w' : World} (h : Mn w m q R st) (k : Below w.heap.size w w') : MOut m q R st r w (.returned r) w' :=
  ⟨rfl, ⟨q, .inl rfl, h.below k⟩, But.of_below k⟩
theorem Mn.not_m {w : World} {m : Nat} {q : Option Nat} {R : List Nat} {st : NSt} (h : Mn w m q R st) : m ∉ R ∧ q ≠ some m ∧ ∀ g ∈ R, q ≠ some g := by
  obtain ⟨⟨vL, vC, h1, h2, h3, h4⟩, h5, h6, h7⟩ := h
  have hR : ∀ g ∈ R, ∃ cs, Blk w g 4 cs := fun g hg => by
    obtain ⟨i, hi, rfl⟩ := List.getElem_of_mem hg
    exact ⟨_, h7 i hi⟩
  have hq : ∀ g, q = some g → ∃ cs, Blk w g 62 cs := fun g hg => by
    rcases h3.2 with ⟨h0, _⟩ | ⟨g9, cap, cur, h0, _, hh, _⟩
    · rw [← h1, h0] at hg; cases hg
    · rw [← h1, h0] at hg
      cases hg
      exact ⟨cur, hh⟩
  refine ⟨fun hm => ?_, fun hm => ?_, fun g hg hgq => ?_⟩
  · obtain ⟨cs, hcs⟩ := hR m hm
    exact Blk.ne_ h2 hcs (by decide) rfl
  · obtain ⟨cs, hcs⟩ := hq m hm
    exact Blk.ne_ h2 hcs (by decide) rfl
  · obtain ⟨cs, hcs⟩ := hR g hg
    obtain ⟨cs', hcs'⟩ := hq g hgq
    exact Blk.ne_ hcs hcs' (by decide) rfl
/-- other letters are stored -/
theorem Mn.stored {w w1 : World} {m : Nat} {q : Option Nat} {R : List Nat} {st : NSt} (h : Mn w m q R st) (k : But q.toList w w1) {v' : Value} {ls : List Lt} (hu : w1.ownsRow 0 62 3 v' ls.length (cel (toS ls))) :
    Mn (w1.setCell ⟨m, 1, none⟩ v') m v'.ownBlock R ⟨st.nodes, ls, st.cuts, st.lost⟩ ∧ But (mS m q R) w (w1.setCell ⟨m, 1, none⟩ v') := by
  obtain ⟨n1, n2, n3⟩ := h.not_m
  obtain ⟨⟨vL, vC, h1, h2, h3, h4⟩, h5, h6, h7⟩ := h
  have hqn : ∀ g T cs, Blk w g T cs → T ≠ 62 → q.toList.contains g = false := fun g T cs hb hT => by
    rw [Bool.eq_false_iff]
    intro hc
    have hg : q = some g := by simpa using hc
    rcases h3.2 with ⟨h0, _⟩ | ⟨g9, cap, cur, h0, _, hh, _⟩
    · rw [← h1, h0] at hg; cases hg
    · rw [← h1, h0] at hg
      cases hg
      exact Blk.ne_ hb (show Blk w _ _ cur from hh) hT rfl
  have hb1 := k.blk h2 (hqn _ _ _ h2 (by decide))
  have h41 : w1.ownsRow 0 23 1 vC R.length (rowVs R.length R) := k.owns2 (fun g hg => by
    rcases h4.2 with ⟨h0, _⟩ | ⟨g9, cap, cur, h0, _, hh, _⟩
    · rw [h0] at hg; cases hg
    · rw [h0] at hg
      cases hg
      exact hqn _ _ _ (show Blk w g9 _ cur from hh) (by decide)) h4
  have k2 : But [m] w1 (w1.setCell ⟨m, 1, none⟩ v') := (but_refl _ _).set_ m 1 _ (by simp)
  refine ⟨⟨⟨v', vC, rfl, hb1.set_ 1 v', own_but hu k2 hb1 (by decide), own_but h41 k2 hb1 (by decide)⟩, h5, h6, fun i hi => ?_⟩, ?_⟩
  · have hr := k.blk (h7 i hi) (hqn _ _ _ (h7 i hi) (by decide))
    exact k2.blk hr (by have := Blk.ne_ hr hb1 (by decide); simpa using this)
  · exact (k.more (fun g hg => mem_mS.2 (.inr (.inr (by simpa using hg))))).set_ m 1 _ (List.contains_iff_mem.2 (mem_mS.2 (.inl rfl)))
theorem Mn.setlost {w : World} {m : Nat} {q : Option Nat} {R : List Nat} {st : NSt} (h : Mn w m q R st) (x : Int) : Mn (w.setCell ⟨m, 3, none⟩ (.int .i64 x)) m q R ⟨st.nodes, st.ls, st.cuts, x⟩ ∧ But (mS m q R) w (w.setCell ⟨m, 3, none⟩ (.int .i64 x)) := by
  obtain ⟨⟨vL, vC, h1, h2, h3, h4⟩, h5, h6, h7⟩ := h
  have k2 : But [m] w (w.setCell ⟨m, 3, none⟩ (.int .i64 x)) := (but_refl _ _).set_ m 3 _ (by simp)
  refine ⟨⟨⟨vL, vC, h1, h2.set_ 3 _, own_but h3 k2 h2 (by decide), own_but h4 k2 h2 (by decide)⟩, h5, h6, fun i hi => ?_⟩, (but_refl _ _).set_ m 3 _ (List.contains_iff_mem.2 (mem_mS.2 (.inl rfl)))⟩
  exact k2.blk (h7 i hi) (by have := Blk.ne_ (h7 i hi) h2 (by decide); simpa using this)
theorem Mn.setcut {w : World} {m : Nat} {q : Option Nat} {R : List Nat} {st : NSt} (h : Mn w m q R st) (i j : Nat) (hi : i < R.length) (x : Bool) : Mn (w.setCell ⟨R[i], j, none⟩ (.bool x)) m q R ⟨st.nodes, st.ls, setW st.cuts i j x, st.lost⟩ ∧ But (mS m q R) w (w.setCell ⟨R[i], j, none⟩ (.bool x)) := by
  obtain ⟨⟨vL, vC, h1, h2, h3, h4⟩, h5, h6, h7⟩ := h
  have k2 : But [R[i]] w (w.setCell ⟨R[i], j, none⟩ (.bool x)) := (but_refl _ _).set_ R[i] j _ (by simp)
  refine ⟨⟨⟨vL, vC, h1, k2.blk h2 (by have := Blk.ne_ h2 (h7 i hi) (by decide); simpa using this), own_but h3 k2 (h7 i hi) (by decide), own_but h4 k2 (h7 i hi) (by decide)⟩, h5, h6, fun i' hi' => ?_⟩, (but_refl _ _).set_ R[i] j _ (List.contains_iff_mem.2 (mem_mS.2 (.inr (.inl (List.getElem_mem hi)))))⟩
  by_cases e : i' = i
  · subst e
    have := (h7 i' hi).set_ j (.bool x)
    rwa [cutRow_set] at this
  · have hne : R[i'] ≠ R[i] := fun he => e ((List.getElem_inj h6).1 he)
    have := (h7 i' hi').far hne j (.bool x)
    rw [show cutRow R.length (setW st.cuts i j x) i' = cutRow R.length st.cuts i' from cutRow_other x e]
    exact this
theorem Mn.has_nat {w : World} {m : Nat} {q : Option Nat} {R : List Nat} {st : NSt} (h : Mn w m q R st) {i : Int} (hi : st.has i = true) : ∃ k : Nat, k < R.length ∧ i = (k : Int) := by
  unfold NSt.has at hi
  rw [h.len, Bool.and_eq_true, decide_eq_true_eq, decide_eq_true_eq] at hi
  exact ⟨i.toNat, by omega, by omega⟩
/-- append within a drawn region; the old row's cells read as they did -/
theorem gives_appK {P : Program} {w : World} {o : Oper} {a : Act} {T : Value → World → Prop} (s x : Operand) (t : TypeId)
    (ho : o.op = .call { callee := .builtin .append, args := #[s, x], argTypes := #[t, t] })
    (base : Nat) (e : TypeId) (i : TypeInfo) (z : Value) (size bytes : Nat) (ht : P.underlying t = some (.slice e)) (hi : P.info? e = some i) (hz : i.zero = some z)
    (hsize : i.size = size) (hby : i.bytes = bytes) (hzs : z.cells.size = size) (hsz : 0 < size)
    (p0 : Option Addr) (c0 n : Nat) (xs : List Value) (hs : a.eval s = .slice p0 n c0) (hown : w.ownsRow base e size (.slice p0 n c0) n xs)
    (p : Option Addr) (m c : Nat) (news : List Value) (hx : a.eval x = .slice p m c) (hl : news.length = m * size) (hr : Rd w p news) (h1 : ∀ u ∈ news, u.oneCell' = true)
    (h63 : n + m ≤ maxLen) (hbytes : (n + m) * bytes ≤ 140737488355328) (hbase : base ≤ w.heap.size)
    (h : ∀ v' w', w'.ownsRow base e size v' (n + m) (xs ++ news) → w.grownBy w' (Value.slice p0 n c0).ownBlock → (v'.ownBlock = (Value.slice p0 n c0).ownBlock ∨ v'.ownBlock = some w.heap.size) → Rd w' p0 xs → T v' w') : gives P o a.eval w T := by
  obtain ⟨v', w', hrun, h2, h3, h4⟩ := run_appAt (P := P) base t o.type e i z size bytes ht hi hz hsize hby hzs hsz _ n xs hown p m c news hl hr h1 h63 hbytes hbase
  have hk := app_keeps (P := P) base t o.type e i z size bytes ht hi hz hsize hby hzs hsz p0 c0 n xs hown p m c news hl hr h1 h63 hbytes hrun
  have hr : (execOp a.eval o).run P w = .ok (.value v') w' := by
    unfold execOp
    simp only [ho, resolve, invoke, builtin, Sem.run_bind, Sem.run_pure, Result.andThen_ok, List.map_toArray, List.map_cons, List.map_nil, hs, hx, hrun]
  unfold gives
  rw [hr]
  exact h v' w' h2 h3 h4 hk
/-- what an operation at the place j may turn: the append (at ja) the row; any other nothing -/
def rAddM (ja : Nat) (p0 : Option Addr) (n c0 : Nat) (X : List Value) (j : Nat) (w w' : World) : Prop :=
  if j = ja then (∃ xs, w.ownsRow 0 62 3 (.slice p0 n c0) n xs) ∧ w.grownBy w' (Value.slice p0 n c0).ownBlock ∧ Rd w' p0 X else Below w.heap.size w w'
section
variable {ja : Nat} {p0 : Option Addr} {n c0 j : Nat} {X : List Value} {w w' : World}
theorem rAddM_at : rAddM ja p0 n c0 X ja w w' = ((∃ xs, w.ownsRow 0 62 3 (.slice p0 n c0) n xs) ∧ w.grownBy w' (Value.slice p0 n c0).ownBlock ∧ Rd w' p0 X) := by unfold rAddM; rw [if_pos rfl]
theorem rAddM_o (h : j ≠ ja) : rAddM ja p0 n c0 X j w w' = Below w.heap.size w w' := by unfold rAddM; rw [if_neg h]
theorem rAddM_rd (h : rAddM ja p0 n c0 X j w w') (hr : Rd w p0 X) : Rd w' p0 X := by
  unfold rAddM at h
  split at h
  · exact h.2.2
  · exact hr.below h
theorem rAddM_blkne {t : TypeId} {g : Nat} {cs : Array Value} (h : rAddM ja p0 n c0 X j w w') (hb : Blk w g t cs) (hne : ∀ q, (Value.slice p0 n c0).ownBlock = some q → q ≠ g) : Blk w' g t cs := by
  unfold rAddM at h
  split at h
  · exact (h.2.1.block g hb.lt fun e => hne g e.symm rfl).trans hb
  · exact hb.below h hb.lt
theorem rAddM_but {S : List Nat} {a : World} (h : rAddM ja p0 n c0 X j w w') (hb : But S a w) (hq : ∀ g, (Value.slice p0 n c0).ownBlock = some g → g ∈ S ∨ a.heap.size ≤ g) : But S a w' := by
  unfold rAddM at h
  split at h
  · exact hb.grown_nx h.2.1 hq
  · exact hb.trans (But.of_below h)
theorem rAddM_size (h : rAddM ja p0 n c0 X j w w') : w.heap.size ≤ w'.heap.size := by
  unfold rAddM at h
  split at h
  · exact h.2.1.size
  · exact h.size
end
theorem cells12 {w : World} {g off i : Nat} {ls : List Lt} {x : Lt} (h : Rd w (some ⟨g, off, none⟩) (cel (toS ls))) (hx : ls[i]? = some x) :
    w.cell? ⟨g, off + i * 3, none⟩ = some (.int .i64 x.1) ∧ w.cell? ⟨g, off + i * 3 + 1, none⟩ = some (.int .i64 x.2.1) ∧ w.cell? ⟨g, off + i * 3 + 2, none⟩ = some (.string (bs x.2.2)) := by
  obtain ⟨hi, hx2⟩ := List.getElem?_eq_some_iff.1 hx
  obtain ⟨y0, y1, y2⟩ := cel_get (toS ls) i (by rw [toS_len]; exact hi)
  rw [toS_get hi, hx2] at y0 y1 y2
  obtain ⟨g9, off9, he, hc⟩ := h.has (by intro e; rw [e] at y0; simp at y0)
  cases he
  exact ⟨hc _ _ y0, by rw [Nat.add_assoc]; exact hc _ _ y1, by rw [Nat.add_assoc]; exact hc _ _ y2⟩
def PL12 (B : Nat) (f t : Int) (d : List UInt8) : Part := ⟨fun v => ∃ g, v = .slice (some ⟨g, 0, none⟩) 1 1, fun w v => ∀ g, v = .slice (some ⟨g, 0, none⟩) 1 1 → B ≤ g ∧ Blk w g 62 #[.int .i64 f, .int .i64 t, .string (bs d)]⟩
def PLs12 (wx : World) (q : Option Nat) (k : Nat) (ls : List Lt) : Part := ⟨fun v' => ∃ p c, v' = .slice p k c, fun w v' => w.ownsRow 0 62 3 v' k (cel (toS ls)) ∧ Nx wx q v'.ownBlock⟩
end Go.Proofs.YtbbhecadpbnobaaDoor
