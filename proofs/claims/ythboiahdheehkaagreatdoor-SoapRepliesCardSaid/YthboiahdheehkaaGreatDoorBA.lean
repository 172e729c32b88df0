/- Base -/
import Derived.WalkKit
import Derived.WalkSpells
import Derived.WalkLawsBesides
import Derived.ProofKit
import Derived.OpenShut
import Derived.Lib.Hide
import Derived.BigQuiet
import Derived.Deep.QuietTactic
import Derived.Laws.BytesArg
import Derived.Laws.BitsAllLaws
import Derived.Laws.CopyOwn
import Derived.Deep.Slices
import Derived.Lib.SlBytesConst
import Derived.Laws.Rows
import Derived.Laws.CopyRow
import Derived.Orders
import Derived.Lib.Bytes
import Derived.Test.YthboiahdheehkaaGreatDoorProg
import Derived.LaidEql
import Derived.Stop.Asserts
import Derived.RowKitTokens
import Derived.Defers
import Derived.Recover
import Derived.Outline
open Array renaming getElem?_eq_some_iff → aA
open Option renaming map_eq_some_iff → oB
open Bool renaming and_eq_true → bA
open Nat renaming le_refl → nR, le_trans → nT, lt_of_lt_of_le → nL
open Go.Proofs.Tryz renaming prog → pG
open Go.Value renaming pointer → A
open Go.Ending renaming returned → EE
namespace Go.Proofs.YthboiahdheehkaaGreatDoor
section
set_option maxHeartbeats 1000000
set_option maxRecDepth 20000
open Go.RowKit
def bx (x y : UInt8) : UInt8 := x ^^^ y
theorem cell_lt {w : World} {a : Addr} {v : Value} (h : w.cell? a = some v) : a.block < w.heap.size := World.block_lt_of_cell? w a h
def Rd (w : World) (p : Option Addr) (xs : List Value) : Prop :=
 xs = [] ∨ ∃ b off, p = some ⟨b, off, none⟩ ∧ ∀ i u, xs[i]? = some u → w.cell? ⟨b, off + i, none⟩ = some u
theorem Rd.has {w : World} {p : Option Addr} {xs : List Value} (h : Rd w p xs) (hx : xs ≠ []) :
  ∃ b off, p = some ⟨b, off, none⟩ ∧ ∀ i u, xs[i]? = some u → w.cell? ⟨b, off + i, none⟩ = some u := h.resolve_left hx
theorem Rd.keep {w w' : World} {p : Option Addr} {xs : List Value} (h : Rd w p xs) (hk : ∀ a v, w.cell? a = some v → w'.cell? a = some v) : Rd w' p xs := by
 rcases h with h | ⟨b, off, hp, hc⟩
 ·exact .inl h
 ·exact .inr ⟨b, off, hp, fun i u hu => hk _ _ (hc i u hu)⟩
theorem Below.keeps {w w' : World} (h : Below w.heap.size w w') : ∀ a v, w.cell? a = some v → w'.cell? a = some v :=
 fun _ _ hv => (h.cell (cell_lt hv)).trans hv
theorem cell_add (b off i : Nat) : (⟨b, off, none⟩ : Addr).add i = ⟨b, off + i, none⟩ := by
 unfold Addr.add; split <;> simp_all
theorem keep_alloc (w : World) (o : Obj) : ∀ a v, w.cell? a = some v → (w.alloc o).cell? a = some v :=
 fun a v h => Below.keeps ((Below.refl _ _).alloc (nR _) o) a v h
theorem rd_new (w : World) (cs : Array Value) (e : TypeId) (f : Nat × Nat) : Rd (w.alloc (.cells cs e f)) (some ⟨w.heap.size, 0, none⟩) cs.toList := by
 refine .inr ⟨_, 0, rfl, fun i u hu => ?_⟩
 rw [cell_of_row _ w.heap.size (0 + i) cs e f (heap_alloc_new w _), Nat.zero_add]
 simpa using hu
theorem rd_at (w : World) (cs : Array Value) (e : TypeId) (f : Nat × Nat) (n : Nat) (h : n = w.heap.size) : Rd (w.alloc (.cells cs e f)) (some ⟨n, 0, none⟩) cs.toList := by
 subst h; exact rd_new w cs e f
section
variable {P : Program} {t e : TypeId} {i : TypeInfo}
end
theorem wpList_run {P : Program} {w w' : World} {ops : Array Oper} {rest : List Oper} {o : Oper} {a : Act} {Q : Exit → Act → World → Prop} {v : Value}
  (hw : Region.wanted o (yielded ops a.tmps) = true) (hr : (execOp a.eval o).run P w = .ok (.value v) w')
  (h : wpList P ops Q rest (a.put o.dst v) w') : wpList P ops Q (o :: rest) a w := by
 refine wpList_step fun K hK => ?_
 rw [if_pos hw]
 unfold Oper.wp
 rw [hr]
 exact hK _ _ h
theorem run_app {P : Program} {w : World} (base : Nat) (t ty e : TypeId) (i : TypeInfo) (z : Value) (size bytes : Nat) (ht : P.underlying t = some (.slice e)) (hi : P.info? e = some i) (hz : i.zero = some z)
  (hsize : i.size = size) (hby : i.bytes = bytes) (hzs : z.cells.size = size) (hsz : 0 < size)
  (v : Value) (n : Nat) (xs : List Value) (hown : w.ownsRow base e size v n xs)
  (p : Option Addr) (m c : Nat) (news : List Value) (hl : news.length = m * size) (hr : Rd w p news) (h1 : ∀ u ∈ news, u.oneCell' = true)
  (h63 : n + m ≤ maxLen) (hbytes : (n + m) * bytes ≤ 140737488355328) (hbase : base ≤ w.heap.size) :
  ∃ v' w', (Builtin.append_ #[t, t] ty #[v, .slice p m c]).run P w = .ok v' w' ∧ w'.ownsRow base e size v' (n + m) (xs ++ news) ∧ w.grownBy w' v.ownBlock := by
 cases p with
 | none =>
  have hn : news = [] := by
   rcases hr with h | ⟨b, off, hp, _⟩
   ·exact h
   ·cases hp
  subst hn
  have hm : m = 0 := by
   simp only [List.length_nil] at hl
   rcases Nat.mul_eq_zero.1 hl.symm with h | h
   ·exact h
   ·omega
  subst hm
  refine ⟨v, w, ?_, by simpa using hown, ⟨rfl, rfl, rfl, nR _, fun _ _ _ => rfl⟩⟩
  rcases hown.2 with ⟨rfl, rfl⟩ | ⟨g, cap, cur, rfl, _, _, hnc, _⟩
  ·simp [Builtin.append_, run_underlying ht, sizeOf, typeInfo, hi, Builtin.lenOf, Builtin.firstCells]
  ·simp [Builtin.append_, run_underlying ht, sizeOf, typeInfo, hi, Builtin.lenOf, Builtin.firstCells, hnc, storeCells]
 | some a =>
  have hnews : ∀ j u, news[j]? = some u → w.cell? (a.add j) = some u := by
   intro j u hu
   rcases hr with h | ⟨b, off, hp, hc⟩
   ·subst h; simp at hu
   ·cases hp
    rw [cell_add]
    exact hc j u hu
  obtain ⟨v', w', h2, h3, h4, _⟩ := run_append_own (P := P) w base t ty e i z size bytes ht hi hz hsize hby hzs hsz v n xs hown a m c news hl hnews h1 h63 hbytes hbase
  exact ⟨v', w', h2, h3, h4⟩
theorem wpList_app {P : Program} {w : World} {ops : Array Oper} {rest : List Oper} {o : Oper} {a : Act} {Q : Exit → Act → World → Prop} (s x : Operand) (t : TypeId)
  (ho : o.op = .call { callee := .builtin .append, args := #[s, x], argTypes := #[t, t] }) (hw : Region.wanted o (yielded ops a.tmps) = true)
  (base : Nat) (e : TypeId) (i : TypeInfo) (z : Value) (size bytes : Nat) (ht : P.underlying t = some (.slice e)) (hi : P.info? e = some i) (hz : i.zero = some z)
  (hsize : i.size = size) (hby : i.bytes = bytes) (hzs : z.cells.size = size) (hsz : 0 < size)
  (v : Value) (n : Nat) (xs : List Value) (hs : a.eval s = v) (hown : w.ownsRow base e size v n xs)
  (p : Option Addr) (m c : Nat) (news : List Value) (hx : a.eval x = .slice p m c) (hl : news.length = m * size) (hr : Rd w p news) (h1 : ∀ u ∈ news, u.oneCell' = true)
  (h63 : n + m ≤ maxLen) (hbytes : (n + m) * bytes ≤ 140737488355328) (hbase : base ≤ w.heap.size)
  (h : ∀ v' w', w'.ownsRow base e size v' (n + m) (xs ++ news) → w.grownBy w' v.ownBlock → wpList P ops Q rest (a.put o.dst v') w') : wpList P ops Q (o :: rest) a w := by
 obtain ⟨v', w', hrun, h2, h3⟩ := run_app (P := P) base t o.type e i z size bytes ht hi hz hsize hby hzs hsz v n xs hown p m c news hl hr h1 h63 hbytes hbase
 refine wpList_run hw (v := v') (w' := w') ?_ (h v' w' h2 h3)
 unfold execOp
 simp only [ho, resolve, invoke, builtin, Sem.run_bind, Sem.run_pure, Result.andThen_ok, List.map_toArray, List.map_cons, List.map_nil, hs, hx, hrun]
theorem owns_rd {w : World} {base : Nat} {e : TypeId} {size : Nat} {v : Value} {n : Nat} {xs : List Value} (h : w.ownsRow base e size v n xs) :
  ∃ p cap, v = .slice p n cap ∧ n ≤ cap ∧ cap ≤ maxLen ∧ Rd w p xs := by
 rcases h.2 with ⟨rfl, rfl⟩ | ⟨g, cap, cur, rfl, hb, hg, hn, hm, hs, htake⟩
 ·refine ⟨none, 0, rfl, nR _, by unfold maxLen; omega, .inl ?_⟩
  exact List.eq_nil_of_length_eq_zero (by simpa using h.1)
 ·refine ⟨_, cap, rfl, hn, hm, .inr ⟨g, 0, rfl, fun i u hu => ?_⟩⟩
  have := h.cells (g := g) rfl i u hu
  rwa [cell_add] at this
theorem owns_below {w w' : World} {base : Nat} {e : TypeId} {size : Nat} {v : Value} {n : Nat} {xs : List Value} (h : w.ownsRow base e size v n xs) (hb : Below w.heap.size w w') : w'.ownsRow base e size v n xs :=
 h.kept (row := none) ⟨hb.os, hb.tape, hb.output, hb.size, fun k hk _ => hb.block k hk⟩ (by cases hv : v.ownBlock <;> simp)
end
section
set_option maxHeartbeats 1000000
set_option maxRecDepth 20000
open Go.RowKit
def Blk (w : World) (g : Nat) (t : TypeId) (cs : Array Value) : Prop := w.heap[g]? = some (.cells cs t (0, 0))
section
variable {w w' : World} {g : Nat} {t : TypeId} {cs : Array Value}
theorem Blk.lt (h : Blk w g t cs) : g < w.heap.size := (aA.1 h).1
theorem Blk.cell (h : Blk w g t cs) (i : Nat) : w.cell? ⟨g, i, none⟩ = cs[i]? := cell_of_row w g i cs t (0, 0) h
theorem Blk.cc (h : Blk w g t cs) : w.cell? ⟨g, 0, none⟩ = cs[0]? ∧ w.cell? ⟨g, 1, none⟩ = cs[1]? ∧ w.cell? ⟨g, 2, none⟩ = cs[2]? ∧ w.cell? ⟨g, 3, none⟩ = cs[3]? ∧ w.cell? ⟨g, 4, none⟩ = cs[4]? ∧ w.cell? ⟨g, 5, none⟩ = cs[5]? ∧ w.cell? ⟨g, 6, none⟩ = cs[6]? ∧ w.cell? ⟨g, 7, none⟩ = cs[7]? ∧ w.cell? ⟨g, 8, none⟩ = cs[8]? ∧ w.cell? ⟨g, 9, none⟩ = cs[9]? ∧ w.cell? ⟨g, 10, none⟩ = cs[10]? := ⟨h.cell 0, h.cell 1, h.cell 2, h.cell 3, h.cell 4, h.cell 5, h.cell 6, h.cell 7, h.cell 8, h.cell 9, h.cell 10⟩
theorem Blk.frozen (h : Blk w g t cs) (i : Nat) : w.frozen? ⟨g, i, none⟩ = false := by
 unfold Blk at h
 simp [World.frozen?, h]
theorem Blk.new (w : World) (t : TypeId) (cs : Array Value) : Blk (w.alloc (.cells cs t)) w.heap.size t cs := heap_alloc_new w _
theorem Blk.alloc (h : Blk w g t cs) (o : Obj) : Blk (w.alloc o) g t cs := (Below.heap_alloc w o g h.lt).trans h
theorem Blk.set_ (h : Blk w g t cs) (i : Nat) (u : Value) : Blk (w.setCell ⟨g, i, none⟩ u) g t (cs.setIfInBounds i u) := by
 unfold Blk at h ⊢
 simp [World.setCell, Array.getElem?_modify, h]
theorem Blk.far (h : Blk w g t cs) {b : Nat} (hp : g ≠ b) (i : Nat) (u : Value) : Blk (w.setCell ⟨b, i, none⟩ u) g t cs := (Below.heap_setCell _ _ _ _ hp).trans h
theorem Blk.below {B : Nat} (h : Blk w g t cs) (hb : Below B w w') (hg : g < B) : Blk w' g t cs := (hb.block g hg).trans h
theorem Blk.ne_ {g' : Nat} {t' : TypeId} {cs' : Array Value} (h : Blk w g t cs) (h' : Blk w g' t' cs') (hne : t ≠ t') : g ≠ g' := by
 rintro rfl
 unfold Blk at h h'
 rw [h] at h'
 injection h' with h'
 injection h' with _ ht
 exact hne ht
end
theorem owns_lower {w : World} {base base' size n : Nat} {e : TypeId} {v : Value} {xs : List Value} (h : w.ownsRow base e size v n xs) (hb : base' ≤ base) : w.ownsRow base' e size v n xs := by
 refine ⟨h.1, ?_⟩
 rcases h.2 with h2 | ⟨g, cap, cur, hv, hg, r⟩
 ·exact .inl h2
 ·exact .inr ⟨g, cap, cur, hv, nT hb hg, r⟩
structure Only (g : Nat) (w w' : World) : Prop where
 os : w'.os = w.os
 tape : w'.tape = w.tape
 output : w'.output = w.output
 size : w'.heap.size = w.heap.size
 block : ∀ k, k ≠ g → w'.heap[k]? = w.heap[k]?
theorem Only.refl (g : Nat) (w : World) : Only g w w := ⟨rfl, rfl, rfl, rfl, fun _ _ => rfl⟩
theorem Only.set_ {g : Nat} {w w' : World} (h : Only g w w') (i : Nat) (u : Value) : Only g w (w'.setCell ⟨g, i, none⟩ u) :=
 ⟨h.os, h.tape, h.output, by rw [← h.size]; simp [World.setCell], fun k hk => (Below.heap_setCell _ _ _ _ hk).trans (h.block k hk)⟩
theorem Only.below {g B : Nat} {w w' : World} (h : Only g w w') (hg : B ≤ g) : Below B w w' := ⟨h.os, h.tape, h.output, by rw [h.size]; exact nR _, fun k hk => h.block k (by omega)⟩
structure Keeps (B : Nat) (Ts : List TypeId) (w w' : World) : Prop where
 below : Below B w w'
 rest : ∀ (k : Nat) (o : Obj), w.heap[k]? = some o → (∀ c t f, o = .cells c t f → Ts.contains t = false) → w'.heap[k]? = some o
section
variable {B : Nat} {Ts : List TypeId} {a b c w w' : World}
theorem Only.owns {g base size n : Nat} {t e : TypeId} {cs : Array Value} {v : Value} {xs : List Value} (k : Only g w w') (hb : Blk w g t cs) (ho : w.ownsRow base e size v n xs) (hne : e ≠ t) : w'.ownsRow base e size v n xs := by
 refine ⟨ho.1, ?_⟩
 rcases ho.2 with h2 | ⟨g', cap, cur, hv, hg, hh, r⟩
 ·exact .inl h2
 ·exact .inr ⟨g', cap, cur, hv, hg, (k.block g' (Blk.ne_ (t := e) (cs := cur) hh hb hne)).trans hh, r⟩
theorem Only.blk {g g' : Nat} {t : TypeId} {cs : Array Value} (k : Only g w w') (hb : Blk w g' t cs) (hne : g' ≠ g) : Blk w' g' t cs := (k.block g' hne).trans hb
end
def putCells (cs : Array Value) (off : Nat) (vs : Array Value) : Array Value := (cs.toList.take off ++ vs.toList ++ cs.toList.drop (off + vs.size)).toArray
theorem wpList_skip {P : Program} {w w' : World} {ops : Array Oper} {rest : List Oper} {o : Oper} {a : Act} {Q : Exit → Act → World → Prop}
  (hw : Region.wanted o (yielded ops a.tmps) = true) (hr : (execOp a.eval o).run P w = .ok .skip w')
  (h : wpList P ops Q rest (a.put o.dst undef) w') : wpList P ops Q (o :: rest) a w := by
 refine wpList_step fun K hK => ?_
 rw [if_pos hw]
 unfold Oper.wp
 rw [hr]
 exact hK _ _ h
theorem wpList_store {P : Program} {w : World} {ops : Array Oper} {rest : List Oper} {o : Oper} {a : Act} {Q : Exit → Act → World → Prop} (pa pv : Operand) (ty : TypeId)
  (ho : o.op = .store ty pa pv) (hw : Region.wanted o (yielded ops a.tmps) = true)
  (g off : Nat) (t : TypeId) (cs vs : Array Value) (hpa : a.eval pa = A (some ⟨g, off, none⟩)) (hpv : a.eval pv = .agg vs) (hb : Blk w g t cs)
  (hi : (P.info? ty).map (·.size) = some vs.size) (h1 : ∀ v ∈ vs.toList, v.oneCell' = true) (hfit : off + vs.size ≤ cs.size)
  (h : ∀ w', Blk w' g t (putCells cs off vs) → Only g w w' → wpList P ops Q rest (a.put o.dst undef) w') : wpList P ops Q (o :: rest) a w := by
 obtain ⟨i, hi1, hi2⟩ := oB.1 hi
 have hst := run_storeCells_at (P := P) g off t vs.toList 0 cs w hb (by simpa using hfit) h1
 have hst2 : (storeCells ⟨g, off, none⟩ vs.toList).run P w = .ok () (w.setRow g (putCells cs off vs)) := by
  have e : putCells cs off vs = (cs.toList.take (off + 0) ++ vs.toList ++ cs.toList.drop (off + 0 + vs.toList.length)).toArray := by simp [putCells]
  rw [e]; exact hst
 refine wpList_skip hw (w' := w.setRow g (putCells cs off vs)) ?_ (h _ (setRow_heap w g cs _ t _ hb) ⟨rfl, rfl, rfl, by simp, fun k hk => setRow_other w g k _ hk⟩)
 have hsz : (Value.agg vs).cells = vs := rfl
 unfold execOp
 simp [ho, hpa, hpv, Instr.storeAt, Instr.sureAddr, storeVar, sizeOf, typeInfo, hi1, hi2, hsz, hst2]
end
section
set_option maxHeartbeats 1000000
set_option maxRecDepth 20000
open Go.RowKit
structure Veil (p : Prop) : Prop where
 out : p
def gives (P : Program) (o : Oper) (ρ : Operand → Value) (w : World) (T : Value → World → Prop) : Prop :=
 match (execOp ρ o).run P w with
 | .ok (.value v) w' => T v w'
 | .ok .skip w' => T undef w'
 | .ok (.enter f args) w' => Calls P f args w' fun e w'' => ∃ v, e = EE v ∧ T v w''
 | _ => False
theorem gives_wp {P : Program} {o : Oper} {a : Act} {ρ : Operand → Value} {w : World} {T : Value → World → Prop} {K : Act → World → Prop} {Q : Exit → Act → World → Prop}
  (he : execOp a.eval o = execOp ρ o) (h : gives P o ρ w T) (hk : ∀ v w', T v w' → K (a.put o.dst v) w') : o.wp P a w K Q := by
 unfold gives at h
 unfold Oper.wp
 rw [he]
 generalize (execOp ρ o).run P w = r at *
 cases r with
 | ok n w' =>
  cases n <;> simp only at h <;> try exact h.elim
  case value v => exact hk v w' h
  case skip => exact hk undef w' h
  case enter f args =>
   refine Calls.mono h fun e w'' he => ?_
   obtain ⟨v, rfl, ht⟩ := he
   exact hk v w'' ht
 | halt x w' => exact h.elim
structure Part where
 val : Value → Prop
 fact : World → Value → Prop
section
variable (P : Program) (ops : Array Oper) (E : Act → World → Prop) (I : World → Prop) (R : World → World → Prop) (pl : Nat → Option Part) (nd : Nat → List Nat)
def wpPhi : Nat → List Oper → Act → List (Nat × (World → Prop)) → Prop
 | _, [], a, kn => ∀ w, I w → (∀ p ∈ kn, p.2 w) → E a w
 | j, o :: l, a, kn =>
  if Region.wanted o (yielded ops a.tmps) = true then
   match pl j with
   | none => ∃ v, (∀ w, I w → (execOp a.eval o).run P w = .ok (.value v) w) ∧ wpPhi (j + 1) l (a.put o.dst v) kn
   | some q => (∃ v, q.val v) ∧ (∀ w, I w → (∀ p ∈ kn, p.1 ∈ nd j → p.2 w) → gives P o a.eval w (fun v w' => q.val v ∧ q.fact w' v ∧ R w w')) ∧
     ∀ v, q.val v → wpPhi (j + 1) l (a.put o.dst v) (kn ++ [(j, fun w => q.fact w v)])
  else wpPhi (j + 1) l (a.put o.dst undef) kn
end
section rules
variable {P : Program} {ops : Array Oper} {E : Act → World → Prop} {I : World → Prop} {R : World → World → Prop} {pl : Nat → Option Part} {nd : Nat → List Nat}
variable {j : Nat} {o : Oper} {l : List Oper} {a : Act} {kn : List (Nat × (World → Prop))}
theorem phi_pure {v : Value} (hw : Region.wanted o (yielded ops a.tmps) = true) (hp : pl j = none) (hv : ∀ w, I w → (execOp a.eval o).run P w = .ok (.value v) w)
  (h : wpPhi P ops E I R pl nd (j + 1) l (a.put o.dst v) kn) : wpPhi P ops E I R pl nd j (o :: l) a kn := by
 unfold wpPhi; rw [if_pos hw, hp]; exact ⟨v, hv, h⟩
theorem phi_pureK (hw : Region.wanted o (yielded ops a.tmps) = true) (hp : pl j = none)
  (h : ∀ K : Act → Prop, (∀ a', Veil (wpPhi P ops E I R pl nd (j + 1) l a' kn) → K a') → ∃ v, (∀ w, I w → (execOp a.eval o).run P w = .ok (.value v) w) ∧ K (a.put o.dst v)) :
  Veil (wpPhi P ops E I R pl nd j (o :: l) a kn) := by
 obtain ⟨v, h1, h2⟩ := h _ (fun _ h => h)
 exact ⟨phi_pure hw hp h1 h2.out⟩
theorem phi_skipK (hw : Region.wanted o (yielded ops a.tmps) = false)
  (h : ∀ K : Act → Prop, (∀ a', Veil (wpPhi P ops E I R pl nd (j + 1) l a' kn) → K a') → K (a.put o.dst undef)) : Veil (wpPhi P ops E I R pl nd j (o :: l) a kn) := by
 refine ⟨?_⟩
 unfold wpPhi; rw [if_neg (by rw [hw]; decide)]; exact (h _ (fun _ h => h)).out
theorem phi_partK (q : Part) (hw : Region.wanted o (yielded ops a.tmps) = true) (hp : pl j = some q) (hv : ∃ v, q.val v)
  (hg : ∀ w, I w → (∀ p ∈ kn, p.1 ∈ nd j → p.2 w) → gives P o a.eval w (fun v w' => q.val v ∧ q.fact w' v ∧ R w w'))
  (h : ∀ K : Act → List (Nat × (World → Prop)) → Prop, (∀ a' kn', Veil (wpPhi P ops E I R pl nd (j + 1) l a' kn') → K a' kn') → ∀ v, q.val v → K (a.put o.dst v) (kn ++ [(j, fun w => q.fact w v)])) :
  Veil (wpPhi P ops E I R pl nd j (o :: l) a kn) := by
 refine ⟨?_⟩
 unfold wpPhi; rw [if_pos hw, hp]; exact ⟨hv, hg, fun v hv => (h _ (fun _ _ h => h) v hv).out⟩
theorem phi_done (h : ∀ w, I w → (∀ p ∈ kn, p.2 w) → E a w) : Veil (wpPhi P ops E I R pl nd j [] a kn) := ⟨h⟩
end rules
def dstOf (ops : Array Oper) (i : Nat) : Option Tmp := (ops[i]?).bind (·.dst)
def clash (ops : Array Oper) (x y : Oper) : Bool :=
 (match x.dst with | some d => (y.looksAt ops).contains d || y.dst == some d | none => false) ||
 (match y.dst with | some d => (x.looksAt ops).contains d | none => false)
def edgeBits (B : List Nat) (o : Oper) : Nat :=
 o.after.toList.foldl (fun s e => if Region.binds .any e then s ||| 2 ^ e.on ||| B.getD e.on 0 else s) 0
def notSelect (o : Oper) : Bool := match o.op with | .select .. => false | _ => true
def okAt (ops : Array Oper) (nd : Nat → List Nat) (m : Nat) (B : List Nat) (j : Nat) (o : Oper) : Bool :=
 (B.getD j 0 == edgeBits B o) && decide (B.getD j 0 < 2 ^ j) && notSelect o && (nd j).all ((B.getD j 0).testBit ·) &&
 ((List.range j).all fun i => match ops[i]? with | some x => !clash ops x o || (B.getD j 0).testBit i | none => true) &&
 (decide (j < m) || (List.range j).all fun i => (B.getD j 0).testBit i)
def okAll (ops : Array Oper) (nd : Nat → List Nat) (m : Nat) (B : List Nat) : Bool :=
 (List.range ops.size).all fun j => match ops[j]? with | some o => okAt ops nd m B j o | none => true
def forceNat (n : Nat) (k : Nat → Bool) : Bool := match n with | 0 => k 0 | m + 1 => k (m + 1)
theorem forceNat_eq (n : Nat) (k : Nat → Bool) : forceNat n k = k n := by cases n <;> rfl
def buildB : List Oper → List Nat → (List Nat → Bool) → Bool
 | [], B, k => k B
 | o :: l, B, k => forceNat (edgeBits B o) fun b => buildB l (B ++ [b]) k
theorem buildB_some : ∀ (l : List Oper) (B : List Nat) (k : List Nat → Bool), buildB l B k = true → ∃ B', k B' = true
 | [], B, _, h => ⟨B, h⟩
 | _ :: l, _, k, h => by
  simp only [buildB, forceNat_eq] at h
  exact buildB_some l _ k h
def phiOk (ops : Array Oper) (nd : Nat → List Nat) (m : Nat) : Bool := buildB ops.toList [] (okAll ops nd m)
theorem edgeBits_testBit (B : List Nat) (o : Oper) (i : Nat) : (edgeBits B o).testBit i = true ↔
  ∃ e ∈ o.after.toList, Region.binds .any e = true ∧ (i = e.on ∨ (B.getD e.on 0).testBit i = true) := by
 unfold edgeBits
 have gen : ∀ (l : List Edge) (s : Nat), (l.foldl (fun s e => if Region.binds .any e then s ||| 2 ^ e.on ||| B.getD e.on 0 else s) s).testBit i = true ↔
   (s.testBit i = true ∨ ∃ e ∈ l, Region.binds .any e = true ∧ (i = e.on ∨ (B.getD e.on 0).testBit i = true)) := by
  intro l
  induction l with
  | nil => simp
  | cons e l ih =>
   intro s
   rw [List.foldl_cons, ih]
   by_cases hb : Region.binds .any e = true
   ·rw [if_pos hb]
    simp only [Nat.testBit_or, Bool.or_eq_true, Nat.testBit_two_pow, decide_eq_true_eq, List.mem_cons, exists_eq_or_imp, hb, true_and]
    constructor
    ·rintro ((h | h) | h)
     ·rcases h with h | h
      ·exact .inl h
      ·exact .inr (.inl (.inl h.symm))
     ·exact .inr (.inl (.inr h))
     ·exact .inr (.inr h)
    ·rintro (h | (h | h) | h)
     ·exact .inl (.inl (.inl h))
     ·exact .inl (.inl (.inr h.symm))
     ·exact .inl (.inr h)
     ·exact .inr h
   ·rw [if_neg hb]
    simp only [List.mem_cons, exists_eq_or_imp, hb, false_and, false_or, Bool.false_eq_true]
 rw [gen]
 simp
structure Hangs (ops : Array Oper) (nd : Nat → List Nat) (m : Nat) (pr : Nat → Nat → Bool) : Prop where
 edge' : ∀ j o, ops[j]? = some o → ∀ e ∈ o.after, Region.binds .any e = true → pr j e.on = true
 lt : ∀ j i, j < ops.size → pr j i = true → i < j
 edge : ∀ j o, ops[j]? = some o → ∀ i, pr j i = true → ∃ e ∈ o.after, Region.binds .any e = true ∧ (i = e.on ∨ pr e.on i = true)
 sel : ∀ (j : Nat) o, ops[j]? = some o → ∀ cs b, o.op ≠ .select cs b
 need : ∀ j, j < ops.size → ∀ i ∈ nd j, pr j i = true
 clash : ∀ (i j : Nat) x o, ops[i]? = some x → ops[j]? = some o → i < j → clash ops x o = true → pr j i = true
 tail : ∀ j, m ≤ j → j < ops.size → ∀ i, i < j → pr j i = true
theorem hangs_of_ok {ops : Array Oper} {nd : Nat → List Nat} {m : Nat} (h : phiOk ops nd m = true) : ∃ pr, Hangs ops nd m pr := by
 obtain ⟨B, hB⟩ := buildB_some _ _ _ h
 unfold okAll at hB
 rw [List.all_eq_true] at hB
 have at' : ∀ (j : Nat) o, ops[j]? = some o → okAt ops nd m B j o = true := by
  intro j o ho
  have := hB j (List.mem_range.2 (aA.1 ho).1)
  simpa [ho] using this
 refine ⟨fun j i => (B.getD j 0).testBit i, ?_, ?_, ?_, ?_, ?_, ?_, ?_⟩
 ·intro j o ho e he hb
  have := at' j o ho
  simp only [okAt, bA, beq_iff_eq] at this
  show (B.getD j 0).testBit e.on = true
  rw [this.1.1.1.1.1, edgeBits_testBit]
  exact ⟨e, Array.mem_toList_iff.2 he, hb, .inl rfl⟩
 ·intro j i hj hp
  obtain ⟨o, ho⟩ : ∃ o, ops[j]? = some o := ⟨ops[j], by simp [hj]⟩
  have := at' j o ho
  simp only [okAt, bA, decide_eq_true_eq] at this
  have hlt := this.1.1.1.1.2
  rcases Nat.lt_or_ge i j with h' | h'
  ·exact h'
  ·have := Nat.testBit_lt_two_pow (nL hlt (Nat.pow_le_pow_right (by omega) h'))
   rw [this] at hp; cases hp
 ·intro j o ho i hp
  have := at' j o ho
  simp only [okAt, bA, beq_iff_eq] at this
  rw [this.1.1.1.1.1, edgeBits_testBit] at hp
  obtain ⟨e, he, hb, hi⟩ := hp
  exact ⟨e, Array.mem_toList_iff.1 he, hb, hi⟩
 ·intro j o ho cs b hop
  have := at' j o ho
  simp only [okAt, bA, notSelect, hop] at this
  simp at this
 ·intro j hj i hi
  obtain ⟨o, ho⟩ : ∃ o, ops[j]? = some o := ⟨ops[j], by simp [hj]⟩
  have := at' j o ho
  simp only [okAt, bA, List.all_eq_true] at this
  exact this.1.1.2 i hi
 ·intro i j x o hx ho hij hc
  have := at' j o ho
  simp only [okAt, bA, List.all_eq_true] at this
  have := this.1.2 i (List.mem_range.2 hij)
  simpa [hx, hc] using this
 ·intro j hm hj i hi
  obtain ⟨o, ho⟩ : ∃ o, ops[j]? = some o := ⟨ops[j], by simp [hj]⟩
  have := at' j o ho
  simp only [okAt, bA, Bool.or_eq_true, decide_eq_true_eq, List.all_eq_true] at this
  rcases this.2 with h | h
  ·omega
  ·exact h i (List.mem_range.2 hi)
section frames
variable (ops : Array Oper) (a₀ : Act)
def FF (L : Nat → Bool) (vs : Nat → Value) : Nat → Act
 | 0 => a₀
 | k + 1 => if L k then (FF L vs k).put (dstOf ops k) (vs k) else FF L vs k
end frames
section
variable {ops : Array Oper} {a₀ : Act}
theorem put_size (a : Act) (d : Option Tmp) (v : Value) : (a.put d v).tmps.size = a.tmps.size := by cases d <;> simp [Act.put]
theorem put_defers (a : Act) (d : Option Tmp) (v : Value) : (a.put d v).defers = a.defers := by cases d <;> rfl
theorem put_slot_ne (a : Act) (d : Option Tmp) (v : Value) (t : Tmp) (h : d ≠ some t) : (a.put d v).tmps[t]? = a.tmps[t]? := by
 cases d with
 | none => rfl
 | some d => simp only [Act.put]; rw [Array.getElem?_setIfInBounds_ne (by intro e; exact h (by rw [e]))]
theorem put_slot_eq (a : Act) (v : Value) (t : Tmp) : (a.put (some t) v).tmps[t]? = if t < a.tmps.size then some v else none := by
 simp only [Act.put]; rw [Array.getElem?_setIfInBounds_self]
theorem FF_size (L : Nat → Bool) (vs : Nat → Value) (k : Nat) : (FF ops a₀ L vs k).tmps.size = a₀.tmps.size := by
 induction k with
 | zero => rfl
 | succ k ih => simp only [FF]; split <;> simp [put_size, ih]
theorem FF_defers (L : Nat → Bool) (vs : Nat → Value) (k : Nat) : (FF ops a₀ L vs k).defers = a₀.defers := by
 induction k with
 | zero => rfl
 | succ k ih => simp only [FF]; split <;> simp [put_defers, ih]
theorem FF_slot {L L' : Nat → Bool} {vs vs' : Nat → Value} {t : Tmp} (k : Nat) (h : ∀ i, i < k → dstOf ops i = some t → L i = L' i ∧ (L i = true → vs i = vs' i)) :
  (FF ops a₀ L vs k).tmps[t]? = (FF ops a₀ L' vs' k).tmps[t]? := by
 induction k with
 | zero => rfl
 | succ k ih =>
  have ih' := ih (fun i hi => h i (by omega))
  by_cases hd : dstOf ops k = some t
  ·obtain ⟨h1, h2⟩ := h k (by omega) hd
   simp only [FF]
   rw [← h1]
   by_cases hL : L k = true
   ·rw [if_pos hL, if_pos hL, hd, h2 hL, put_slot_eq, put_slot_eq, FF_size, FF_size]
   ·rw [if_neg hL, if_neg hL]; exact ih'
  ·simp only [FF]
   have e1 : (if L k then (FF ops a₀ L vs k).put (dstOf ops k) (vs k) else FF ops a₀ L vs k).tmps[t]? = (FF ops a₀ L vs k).tmps[t]? := by
    split
    ·exact put_slot_ne _ _ _ _ hd
    ·rfl
   have e2 : (if L' k then (FF ops a₀ L' vs' k).put (dstOf ops k) (vs' k) else FF ops a₀ L' vs' k).tmps[t]? = (FF ops a₀ L' vs' k).tmps[t]? := by
    split
    ·exact put_slot_ne _ _ _ _ hd
    ·rfl
   rw [e1, e2]; exact ih'
theorem FF_below (vs : Nat → Value) (j k : Nat) (h : j ≤ k) : FF ops a₀ (fun i => decide (i < j)) vs k = FF ops a₀ (fun _ => true) vs j := by
 induction k with
 | zero => obtain rfl : j = 0 := by omega
           rfl
 | succ k ih =>
  by_cases hk : j ≤ k
  ·simp only [FF]
   rw [if_neg (by simp; omega)]
   exact ih hk
  ·obtain rfl : j = k + 1 := by omega
   have gen : ∀ m, m ≤ k + 1 → FF ops a₀ (fun i => decide (i < k + 1)) vs m = FF ops a₀ (fun _ => true) vs m := by
    intro m
    induction m with
    | zero => intro _; rfl
    | succ m ihm =>
     intro hm
     simp only [FF]
     rw [if_pos (by simp; omega), ihm (by omega)]
     simp
   exact gen _ (nR _)
def GG (ops : Array Oper) (a₀ : Act) (vs : Nat → Value) (j : Nat) : Act := FF ops a₀ (fun _ => true) vs j
theorem same_look {o : Oper} {a b : Act} (hs : ∀ cs c, o.op ≠ .select cs c) (h : ∀ t ∈ o.looksAt ops, a.tmps[t]? = b.tmps[t]?) :
  execOp a.eval o = execOp b.eval o ∧ Region.wanted o (yielded ops a.tmps) = Region.wanted o (yielded ops b.tmps) := by
 constructor
 ·refine execOp_congr o hs fun x hx => ?_
  cases x with
  | tmp t =>
   have := h t (List.mem_append_left _ (List.mem_filterMap.2 ⟨.tmp t, by simpa using hx, rfl⟩))
   simp only [Act.eval, Array.getD_eq_getD_getElem?, this]
  | _ => rfl
 ·unfold Region.wanted
  cases hg : o.guard with
  | none => rfl
  | some gw =>
   obtain ⟨g, want⟩ := gw
   have hy : yielded ops a.tmps g = yielded ops b.tmps g := by
    unfold yielded
    cases ht : (ops[g]?).bind (·.dst) with
    | none => rfl
    | some t => simp only [Option.bind_some]; rw [h t (by simp [Oper.looksAt, hg, ht])]
   simp only [hy]
theorem clash_look {x o : Oper} {d : Tmp} (hd : x.dst = some d) (h : d ∈ o.looksAt ops ∨ o.dst = some d) : clash ops x o = true := by
 unfold clash
 rw [hd]
 rcases h with h | h
 ·simp [h]
 ·simp [h]
theorem clash_look' {x o : Oper} {d : Tmp} (hd : o.dst = some d) (h : d ∈ x.looksAt ops) : clash ops x o = true := by
 unfold clash
 rw [hd]
 simp [h]
end
section main
variable {P : Program} {ops : Array Oper} {Q : Exit → Act → World → Prop} {E : Act → World → Prop} {lo : List Oper} {I : World → Prop} {R : World → World → Prop} {pl : Nat → Option Part} {nd : Nat → List Nat} {a₀ : Act} {pr : Nat → Nat → Bool}
def upd (vs : Nat → Value) (k : Nat) (v : Value) : Nat → Value := fun i => if i = k then v else vs i
theorem FF_congr {L L' : Nat → Bool} {vs vs' : Nat → Value} (k : Nat) (h : ∀ i, i < k → L i = L' i ∧ (L i = true → vs i = vs' i)) : FF ops a₀ L vs k = FF ops a₀ L' vs' k := by
 induction k with
 | zero => rfl
 | succ k ih =>
  obtain ⟨h1, h2⟩ := h k (by omega)
  simp only [FF]
  rw [ih (fun i hi => h i (by omega)), ← h1]
  split
  ·rename_i hL; rw [h2 hL]
  ·rfl
def wantAt (ops : Array Oper) (a₀ : Act) (vs : Nat → Value) (j : Nat) (o : Oper) : Prop := Region.wanted o (yielded ops (GG ops a₀ vs j).tmps) = true
def StepOk (P : Program) (ops : Array Oper) (I : World → Prop) (pl : Nat → Option Part) (a₀ : Act) (vs : Nat → Value) (j : Nat) : Prop :=
 ∀ o, ops[j]? = some o →
  (wantAt ops a₀ vs j o → (pl j = none → ∀ w, I w → (execOp (GG ops a₀ vs j).eval o).run P w = .ok (.value (vs j)) w) ∧ ∀ q, pl j = some q → q.val (vs j)) ∧
  (¬ wantAt ops a₀ vs j o → vs j = undef)
theorem look_congr (hH : Hangs ops nd lo.length pr) {vs vs' : Nat → Value} {j : Nat} {o : Oper} (ho : ops[j]? = some o) (h : ∀ i, pr j i = true → vs i = vs' i) :
  execOp (GG ops a₀ vs j).eval o = execOp (GG ops a₀ vs' j).eval o ∧ (wantAt ops a₀ vs j o ↔ wantAt ops a₀ vs' j o) := by
 have := same_look (ops := ops) (a := GG ops a₀ vs j) (b := GG ops a₀ vs' j) (hH.sel j o ho) (fun t ht => by
  refine FF_slot j fun i hi hd => ⟨rfl, fun _ => h i ?_⟩
  obtain ⟨x, hx, hxd⟩ : ∃ x, ops[i]? = some x ∧ x.dst = some t := by
   unfold dstOf at hd
   cases hx : ops[i]? with
   | none => simp [hx] at hd
   | some x => exact ⟨x, rfl, by simpa [hx] using hd⟩
  exact hH.clash i j x o hx ho hi (clash_look hxd (.inl ht)))
 exact ⟨this.1, by unfold wantAt; rw [this.2]⟩
theorem stepOk_congr (hH : Hangs ops nd lo.length pr) {vs vs' : Nat → Value} {j : Nat} (h : ∀ i, pr j i = true → vs i = vs' i) (hj : vs j = vs' j)
  (hs : StepOk P ops I pl a₀ vs j) : StepOk P ops I pl a₀ vs' j := by
 intro o ho
 obtain ⟨h1, h2⟩ := hs o ho
 obtain ⟨e1, e2⟩ := look_congr (a₀ := a₀) hH ho h
 rw [← e2, ← e1, ← hj]
 exact ⟨h1, h2⟩
open Classical in
noncomputable def knOf (ops : Array Oper) (pl : Nat → Option Part) (a₀ : Act) (vs : Nat → Value) : Nat → List (Nat × (World → Prop))
 | 0 => []
 | k + 1 => match ops[k]?, pl k with
  | some o, some q => if wantAt ops a₀ vs k o then knOf ops pl a₀ vs k ++ [(k, fun w => q.fact w (vs k))] else knOf ops pl a₀ vs k
  | _, _ => knOf ops pl a₀ vs k
theorem mem_knOf {vs : Nat → Value} {p : Nat × (World → Prop)} : ∀ {k : Nat}, p ∈ knOf ops pl a₀ vs k →
  ∃ i o q, i < k ∧ ops[i]? = some o ∧ pl i = some q ∧ wantAt ops a₀ vs i o ∧ p = (i, fun w => q.fact w (vs i))
 | 0, h => by cases h
 | k + 1, h => by
  have up : p ∈ knOf ops pl a₀ vs k → ∃ i o q, i < k + 1 ∧ ops[i]? = some o ∧ pl i = some q ∧ wantAt ops a₀ vs i o ∧ p = (i, fun w => q.fact w (vs i)) := fun h => by
   obtain ⟨i, o, q, hi, r⟩ := mem_knOf h
   exact ⟨i, o, q, by omega, r⟩
  unfold knOf at h
  split at h
  ·rename_i o q ho hq
   split at h
   ·rename_i hw
    rcases List.mem_append.1 h with h | h
    ·exact up h
    ·exact ⟨k, o, q, by omega, ho, hq, hw, List.mem_singleton.1 h⟩
   ·exact up h
  ·exact up h
theorem drop_cons (l : List Oper) (k : Nat) (o : Oper) (h : l[k]? = some o) : l.drop k = o :: l.drop (k + 1) := by
 obtain ⟨hlt, rfl⟩ := List.getElem?_eq_some_iff.1 h
 exact List.drop_eq_getElem_cons hlt
theorem phi_at (w₀ : World) (hw₀ : I w₀) (hlo : ∀ i, i < lo.length → ops[i]? = lo[i]?) (h : wpPhi P ops E I R pl nd 0 lo a₀ []) (vs : Nat → Value) : ∀ k, k ≤ lo.length → (∀ i, i < k → StepOk P ops I pl a₀ vs i) →
  wpPhi P ops E I R pl nd k (lo.drop k) (GG ops a₀ vs k) (knOf ops pl a₀ vs k)
 | 0, _, _ => by simpa [GG, FF, knOf] using h
 | k + 1, hk, hs => by
  have ih := phi_at w₀ hw₀ hlo h vs k (by omega) (fun i hi => hs i (by omega))
  obtain ⟨o, hol⟩ : ∃ o, lo[k]? = some o := ⟨lo[k], by simp⟩
  have ho : ops[k]? = some o := (hlo k (by omega)).trans hol
  rw [drop_cons lo k o hol] at ih
  have hg : GG ops a₀ vs (k + 1) = (GG ops a₀ vs k).put o.dst (vs k) := by
   simp only [GG, FF, if_true]
   congr 1
   simp [dstOf, ho]
  obtain ⟨h1, h2⟩ := hs k (by omega) o ho
  rw [hg]
  unfold wpPhi at ih
  unfold knOf
  by_cases hw : wantAt ops a₀ vs k o
  ·have hw' := hw
   unfold wantAt at hw'
   rw [if_pos hw'] at ih
   obtain ⟨h3, h4⟩ := h1 hw
   cases hp : pl k with
   | none =>
    rw [hp] at ih
    obtain ⟨v, hv, ih⟩ := ih
    have e := (hv w₀ hw₀).symm.trans (h3 hp w₀ hw₀)
    simp only [Result.ok.injEq, Next.value.injEq, and_true] at e
    subst e
    simpa [ho] using ih
   | some q =>
    rw [hp] at ih
    have := ih.2.2 (vs k) (h4 q hp)
    simpa [ho, hw] using this
  ·have hw' := hw
   unfold wantAt at hw'
   rw [if_neg hw'] at ih
   rw [h2 hw]
   cases hp : pl k with
   | none => simpa [ho] using ih
   | some q => simpa [ho, hw] using ih
theorem GG_upd (vs : Nat → Value) (k : Nat) (v : Value) : GG ops a₀ (upd vs k v) k = GG ops a₀ vs k :=
 FF_congr k fun i hi => ⟨rfl, fun _ => by unfold upd; rw [if_neg (by omega)]⟩
theorem step_ext (w₀ : World) (hw₀ : I w₀) (hlo : ∀ i, i < lo.length → ops[i]? = lo[i]?) (h : wpPhi P ops E I R pl nd 0 lo a₀ []) (vs : Nat → Value) (k : Nat) (hk : k < lo.length) (hs : ∀ i, i < k → StepOk P ops I pl a₀ vs i) :
  ∃ v, StepOk P ops I pl a₀ (upd vs k v) k := by
 have ih := phi_at w₀ hw₀ hlo h vs k (by omega) hs
 obtain ⟨o, hol⟩ : ∃ o, lo[k]? = some o := ⟨lo[k], by simp [hk]⟩
 have ho : ops[k]? = some o := (hlo k hk).trans hol
 rw [drop_cons lo k o hol] at ih
 unfold wpPhi at ih
 have hu : ∀ v, upd vs k v k = v := fun v => by simp [upd]
 by_cases hw : Region.wanted o (yielded ops (GG ops a₀ vs k).tmps) = true
 ·rw [if_pos hw] at ih
  cases hp : pl k with
  | none =>
   rw [hp] at ih
   obtain ⟨v, hv, _⟩ := ih
   refine ⟨v, fun o' ho' => ?_⟩
   obtain rfl : o = o' := Option.some.inj (ho.symm.trans ho')
   unfold wantAt
   rw [GG_upd, hu]
   exact ⟨fun _ => ⟨fun _ => hv, fun q hq => (by rw [hp] at hq; cases hq)⟩, fun hn => absurd hw hn⟩
  | some q =>
   rw [hp] at ih
   obtain ⟨⟨v, hv⟩, _⟩ := ih
   refine ⟨v, fun o' ho' => ?_⟩
   obtain rfl : o = o' := Option.some.inj (ho.symm.trans ho')
   unfold wantAt
   rw [GG_upd, hu]
   exact ⟨fun _ => ⟨fun hn => (by rw [hp] at hn; cases hn), fun q' hq => (by rw [hp] at hq; cases hq; exact hv)⟩, fun hn => absurd hw hn⟩
 ·refine ⟨undef, fun o' ho' => ?_⟩
  obtain rfl : o = o' := Option.some.inj (ho.symm.trans ho')
  unfold wantAt
  rw [GG_upd, hu]
  exact ⟨fun hn => absurd hn hw, fun _ => rfl⟩
theorem complete (w₀ : World) (hw₀ : I w₀) (hlo : ∀ i, i < lo.length → ops[i]? = lo[i]?) (hle : lo.length ≤ ops.size) (hH : Hangs ops nd lo.length pr) (h : wpPhi P ops E I R pl nd 0 lo a₀ []) (L : Nat → Bool) (vs : Nat → Value)
  (hc : ∀ j, j < lo.length → L j = true → ∀ i, pr j i = true → L i = true) (hL : ∀ j, j < lo.length → L j = true → StepOk P ops I pl a₀ vs j) :
  ∃ vs', (∀ j, L j = true → vs' j = vs j) ∧ ∀ j, j < lo.length → StepOk P ops I pl a₀ vs' j := by
 have key : ∀ k, k ≤ lo.length → ∃ vs', (∀ j, L j = true → vs' j = vs j) ∧ ∀ j, j < lo.length → (j < k ∨ L j = true) → StepOk P ops I pl a₀ vs' j := by
  intro k
  induction k with
  | zero => intro _; exact ⟨vs, fun _ _ => rfl, fun j hj hh => hL j hj (hh.resolve_left (by omega))⟩
  | succ k ih =>
   intro hk
   obtain ⟨vs', h1, h2⟩ := ih (by omega)
   by_cases hLk : L k = true
   ·refine ⟨vs', h1, fun j hj hh => ?_⟩
    rcases hh with hh | hh
    ·by_cases e : j = k
     ·subst e; exact h2 j hj (.inr hLk)
     ·exact h2 j hj (.inl (by omega))
    ·exact h2 j hj (.inr hh)
   ·obtain ⟨v, hv⟩ := step_ext w₀ hw₀ hlo h vs' k (by omega) (fun i hi => h2 i (by omega) (.inl hi))
    have ne : ∀ i, i ≠ k → vs' i = upd vs' k v i := fun i hi => by simp [upd, hi]
    refine ⟨upd vs' k v, fun j hj => ?_, fun j hj hh => ?_⟩
    ·have : j ≠ k := fun e => hLk (e ▸ hj)
     rw [← ne j this]; exact h1 j hj
    ·by_cases e : j = k
     ·subst e; exact hv
     ·have hs : StepOk P ops I pl a₀ vs' j := by
       rcases hh with hh | hh
       ·exact h2 j hj (.inl (by omega))
       ·exact h2 j hj (.inr hh)
      refine stepOk_congr hH (fun i hi => ne i ?_) (ne j e) hs
      intro ei
      subst ei
      rcases hh with hh | hh
      ·have := hH.lt j i (by omega) hi; omega
      ·exact hLk (hc j hj hh i hi)
 obtain ⟨vs', h1, h2⟩ := key lo.length (nR _)
 exact ⟨vs', h1, fun j hj => h2 j hj (.inl hj)⟩
theorem FF_add (hH : Hangs ops nd lo.length pr) (L : Nat → Bool) (vs : Nat → Value) (j : Nat) (o : Oper) (ho : ops[j]? = some o) (hj : L j = false)
  (hc : ∀ k, k < ops.size → L k = true → ∀ i, pr k i = true → L i = true) (hr : ∀ i, pr j i = true → L i = true) :
  (FF ops a₀ L vs ops.size).put o.dst (vs j) = FF ops a₀ (fun i => L i || i == j) vs ops.size := by
 have hjn : j < ops.size := (aA.1 ho).1
 have hdj : dstOf ops j = o.dst := by simp [dstOf, ho]
 have dst' : ∀ i t, dstOf ops i = some t → ∃ x, ops[i]? = some x ∧ x.dst = some t := by
  intro i t hd
  unfold dstOf at hd
  cases hx : ops[i]? with
  | none => simp [hx] at hd
  | some x => exact ⟨x, rfl, by simpa [hx] using hd⟩
 have slots : ∀ t : Nat, ((FF ops a₀ L vs ops.size).put o.dst (vs j)).tmps[t]? = (FF ops a₀ (fun i => L i || i == j) vs ops.size).tmps[t]? := by
  intro t
  by_cases hd : o.dst = some t
  ·have e1 : (FF ops a₀ (fun i => L i || i == j) vs ops.size).tmps[t]? = (FF ops a₀ (fun i => decide (i < j + 1)) vs ops.size).tmps[t]? := by
    refine FF_slot _ fun i hi hdi => ⟨?_, fun _ => rfl⟩
    obtain ⟨x, hx, hxd⟩ := dst' i t hdi
    rcases Nat.lt_trichotomy i j with h | h | h
    ·have := hr i (hH.clash i j x o hx ho h (clash_look hxd (.inr hd)))
     simp [this]; omega
    ·subst h; simp
    ·have h1 := hH.clash j i o x ho hx h (clash_look hd (.inr hxd))
     have h2 : L i = false := by
      cases hLi : L i with
      | false => rfl
      | true => rw [hc i hi hLi j h1] at hj; cases hj
     have h3 : (i == j) = false := by simp; omega
     have h4 : decide (i < j + 1) = false := by simp; omega
     rw [h2, h3, h4]; rfl
   rw [e1, FF_below vs (j + 1) ops.size (by omega)]
   simp only [FF, if_true]
   rw [hdj, hd, put_slot_eq, put_slot_eq, FF_size, FF_size]
  ·rw [put_slot_ne _ _ _ _ hd]
   refine FF_slot _ fun i hi hdi => ⟨?_, fun _ => rfl⟩
   have : i ≠ j := fun e => by subst e; rw [hdj] at hdi; exact hd hdi
   simp [this]
 have ht : ((FF ops a₀ L vs ops.size).put o.dst (vs j)).tmps = (FF ops a₀ (fun i => L i || i == j) vs ops.size).tmps := Array.ext_getElem? slots
 have hdf : ((FF ops a₀ L vs ops.size).put o.dst (vs j)).defers = (FF ops a₀ (fun i => L i || i == j) vs ops.size).defers := by rw [put_defers, FF_defers, FF_defers]
 generalize (FF ops a₀ L vs ops.size).put o.dst (vs j) = x at *
 generalize FF ops a₀ (fun i => L i || i == j) vs ops.size = y at *
 cases x; cases y; simp_all
theorem listed_set (listed : Array Bool) (j : Nat) (hs : j < listed.size) : (fun i => (listed.setIfInBounds j true).getD i false) = fun i => listed.getD i false || i == j := by
 funext i
 by_cases h : i = j
 ·subst h; simp [hs]
 ·rw [getD_set_ne false (Ne.symm h)]; simp [h]
theorem tail_run {m : Nat} (hH : Hangs ops nd m pr) : ∀ (fuel j : Nat) (listed : Array Bool) (a : Act) (w : World), m ≤ j → j ≤ ops.size → listed.size = ops.size → (∀ i, listed.getD i false = decide (i < j)) →
  ops.size - j ≤ fuel → wpList P ops Q (ops.toList.drop j) a w → wpAny P .any ops Q fuel listed a w := by
 intro fuel
 induction fuel with
 | zero =>
  intro j listed a w hmj hj hsz hget hf h
  obtain rfl : j = ops.size := by omega
  rw [List.drop_of_length_le (by simp)] at h
  refine ⟨?_, h⟩
  rw [List.eq_nil_iff_forall_not_mem]
  intro i hi
  rw [mem_ready] at hi
  obtain ⟨h0, o, ho, _⟩ := hi
  have hi := (aA.1 ho).1
  have h1 := hget i
  have his : i < listed.size := by omega
  simp [his, hi] at h0 h1
  rw [h1] at h0; cases h0
 | succ fuel ih =>
  intro j listed a w hmj hj hsz hget hf h
  have only : ∀ i, i ∈ Region.ready .any ops listed → i = j := by
   intro i hi
   rw [mem_ready] at hi
   obtain ⟨h0, o, ho, he⟩ := hi
   have hin := (aA.1 ho).1
   have hil : listed.getD i false = false := by
    have his : i < listed.size := by omega
    simp [his] at h0 ⊢
    exact h0
   have hij : j ≤ i := by rw [hget] at hil; simpa using hil
   rcases Nat.lt_or_ge j i with hlt | hge
   ·have hp := hH.tail i (by omega) hin j hlt
    obtain ⟨e, hm, hb, hor⟩ := hH.edge i o ho j hp
    have hel := he e hm hb
    rw [hget] at hel
    have hel' : e.on < j := by simpa using hel
    rcases hor with rfl | hor
    ·omega
    ·have := hH.lt e.on j (by omega) hor; omega
   ·omega
  by_cases hjn : j = ops.size
  ·subst hjn
   rw [List.drop_of_length_le (by simp)] at h
   refine ⟨fun _ => h, fun i hi => ?_⟩
   have := only i hi
   rw [mem_ready] at hi
   obtain ⟨_, o, ho, _⟩ := hi
   have := (aA.1 ho).1
   omega
  ·obtain ⟨o, ho⟩ : ∃ o, ops[j]? = some o := ⟨ops[j], by simp⟩
   have hjs : j < listed.size := by omega
   rw [drop_cons ops.toList j o (by simpa using ho)] at h
   have hset : ∀ i, (listed.setIfInBounds j true).getD i false = decide (i < j + 1) := by
    intro i
    rw [congrFun (listed_set listed j hjs) i, hget]
    by_cases h1 : i < j
    ·simp [h1]; omega
    ·by_cases h2 : i = j
     ·subst h2; simp
     ·have h3 : (i == j) = false := by simp [h2]
      have h4 : decide (i < j + 1) = false := decide_eq_false (by omega)
      have h5 : decide (i < j) = false := decide_eq_false h1
      rw [h3, h4, h5]; rfl
   refine ⟨fun hnil => ?_, fun i hi => ?_⟩
   ·exfalso
    have : j ∈ Region.ready .any ops listed := by
     rw [mem_ready]
     have h1 := hget j
     refine ⟨?_, o, ho, fun e he hb => ?_⟩
     ·simp [hjs] at h1 ⊢; exact h1
     ·rw [hget]
      have := hH.lt j e.on (by omega) (hH.edge' j o ho e he hb)
      simpa using this
    rw [hnil] at this; cases this
   ·obtain rfl := only i hi
    unfold wpList at h
    unfold wpOp
    rw [ho]
    simp only
    have next : ∀ a' w', wpList P ops Q (ops.toList.drop (i + 1)) a' w' → wpAny P .any ops Q fuel (listed.setIfInBounds i true) a' w' :=
     fun a' w' h' => ih (i + 1) _ a' w' (by omega) (by omega) (by simp [hsz]) hset (by omega) h'
    split
    ·rename_i hw
     rw [if_pos hw] at h
     exact h.imp (Oper.wp_mono next) id
    ·rename_i hw
     rw [if_neg hw] at h
     exact next _ _ h
def planOf (ps : List (Nat × Part)) : Nat → Option Part := fun j => ps.lookup j
theorem plan_stable {ps : List (Nat × Part)} {S : Part → Prop} (h : ∀ p ∈ ps, S p.2) : ∀ j q, planOf ps j = some q → S q := by
 intro j q hq
 induction ps with
 | nil => cases hq
 | cons p ps ih =>
  obtain ⟨k, x⟩ := p
  unfold planOf at hq
  rw [List.lookup_cons] at hq
  split at hq
  ·cases hq; exact h (k, q) (by simp)
  ·exact ih (fun p hp => h p (by simp [hp])) hq
def needs (ns : List (Nat × List Nat)) : Nat → List Nat := fun j => (ns.lookup j).getD []
end main
section
variable (P : Program) (ops : Array Oper) (E : Act → World → Prop) (I : World → Prop) (R : World → World → Prop) (pl : Nat → Option Part) (nd : Nat → List Nat) (J : Nat → Value → Nat → Value → World → Prop)
def wpPhiJ : Nat → List Oper → Act → List (Nat × (World → Prop)) → List (Nat × Value) → Prop
 | _, [], a, kn, vn => ∀ w, I w → (∀ p ∈ kn, p.2 w) → (∀ x ∈ vn, ∀ y ∈ vn, x.1 ≠ y.1 → J x.1 x.2 y.1 y.2 w) → E a w
 | j, o :: l, a, kn, vn =>
  if Region.wanted o (yielded ops a.tmps) = true then
   match pl j with
   | none => ∃ v, (∀ w, I w → (execOp a.eval o).run P w = .ok (.value v) w) ∧ wpPhiJ (j + 1) l (a.put o.dst v) kn vn
   | some q => (∃ v, q.val v) ∧ (∀ w, I w → (∀ p ∈ kn, p.1 ∈ nd j → p.2 w) → gives P o a.eval w (fun v w' => (q.val v ∧ q.fact w' v ∧ R w w') ∧ ∀ i q', i ≠ j → pl i = some q' → ∀ v', q'.val v' → q'.fact w v' → J i v' j v w' ∧ J j v i v' w')) ∧
     ∀ v, q.val v → wpPhiJ (j + 1) l (a.put o.dst v) (kn ++ [(j, fun w => q.fact w v)]) (vn ++ [(j, v)])
  else wpPhiJ (j + 1) l (a.put o.dst undef) kn vn
end
theorem gives_mono {P : Program} {o : Oper} {ρ : Operand → Value} {w : World} {T T' : Value → World → Prop} (h : gives P o ρ w T) (ht : ∀ v w', T v w' → T' v w') : gives P o ρ w T' := by
 unfold gives at h ⊢
 generalize (execOp ρ o).run P w = r at *
 cases r with
 | ok n w' =>
  cases n <;> simp only at h ⊢ <;> try exact h.elim
  case value v => exact ht v w' h
  case skip => exact ht undef w' h
  case enter f args =>
   refine Calls.mono h fun e w'' he => ?_
   obtain ⟨v, e1, h1⟩ := he
   exact ⟨v, e1, ht v w'' h1⟩
 | halt x w' => exact h.elim
section rules
variable {P : Program} {ops : Array Oper} {E : Act → World → Prop} {I : World → Prop} {R : World → World → Prop} {pl : Nat → Option Part} {nd : Nat → List Nat} {J : Nat → Value → Nat → Value → World → Prop}
theorem wpPhiJ.toPhi : ∀ {j : Nat} {l : List Oper} {a : Act} {kn : List (Nat × (World → Prop))} {vn : List (Nat × Value)}, wpPhiJ P ops E I R pl nd J j l a kn vn → wpPhi P ops (fun _ _ => True) I R pl nd j l a kn
 | _, [], _, _, _, _ => fun _ _ _ => trivial
 | j, o :: l, a, kn, vn, h => by
  unfold wpPhiJ at h
  unfold wpPhi
  split at h
  ·rename_i hw
   rw [if_pos hw]
   cases hp : pl j with
   | none =>
    rw [hp] at h
    obtain ⟨v, h1, h2⟩ := h
    exact ⟨v, h1, h2.toPhi⟩
   | some q =>
    rw [hp] at h
    obtain ⟨h1, h2, h3⟩ := h
    exact ⟨h1, fun w hI hk => gives_mono (h2 w hI hk) fun v w' ht => ht.1, fun v hv => (h3 v hv).toPhi⟩
  ·rename_i hw
   rw [if_neg hw]
   exact h.toPhi
variable {j : Nat} {o : Oper} {l : List Oper} {a : Act} {kn : List (Nat × (World → Prop))} {vn : List (Nat × Value)}
theorem phiJ_pureK (hw : Region.wanted o (yielded ops a.tmps) = true) (hp : pl j = none)
  (h : ∀ K : Act → Prop, (∀ a', Veil (wpPhiJ P ops E I R pl nd J (j + 1) l a' kn vn) → K a') → ∃ v, (∀ w, I w → (execOp a.eval o).run P w = .ok (.value v) w) ∧ K (a.put o.dst v)) :
  Veil (wpPhiJ P ops E I R pl nd J j (o :: l) a kn vn) := by
 obtain ⟨v, h1, h2⟩ := h _ (fun _ h => h)
 refine ⟨?_⟩
 unfold wpPhiJ; rw [if_pos hw, hp]; exact ⟨v, h1, h2.out⟩
theorem phiJ_skipK (hw : Region.wanted o (yielded ops a.tmps) = false)
  (h : ∀ K : Act → Prop, (∀ a', Veil (wpPhiJ P ops E I R pl nd J (j + 1) l a' kn vn) → K a') → K (a.put o.dst undef)) : Veil (wpPhiJ P ops E I R pl nd J j (o :: l) a kn vn) := by
 refine ⟨?_⟩
 unfold wpPhiJ; rw [if_neg (by rw [hw]; decide)]; exact (h _ (fun _ h => h)).out
theorem phiJ_partK (q : Part) (hw : Region.wanted o (yielded ops a.tmps) = true) (hp : pl j = some q) (hv : ∃ v, q.val v)
  (hg : ∀ w, I w → (∀ p ∈ kn, p.1 ∈ nd j → p.2 w) → gives P o a.eval w (fun v w' => (q.val v ∧ q.fact w' v ∧ R w w') ∧ ∀ i q', i ≠ j → pl i = some q' → ∀ v', q'.val v' → q'.fact w v' → J i v' j v w' ∧ J j v i v' w'))
  (h : ∀ K : Act → List (Nat × (World → Prop)) → List (Nat × Value) → Prop, (∀ a' kn' vn', Veil (wpPhiJ P ops E I R pl nd J (j + 1) l a' kn' vn') → K a' kn' vn') → ∀ v, q.val v → K (a.put o.dst v) (kn ++ [(j, fun w => q.fact w v)]) (vn ++ [(j, v)])) :
  Veil (wpPhiJ P ops E I R pl nd J j (o :: l) a kn vn) := by
 refine ⟨?_⟩
 unfold wpPhiJ; rw [if_pos hw, hp]; exact ⟨hv, hg, fun v hv => (h _ (fun _ _ _ h => h) v hv).out⟩
theorem phiJ_done (h : ∀ w, I w → (∀ p ∈ kn, p.2 w) → (∀ x ∈ vn, ∀ y ∈ vn, x.1 ≠ y.1 → J x.1 x.2 y.1 y.2 w) → E a w) : Veil (wpPhiJ P ops E I R pl nd J j [] a kn vn) := ⟨h⟩
end rules
section main
variable {P : Program} {ops : Array Oper} {Q : Exit → Act → World → Prop} {E : Act → World → Prop} {lo : List Oper} {I : World → Prop} {R : World → World → Prop} {pl : Nat → Option Part} {nd : Nat → List Nat} {a₀ : Act} {pr : Nat → Nat → Bool} {J : Nat → Value → Nat → Value → World → Prop}
open Classical in
noncomputable def vnOf (ops : Array Oper) (pl : Nat → Option Part) (a₀ : Act) (vs : Nat → Value) : Nat → List (Nat × Value)
 | 0 => []
 | k + 1 => match ops[k]?, pl k with
  | some o, some _ => if wantAt ops a₀ vs k o then vnOf ops pl a₀ vs k ++ [(k, vs k)] else vnOf ops pl a₀ vs k
  | _, _ => vnOf ops pl a₀ vs k
theorem mem_vnOf {vs : Nat → Value} {p : Nat × Value} : ∀ {k : Nat}, p ∈ vnOf ops pl a₀ vs k →
  ∃ i o q, i < k ∧ ops[i]? = some o ∧ pl i = some q ∧ wantAt ops a₀ vs i o ∧ p = (i, vs i)
 | 0, h => by cases h
 | k + 1, h => by
  have up : p ∈ vnOf ops pl a₀ vs k → ∃ i o q, i < k + 1 ∧ ops[i]? = some o ∧ pl i = some q ∧ wantAt ops a₀ vs i o ∧ p = (i, vs i) := fun h => by
   obtain ⟨i, o, q, hi, r⟩ := mem_vnOf h
   exact ⟨i, o, q, by omega, r⟩
  unfold vnOf at h
  split at h
  ·rename_i o q ho hq
   split at h
   ·rename_i hw
    rcases List.mem_append.1 h with h | h
    ·exact up h
    ·exact ⟨k, o, q, by omega, ho, hq, hw, List.mem_singleton.1 h⟩
   ·exact up h
  ·exact up h
theorem phi_atJ (w₀ : World) (hw₀ : I w₀) (hlo : ∀ i, i < lo.length → ops[i]? = lo[i]?) (h : wpPhiJ P ops E I R pl nd J 0 lo a₀ [] []) (vs : Nat → Value) : ∀ k, k ≤ lo.length → (∀ i, i < k → StepOk P ops I pl a₀ vs i) →
  wpPhiJ P ops E I R pl nd J k (lo.drop k) (GG ops a₀ vs k) (knOf ops pl a₀ vs k) (vnOf ops pl a₀ vs k)
 | 0, _, _ => by simpa [GG, FF, knOf, vnOf] using h
 | k + 1, hk, hs => by
  have ih := phi_atJ w₀ hw₀ hlo h vs k (by omega) (fun i hi => hs i (by omega))
  obtain ⟨o, hol⟩ : ∃ o, lo[k]? = some o := ⟨lo[k], by simp⟩
  have ho : ops[k]? = some o := (hlo k (by omega)).trans hol
  rw [drop_cons lo k o hol] at ih
  have hg : GG ops a₀ vs (k + 1) = (GG ops a₀ vs k).put o.dst (vs k) := by
   simp only [GG, FF, if_true]
   congr 1
   simp [dstOf, ho]
  obtain ⟨h1, h2⟩ := hs k (by omega) o ho
  rw [hg]
  unfold wpPhiJ at ih
  unfold knOf vnOf
  by_cases hw : wantAt ops a₀ vs k o
  ·have hw' := hw
   unfold wantAt at hw'
   rw [if_pos hw'] at ih
   obtain ⟨h3, h4⟩ := h1 hw
   cases hp : pl k with
   | none =>
    rw [hp] at ih
    obtain ⟨v, hv, ih⟩ := ih
    have e := (hv w₀ hw₀).symm.trans (h3 hp w₀ hw₀)
    simp only [Result.ok.injEq, Next.value.injEq, and_true] at e
    subst e
    simpa [ho] using ih
   | some q =>
    rw [hp] at ih
    have := ih.2.2 (vs k) (h4 q hp)
    simpa [ho, hw] using this
  ·have hw' := hw
   unfold wantAt at hw'
   rw [if_neg hw'] at ih
   rw [h2 hw]
   cases hp : pl k with
   | none => simpa [ho] using ih
   | some q => simpa [ho, hw] using ih
theorem phi_runJ (w₀ : World) (hw₀ : I w₀) (hlo : ∀ i, i < lo.length → ops[i]? = lo[i]?) (hle : lo.length ≤ ops.size) (hH : Hangs ops nd lo.length pr) (h : wpPhiJ P ops E I R pl nd J 0 lo a₀ [] [])
  (htl : ∀ j, lo.length ≤ j → j < ops.size → ∀ i, i < lo.length → pr j i = true)
  (hE : ∀ a w, E a w → ∀ (fuel : Nat) (listed : Array Bool), listed.size = ops.size → (∀ i, listed.getD i false = decide (i < lo.length)) → ops.size - lo.length ≤ fuel → wpAny P .any ops Q fuel listed a w)
  (hI : ∀ w w', I w → R w w' → I w') (hS : ∀ j q, pl j = some q → ∀ w w' v, I w → R w w' → q.fact w v → q.fact w' v) (hJ : ∀ i v j v' w w', I w → R w w' → J i v j v' w → J i v j v' w') :
  ∀ (fuel : Nat) (listed : Array Bool) (a : Act) (w : World) (vs : Nat → Value), listed.size = ops.size → (∀ i, listed.getD i false = true → i < lo.length) →
   (∀ k, k < ops.size → listed.getD k false = true → ∀ i, pr k i = true → listed.getD i false = true) →
   (∀ j, j < lo.length → StepOk P ops I pl a₀ vs j) → a = FF ops a₀ (fun i => listed.getD i false) vs ops.size → I w →
   (∀ i, i < ops.size → listed.getD i false = true → ∀ o q, ops[i]? = some o → wantAt ops a₀ vs i o → pl i = some q → q.fact w (vs i)) →
   (∀ i k, i < ops.size → k < ops.size → listed.getD i false = true → listed.getD k false = true → i ≠ k → ∀ oi qi ok qk, ops[i]? = some oi → wantAt ops a₀ vs i oi → pl i = some qi → ops[k]? = some ok → wantAt ops a₀ vs k ok → pl k = some qk → J i (vs i) k (vs k) w) →
   ((List.range ops.size).filter fun i => !listed.getD i false).length ≤ fuel → wpAny P .any ops Q fuel listed a w := by
 have hedge : ∀ j o, ops[j]? = some o → ∀ (listed : Array Bool), (∀ k, k < ops.size → listed.getD k false = true → ∀ i, pr k i = true → listed.getD i false = true) →
   (∀ e ∈ o.after, Region.binds .any e = true → listed.getD e.on false = true) → ∀ i, pr j i = true → listed.getD i false = true := by
  intro j o ho listed hc he i hi
  have hjn := (aA.1 ho).1
  obtain ⟨e, hm, hb, hor⟩ := hH.edge j o ho i hi
  rcases hor with rfl | hor
  ·exact he e hm hb
  ·have hlt := hH.lt j e.on hjn (hH.edge' j o ho e hm hb)
   exact hc e.on (by omega) (he e hm hb) i hor
 have atEnd : ∀ (fuel : Nat) (listed : Array Bool) (w : World) (vs : Nat → Value), listed.size = ops.size → (∀ i, listed.getD i false = true → i < lo.length) → (∀ j, j < lo.length → StepOk P ops I pl a₀ vs j) → I w →
   (∀ i, i < ops.size → listed.getD i false = true → ∀ o q, ops[i]? = some o → wantAt ops a₀ vs i o → pl i = some q → q.fact w (vs i)) →
   (∀ i k, i < ops.size → k < ops.size → listed.getD i false = true → listed.getD k false = true → i ≠ k → ∀ oi qi ok qk, ops[i]? = some oi → wantAt ops a₀ vs i oi → pl i = some qi → ops[k]? = some ok → wantAt ops a₀ vs k ok → pl k = some qk → J i (vs i) k (vs k) w) →
   ((List.range ops.size).filter fun i => !listed.getD i false).length ≤ fuel →
   (∀ i, i < lo.length → listed.getD i false = true) → wpAny P .any ops Q fuel listed (FF ops a₀ (fun i => listed.getD i false) vs ops.size) w := by
  intro fuel listed w vs hsz hin hs hw hf hf2 hn hall
  have hget : ∀ i, listed.getD i false = decide (i < lo.length) := by
   intro i
   by_cases hi : i < lo.length
   ·rw [hall i hi]; simp [hi]
   ·cases hl : listed.getD i false with
    | false => simp [hi]
    | true => exact absurd (hin i hl) hi
  have e : FF ops a₀ (fun i => listed.getD i false) vs ops.size = GG ops a₀ vs lo.length := by
   rw [show (fun i => listed.getD i false) = fun i => decide (i < lo.length) from funext hget, FF_below vs lo.length ops.size hle]; rfl
  rw [e]
  have := phi_atJ w₀ hw₀ hlo h vs lo.length (nR _) hs
  rw [List.drop_of_length_le (nR _)] at this
  unfold wpPhiJ at this
  refine hE _ _ (this w hw (fun p hp => ?_) (fun x hx y hy hne => ?_)) fuel listed hsz hget ?_
  ·obtain ⟨i, o, q, hi, ho, hq, hwant, rfl⟩ := mem_knOf hp
   exact hf i (by omega) (hall i hi) o q ho hwant hq
  ·obtain ⟨i, o, q, hi, ho, hq, hwi, rfl⟩ := mem_vnOf hx
   obtain ⟨k, o', q', hk, ho', hq', hwk, rfl⟩ := mem_vnOf hy
   exact hf2 i k (by omega) (by omega) (hall i hi) (hall k hk) hne o q o' q' ho hwi hq ho' hwk hq'
  ·have e2 : ((List.range ops.size).filter fun i => !listed.getD i false).length = ops.size - lo.length := by
    rw [show (fun i => !listed.getD i false) = fun i => !decide (i < lo.length) from funext fun i => by rw [hget]]
    have gen : ∀ n, ((List.range n).filter fun i => !decide (i < lo.length)).length = n - lo.length := by
     intro n
     induction n with
     | zero => simp
     | succ n ih =>
      rw [List.range_succ, List.filter_append, List.length_append, ih]
      by_cases hn : n < lo.length
      ·simp [hn]; omega
      ·simp [hn]; omega
    exact gen _
   omega
 intro fuel
 induction fuel with
 | zero =>
  intro listed a w vs hsz hin hc hs ha hw hf hf2 hn
  have hall : ∀ i, i < ops.size → listed.getD i false = true := by
   intro i hi
   have hnil := List.eq_nil_of_length_eq_zero (Nat.le_zero.1 hn)
   rw [List.filter_eq_nil_iff] at hnil
   have := hnil i (List.mem_range.2 hi)
   simpa using this
  rw [ha]
  exact atEnd 0 listed w vs hsz hin hs hw hf hf2 hn (fun i hi => hall i (by omega))
 | succ fuel ih =>
  intro listed a w vs hsz hin hc hs ha hw hf hf2 hn
  have getD_of : ∀ j, j < ops.size → listed.getD j true = listed.getD j false := by
   intro j hj
   have hjs : j < listed.size := by rw [hsz]; exact hj
   simp [hjs]
  by_cases hend : ∀ i, i < lo.length → listed.getD i false = true
  ·rw [ha]
   exact atEnd (fuel + 1) listed w vs hsz hin hs hw hf hf2 hn hend
  refine ⟨fun hnil => ?_, fun j hj => ?_⟩
  ·exfalso
   apply hend
   -- the least one that is not listed would be ready
   have key : ∀ i, i < ops.size → listed.getD i false = true := by
    intro i
    induction i using Nat.strongRecOn with
    | _ i ihi =>
     intro hi
     cases hl : listed.getD i false with
     | true => rfl
     | false =>
      obtain ⟨o, ho⟩ : ∃ o, ops[i]? = some o := ⟨ops[i], by simp [hi]⟩
      have : i ∈ Region.ready .any ops listed := by
       rw [mem_ready]
       refine ⟨by rw [getD_of i hi]; exact hl, o, ho, fun e he hb => ?_⟩
       have hlt := hH.lt i e.on hi (hH.edge' i o ho e he hb)
       exact ihi e.on hlt (by omega)
      rw [hnil] at this; cases this
   exact fun i hi => key i (by omega)
  ·rw [mem_ready] at hj
   obtain ⟨h0, o, ho, he⟩ := hj
   have hjn : j < ops.size := (aA.1 ho).1
   rw [getD_of j hjn] at h0
   have hpr := hedge j o ho listed hc he
   have hjm : j < lo.length := by
    rcases Nat.lt_or_ge j lo.length with h' | h'
    ·exact h'
    ·exact absurd (fun i hi => hpr i (htl j h' hjn i hi)) hend
   have hL' := listed_set listed j (by rw [hsz]; exact hjn)
   have hsz' : (listed.setIfInBounds j true).size = ops.size := by simp [hsz]
   have hget : ∀ i, (listed.setIfInBounds j true).getD i false = (listed.getD i false || i == j) := fun i => congrFun hL' i
   have hin' : ∀ i, (listed.setIfInBounds j true).getD i false = true → i < lo.length := by
    intro i hi
    rw [hget] at hi
    simp only [Bool.or_eq_true, beq_iff_eq] at hi
    rcases hi with hi | rfl
    ·exact hin i hi
    ·exact hjm
   have hc' : ∀ k, k < ops.size → (listed.setIfInBounds j true).getD k false = true → ∀ i, pr k i = true → (listed.setIfInBounds j true).getD i false = true := by
    intro k hk hk' i hi
    rw [hget] at hk' ⊢
    simp only [Bool.or_eq_true, beq_iff_eq] at hk' ⊢
    rcases hk' with hk' | rfl
    ·exact .inl (hc k hk hk' i hi)
    ·exact .inl (hpr i hi)
   have hn' : ((List.range ops.size).filter fun i => !(listed.setIfInBounds j true).getD i false).length ≤ fuel := by
    have hlt : ((List.range ops.size).filter fun i => !(listed.setIfInBounds j true).getD i false).length < ((List.range ops.size).filter fun i => !listed.getD i false).length := by
     have e : ((List.range ops.size).filter fun i => !(listed.setIfInBounds j true).getD i false) = (((List.range ops.size).filter fun i => !listed.getD i false).filter fun i => !(i == j)) := by
      rw [List.filter_filter]
      congr 1
      funext i
      rw [hget]
      cases listed.getD i false <;> simp
     rw [e]
     refine List.length_filter_lt_length_iff_exists.2 ⟨j, ?_, by simp⟩
     rw [List.mem_filter]
     exact ⟨List.mem_range.2 hjn, by rw [h0]; rfl⟩
    omega
   -- what the operation looks at is as in the text's order
   have look : execOp a.eval o = execOp (GG ops a₀ vs j).eval o ∧ Region.wanted o (yielded ops a.tmps) = Region.wanted o (yielded ops (GG ops a₀ vs j).tmps) := by
    subst ha
    refine same_look (hH.sel j o ho) fun t ht => ?_
    have e1 : (GG ops a₀ vs j).tmps[t]? = (FF ops a₀ (fun i => decide (i < j)) vs ops.size).tmps[t]? := by rw [FF_below vs j ops.size (by omega)]; rfl
    rw [e1]
    refine FF_slot _ fun i hi hd => ⟨?_, fun _ => rfl⟩
    obtain ⟨x, hx, hxd⟩ : ∃ x, ops[i]? = some x ∧ x.dst = some t := by
     unfold dstOf at hd
     cases hx : ops[i]? with
     | none => simp [hx] at hd
     | some x => exact ⟨x, rfl, by simpa [hx] using hd⟩
    rcases Nat.lt_trichotomy i j with hij | hij | hij
    ·rw [hpr i (hH.clash i j x o hx ho hij (clash_look hxd (.inl ht)))]; simp [hij]
    ·subst hij; rw [h0]; simp
    ·have h1 := hH.clash j i o x ho hx hij (clash_look' hxd ht)
     have h2 : listed.getD i false = false := by
      cases hLi : listed.getD i false with
      | false => rfl
      | true => rw [hc i hi hLi j h1] at h0; cases h0
     rw [h2]; simp; omega
   have add : ∀ vs', (∀ i, i < ops.size → listed.getD i false = true → vs' i = vs i) →
     a.put o.dst (vs' j) = FF ops a₀ (fun i => (listed.setIfInBounds j true).getD i false) vs' ops.size := by
    intro vs' hv
    rw [hL', ← FF_add hH (fun i => listed.getD i false) vs' j o ho h0 hc hpr, ha]
    congr 1
    exact FF_congr _ fun i hi => ⟨rfl, fun hl => (hv i hi hl).symm⟩
   unfold wpOp
   rw [ho]
   simp only
   obtain ⟨hs1, hs2⟩ := hs j hjm o ho
   by_cases hwant : wantAt ops a₀ vs j o
   ·have hwant' : Region.wanted o (yielded ops a.tmps) = true := by rw [look.2]; exact hwant
    rw [if_pos hwant']
    refine .inl ?_
    obtain ⟨hp1, hp2⟩ := hs1 hwant
    cases hp : pl j with
    | none =>
     refine gives_wp (ρ := (GG ops a₀ vs j).eval) (T := fun v w' => v = vs j ∧ w' = w) look.1 ?_ ?_
     ·unfold gives; rw [hp1 hp w hw]; exact ⟨rfl, rfl⟩
     ·rintro v w' ⟨rfl, rfl⟩
      refine ih _ _ _ vs hsz' hin' hc' hs (add vs fun _ _ _ => rfl) hw (fun i hi hl o' q' ho' hwi hq' => ?_) (fun i k hi hk hl hl2 hne oi qi ok qk hoi hwi hqi hok hwk hqk => ?_) hn'
      ·rw [hget] at hl
       simp only [Bool.or_eq_true, beq_iff_eq] at hl
       rcases hl with hl | rfl
       ·exact hf i hi hl o' q' ho' hwi hq'
       ·rw [hp] at hq'; cases hq'
      ·rw [hget] at hl hl2
       simp only [Bool.or_eq_true, beq_iff_eq] at hl hl2
       rcases hl with hl | rfl
       ·rcases hl2 with hl2 | rfl
        ·exact hf2 i k hi hk hl hl2 hne oi qi ok qk hoi hwi hqi hok hwk hqk
        ·rw [hp] at hqk; cases hqk
       ·rw [hp] at hqi; cases hqi
    | some q =>
     have hat := phi_atJ w₀ hw₀ hlo h vs j (by omega) (fun i hi => hs i (by omega))
     rw [drop_cons lo j o (by rw [← hlo j hjm]; exact ho)] at hat
     unfold wpPhiJ at hat
     rw [if_pos (show Region.wanted o (yielded ops (GG ops a₀ vs j).tmps) = true from hwant), hp] at hat
     obtain ⟨_, hg, _⟩ := hat
     have hgive := hg w hw (fun p hpk hpn => by
      obtain ⟨i, o', q', hi, ho', hq', hwi, rfl⟩ := mem_knOf hpk
      have hpri := hH.need j hjn i (hpn)
      exact hf i (by omega) (hpr i hpri) o' q' ho' hwi hq')
     refine gives_wp (ρ := (GG ops a₀ vs j).eval) look.1 hgive ?_
     rintro v w' ⟨⟨hv, hfact, hR⟩, hrel⟩
     have hcL : ∀ k, k < lo.length → (listed.getD k false || k == j) = true → ∀ i, pr k i = true → (listed.getD i false || i == j) = true := by
      intro k hk hk' i hi
      have := hc' k (by omega) (by rw [hget]; exact hk') i hi
      rwa [hget] at this
     obtain ⟨vs', hv1, hv2⟩ := complete w₀ hw₀ hlo hle hH h.toPhi (fun i => listed.getD i false || i == j) (upd vs j v) hcL (fun k hk hkL => by
      by_cases e : k = j
      ·subst e
       intro o' ho'
       obtain rfl : o = o' := Option.some.inj (ho.symm.trans ho')
       unfold wantAt
       rw [GG_upd]
       refine ⟨fun _ => ⟨fun hn => (by rw [hp] at hn; cases hn), fun q' hq' => ?_⟩, fun hn => absurd hwant hn⟩
       rw [hp] at hq'; cases hq'
       simpa [upd] using hv
      ·have hkl : listed.getD k false = true := by simpa [e] using hkL
       refine stepOk_congr hH (fun i hi => ?_) (by simp [upd, e]) (hs k hk)
       have hil := hc k (by omega) hkl i hi
       have : i ≠ j := fun e' => by subst e'; rw [hil] at h0; cases h0
       simp [upd, this])
     have agree : ∀ i, i < ops.size → listed.getD i false = true → vs' i = vs i := by
      intro i _ hil
      have hne : i ≠ j := fun e' => by subst e'; rw [hil] at h0; cases h0
      rw [hv1 i (show (listed.getD i false || i == j) = true by rw [hil]; rfl)]
      simp [upd, hne]
     have hvj : vs' j = v := by rw [hv1 j (by simp)]; simp [upd]
     have e2 := add vs' agree
     rw [hvj] at e2
     have hwas : ∀ i, i < ops.size → listed.getD i false = true → ∀ o', ops[i]? = some o' → wantAt ops a₀ vs' i o' → wantAt ops a₀ vs i o' := fun i hi hil o' ho' hwi => by
      refine (look_congr hH ho' fun k hk => ?_).2.1 hwi
      have hlt := hH.lt i k hi hk
      exact agree k (by omega) (hc i hi hil k hk)
     have hval : ∀ i, i < ops.size → listed.getD i false = true → ∀ o' q', ops[i]? = some o' → wantAt ops a₀ vs i o' → pl i = some q' → q'.val (vs i) := fun i hi hil o' q' ho' hwi hq' =>
      ((hs i (hin i hil) o' ho').1 hwi).2 q' hq'
     refine ih _ _ _ vs' hsz' hin' hc' hv2 e2 (hI w w' hw hR) (fun i hi hl o' q' ho' hwi hq' => ?_) (fun i k hi hk hl hl2 hne oi qi ok qk hoi hwi hqi hok hwk hqk => ?_) hn'
     ·rw [hget] at hl
      simp only [Bool.or_eq_true, beq_iff_eq] at hl
      by_cases e : i = j
      ·subst e
       rw [hp] at hq'; cases hq'
       rw [hvj]; exact hfact
      ·have hil := hl.resolve_right e
       rw [agree i hi hil]
       exact hS i q' hq' w w' _ hw hR (hf i hi hil o' q' ho' (hwas i hi hil o' ho' hwi) hq')
     ·rw [hget] at hl hl2
      simp only [Bool.or_eq_true, beq_iff_eq] at hl hl2
      by_cases e : i = j
      ·by_cases e' : k = j
       ·exact absurd (e.trans e'.symm) hne
       ·have hil := hl2.resolve_right e'
        rw [agree k hk hil, e, hvj]
        have hwk' := hwas k hk hil ok hok hwk
        exact (hrel k qk e' hqk (vs k) (hval k hk hil ok qk hok hwk' hqk) (hf k hk hil ok qk hok hwk' hqk)).2
      ·have hil := hl.resolve_right e
       have hwi' := hwas i hi hil oi hoi hwi
       by_cases e' : k = j
       ·rw [agree i hi hil, e', hvj]
        exact (hrel i qi e hqi (vs i) (hval i hi hil oi qi hoi hwi' hqi) (hf i hi hil oi qi hoi hwi' hqi)).1
       ·have hkl := hl2.resolve_right e'
        rw [agree i hi hil, agree k hk hkl]
        exact hJ i (vs i) k (vs k) w w' hw hR (hf2 i k hi hk hil hkl hne oi qi ok qk hoi hwi' hqi hok (hwas k hk hkl ok hok hwk) hqk)
   ·have hwant' : ¬ Region.wanted o (yielded ops a.tmps) = true := by rw [look.2]; exact hwant
    rw [if_neg hwant']
    have e2 := add vs (fun _ _ _ => rfl)
    rw [hs2 hwant] at e2
    refine ih _ _ _ vs hsz' hin' hc' hs e2 hw (fun i hi hl o' q' ho' hwi hq' => ?_) (fun i k hi hk hl hl2 hne oi qi ok qk hoi hwi hqi hok hwk hqk => ?_) hn'
    ·rw [hget] at hl
     simp only [Bool.or_eq_true, beq_iff_eq] at hl
     rcases hl with hl | rfl
     ·exact hf i hi hl o' q' ho' hwi hq'
     ·obtain rfl : o = o' := Option.some.inj (ho.symm.trans ho')
      exact absurd hwi hwant
    ·rw [hget] at hl hl2
     simp only [Bool.or_eq_true, beq_iff_eq] at hl hl2
     rcases hl with hl | rfl
     ·rcases hl2 with hl2 | rfl
      ·exact hf2 i k hi hk hl hl2 hne oi qi ok qk hoi hwi hqi hok hwk hqk
      ·obtain rfl : o = ok := Option.some.inj (ho.symm.trans hok)
       exact absurd hwk hwant
     ·obtain rfl : o = oi := Option.some.inj (ho.symm.trans hoi)
      exact absurd hwi hwant
theorem wp_phi_RJ {id : Nat} {w : World} (lo tl : List Oper) (R : World → World → Prop) (I : World → Prop) (ps : List (Nat × Part)) (ns : List (Nat × List Nat)) (hm : P.follows .mixedOrders = true)
  (hok : phiOk (lo ++ tl).toArray (needs ns) lo.length = true)
  (hI : ∀ w w', I w → R w w' → I w') (hS : ∀ p ∈ ps, ∀ w w' v, I w → R w w' → p.2.fact w v → p.2.fact w' v)
  (hJ : ∀ i v j v' w w', I w → R w w' → J i v j v' w → J i v j v' w') (hw : I w.drew) (h : wpPhiJ P (lo ++ tl).toArray (wpList P (lo ++ tl).toArray Q tl) I R (planOf ps) (needs ns) J 0 lo a₀ [] []) : (Code.region id (lo ++ tl).toArray true).wp P Q a₀ w := by
 generalize hops : (lo ++ tl).toArray = ops at *
 have hlo : ∀ i, i < lo.length → ops[i]? = lo[i]? := by
  intro i hi; rw [← hops]; simp [List.getElem?_append_left hi]
 have hle : lo.length ≤ ops.size := by rw [← hops]; simp
 have hdrop : ops.toList.drop lo.length = tl := by rw [← hops]; simp
 obtain ⟨pr, hH⟩ := hangs_of_ok hok
 obtain ⟨vs, _, hvs⟩ := complete w.drew hw hlo hle hH h.toPhi (fun _ => false) (fun _ => undef) (fun _ _ h => by cases h) (fun _ _ h => by cases h)
 have hrep : ∀ i : Nat, (Array.replicate ops.size false).getD i false = false := by
  intro i
  rw [Array.getD_eq_getD_getElem?, Array.getElem?_replicate]
  split <;> rfl
 refine wp_region_any hm (phi_runJ w.drew hw hlo hle hH h (fun j h1 h2 i hi => hH.tail j h1 h2 i (by omega)) ?_ hI (plan_stable (S := fun q => ∀ w w' v, I w → R w w' → q.fact w v → q.fact w' v) hS) hJ ops.size _ a₀ w.drew vs (by simp) ?_ ?_ hvs ?_ hw ?_ ?_ ?_)
 ·intro a w' hE fuel listed hsz hget hf
  exact tail_run hH fuel lo.length listed a w' (nR _) hle hsz hget hf (by rw [hdrop]; exact hE)
 ·intro i hi; rw [hrep] at hi; cases hi
 ·intro k _ hk; rw [hrep] at hk; cases hk
 ·have gen : ∀ k, FF ops a₀ (fun i => (Array.replicate ops.size false).getD i false) vs k = a₀ := by
   intro k
   induction k with
   | zero => rfl
   | succ k ih =>
    simp only [FF]
    rw [if_neg (by rw [hrep]; decide), ih]
  exact (gen _).symm
 ·intro i _ hk; rw [hrep] at hk; cases hk
 ·intro i k _ _ hk; rw [hrep] at hk; cases hk
 ·exact nT (List.length_filter_le _ _) (by simp)
theorem wp_phiJ_tail {id : Nat} {w : World} (lo tl : List Oper) {l : List Oper} (hl : l = lo ++ tl) (I : World → Prop) (ps : List (Nat × Part)) (ns : List (Nat × List Nat)) (J : Nat → Value → Nat → Value → World → Prop) (hm : P.follows .mixedOrders = true) (hok : phiOk l.toArray (needs ns) lo.length = true)
  (hI : ∀ w w', I w → Below w.heap.size w w' → I w') (hS : ∀ p ∈ ps, ∀ w w' v, I w → Below w.heap.size w w' → p.2.fact w v → p.2.fact w' v)
  (hJ : ∀ i v j v' w w', I w → Below w.heap.size w w' → J i v j v' w → J i v j v' w')
  (hw : I w.drew) (h : Veil (wpPhiJ P l.toArray (wpList P l.toArray Q tl) I (fun w w' => Below w.heap.size w w') (planOf ps) (needs ns) J 0 lo a₀ [] [])) : (Code.region id l.toArray true).wp P Q a₀ w := by
 subst hl
 exact wp_phi_RJ lo tl (fun w w' => Below w.heap.size w w') I ps ns hm hok hI hS hJ hw h.out
end main
theorem wpPhi.toJ {P : Program} {ops : Array Oper} {E : Act → World → Prop} {I : World → Prop} {R : World → World → Prop} {pl : Nat → Option Part} {nd : Nat → List Nat} : ∀ {j : Nat} {l : List Oper} {a : Act} {kn : List (Nat × (World → Prop))} {vn : List (Nat × Value)}, wpPhi P ops E I R pl nd j l a kn → wpPhiJ P ops E I R pl nd (fun _ _ _ _ _ => True) j l a kn vn
 | _, [], _, _, _, h => fun w h1 h2 _ => h w h1 h2
 | j, o :: l, a, kn, vn, h => by
  unfold wpPhi at h
  unfold wpPhiJ
  split at h
  ·rename_i hw
   rw [if_pos hw]
   cases hp : pl j with
   | none =>
    rw [hp] at h
    obtain ⟨v, h1, h2⟩ := h
    exact ⟨v, h1, h2.toJ⟩
   | some q =>
    rw [hp] at h
    obtain ⟨h1, h2, h3⟩ := h
    exact ⟨h1, fun w hI hk => gives_mono (h2 w hI hk) fun v w' ht => ⟨ht, fun _ _ _ _ _ _ _ => ⟨trivial, trivial⟩⟩, fun v hv => (h3 v hv).toJ⟩
  ·rename_i hw
   rw [if_neg hw]
   exact h.toJ
section main2
variable {P : Program} {Q : Exit → Act → World → Prop} {a₀ : Act}
theorem wp_phi_R {id : Nat} {w : World} (lo tl : List Oper) (R : World → World → Prop) (I : World → Prop) (ps : List (Nat × Part)) (ns : List (Nat × List Nat)) (hm : P.follows .mixedOrders = true)
  (hok : phiOk (lo ++ tl).toArray (needs ns) lo.length = true)
  (hI : ∀ w w', I w → R w w' → I w') (hS : ∀ p ∈ ps, ∀ w w' v, I w → R w w' → p.2.fact w v → p.2.fact w' v)
  (hw : I w.drew) (h : wpPhi P (lo ++ tl).toArray (wpList P (lo ++ tl).toArray Q tl) I R (planOf ps) (needs ns) 0 lo a₀ []) : (Code.region id (lo ++ tl).toArray true).wp P Q a₀ w :=
 wp_phi_RJ (J := fun _ _ _ _ _ => True) lo tl R I ps ns hm hok hI hS (fun _ _ _ _ _ _ _ _ _ => trivial) hw h.toJ
theorem wp_phi {id : Nat} {w : World} {lo : List Oper} (I : World → Prop) (ps : List (Nat × Part)) (ns : List (Nat × List Nat)) (hm : P.follows .mixedOrders = true) (hok : phiOk lo.toArray (needs ns) lo.length = true)
  (hI : ∀ w w', I w → Below w.heap.size w w' → I w') (hS : ∀ p ∈ ps, ∀ w w' v, I w → Below w.heap.size w w' → p.2.fact w v → p.2.fact w' v)
  (hw : I w.drew) (h : Veil (wpPhi P lo.toArray (wpList P lo.toArray Q []) I (fun w w' => Below w.heap.size w w') (planOf ps) (needs ns) 0 lo a₀ [])) : (Code.region id lo.toArray true).wp P Q a₀ w := by
 have := wp_phi_R (P := P) (Q := Q) (id := id) (w := w) (a₀ := a₀) lo [] (fun w w' => Below w.heap.size w w') I ps ns hm (by rw [List.append_nil]; exact hok) hI hS hw (by rw [List.append_nil]; exact h.out)
 rwa [List.append_nil] at this
theorem wp_phi_tail {id : Nat} {w : World} (lo tl : List Oper) {l : List Oper} (hl : l = lo ++ tl) (I : World → Prop) (ps : List (Nat × Part)) (ns : List (Nat × List Nat)) (hm : P.follows .mixedOrders = true) (hok : phiOk l.toArray (needs ns) lo.length = true)
  (hI : ∀ w w', I w → Below w.heap.size w w' → I w') (hS : ∀ p ∈ ps, ∀ w w' v, I w → Below w.heap.size w w' → p.2.fact w v → p.2.fact w' v)
  (hw : I w.drew) (h : Veil (wpPhi P l.toArray (wpList P l.toArray Q tl) I (fun w w' => Below w.heap.size w w') (planOf ps) (needs ns) 0 lo a₀ [])) : (Code.region id l.toArray true).wp P Q a₀ w := by
 subst hl
 exact wp_phi_R lo tl (fun w w' => Below w.heap.size w w') I ps ns hm hok hI hS hw h.out
end main2
def PVal (c : Value) : Part := ⟨fun v => v = c, fun _ _ => True⟩
def Stays (q : Part) : Prop := ∀ w w' v, Below w.heap.size w w' → q.fact w v → q.fact w' v
theorem PVal_stays (c : Value) : Stays (PVal c) := fun _ _ _ _ _ => trivial
theorem below_drewN (w : World) (n : Nat) : Below w.heap.size w (w.drewN n) := ⟨rfl, rfl, rfl, nR _, fun _ _ => rfl⟩
theorem below_alloc {w w' : World} (h : Below w.heap.size w w') (o : Obj) : Below w.heap.size w (w'.alloc o) := h.alloc h.size o
theorem below_alloc1 (w : World) (o : Obj) : Below w.heap.size w (w.alloc o) := (Below.refl _ _).alloc (nR _) o
end
section
set_option maxHeartbeats 1000000
set_option maxRecDepth 20000
open Go.RowKit
def bs (l : List UInt8) : ByteArray := ⟨l.toArray⟩
theorem bs_toList (l : List UInt8) : (bs l).toList = l := by rw [Lib.toList_data]; rfl
theorem bs_size (l : List UInt8) : (bs l).size = l.length := by simp [bs, ByteArray.size]
theorem bs_append (l m : List UInt8) : bs l ++ bs m = bs (l ++ m) := by
 apply ByteArray.ext
 rw [ByteArray.data_append]; simp [bs]
theorem run_str_add {P : Program} (w : World) (a b : List UInt8) (h : a.length + b.length ≤ 9223372036854775807) :
  (Op.stringOp .add (bs a) (bs b)).run P w = .ok (.string (bs (a ++ b))) w := by
 unfold Op.stringOp
 simp only
 rw [if_neg (by rw [bs_size, bs_size]; show ¬ (IntKind.i64.max < _); simp [IntKind.max, IntKind.signed, IntKind.bits]; omega), bs_append]
 rfl
theorem bs_extract (l : List UInt8) (i j : Nat) : (bs l).extract i j = bs ((l.drop i).take (j - i)) := by
 apply ByteArray.ext
 rw [ByteArray.data_extract]
 simp [bs, List.extract_toArray, List.extract_eq_take_drop]
theorem run_str_to {P : Program} {t : TypeId} (ht : P.underlying t = some .string) (l : List UInt8) (k : Nat) (hk : k ≤ l.length) (w : World) :
  (Instr.slice t (.string (bs l)) none (some (.int .i64 (k : Int))) none).run P w = .ok (.string (bs (l.take k))) w := by
 have h1 : (0 : Int) ≤ (k : Int) ∧ (k : Int) ≤ (l.length : Int) := by omega
 have h2 := bs_extract l 0 k
 rw [List.drop_zero, Nat.sub_zero] at h2
 simp [Instr.slice, run_underlying ht, Instr.sliceBounds, run_sliceBound, bs_size, h2, hk]
end
section
set_option maxHeartbeats 1000000
set_option maxRecDepth 20000
open Go.RowKit Go.Extern.Stop Go.Stop Go.Extern
theorem isTypeOf (v : Value) (w : World) : (Extern.ReflectliteType.typeOf #[.iface 313 v]).run pG w = .ok (.iface 219 (.agg #[A (some ⟨24, 313, none⟩)])) w := by kernel_rfl
def compE : Array Value → Sem Value := Extern.ReflectliteType.method fun t => do Extern.Rtype.noPackHeld "Comparable" t; pure (.bool (← typeInfo t).comparable)
theorem isComparable (w : World) : (compE #[.agg #[A (some ⟨24, 313, none⟩)]]).run pG w = .ok (.bool true) w := by kernel_rfl
theorem isMethodComparable (v : Value) (w : World) : (Go.method 446 219 v "Comparable").run pG w = .ok (291, v) w := by kernel_rfl
theorem isComp : (pG.info? 313).map (·.comparable) = some true := by kernel_rfl
theorem isSize : (pG.info? 335).map (·.size) = some 1 := by kernel_rfl
theorem noIsE (v : Value) (xT : TypeId) (w : World) : (Instr.typeAssert (.iface 313 v) xT 221 true).run pG w = .ok (.tuple #[.nilIface, .bool false]) w := run_typeAssert_lacksB Tryz.underlying221 (by kernel_rfl) (by kernel_rfl) v xT w
theorem noUnwrapE (v : Value) (xT : TypeId) (w : World) : (Instr.typeAssert (.iface 313 v) xT 223 true).run pG w = .ok (.tuple #[.nilIface, .bool false]) w := run_typeAssert_lacksB Tryz.underlying223 (by kernel_rfl) (by kernel_rfl) v xT w
theorem noUnwrapsE (v : Value) (xT : TypeId) (w : World) : (Instr.typeAssert (.iface 313 v) xT 225 true).run pG w = .ok (.tuple #[.nilIface, .bool false]) w := run_typeAssert_lacksB Tryz.underlying225 (by kernel_rfl) (by kernel_rfl) v xT w
def errAt (a : Addr) : Value := .iface 313 (A (some a))
theorem is_same (a : Addr) (w : World) :
  Calls pG 53 #[errAt a, errAt a] w fun e w' => e = EE (.bool true) ∧ w = w' := by
 unfold errAt
 obtain ⟨i, hi, hcmp⟩ := oB.1 isComp
 obtain ⟨j, hj, hjs⟩ := oB.1 isSize
 have h8 := @run_callFunc_extern pG 100 _ Extern.ReflectliteType.typeOf Tryz.func100 (by kernel_rfl) (by kernel_rfl) (by kernel_rfl) (by kernel_rfl)
 have h32 := @run_callFunc_extern pG 291 _ compE Tryz.func291 (by kernel_rfl) (by kernel_rfl) (by kernel_rfl) (by kernel_rfl)
 have tT := isTypeOf
 have cT := isComparable
 have mR := isMethodComparable
 have heq := run_eql_iface_ptr_same (P := pG) w a Tryz.underlying30 Tryz.underlying313 hi hcmp hj
 go_enter Tryz.func53, Tryz.ntmps53
 go_wp2
 refine wp_loop_rounds 1 ?_
 rw [rounds_succ]
 go_wp2
 go_ret
 exact ⟨rfl, rfl⟩
theorem is_other (a b : Addr) (w : World) (hne : a ≠ b) (ha : ∃ c t, w.heap[a.block]? = some (.cells c t (0, 0))) (hb : ∃ c t, w.heap[b.block]? = some (.cells c t (0, 0))) :
  Calls pG 53 #[errAt a, errAt b] w fun e w' => e = EE (.bool false) ∧ w = w' := by
 unfold errAt
 obtain ⟨ca, ta, ha⟩ := ha
 obtain ⟨cb, tb, hb⟩ := hb
 obtain ⟨i, hi, hcmp⟩ := oB.1 isComp
 obtain ⟨j, hj, hjs⟩ := oB.1 isSize
 have h8 := @run_callFunc_extern pG 100 _ Extern.ReflectliteType.typeOf Tryz.func100 (by kernel_rfl) (by kernel_rfl) (by kernel_rfl) (by kernel_rfl)
 have h32 := @run_callFunc_extern pG 291 _ compE Tryz.func291 (by kernel_rfl) (by kernel_rfl) (by kernel_rfl) (by kernel_rfl)
 have tT := isTypeOf
 have cT := isComparable
 have mR := isMethodComparable
 have nE := noIsE
 have uE := noUnwrapE
 have vE := noUnwrapsE
 have heq := run_eql_iface_ptr_other (P := pG) w Tryz.underlying30 Tryz.underlying313 hi hcmp hj (by rw [hjs]; decide) hne ha hb
 clear ha hb
 go_enter Tryz.func53, Tryz.ntmps53
 go_wp2
 refine wp_loop_rounds 1 ?_
 rw [rounds_succ]
 go_wp2
 go_ret
 exact ⟨rfl, rfl⟩
def errVar (i : Nat) : Nat := [1, 2, 3, 0, 4, 5, 6, 7, 8, 9, 10, 11, 12, 13].getD i 0
structure Errs (w : World) (E : Nat → Addr) : Prop where
 cell : ∀ i, i < 14 → w.cell? ⟨errVar i, 0, none⟩ = some (errAt (E i))
 ne : ∀ i j, i < 14 → j < 14 → i ≠ j → E i ≠ E j
 row : ∀ i, i < 14 → ∃ c t, w.heap[(E i).block]? = some (.cells c t (0, 0))
theorem Errs.below {w w' : World} {E : Nat → Addr} (h : Errs w E) (hb : Below w.heap.size w w') : Errs w' E :=
 ⟨fun i hi => Below.keeps hb _ _ (h.cell i hi), h.ne, fun i hi => by
  obtain ⟨c, t, hc⟩ := h.row i hi
  exact ⟨c, t, by rw [hb.block _ (aA.1 hc).1]; exact hc⟩⟩
def errV (E : Nat → Addr) (n : Nat) : Value := match n with | 0 => .nilIface | n + 1 => errAt (E n)
def errList (E : Nat → Addr) : List Value := (List.range 14).map fun i => errAt (E i)
theorem errList_get (E : Nat → Addr) (k : Nat) (h : k < 14) : (errList E)[k]? = some (errAt (E k)) := by
 simp [errList, h]
theorem errV_suc (E : Nat → Addr) (n : Nat) : errV E (n + 1) = .iface 313 (A (some (E n))) := rfl
end
section
set_option maxHeartbeats 1000000
set_option maxRecDepth 20000
open Go.RowKit
structure ErrsOn (S : List Nat) (w : World) (E : Nat → Addr) : Prop where
 cell : ∀ i, S.contains i = true → w.cell? ⟨errVar i, 0, none⟩ = some (errAt (E i))
 ne : ∀ i j, S.contains i = true → S.contains j = true → i ≠ j → E i ≠ E j
 row : ∀ i, S.contains i = true → ∃ c t, w.heap[(E i).block]? = some (.cells c t (0, 0))
end
section
set_option maxHeartbeats 1000000
set_option maxRecDepth 20000
open Go.RowKit Go.Extern.Stop Go.Stop Go.Extern
theorem run_makeFunc {P : Program} (fn : Fn) (first cap : Array Value) (w : World) : (Instr.makeFunc fn first cap).run P w = .ok (.func fn first cap) w := rfl
theorem own_any (w : World) (E : Nat → Addr) (he : Errs w E) :
  Calls pG 114 #[] w fun e w' => e = EE (.slice (some ⟨w.heap.size, 0, none⟩) 14 14) ∧ w' = w.alloc (.cells (errList E).toArray 30) := by
 have g0 := he.cell 0 (by omega)
 have g1 := he.cell 1 (by omega)
 have g2 := he.cell 2 (by omega)
 have g3 := he.cell 3 (by omega)
 have g4 := he.cell 4 (by omega)
 have g5 := he.cell 5 (by omega)
 have g6 := he.cell 6 (by omega)
 have g7 := he.cell 7 (by omega)
 have g8 := he.cell 8 (by omega)
 have g9 := he.cell 9 (by omega)
 have g10 := he.cell 10 (by omega)
 have g11 := he.cell 11 (by omega)
 have g12 := he.cell 12 (by omega)
 have g13 := he.cell 13 (by omega)
 simp only [errVar, errAt, List.getD_cons_zero, List.getD_cons_succ] at g0 g1 g2 g3 g4 g5 g6 g7 g8 g9 g10 g11 g12 g13
 have HW : Hid (w.alloc (.cells (errList E).toArray 30) = w.alloc (.cells #[errAt (E 0), errAt (E 1), errAt (E 2), errAt (E 3), errAt (E 4), errAt (E 5), errAt (E 6), errAt (E 7), errAt (E 8), errAt (E 9), errAt (E 10), errAt (E 11), errAt (E 12), errAt (E 13)] 30)) := rfl
 go_enter Tryz.func114, Tryz.ntmps114
 go_wp2_with fail
 go_ret
 exact ⟨rfl, HW.out.symm⟩
theorem told1_same (w : World) (c : Nat) (a : Addr) (hc : w.cell? ⟨c, 0, none⟩ = some (errAt a)) :
  Calls pG 115 #[errAt a, A (some ⟨c, 0, none⟩)] w fun e w' => e = EE (.bool true) ∧ w = w' := by
 unfold errAt at hc
 have HI := is_same a w
 unfold errAt at HI ⊢
 go_enter Tryz.func115, Tryz.ntmps115
 go_wp2_with fail
 refine HI.mono ?_
 rintro e w1 ⟨rfl, rfl⟩
 go_wp2_with fail
 go_ret
 exact ⟨rfl, rfl⟩
theorem told1_other (w : World) (c : Nat) (a b : Addr) (hc : w.cell? ⟨c, 0, none⟩ = some (errAt a)) (hne : a ≠ b) (ha : ∃ c t, w.heap[a.block]? = some (.cells c t (0, 0))) (hb : ∃ c t, w.heap[b.block]? = some (.cells c t (0, 0))) :
  Calls pG 115 #[errAt b, A (some ⟨c, 0, none⟩)] w fun e w' => e = EE (.bool false) ∧ w = w' := by
 unfold errAt at hc
 have HI := is_other a b w hne ha hb
 unfold errAt at HI ⊢
 clear hne ha hb
 go_enter Tryz.func115, Tryz.ntmps115
 go_wp2_with fail
 refine HI.mono ?_
 rintro e w1 ⟨rfl, rfl⟩
 go_wp2_with fail
 go_ret
 exact ⟨rfl, rfl⟩
theorem indexErr_any (w : World) (E : Nat → Addr) (n g c : Nat) (hn : n < 14) (he : Errs w E) (hg : Rd w (some ⟨g, 0, none⟩) (errList E)) (hc : w.cell? ⟨c, 0, none⟩ = some (errAt (E n))) :
  Calls pG 113 #[.slice (some ⟨g, 0, none⟩) 14 14, .func (.func 115) #[] #[A (some ⟨c, 0, none⟩)]] w fun e w' => e = EE (.int .i64 (n : Int)) ∧ w = w' := by
 have HE := Lib.hid he
 have HG := Lib.hid hg
 have HC := Lib.hid hc
 clear he hg hc
 go_enter Tryz.func113, Tryz.ntmps113
 go_wp2_with fail
 go_loop [8] (fun i => ∃ k : Nat, k ≤ n ∧ i = .int .i64 k) (fun i => 14 - (intOf i).toNat)
 case atStart => exact ⟨0, by omega, rfl⟩
 case round =>
  obtain ⟨k, hk, rfl⟩ := hrel
  obtain ⟨b, off, hp, hcl⟩ := HG.out.has (by simp [errList])
  cases hp
  have hck := hcl k _ (errList_get E k (by omega))
  rw [Nat.zero_add] at hck
  unfold errAt at hck
  clear hcl
  by_cases hkn : k = n
  ·subst hkn
   go_wp2_with fail
   refine (told1_same w c (E k) HC.out).mono ?_
   rintro e w' ⟨rfl, rfl⟩
   go_wp2_with fail
   go_ret
   exact ⟨rfl, rfl⟩
  ·go_wp2_with fail
   refine (told1_other w c (E n) (E k) HC.out (HE.out.ne n k hn (by omega) (by omega)) (HE.out.row n hn) (HE.out.row k (by omega))).mono ?_
   rintro e w' ⟨rfl, rfl⟩
   go_wp2_with fail
   go_round
   case rel => exact ⟨k + 1, by omega, by go_num⟩
   case measure => simp [intOf]; omega
theorem assertErr (v : Value) (w : World) : (Instr.typeAssert (.iface 313 v) 20 30 true).run pG w = .ok (.tuple #[.iface 313 v, .bool true]) w := by kernel_rfl
theorem told_any (w : World) (E : Nat → Addr) (n : Nat) (hn : n < 14) (he : Errs w E) :
  Calls pG 60 #[errAt (E n)] w fun e w' => e = EE (errAt (E n)) ∧ Below w.heap.size w w' := by
 have HE := Lib.hid he
 have hmf := @run_makeFunc pG
 have hta := assertErr
 clear he
 unfold errAt
 go_enter Tryz.func60, Tryz.ntmps60
 go_wp2_with fail
 have hb1 : Below w.heap.size w (w.alloc (.cells #[errAt (E n)] 30)) := below_alloc1 _ _
 have hc1 : (w.alloc (.cells #[errAt (E n)] 30)).cell? ⟨w.heap.size, 0, none⟩ = some (errAt (E n)) := cell_of_row _ _ 0 _ _ _ (heap_alloc_new w _)
 unfold errAt at hb1 hc1
 refine (own_any _ E (HE.out.below hb1)).mono ?_
 rintro e w2 ⟨rfl, hw2⟩
 have hb2 := below_alloc hb1 (.cells (errList E).toArray 30)
 have hc2 := keep_alloc _ (.cells (errList E).toArray 30) _ _ hc1
 have hr2 := rd_new (w.alloc (.cells #[.iface 313 (A (some (E n)))] 30)) (errList E).toArray 30 (0, 0)
 rw [← hw2] at hb2 hc2 hr2
 have HS := Lib.hid (show (w.alloc (.cells #[.iface 313 (A (some (E n)))] 30)).heap.size = w.heap.size + 1 by simp)
 rw [HS.out] at hr2 ⊢
 have HB2 := Lib.hid hb2
 have HC2 := Lib.hid hc2
 have HR2 := Lib.hid (show Rd w2 (some ⟨w.heap.size + 1, 0, none⟩) (errList E) by simpa using hr2)
 clear hb1 hc1 hb2 hc2 hr2 hw2
 go_wp2_with fail
 refine (indexErr_any w2 E n _ _ hn (HE.out.below HB2.out) HR2.out HC2.out).mono ?_
 rintro e w3 ⟨rfl, rfl⟩
 go_wp2_with fail
 refine (own_any _ E (HE.out.below HB2.out)).mono ?_
 rintro e w4 ⟨rfl, hw4⟩
 have hb4 := below_alloc HB2.out (.cells (errList E).toArray 30)
 have hr4 := rd_new w2 (errList E).toArray 30 (0, 0)
 rw [← hw4] at hb4 hr4
 obtain ⟨b, off, hp, hcl⟩ := hr4.has (by simp [errList])
 cases hp
 have hck := hcl n _ (errList_get E n hn)
 rw [Nat.zero_add] at hck
 unfold errAt at hck
 have HB4 := Lib.hid hb4
 have hn' : (n : Int) < 14 := by omega
 clear hcl hr4 hb4 hw4
 go_wp2_with fail
 go_ret
 exact ⟨rfl, HB4.out⟩
end
section
set_option maxHeartbeats 1000000
set_option maxRecDepth 20000
open Go.RowKit Go.Extern.Stop Go.Stop Go.Extern
structure But (S : List Nat) (w w' : World) : Prop where
 os : w'.os = w.os
 tape : w'.tape = w.tape
 output : w'.output = w.output
 size : w.heap.size ≤ w'.heap.size
 block : ∀ k, k < w.heap.size → S.contains k = false → w'.heap[k]? = w.heap[k]?
theorem But.of_below {S : List Nat} {w w' : World} (h : Below w.heap.size w w') : But S w w' := ⟨h.os, h.tape, h.output, h.size, fun k hk _ => h.block k hk⟩
theorem But.set_ {S : List Nat} {a w : World} (h : But S a w) (g i : Nat) (u : Value) (hg : S.contains g = true) : But S a (w.setCell ⟨g, i, none⟩ u) :=
 ⟨h.os, h.tape, h.output, nT h.size (by simp [World.setCell]), fun k hk hn => (Below.heap_setCell _ _ _ _ (by rintro rfl; rw [hg] at hn; cases hn)).trans (h.block k hk hn)⟩
theorem But.trans {S : List Nat} {a b c : World} (h : But S a b) (k : But S b c) : But S a c :=
 ⟨k.os.trans h.os, k.tape.trans h.tape, k.output.trans h.output, nT h.size k.size, fun j hj hn => (k.block j (nL hj h.size) hn).trans (h.block j hj hn)⟩
theorem But.blk {S : List Nat} {w w' : World} {g : Nat} {t : TypeId} {cs : Array Value} (h : But S w w') (hb : Blk w g t cs) (hn : S.contains g = false) : Blk w' g t cs := (h.block g hb.lt hn).trans hb
theorem But.below {S : List Nat} {B : Nat} {w w' : World} (h : But S w w') (hS : ∀ s ∈ S, B ≤ s) (hB : B ≤ w.heap.size) : Below B w w' :=
 ⟨h.os, h.tape, h.output, h.size, fun k hk => h.block k (by omega) (by
  rw [Bool.eq_false_iff]
  intro hc
  have := hS k (List.contains_iff_mem.1 hc)
  omega)⟩
theorem But.out {S : List Nat} {w w2 w' : World} {n : Nat} (h : But S w w2) (k : But [n, n + 1, n + 2] w2 w') (hn : w.heap.size ≤ n) : But S w w' :=
 ⟨k.os.trans h.os, k.tape.trans h.tape, k.output.trans h.output, nT h.size k.size, fun j hj hs => (k.block j (nL hj h.size) (by simp; omega)).trans (h.block j hj hs)⟩
theorem But.wide {n : Nat} {w w' : World} (h : But [n, n + 1] w w') : But [n, n + 1, n + 2] w w' :=
 ⟨h.os, h.tape, h.output, h.size, fun j hj hs => h.block j hj (by simp at hs ⊢; omega)⟩
def Tells (w0 : World) (u : Value) (E : Nat → Addr) (n : Nat) : Prop := ∀ w, Below w0.heap.size w0 w → Errs w E → Calls pG 60 #[u] w fun e w' => e = EE (errAt (E n)) ∧ Below w.heap.size w w'
def MayG (R : Value → World → Prop) (Q : Nat → World → Prop) (E : Nat → Addr) (e : Ending) (w' : World) : Prop :=
 (∃ v, e = EE v ∧ R v w') ∨ (∃ u n, n < 14 ∧ Q n w' ∧ (∃ T x, u = .iface T x) ∧ Tells w' u E n ∧ e = .panicked [{ v := u, recovered := false }])
def TryG (S : List Nat) (R : World → Value → World → Prop) (Q : Nat → World → World → Prop) (E : Nat → Addr) (z : Value) (w : World) (e : Ending) (w' : World) : Prop :=
 But S w w' ∧ ∃ w1 w2, w1.heap.size = w.heap.size + 3 ∧ Below w.heap.size w w1 ∧ But S w1 w2 ∧ But [w.heap.size, w.heap.size + 1, w.heap.size + 2] w2 w' ∧
 ((∃ v, e = EE (.tuple #[v, .nilIface]) ∧ R w1 v w2) ∨ (∃ n, n < 14 ∧ Q n w1 w2 ∧ e = EE (.tuple #[z, errAt (E n)])))
end
section
set_option maxHeartbeats 1000000
set_option maxRecDepth 20000
open Go.RowKit Go.Extern.Stop Go.Stop Go.Extern
def panE (E : Nat → Addr) (n : Nat) : List PanicEntry := [{ v := errAt (E n), recovered := false }]
theorem told_own (E : Nat → Addr) (n : Nat) (hn : n < 14) (w0 : World) : Tells w0 (errAt (E n)) E n := fun w _ he => told_any w E n hn he
def PanR (E : Nat → Addr) (R : Value → World → Prop) (Q : Nat → Prop) (w : World) (e : Ending) (w' : World) : Prop :=
 Below w.heap.size w w' ∧ ((∃ v, e = EE v ∧ R v w') ∨ ∃ n, n < 14 ∧ Q n ∧ e = .panicked (panE E n))
theorem PanR.may {E : Nat → Addr} {R : Value → World → Prop} {Q : Nat → Prop} {w w' : World} {e : Ending} (h : PanR E R Q w e w') : MayG R (fun n _ => Q n) E e w' ∧ But [] w w' := by
 refine ⟨?_, But.of_below h.1⟩
 rcases h.2 with ⟨v, rfl, hR⟩ | ⟨n, hn, hq, rfl⟩
 ·exact .inl ⟨v, rfl, hR⟩
 ·exact .inr ⟨errAt (E n), n, hn, hq, ⟨_, _, rfl⟩, told_own E n hn w', rfl⟩
theorem But.nil_below {w w' : World} (h : But [] w w') : Below w.heap.size w w' := ⟨h.os, h.tape, h.output, h.size, fun k hk => h.block k hk (by simp)⟩
def TryV (E : Nat → Addr) (R : Value → World → Prop) (Q : Nat → Prop) (z : Value) (w : World) (e : Ending) (w' : World) : Prop :=
 Below w.heap.size w w' ∧ ((∃ v, e = EE (.tuple #[v, .nilIface]) ∧ R v w') ∨ ∃ n, n < 14 ∧ Q n ∧ e = EE (.tuple #[z, errAt (E n)]))
theorem TryG.v {E : Nat → Addr} {R : Value → World → Prop} {Q : Nat → Prop} {z : Value} {w w' : World} {e : Ending} (hst : ∀ v a b, But [w.heap.size, w.heap.size + 1, w.heap.size + 2] a b → R v a → R v b)
  (h : TryG [] (fun _ v w => R v w) (fun n _ _ => Q n) E z w e w') : TryV E R Q z w e w' := by
 obtain ⟨h1, w1, w2, hs, hb1, hb2, hb3, hor⟩ := h
 refine ⟨h1.nil_below, ?_⟩
 rcases hor with ⟨v, rfl, hR⟩ | ⟨n, hn, hq, rfl⟩
 ·refine .inl ⟨v, rfl, ?_⟩
  exact hst v w2 w' hb3 hR
 ·exact .inr ⟨n, hn, hq, rfl⟩
end
section
set_option maxHeartbeats 1000000
set_option maxRecDepth 20000
open Go.RowKit Go.Extern.Stop Go.Stop Go.Extern
theorem check_nil (w : World) : Calls pG 61 #[.nilIface] w fun e w' => e = EE (.tuple #[]) ∧ w = w' := by
 go_enter Tryz.func61, Tryz.ntmps61
 go_wp2_with fail
 go_end0
 exact ⟨rfl, rfl⟩
theorem check_err (w : World) (E : Nat → Addr) (n : Nat) : Calls pG 61 #[errV E (n + 1)] w fun e w' => e = .panicked (panE E n) ∧ w = w' := by
 rw [errV_suc]
 unfold panE errAt
 go_enter Tryz.func61, Tryz.ntmps61
 go_wp2_with fail
 exact ⟨rfl, rfl, rfl⟩
end
section
set_option maxHeartbeats 1000000
set_option maxRecDepth 20000
open Go.RowKit
theorem putCells_all (cs vs : Array Value) (h : vs.size = cs.size) : putCells cs 0 vs = vs := by
 unfold putCells
 rw [List.take_zero, List.nil_append, Nat.zero_add, h, List.drop_of_length_le (by simp), List.append_nil]
theorem wpList_loadS {P : Program} {w : World} {ops : Array Oper} {rest : List Oper} {o : Oper} {a : Act} {Q : Exit → Act → World → Prop} (px : Operand) (ty : TypeId)
  (ho : o.op = .load ty px) (hw : Region.wanted o (yielded ops a.tmps) = true)
  (g : Nat) (t : TypeId) (cs : Array Value) (hpx : a.eval px = A (some ⟨g, 0, none⟩)) (hb : Blk w g t cs) (d : TypeDesc)
  (hu : P.underlying ty = some d) (hd : (match d with | .struct _ | .array _ _ => true | _ => false) = true) (hi : (P.info? ty).map (·.size) = some cs.size)
  (h : wpList P ops Q rest (a.put o.dst (.agg cs)) w) : wpList P ops Q (o :: rest) a w := by
 refine wpList_run hw (v := .agg cs) (w' := w) ?_ h
 unfold execOp
 simp only [ho, hpx, Instr.loadAt, Instr.sureAddr, Sem.run_bind, Sem.run_pure, Result.andThen_ok, run_loadVar_row w g t ty cs (0, 0) d hb hu hd hi]
theorem But.only {S : List Nat} {a w w' : World} {g : Nat} (h : But S a w) (k : Only g w w') (hg : S.contains g = true) : But S a w' :=
 ⟨k.os.trans h.os, k.tape.trans h.tape, k.output.trans h.output, by rw [k.size]; exact h.size, fun j hj hn => (k.block j (by rintro rfl; rw [hg] at hn; cases hn)).trans (h.block j hj hn)⟩
end
end Go.Proofs.YthboiahdheehkaaGreatDoor
