/-
  Base: words of my own for slices, bytes and worlds, and their laws. No program.
-/
import Derived.WalkKit
import Derived.WalkSpells
import Derived.WalkLawsBesides
import Derived.ProofKit
import Derived.OpenShut
import Derived.Lib.Hide
import Derived.BigQuiet
import Derived.Deep.QuietTactic
import Derived.Laws.BytesArg
import Derived.Laws.BitsAllLaws
import Derived.Laws.CopyOwn
import Derived.Deep.Slices
import Derived.Lib.SlBytesConst
namespace Go.Proofs.YtpbgappggmcmgaaDoor
open Go.RowKit

/-! ### numbers of 32 bits -/
theorem wrap_u32_nat (n : Nat) (h : n < 4294967296) : IntKind.u32.wrap (n : Int) = (n : Int) := by
  rw [IntKind.wrap_u32]; omega

theorem ofInt32 (x : BitVec 32) : BitVec.ofInt 32 (x.toNat : Int) = x := by
  apply BitVec.eq_of_toNat_eq
  rw [BitVec.ofInt_natCast, BitVec.toNat_ofNat]
  exact Nat.mod_eq_of_lt x.isLt

/-- a number of 32 bits as the walk's integer -/
def n32 (x : BitVec 32) : Int := (x.toNat : Int)
theorem n32_bd (x : BitVec 32) : 0 ≤ n32 x ∧ n32 x ≤ 4294967295 := by have := x.isLt; unfold n32; omega
theorem n32_inj {x y : BitVec 32} (h : n32 x = n32 y) : x = y := by
  apply BitVec.eq_of_toNat_eq; unfold n32 at h; omega
theorem n32_beq (x y : BitVec 32) : (n32 x == n32 y) = (x == y) := by
  rw [Bool.eq_iff_iff]; simp only [beq_iff_eq]; exact ⟨n32_inj, fun h => by rw [h]⟩
theorem bits32_xor (x y : BitVec 32) : bits .xor .u32 (n32 x) (n32 y) = n32 (x ^^^ y) := by
  show IntKind.u32.wrap ((BitVec.ofInt 32 (x.toNat : Int) ^^^ BitVec.ofInt 32 (y.toNat : Int)).toNat : Int) = _
  rw [ofInt32, ofInt32]
  exact wrap_u32_nat _ (x ^^^ y).isLt
theorem bits32_and (x y : BitVec 32) : bits .and .u32 (n32 x) (n32 y) = n32 (x &&& y) := by
  show IntKind.u32.wrap ((BitVec.ofInt 32 (x.toNat : Int) &&& BitVec.ofInt 32 (y.toNat : Int)).toNat : Int) = _
  rw [ofInt32, ofInt32]
  exact wrap_u32_nat _ (x &&& y).isLt
theorem bits32_not (x : BitVec 32) : bits .xor .u32 IntKind.u32.max (n32 x) = n32 (~~~ x) := by
  show IntKind.u32.wrap ((BitVec.ofInt 32 IntKind.u32.max ^^^ BitVec.ofInt 32 (x.toNat : Int)).toNat : Int) = _
  rw [ofInt32, show BitVec.ofInt 32 IntKind.u32.max = BitVec.allOnes 32 from by decide, wrap_u32_nat _ (_ ^^^ _ : BitVec 32).isLt, BitVec.allOnes_xor]
  rfl

/-! ### the least of lengths -/
def min3 (x y z : Nat) : Nat := min (min x y) z
theorem run_min3 {P : Program} (w : World) (ts : Array TypeId) (t : TypeId) (k k' k'' : IntKind) (x y z : Nat) :
    (Builtin.min_ ts t #[.int k (x : Int), .int k' (y : Int), .int k'' (z : Int)]).run P w = .ok (.int k ((min3 x y z : Nat) : Int)) w := by
  have e : ∀ x y : Nat, (if (y : Int) < (x : Int) then (y : Int) else (x : Int)) = ((min x y : Nat) : Int) := by
    intro x y; split <;> omega
  simp only [Builtin.min_, List.foldlM_cons, List.foldlM_nil, Builtin.min2, Sem.run_bind, Sem.run_pure, Result.andThen_ok, e, min3]

/-! ### bytes' bits -/
def bx (x y : UInt8) : UInt8 := x ^^^ y
theorem bits8_xor (x y : UInt8) : bits .xor .u8 (x.toNat : Int) (y.toNat : Int) = ((bx x y).toNat : Int) := by
  have := u8_xor_nat x.toNat y.toNat x.toNat_lt y.toNat_lt
  rw [this]; unfold bx; rw [UInt8.toNat_xor]

/-! ### worlds -/
theorem cell_lt {w : World} {a : Addr} {v : Value} (h : w.cell? a = some v) : a.block < w.heap.size := World.block_lt_of_cell? w a h

/-! ### what a slice reads as: 'Rd w p xs': from the address p on lie the cells xs -/
def Rd (w : World) (p : Option Addr) (xs : List Value) : Prop :=
  xs = [] ∨ ∃ b off, p = some ⟨b, off, none⟩ ∧ ∀ i u, xs[i]? = some u → w.cell? ⟨b, off + i, none⟩ = some u

theorem Rd.nil (w : World) (p : Option Addr) : Rd w p [] := .inl rfl

theorem Rd.has {w : World} {p : Option Addr} {xs : List Value} (h : Rd w p xs) (hx : xs ≠ []) :
    ∃ b off, p = some ⟨b, off, none⟩ ∧ ∀ i u, xs[i]? = some u → w.cell? ⟨b, off + i, none⟩ = some u := h.resolve_left hx

theorem Rd.keep {w w' : World} {p : Option Addr} {xs : List Value} (h : Rd w p xs) (hk : ∀ a v, w.cell? a = some v → w'.cell? a = some v) : Rd w' p xs := by
  rcases h with h | ⟨b, off, hp, hc⟩
  · exact .inl h
  · exact .inr ⟨b, off, hp, fun i u hu => hk _ _ (hc i u hu)⟩

theorem Below.keeps {w w' : World} (h : Below w.heap.size w w') : ∀ a v, w.cell? a = some v → w'.cell? a = some v :=
  fun _ _ hv => (h.cell (cell_lt hv)).trans hv

theorem Rd.below {w w' : World} {p : Option Addr} {xs : List Value} (h : Rd w p xs) (hb : Below w.heap.size w w') : Rd w' p xs := h.keep (Below.keeps hb)

theorem cell_add (b off i : Nat) : (⟨b, off, none⟩ : Addr).add i = ⟨b, off + i, none⟩ := by
  unfold Addr.add; split <;> simp_all

theorem Rd.take {w : World} {p : Option Addr} {xs : List Value} (h : Rd w p xs) (n : Nat) : Rd w p (xs.take n) := by
  rcases h with rfl | ⟨b, off, hp, hc⟩
  · exact .inl (by simp)
  · refine .inr ⟨b, off, hp, fun i u hu => hc i u ?_⟩
    rw [List.getElem?_take] at hu
    split at hu
    · exact hu
    · cases hu

theorem Rd.drop {w : World} {p : Option Addr} {xs : List Value} (h : Rd w p xs) (n : Nat) : Rd w (p.map (·.add n)) (xs.drop n) := by
  rcases h with rfl | ⟨b, off, hp, hc⟩
  · exact .inl (by simp)
  · refine .inr ⟨b, off + n, by subst hp; simp [cell_add], fun i u hu => ?_⟩
    rw [List.getElem?_drop] at hu
    rw [Nat.add_assoc]
    exact hc _ u hu

theorem keep_alloc (w : World) (o : Obj) : ∀ a v, w.cell? a = some v → (w.alloc o).cell? a = some v :=
  fun a v h => Below.keeps ((Below.refl _ _).alloc (Nat.le_refl _) o) a v h
theorem rd_new (w : World) (cs : Array Value) (e : TypeId) (f : Nat × Nat) : Rd (w.alloc (.cells cs e f)) (some ⟨w.heap.size, 0, none⟩) cs.toList := by
  refine .inr ⟨_, 0, rfl, fun i u hu => ?_⟩
  rw [cell_of_row _ w.heap.size (0 + i) cs e f (heap_alloc_new w _), Nat.zero_add]
  simpa using hu

theorem rd_at (w : World) (cs : Array Value) (e : TypeId) (f : Nat × Nat) (n : Nat) (h : n = w.heap.size) : Rd (w.alloc (.cells cs e f)) (some ⟨n, 0, none⟩) cs.toList := by
  subst h; exact rd_new w cs e f

/-! ### cutting a slice -/
def cutp (p : Option Addr) (lo cap s : Nat) : Option Addr := if cap = lo then p else p.map (·.add (lo * s))
section
variable {P : Program} {t e : TypeId} {i : TypeInfo}
theorem run_slice_to (ht : P.underlying t = some (.slice e)) (hi : P.info? e = some i) (p : Option Addr) (n cap k : Nat) (hk : k ≤ cap) (w : World) :
    (Instr.slice t (.slice p n cap) none (some (.int .i64 (k : Int))) none).run P w = .ok (.slice p k cap) w := by
  have h1 : (0 : Int) ≤ (k : Int) ∧ (k : Int) ≤ (cap : Int) := by omega
  simp [Instr.slice, run_underlying ht, Instr.sliceBounds, run_sliceBound, sizeOf, typeInfo, hi, h1.1, hk]
  intro _
  cases p <;> simp [Addr.add]
theorem run_slice_from (ht : P.underlying t = some (.slice e)) (hi : P.info? e = some i) (p : Option Addr) (n cap lo : Nat) (hlo : lo ≤ n) (w : World) :
    (Instr.slice t (.slice p n cap) (some (.int .i64 (lo : Int))) none none).run P w = .ok (.slice (cutp p lo cap i.size) (n - lo) (cap - lo)) w := by
  simp [Instr.slice, run_underlying ht, Instr.sliceBounds, run_sliceBound, sizeOf, typeInfo, hi, hlo, cutp]
theorem run_slice_mid (ht : P.underlying t = some (.slice e)) (hi : P.info? e = some i) (p : Option Addr) (n cap lo k : Nat) (hlo : lo ≤ k) (hk : k ≤ cap) (w : World) :
    (Instr.slice t (.slice p n cap) (some (.int .i64 (lo : Int))) (some (.int .i64 (k : Int))) none).run P w = .ok (.slice (cutp p lo cap i.size) (k - lo) (cap - lo)) w := by
  simp [Instr.slice, run_underlying ht, Instr.sliceBounds, run_sliceBound, sizeOf, typeInfo, hi, hlo, hk, cutp]
end
theorem Rd.cut {w : World} {p : Option Addr} {xs : List Value} {lo cap s : Nat} (h : Rd w p xs) (hl : xs.length ≤ cap * s) : Rd w (cutp p lo cap s) (xs.drop (lo * s)) := by
  unfold cutp
  split
  · rename_i hc
    subst hc
    exact .inl (List.drop_of_length_le hl)
  · exact h.drop _

/-! ### bytes -/
def bv (c : UInt8) : Value := .int .u8 (c.toNat : Int)
def bvs (l : List UInt8) : List Value := l.map bv
theorem bvs_len (l : List UInt8) : (bvs l).length = l.length := by simp [bvs]
theorem bvs_get (l : List UInt8) (i : Nat) (h : i < l.length) : (bvs l)[i]? = some (.int .u8 (l[i].toNat : Int)) := by simp [bvs, h, bv]
theorem bvs_nil (l : List UInt8) : bvs l = [] ↔ l = [] := by simp [bvs]
theorem bvs_app (l m : List UInt8) : bvs (l ++ m) = bvs l ++ bvs m := by simp [bvs]
theorem bvs_take (l : List UInt8) (n : Nat) : bvs (l.take n) = (bvs l).take n := by simp [bvs, List.map_take]
theorem bvs_drop (l : List UInt8) (n : Nat) : bvs (l.drop n) = (bvs l).drop n := by simp [bvs, List.map_drop]
theorem bvs_one {l : List UInt8} : ∀ u ∈ bvs l, u.oneCell' = true := by
  intro u hu
  obtain ⟨c, _, rfl⟩ := List.mem_map.1 hu
  rfl

/-- THE SLICE VALUE v IS THE BYTES l in w. -/
def Byt (w : World) (v : Value) (l : List UInt8) : Prop :=
  ∃ p cap, v = .slice p l.length cap ∧ l.length ≤ cap ∧ cap ≤ maxLen ∧ Rd w p (bvs l)

theorem Byt.keep {w w' : World} {v : Value} {l : List UInt8} (h : Byt w v l) (hk : ∀ a v, w.cell? a = some v → w'.cell? a = some v) : Byt w' v l := by
  obtain ⟨p, cap, rfl, h1, h2, h3⟩ := h
  exact ⟨p, cap, rfl, h1, h2, h3.keep hk⟩
theorem Byt.below {w w' : World} {v : Value} {l : List UInt8} (h : Byt w v l) (hb : Below w.heap.size w w') : Byt w' v l := h.keep (Below.keeps hb)

theorem byt_take {w : World} {p : Option Addr} {cap : Nat} {l : List UInt8} (h : Byt w (.slice p l.length cap) l) (k : Nat) (hk : k ≤ l.length) : Byt w (.slice p k cap) (l.take k) := by
  obtain ⟨p', cap', he, h1, h2, h3⟩ := h
  cases he
  refine ⟨p, cap, by simp [Nat.min_eq_left hk], by simp; omega, h2, by rw [bvs_take]; exact h3.take k⟩
theorem byt_drop {w : World} {p : Option Addr} {cap : Nat} {l : List UInt8} (h : Byt w (.slice p l.length cap) l) (k : Nat) (_ : k ≤ l.length) : Byt w (.slice (cutp p k cap 1) (l.length - k) (cap - k)) (l.drop k) := by
  obtain ⟨p', cap', he, h1, h2, h3⟩ := h
  cases he
  refine ⟨cutp p k cap 1, cap - k, by simp, by simp; omega, by unfold maxLen at *; omega, ?_⟩
  rw [bvs_drop]
  simpa using h3.cut (lo := k) (s := 1) (by rw [bvs_len]; omega)

/-- the cell at index k -/
theorem byt_cell {w : World} {p : Option Addr} {l : List UInt8} (h : Rd w p (bvs l)) {k : Nat} (hk : k < l.length) :
    ∃ b off, p = some ⟨b, off, none⟩ ∧ w.cell? ⟨b, off + k, none⟩ = some (.int .u8 (l[k].toNat : Int)) := by
  obtain ⟨b, off, hp, hc⟩ := h.has (by rw [Ne, bvs_nil]; intro e; subst e; simp at hk)
  exact ⟨b, off, hp, hc k _ (bvs_get l k hk)⟩

/-- THE SLICE VALUE v IS THE LIST ls OF BYTES' SLICES in w. -/
def BytL (w : World) (v : Value) (ls : List (List UInt8)) : Prop :=
  ∃ p cap vs, v = .slice p ls.length cap ∧ ls.length ≤ cap ∧ cap ≤ maxLen ∧ Rd w p vs ∧ vs.length = ls.length ∧ ∀ (i : Nat) (l : List UInt8), ls[i]? = some l → ∃ u, vs[i]? = some u ∧ Byt w u l

theorem BytL.keep {w w' : World} {v : Value} {ls : List (List UInt8)} (h : BytL w v ls) (hk : ∀ a v, w.cell? a = some v → w'.cell? a = some v) : BytL w' v ls := by
  obtain ⟨p, cap, vs, rfl, h1, h2, h3, h4, h5⟩ := h
  exact ⟨p, cap, vs, rfl, h1, h2, h3.keep hk, h4, fun i l hl => let ⟨u, hu, hb⟩ := h5 i l hl; ⟨u, hu, hb.keep hk⟩⟩

/-- the cell at index k -/
theorem bytL_cell {w : World} {p : Option Addr} {ls : List (List UInt8)} {vs : List Value} (h : Rd w p vs) (h5 : ∀ (i : Nat) (l : List UInt8), ls[i]? = some l → ∃ u, vs[i]? = some u ∧ Byt w u l) {k : Nat} (hk : k < ls.length) :
    ∃ b off q cap, p = some ⟨b, off, none⟩ ∧ w.cell? ⟨b, off + k, none⟩ = some (.slice q ls[k].length cap) ∧ ls[k].length ≤ cap ∧ cap ≤ maxLen ∧ Rd w q (bvs ls[k]) := by
  obtain ⟨u, hu, q, cap, rfl, h1, h2, h3⟩ := h5 k ls[k] (by simp [hk])
  obtain ⟨b, off, hp, hc⟩ := h.has (by intro e; subst e; simp at hu)
  exact ⟨b, off, q, cap, hp, hc k _ hu, h1, h2, h3⟩

/-! ### one operation's run, met at the head of a list of operations -/
theorem wpList_run {P : Program} {w w' : World} {ops : Array Oper} {rest : List Oper} {o : Oper} {a : Act} {Q : Exit → Act → World → Prop} {v : Value}
    (hw : Region.wanted o (yielded ops a.tmps) = true) (hr : (execOp a.eval o).run P w = .ok (.value v) w')
    (h : wpList P ops Q rest (a.put o.dst v) w') : wpList P ops Q (o :: rest) a w := by
  refine wpList_step fun K hK => ?_
  rw [if_pos hw]
  unfold Oper.wp
  rw [hr]
  exact hK _ _ h

/-! ### append to a row of the call's own -/
theorem run_app {P : Program} {w : World} (base : Nat) (t ty e : TypeId) (i : TypeInfo) (z : Value) (size bytes : Nat) (ht : P.underlying t = some (.slice e)) (hi : P.info? e = some i) (hz : i.zero = some z)
    (hsize : i.size = size) (hby : i.bytes = bytes) (hzs : z.cells.size = size) (hsz : 0 < size)
    (v : Value) (n : Nat) (xs : List Value) (hown : w.ownsRow base e size v n xs)
    (p : Option Addr) (m c : Nat) (news : List Value) (hl : news.length = m * size) (hr : Rd w p news) (h1 : ∀ u ∈ news, u.oneCell' = true)
    (h63 : n + m ≤ maxLen) (hbytes : (n + m) * bytes ≤ 140737488355328) (hbase : base ≤ w.heap.size) :
    ∃ v' w', (Builtin.append_ #[t, t] ty #[v, .slice p m c]).run P w = .ok v' w' ∧ w'.ownsRow base e size v' (n + m) (xs ++ news) ∧ w.grownBy w' v.ownBlock := by
  cases p with
  | none =>
    have hn : news = [] := by
      rcases hr with h | ⟨b, off, hp, _⟩
      · exact h
      · cases hp
    subst hn
    have hm : m = 0 := by
      simp only [List.length_nil] at hl
      rcases Nat.mul_eq_zero.1 hl.symm with h | h
      · exact h
      · omega
    subst hm
    refine ⟨v, w, ?_, by simpa using hown, ⟨rfl, rfl, rfl, Nat.le_refl _, fun _ _ _ => rfl⟩⟩
    rcases hown.2 with ⟨rfl, rfl⟩ | ⟨g, cap, cur, rfl, _, _, hnc, _⟩
    · simp [Builtin.append_, run_underlying ht, sizeOf, typeInfo, hi, Builtin.lenOf, Builtin.firstCells]
    · simp [Builtin.append_, run_underlying ht, sizeOf, typeInfo, hi, Builtin.lenOf, Builtin.firstCells, hnc, storeCells]
  | some a =>
    have hnews : ∀ j u, news[j]? = some u → w.cell? (a.add j) = some u := by
      intro j u hu
      rcases hr with h | ⟨b, off, hp, hc⟩
      · subst h; simp at hu
      · cases hp
        rw [cell_add]
        exact hc j u hu
    obtain ⟨v', w', h2, h3, h4, _⟩ := run_append_own (P := P) w base t ty e i z size bytes ht hi hz hsize hby hzs hsz v n xs hown a m c news hl hnews h1 h63 hbytes hbase
    exact ⟨v', w', h2, h3, h4⟩

theorem wpList_app {P : Program} {w : World} {ops : Array Oper} {rest : List Oper} {o : Oper} {a : Act} {Q : Exit → Act → World → Prop} (s x : Operand) (t : TypeId)
    (ho : o.op = .call { callee := .builtin .append, args := #[s, x], argTypes := #[t, t] }) (hw : Region.wanted o (yielded ops a.tmps) = true)
    (base : Nat) (e : TypeId) (i : TypeInfo) (z : Value) (size bytes : Nat) (ht : P.underlying t = some (.slice e)) (hi : P.info? e = some i) (hz : i.zero = some z)
    (hsize : i.size = size) (hby : i.bytes = bytes) (hzs : z.cells.size = size) (hsz : 0 < size)
    (v : Value) (n : Nat) (xs : List Value) (hs : a.eval s = v) (hown : w.ownsRow base e size v n xs)
    (p : Option Addr) (m c : Nat) (news : List Value) (hx : a.eval x = .slice p m c) (hl : news.length = m * size) (hr : Rd w p news) (h1 : ∀ u ∈ news, u.oneCell' = true)
    (h63 : n + m ≤ maxLen) (hbytes : (n + m) * bytes ≤ 140737488355328) (hbase : base ≤ w.heap.size)
    (h : ∀ v' w', w'.ownsRow base e size v' (n + m) (xs ++ news) → w.grownBy w' v.ownBlock → wpList P ops Q rest (a.put o.dst v') w') : wpList P ops Q (o :: rest) a w := by
  obtain ⟨v', w', hrun, h2, h3⟩ := run_app (P := P) base t o.type e i z size bytes ht hi hz hsize hby hzs hsz v n xs hown p m c news hl hr h1 h63 hbytes hbase
  refine wpList_run hw (v := v') (w' := w') ?_ (h v' w' h2 h3)
  unfold execOp
  simp only [ho, resolve, invoke, builtin, Sem.run_bind, Sem.run_pure, Result.andThen_ok, List.map_toArray, List.map_cons, List.map_nil, hs, hx, hrun]

/-- an owned row reads as its cells -/
theorem owns_rd {w : World} {base : Nat} {e : TypeId} {size : Nat} {v : Value} {n : Nat} {xs : List Value} (h : w.ownsRow base e size v n xs) :
    ∃ p cap, v = .slice p n cap ∧ n ≤ cap ∧ cap ≤ maxLen ∧ Rd w p xs := by
  rcases h.2 with ⟨rfl, rfl⟩ | ⟨g, cap, cur, rfl, hb, hg, hn, hm, hs, htake⟩
  · refine ⟨none, 0, rfl, Nat.le_refl _, by unfold maxLen; omega, .inl ?_⟩
    exact List.eq_nil_of_length_eq_zero (by simpa using h.1)
  · refine ⟨_, cap, rfl, hn, hm, .inr ⟨g, 0, rfl, fun i u hu => ?_⟩⟩
    have := h.cells (g := g) rfl i u hu
    rwa [cell_add] at this

theorem owns_below {w w' : World} {base : Nat} {e : TypeId} {size : Nat} {v : Value} {n : Nat} {xs : List Value} (h : w.ownsRow base e size v n xs) (hb : Below w.heap.size w w') : w'.ownsRow base e size v n xs :=
  h.kept (row := none) ⟨hb.os, hb.tape, hb.output, hb.size, fun k hk _ => hb.block k hk⟩ (by cases hv : v.ownBlock <;> simp)

theorem owns_byt {w : World} {base : Nat} {e : TypeId} {v : Value} {l : List UInt8} (h : w.ownsRow base e 1 v l.length (bvs l)) : Byt w v l := by
  obtain ⟨p, cap, rfl, h1, h2, h3⟩ := owns_rd h
  exact ⟨p, cap, rfl, h1, h2, h3⟩

end Go.Proofs.YtpbgappggmcmgaaDoor
