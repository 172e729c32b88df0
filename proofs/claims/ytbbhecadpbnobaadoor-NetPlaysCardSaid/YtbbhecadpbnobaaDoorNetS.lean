/-
  NetS: a net beside the document's; bytes that are turned in place; told.
-/
import Derived.Test.YtbbhecadpbnobaaDoorNetR3
import Derived.Test.YtbbhecadpbnobaaDoorNetR5
import Derived.Test.YtbbhecadpbnobaaDoorNetR6
import Derived.Test.YtbbhecadpbnobaaDoorNetNo
namespace Go.Proofs.YtbbhecadpbnobaaDoor
open Go.RowKit
attribute [local go_sem] bs_toList bs_size
attribute [local irreducible] wpPhi wpPhiU

/-- the types of a net's blocks -/
def NTy (w : World) (n b : Nat) (p : Option Nat) : Prop := (∃ cs, Blk w n 70 cs) ∧ (∀ g, p = some g → ∃ cs, Blk w g 37 cs) ∧ ∀ g t cs, Blk w g t cs → b ≠ g
def MTy (w : World) (m : Nat) (q : Option Nat) (R : List Nat) : Prop := ∀ g ∈ mS m q R, ∃ T cs, Blk w g T cs ∧ (T = 60 ∨ T = 62 ∨ T = 4)
theorem Nn.ty {w : World} {n b : Nat} {p : Option Nat} {c : Nat} {st : NSt} (h : Nn w n b p c st) : NTy w n b p := ⟨h.types.1, h.types.2.1, h.types.2.2.2.2⟩
theorem Mn.ty {w : World} {m : Nat} {q : Option Nat} {R : List Nat} {st : NSt} (h : Mn w m q R st) : MTy w m q R := h.types
theorem Nn.far {S : List Nat} {w w' : World} {n b : Nat} {p : Option Nat} {c : Nat} {st : NSt} (h : Nn w n b p c st) (k : But S w w')
    (hS : ∀ g ∈ S, ∃ T cs, Blk w g T cs ∧ (T = 60 ∨ T = 62 ∨ T = 4)) : Nn w' n b p c st := by
  obtain ⟨_, _, _, _, hne⟩ := h.types
  have hB : ∀ g T cs, Blk w g T cs → T = 70 ∨ T = 37 ∨ T = 5 → S.contains g = false := fun g T cs hg hT => by
    rw [Bool.eq_false_iff]
    intro hc
    obtain ⟨T', cs', hb, hT'⟩ := hS g (List.contains_iff_mem.1 hc)
    refine Blk.ne_ hg hb ?_ rfl
    rcases hT with rfl | rfl | rfl <;> rcases hT' with rfl | rfl | rfl <;> decide
  have hO : ∀ (base size m : Nat) (e : TypeId) (u : Value) (ys : List Value), w.ownsRow base e size u m ys → e = 70 ∨ e = 37 ∨ e = 5 → w'.ownsRow base e size u m ys := fun base size m e u ys ho he => k.owns2 (fun g hg => by
    rcases ho.2 with ⟨h0, _⟩ | ⟨g9, cap, cur, h0, _, hh, _⟩
    · rw [h0] at hg; cases hg
    · rw [h0] at hg
      cases hg
      exact hB _ _ _ (show Blk w g9 e cur from hh) he) ho
  obtain ⟨⟨u, xs, h1, h2, h3, h4, h5⟩, h6⟩ := h
  refine ⟨⟨u, xs, h1, h2, k.blk h3 (hB _ _ _ h3 (.inl rfl)), hO _ _ _ _ _ _ h4 (.inr (.inl rfl)), fun x hx => hO _ _ _ _ _ _ (h5 x hx) (.inr (.inr rfl))⟩, h6.but k ?_⟩
  rw [Bool.eq_false_iff]
  intro hc
  obtain ⟨T, cs, hb, _⟩ := hS b (List.contains_iff_mem.1 hc)
  exact hne _ _ _ hb rfl
theorem Mn.farN {w w' : World} {n b m : Nat} {p q : Option Nat} {R : List Nat} {st : NSt} (h : Mn w m q R st) (k : But (nS n b p) w w') (hN : NTy w n b p) : Mn w' m q R st := by
  obtain ⟨⟨cn, tn⟩, tp, hne⟩ := hN
  have key : ∀ g T cs, Blk w g T cs → T ≠ 70 → T ≠ 37 → (nS n b p).contains g = false := fun g T cs hb h1 h2 => by
    rw [Bool.eq_false_iff]
    intro hc
    rcases mem_nS.1 (List.contains_iff_mem.1 hc) with e | e | e
    · exact Blk.ne_ hb tn h1 e
    · exact hne _ _ _ hb e.symm
    · obtain ⟨cs', hcs⟩ := tp g e
      exact Blk.ne_ hb hcs h2 rfl
  refine h.beside k (fun g T cs hb hT => ?_) (fun g hg => ?_)
  · rcases hT with rfl | rfl | rfl
    · exact key _ _ _ hb (by decide) (by decide)
    · exact key _ _ _ hb (by decide) (by decide)
    · exact key _ _ _ hb (by decide) (by decide)
  · obtain ⟨i, hi, rfl⟩ := List.getElem_of_mem hg
    exact key _ _ _ (h.row i hi) (by decide) (by decide)
/-- a block of bytes turns that is none of the net's data -/
theorem Nn.av {w w' : World} {n b g : Nat} {p : Option Nat} {c : Nat} {st : NSt} {cs : Array Value} (h : Nn w n b p c st) (ha : Av [g] w n) (hb : Blk w g 5 cs) (k : But [g] w w') : Nn w' n b p c st := by
  obtain ⟨_, _, _, _, hne⟩ := h.types
  obtain ⟨⟨u, xs, h1, h2, h3, h4, h5⟩, h6⟩ := h
  have hav := ha.at_ h3 h4
  refine ⟨⟨u, xs, h1, h2, k.blk h3 (by have := Blk.ne_ h3 hb (by decide); simpa using this), own_but h4 k hb (by decide), fun x hx => k.owns2 (fun q hq => ?_) (h5 x hx)⟩, h6.but k (by have := hne _ _ _ hb; simpa using this)⟩
  have : q ≠ g := fun e => hav x hx g (by simp) (e ▸ hq)
  simpa using this
theorem Mn.bytes {w w' : World} {m g : Nat} {q : Option Nat} {R : List Nat} {st : NSt} {cs : Array Value} (h : Mn w m q R st) (hb : Blk w g 5 cs) (k : But [g] w w') : Mn w' m q R st := by
  refine h.beside k (fun x T cs' hx hT => ?_) (fun x hx => ?_)
  · have : x ≠ g := Blk.ne_ hx hb (by rcases hT with rfl | rfl | rfl <;> decide)
    simpa using this
  · obtain ⟨i, hi, rfl⟩ := List.getElem_of_mem hx
    have := Blk.ne_ (h.row i hi) hb (by decide)
    simpa using this
/-! ### bytes of one's own -/
theorem bytes_own (v : Value) (l : List UInt8) (w : World) (hl : l.length ≤ 65536) (hv : Byt w v l) :
    Calls Tryd.prog 30 #[v] w fun e w' => ∃ g c, e = .returned (.slice (some ⟨g, 0, none⟩) l.length c) ∧ w'.ownsRow w.heap.size 5 1 (.slice (some ⟨g, 0, none⟩) l.length c) l.length (bvs l) ∧ Below w.heap.size w w' := by
  obtain ⟨p, cap, rfl, h1, h2, h3⟩ := hv
  unfold maxLen at h2
  obtain ⟨i0, hi, hz0, hz1, hz2⟩ := info_parts byt8Info
  have H3 := Lib.hid h3; clear h3
  go_enter Tryd.func30, Tryd.ntmps30
  go_wp2_with (at_make; refine wpList_make _ _ 32 rfl rfl w.heap.size 5 i0 (.int .u8 0) 1 Tryd.underlying32 hi hz0 hz1 .i64 .i64 (l.length + 6) _ rfl rfl ?c0 ?c1 ?c2 ?c3 ?c4 ?_)
  case c0 => simp
  case c1 => omega
  case c2 => rw [hz2]; omega
  case c3 => unfold maxLen; omega
  case c4 => exact Nat.le_refl _
  intro w1 ho hg
  have hb1 : Below w.heap.size w w1 := (Below.refl _ _).grown hg (Nat.le_refl _) (fun _ h => by cases h)
  have hrd := Lib.hid (H3.out.keep (Below.keeps hb1))
  have hs1 := hb1.size
  clear hg
  go_wp2_with (at_builtin; refine wpList_app (.tmp 7) (.tmp 8) 32 rfl rfl w.heap.size 5 i0 (.int .u8 0) 1 1 Tryd.underlying32 hi hz0 hz1 hz2 rfl (by decide) _ _ _ rfl ho _ _ _ (bvs l) rfl ?d0 hrd.out bvs_one ?d1 ?d2 hs1 ?_)
  case d0 => simp [bvs_len]
  case d1 => unfold maxLen; omega
  case d2 => omega
  intro v2 w2 ho2 hg2
  have hb2 := hb1.grown hg2 hs1 (fun j hj => (ho.lt j hj).1)
  have hs2 := hb2.size
  clear ho hg2 hrd
  go_wp2_with (at_builtin; refine wpList_app (.tmp 9) (.tmp 10) 32 rfl rfl w.heap.size 5 i0 (.int .u8 0) 1 1 Tryd.underlying32 hi hz0 hz1 hz2 rfl (by decide) _ _ _ rfl (ho2.alloc _) _ _ _ (bvs marks) rfl ?e0 (rd_at _ _ _ _ _ rfl) bvs_one ?e1 ?e2 ?e3 ?_)
  case e0 => rfl
  case e1 => unfold maxLen; omega
  case e2 => omega
  case e3 => simp; omega
  intro v3 w3 ho3 hg3
  have hb3 := (hb2.alloc hs2 _).grown hg3 (by simp; omega) (fun j hj => (ho2.lt j hj).1)
  clear ho2 hg3
  obtain ⟨g3, c3, rfl⟩ := owns_some ho3 (by omega)
  obtain ⟨_, _, e3, h31, h32, h33⟩ := owns_rd ho3
  cases e3
  have hcut := fun w => run_slice_to (P := Tryd.prog) Tryd.underlying32 hi (some ⟨g3, 0, none⟩) (l.length + 6) c3 l.length (by omega) w
  have hsh := owns_shorter ho3 (m := l.length) (by omega)
  have HS := Lib.hid hsh
  clear h33 ho3 hsh
  unfold maxLen at h32
  go_wp2_with fail
  go_ret
  refine ⟨g3, c3, rfl, ?_, hb3⟩
  have h := HS.out
  rw [← bvs_app, ← bvs_take, List.take_left] at h
  exact h
/-- a slice of bytes that may be written -/
def Mut (w : World) (v : Value) (k : Nat) : Prop := k = 0 ∨ ∃ g c cs, v = .slice (some ⟨g, 0, none⟩) k c ∧ Blk w g 5 cs ∧ ∀ j, j < k → ∃ y : Int, cs[j]? = some (.int .u8 y)
theorem Mut.of_own {w : World} {B : Nat} {v : Value} {l : List UInt8} (h : w.ownsRow B 5 1 v l.length (bvs l)) : Mut w v l.length := by
  by_cases hl : l.length = 0
  · exact .inl hl
  · rcases h.2 with ⟨_, h0⟩ | ⟨g, cap, cur, rfl, _, hh, h3, _, h5, h6⟩
    · omega
    · refine .inr ⟨g, cap, cur, rfl, hh, fun j hj => ⟨(l[j].toNat : Int), ?_⟩⟩
      have hb := bvs_get l j hj
      rw [← h6, List.getElem?_take, if_pos (by omega), Array.getElem?_toList] at hb
      exact hb
theorem Mut.set_ {w : World} {g c k : Nat} {cs : Array Value} (hb : Blk w g 5 cs) (h : ∀ j, j < k → ∃ y : Int, cs[j]? = some (.int .u8 y)) (i : Nat) (z : Int) : Mut (w.setCell ⟨g, i, none⟩ (.int .u8 z)) (.slice (some ⟨g, 0, none⟩) k c) k := by
  refine .inr ⟨g, c, _, rfl, hb.set_ i (.int .u8 z), fun j hj => ?_⟩
  by_cases e : i = j
  · subst e
    obtain ⟨y, hy⟩ := h i hj
    exact ⟨z, Array.getElem?_setIfInBounds_self_of_lt (Array.getElem?_eq_some_iff.1 hy).1⟩
  · obtain ⟨y, hy⟩ := h j hj
    exact ⟨y, by rw [Array.getElem?_setIfInBounds_ne e]; exact hy⟩
/-! ### told -/
theorem told_any12 (w : World) (f t : Int) (v : Value) (d : List UInt8) (hv : Byt w v d) :
    Calls Tryd.prog 21 #[.agg #[.int .i64 f, .int .i64 t, v]] w fun e w' => e = .returned (.agg #[.int .i64 f, .int .i64 t, .string (bs d)]) ∧ Below w.heap.size w w' := by
  obtain ⟨q, k, rfl, _⟩ := id hv
  have hb1 := Blk.new w 37 #[.int .i64 f, .int .i64 t, .slice q d.length k]
  have hk1 := below_alloc1 w (.cells #[.int .i64 f, .int .i64 t, .slice q d.length k] 37)
  have hk2 := below_alloc1 (w.alloc (.cells #[.int .i64 f, .int .i64 t, .slice q d.length k] 37)) (.cells #[.int .i64 0, .int .i64 0, .string ⟨#[]⟩] 62)
  have hbx := hb1.below hk2 hb1.lt
  have sS := str_of ((hv.below hk1).below hk2)
  have x0 := (hbx.cell 0).trans rfl
  have x1 := (hbx.cell 1).trans rfl
  have x2 := (hbx.cell 2).trans rfl
  have hk3 := below_alloc1 (w.alloc (.cells #[.int .i64 f, .int .i64 t, .slice q d.length k] 37)) (.cells #[.int .i64 f, .int .i64 t, .string (bs d)] 62)
  have hb3 := Blk.new (w.alloc (.cells #[.int .i64 f, .int .i64 t, .slice q d.length k] 37)) 62 #[.int .i64 f, .int .i64 t, .string (bs d)]
  have hsz : (w.alloc (.cells #[.int .i64 f, .int .i64 t, .slice q d.length k] 37)).heap.size = w.heap.size + 1 := World.size_alloc _ _
  rw [hsz] at hb3
  have HZ := Lib.hid (And.intro ((hb3.cell 0).trans rfl) (And.intro ((hb3.cell 1).trans rfl) ((hb3.cell 2).trans rfl)))
  have HK := Lib.hid (hk1.trans (hk3.mono hk1.size))
  clear hv hb1 hk1 hk2 hbx hk3 hb3 hsz
  go_enter Tryd.func21, Tryd.ntmps21
  go_wp2_with fail
  obtain ⟨z0, z1, z2⟩ := HZ.out
  refine bodyPost_ret (v := .agg #[.int .i64 f, .int .i64 t, .string (bs d)]) (by simp [results, Tryd.results21, go_sem, z0, z1, z2]) rfl ?_
  exact ⟨rfl, HK.out⟩
end Go.Proofs.YtbbhecadpbnobaaDoor
