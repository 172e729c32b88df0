/-
  NumBytes: the contract of liaisonnum.Bytes.
-/
import Derived.Test.YtpbgappggmcmgaaDoorClone
namespace Go.Proofs.YtpbgappggmcmgaaDoor
open Go.RowKit

/-! ### liaisonnum.Bytes and Kept -/
theorem wpList_make {P : Program} {w : World} {ops : Array Oper} {rest : List Oper} {o : Oper} {a : Act} {Q : Exit → Act → World → Prop} (lo co : Operand) (t : TypeId)
    (ho : o.op = .makeSlice t lo co) (hw : Region.wanted o (yielded ops a.tmps) = true)
    (base : Nat) (e : TypeId) (i : TypeInfo) (z : Value) (size : Nat) (ht : P.underlying t = some (.slice e)) (hi : P.info? e = some i) (hz : i.zero = some z) (hsize : i.size = size)
    (kl kc : IntKind) (c : Nat) (c' : Int) (hlo : a.eval lo = .int kl 0) (hco : a.eval co = .int kc c') (hc : c' = (c : Int)) (hcells : c * size ≤ 16777216) (hbytes : i.bytes * c ≤ 281474976710656) (h63 : c ≤ maxLen) (hbase : base ≤ w.heap.size)
    (h : ∀ w', w'.ownsRow base e size (.slice (some ⟨w.heap.size, 0, none⟩) 0 c) 0 [] → w.grownBy w' none → wpList P ops Q rest (a.put o.dst (.slice (some ⟨w.heap.size, 0, none⟩) 0 c)) w') : wpList P ops Q (o :: rest) a w := by
  obtain ⟨w', hr, h1, h2⟩ := run_makeSlice_owned (P := P) w base t e i z size ht hi hz hsize kl kc c hcells hbytes h63 hbase
  refine wpList_run hw (v := .slice (some ⟨w.heap.size, 0, none⟩) 0 c) (w' := w') ?_ (h w' h1 h2)
  unfold execOp
  simp only [ho, hlo, hco, hc, Sem.run_bind, Sem.run_pure, Result.andThen_ok, hr]

def marks : List UInt8 := [201, 202, 203, 204, 205, 206]
/-- bytes with marked room behind -/
def Marked (w : World) (v : Value) (l : List UInt8) : Prop :=
  ∃ p cap, v = .slice p l.length cap ∧ l.length + 6 ≤ cap ∧ cap ≤ maxLen ∧ Rd w p (bvs (l ++ marks))
theorem Marked.byt {w : World} {v : Value} {l : List UInt8} (h : Marked w v l) : Byt w v l := by
  obtain ⟨p, cap, rfl, h1, h2, h3⟩ := h
  refine ⟨p, cap, rfl, by omega, h2, ?_⟩
  have := h3.take l.length
  rwa [← bvs_take, List.take_left] at this
theorem Marked.keep {w w' : World} {v : Value} {l : List UInt8} (h : Marked w v l) (hk : ∀ a v, w.cell? a = some v → w'.cell? a = some v) : Marked w' v l := by
  obtain ⟨p, cap, rfl, h1, h2, h3⟩ := h
  exact ⟨p, cap, rfl, h1, h2, h3.keep hk⟩

def MadeMarked (w : World) (l : List UInt8) (e : Ending) (w' : World) : Prop := ∃ v, e = .returned v ∧ Marked w' v l ∧ Below w.heap.size w w'
set_option maxHeartbeats 400000 in
theorem bytes_any (v : Value) (l : List UInt8) (w : World) (hl : l.length ≤ 65536) (hv : Byt w v l) :
    Calls Tryd.prog 20 #[v] w (MadeMarked w l) := by
  obtain ⟨p, cap, rfl, h1, h2, h3⟩ := hv
  unfold maxLen at h2
  obtain ⟨i0, hi, hz0, hz1, hz2⟩ := info_parts byt8Info
  have H3 := Lib.hid h3; clear h3
  go_enter Tryd.func20, Tryd.ntmps20
  go_wp2_with (at_make; refine wpList_make _ _ 27 rfl rfl w.heap.size 5 i0 (.int .u8 0) 1 Tryd.underlying27 hi hz0 hz1 .i64 .i64 (l.length + 6) _ rfl rfl ?c0 ?c1 ?c2 ?c3 ?c4 ?_)
  case c0 => simp
  case c1 => omega
  case c2 => rw [hz2]; omega
  case c3 => unfold maxLen; omega
  case c4 => exact Nat.le_refl _
  intro w1 ho hg
  have hb1 : Below w.heap.size w w1 := (Below.refl _ _).grown hg (Nat.le_refl _) (fun _ h => by cases h)
  have hrd := Lib.hid (H3.out.keep (Below.keeps hb1))
  have hs1 := hb1.size
  clear hg
  go_wp2_with (at_builtin; refine wpList_app (.tmp 7) (.tmp 8) 27 rfl rfl w.heap.size 5 i0 (.int .u8 0) 1 1 Tryd.underlying27 hi hz0 hz1 hz2 rfl (by decide) _ _ _ rfl ho _ _ _ (bvs l) rfl ?d0 hrd.out bvs_one ?d1 ?d2 hs1 ?_)
  case d0 => simp [bvs_len]
  case d1 => unfold maxLen; omega
  case d2 => omega
  intro v2 w2 ho2 hg2
  have hb2 := hb1.grown hg2 hs1 (fun j hj => (ho.lt j hj).1)
  have hs2 := hb2.size
  clear ho hg2 hrd
  go_wp2_with (at_builtin; refine wpList_app (.tmp 9) (.tmp 10) 27 rfl rfl w.heap.size 5 i0 (.int .u8 0) 1 1 Tryd.underlying27 hi hz0 hz1 hz2 rfl (by decide) _ _ _ rfl (ho2.alloc _) _ _ _ (bvs marks) rfl ?e0 (rd_at _ _ _ _ _ rfl) bvs_one ?e1 ?e2 ?e3 ?_)
  case e0 => rfl
  case e1 => unfold maxLen; omega
  case e2 => omega
  case e3 => simp; omega
  intro v3 w3 ho3 hg3
  have hb3 := (hb2.alloc hs2 _).grown hg3 (by simp; omega) (fun j hj => (ho2.lt j hj).1)
  clear ho2 hg3
  obtain ⟨p3, c3, rfl, h31, h32, h33⟩ := owns_rd ho3
  have hcut := fun w => run_slice_to (P := Tryd.prog) Tryd.underlying27 hi p3 (l.length + 6) c3 l.length (by omega) w
  have HR := Lib.hid h33
  clear h33 ho3
  unfold maxLen at h32
  go_wp2_with fail
  go_ret
  exact ⟨_, rfl, ⟨p3, c3, rfl, h31, by unfold maxLen; omega, by rw [bvs_app]; exact HR.out⟩, hb3⟩

end Go.Proofs.YtpbgappggmcmgaaDoor
