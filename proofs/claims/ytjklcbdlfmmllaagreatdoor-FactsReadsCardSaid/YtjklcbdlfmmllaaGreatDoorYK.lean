/-
  NumBytes: the contract of liaisonnum.Bytes.
  Kept: the contract of liaisonnum.Kept.
-/
import Derived.Test.YtjklcbdlfmmllaaGreatDoorYA
namespace Go.Proofs.YtjklcbdlfmmllaaGreatDoor
open Go.RowKit

/-! ### liaisonnum.Bytes and Kept -/
theorem wpList_make {P : Program} {w : World} {ops : Array Oper} {rest : List Oper} {o : Oper} {a : Act} {Q : Exit → Act → World → Prop} (lo co : Operand) (t : TypeId)
    (ho : o.op = .makeSlice t lo co) (hw : Region.wanted o (yielded ops a.tmps) = true)
    (base : Nat) (e : TypeId) (i : TypeInfo) (z : Value) (size : Nat) (ht : P.underlying t = some (.slice e)) (hi : P.info? e = some i) (hz : i.zero = some z) (hsize : i.size = size)
    (kl kc : IntKind) (c : Nat) (c' : Int) (hlo : a.eval lo = .int kl 0) (hco : a.eval co = .int kc c') (hc : c' = (c : Int)) (hcells : c * size ≤ 16777216) (hbytes : i.bytes * c ≤ 281474976710656) (h63 : c ≤ maxLen) (hbase : base ≤ w.heap.size)
    (h : ∀ w', w'.ownsRow base e size (.slice (some ⟨w.heap.size, 0, none⟩) 0 c) 0 [] → w.grownBy w' none → wpList P ops Q rest (a.put o.dst (.slice (some ⟨w.heap.size, 0, none⟩) 0 c)) w') : wpList P ops Q (o :: rest) a w := by
  obtain ⟨w', hr, h1, h2⟩ := run_makeSlice_owned (P := P) w base t e i z size ht hi hz hsize kl kc c hcells hbytes h63 hbase
  refine wpList_run hw (v := .slice (some ⟨w.heap.size, 0, none⟩) 0 c) (w' := w') ?_ (h w' h1 h2)
  unfold execOp
  simp only [ho, hlo, hco, hc, Sem.run_bind, Sem.run_pure, Result.andThen_ok, hr]

def marks : List UInt8 := [201, 202, 203, 204, 205, 206]
/-- bytes with marked room behind -/
def Marked (w : World) (v : Value) (l : List UInt8) : Prop :=
  ∃ p cap, v = .slice p l.length cap ∧ l.length + 6 ≤ cap ∧ cap ≤ maxLen ∧ Rd w p (bvs (l ++ marks))
theorem Marked.byt {w : World} {v : Value} {l : List UInt8} (h : Marked w v l) : Byt w v l := by
  obtain ⟨p, cap, rfl, h1, h2, h3⟩ := h
  refine ⟨p, cap, rfl, by omega, h2, ?_⟩
  have := h3.take l.length
  rwa [← bvs_take, List.take_left] at this
theorem Marked.keep {w w' : World} {v : Value} {l : List UInt8} (h : Marked w v l) (hk : ∀ a v, w.cell? a = some v → w'.cell? a = some v) : Marked w' v l := by
  obtain ⟨p, cap, rfl, h1, h2, h3⟩ := h
  exact ⟨p, cap, rfl, h1, h2, h3.keep hk⟩

def MadeMarked (w : World) (l : List UInt8) (e : Ending) (w' : World) : Prop := ∃ v, e = .returned v ∧ Marked w' v l ∧ Below w.heap.size w w'
set_option maxHeartbeats 400000 in
theorem bytes_any (v : Value) (l : List UInt8) (w : World) (hl : l.length ≤ 65536) (hv : Byt w v l) :
    Calls Tryz.prog 13 #[v] w (MadeMarked w l) := by
  obtain ⟨p, cap, rfl, h1, h2, h3⟩ := hv
  unfold maxLen at h2
  obtain ⟨i0, hi, hz0, hz1, hz2⟩ := info_parts byt8Info
  have H3 := Lib.hid h3; clear h3
  go_enter Tryz.func13, Tryz.ntmps13
  go_wp2_with (at_make; refine wpList_make _ _ 29 rfl rfl w.heap.size 5 i0 (.int .u8 0) 1 Tryz.underlying29 hi hz0 hz1 .i64 .i64 (l.length + 6) _ rfl rfl ?c0 ?c1 ?c2 ?c3 ?c4 ?_)
  case c0 => simp
  case c1 => omega
  case c2 => rw [hz2]; omega
  case c3 => unfold maxLen; omega
  case c4 => exact Nat.le_refl _
  intro w1 ho hg
  have hb1 : Below w.heap.size w w1 := (Below.refl _ _).grown hg (Nat.le_refl _) (fun _ h => by cases h)
  have hrd := Lib.hid (H3.out.keep (Below.keeps hb1))
  have hs1 := hb1.size
  clear hg
  go_wp2_with (at_builtin; refine wpList_app (.tmp 7) (.tmp 8) 29 rfl rfl w.heap.size 5 i0 (.int .u8 0) 1 1 Tryz.underlying29 hi hz0 hz1 hz2 rfl (by decide) _ _ _ rfl ho _ _ _ (bvs l) rfl ?d0 hrd.out bvs_one ?d1 ?d2 hs1 ?_)
  case d0 => simp [bvs_len]
  case d1 => unfold maxLen; omega
  case d2 => omega
  intro v2 w2 ho2 hg2
  have hb2 := hb1.grown hg2 hs1 (fun j hj => (ho.lt j hj).1)
  have hs2 := hb2.size
  clear ho hg2 hrd
  go_wp2_with (at_builtin; refine wpList_app (.tmp 9) (.tmp 10) 29 rfl rfl w.heap.size 5 i0 (.int .u8 0) 1 1 Tryz.underlying29 hi hz0 hz1 hz2 rfl (by decide) _ _ _ rfl (ho2.alloc _) _ _ _ (bvs marks) rfl ?e0 (rd_at _ _ _ _ _ rfl) bvs_one ?e1 ?e2 ?e3 ?_)
  case e0 => rfl
  case e1 => unfold maxLen; omega
  case e2 => omega
  case e3 => simp; omega
  intro v3 w3 ho3 hg3
  have hb3 := (hb2.alloc hs2 _).grown hg3 (by simp; omega) (fun j hj => (ho2.lt j hj).1)
  clear ho2 hg3
  obtain ⟨p3, c3, rfl, h31, h32, h33⟩ := owns_rd ho3
  have hcut := fun w => run_slice_to (P := Tryz.prog) Tryz.underlying29 hi p3 (l.length + 6) c3 l.length (by omega) w
  have HR := Lib.hid h33
  clear h33 ho3
  unfold maxLen at h32
  go_wp2_with fail
  go_ret
  exact ⟨_, rfl, ⟨p3, c3, rfl, h31, by unfold maxLen; omega, by rw [bvs_app]; exact HR.out⟩, hb3⟩

end Go.Proofs.YtjklcbdlfmmllaaGreatDoor

namespace Go.Proofs.YtjklcbdlfmmllaaGreatDoor
open Go.RowKit

theorem marks_get (l : List UInt8) (k : Nat) (h : k < 6) : (bvs (l ++ marks))[l.length + k]? = some (.int .u8 (201 + k : Int)) := by
  rw [bvs_app, List.getElem?_append_right (by rw [bvs_len]; omega), bvs_len, Nat.add_sub_cancel_left]
  have : k = 0 ∨ k = 1 ∨ k = 2 ∨ k = 3 ∨ k = 4 ∨ k = 5 := by omega
  rcases this with rfl | rfl | rfl | rfl | rfl | rfl <;> rfl

attribute [local go_sem] bs_toList
set_option maxRecDepth 20000 in
set_option maxHeartbeats 1000000 in
theorem kept_any (v1 v2 : Value) (l : List UInt8) (w : World) (h1 : Marked w v1 l) (h2 : Byt w v2 l) :
    Calls Tryz.prog 15 #[v1, v2] w fun e w' => e = .returned (.bool true) ∧ Below w.heap.size w w' := by
  have hB := Marked.byt h1
  have HB2 := Lib.hid h2
  obtain ⟨p1, cap1, rfl, h11, h12, h13⟩ := h1
  obtain ⟨p2, cap2, rfl, h21, h22, h23⟩ := h2
  have H13 := Lib.hid h13; clear h13
  have H23 := Lib.hid h23; clear h23
  unfold maxLen at h12 h22
  obtain ⟨i0, hi, hz0, hz1, hz2⟩ := info_parts byt8Info
  have hc1 := fun w => run_slice_to (P := Tryz.prog) Tryz.underlying29 hi p1 l.length cap1 cap1 (Nat.le_refl _) w
  have hc2 := fun w => run_slice_to (P := Tryz.prog) Tryz.underlying29 hi p1 cap1 cap1 l.length (by omega) w
  have hd : decide ((cap1 : Int) < (l.length : Int) + 6) = false := by simp; omega
  go_enter Tryz.func15, Tryz.ntmps15
  go_wp2_with fail
  refine wp_phi (fun w' => Byt w' (.slice p1 l.length cap1) l ∧ Byt w' (.slice p2 l.length cap2) l ∧ Below w.heap.size w w') [] [] (by kernel_rfl) (by kernel_rfl) ?_ ?_ ⟨hB, HB2.out, (Below.refl _ _).drew⟩ ?_
  · rintro w1 w2 ⟨a1, a2, a3⟩ hb
    exact ⟨a1.below hb, a2.below hb, a3.trans (hb.mono a3.size)⟩
  · intro p hp; cases hp
  repeat (refine phi_pureK rfl rfl (fun K hK => ?_); apply Exists.intro; constructor; (rintro w' ⟨hI1, hI2, hI3⟩; have s1 := run_str (P := Tryz.prog) Tryz.underlying29 Tryz.underlying5 Tryz.underlying9 hI1; have s2 := run_str (P := Tryz.prog) Tryz.underlying29 Tryz.underlying5 Tryz.underlying9 hI2; clear hI1 hI2 hI3; first | (go_simp; (try go_bits); (try go_simp); rfl) | go_simp); simp only [Act.put, List.setIfInBounds_toArray, List.set_cons_succ, List.set_cons_zero]; (try simp only [List.cons_append]); (try simp only [List.nil_append]); apply hK; clear hK K)
  refine phi_done ?_
  rintro w1 ⟨_, _, hbw⟩ _
  refine wpList_nil ?_
  clear hc1 hc2 hd hB HB2
  go_wp2_with fail
  go_loop [6] (fun i => ∃ k : Nat, k ≤ 6 ∧ i = .int .i64 k) (fun i => 6 - (intOf i).toNat)
  case atStart => exact ⟨0, by omega, rfl⟩
  case round =>
    obtain ⟨k, hk, rfl⟩ := hrel
    by_cases hlt : k < 6
    · obtain ⟨b, off, rfl, hc⟩ := (H13.out.keep (Below.keeps hbw)).has (by simp [bvs, marks])
      have hck := hc _ _ (marks_get l k hlt)
      clear hc
      have hne : ((201 + (k : Int)) != (201 + (k : Int))) = false := by simp
      go_wp2_with fail
      go_round
      case rel => exact ⟨k + 1, by omega, by go_num⟩
      case measure => simp [intOf]; omega
    · obtain rfl : k = 6 := by omega
      go_wp2_with fail
      go_ret
      exact ⟨rfl, hbw⟩
end Go.Proofs.YtjklcbdlfmmllaaGreatDoor
