/-
  Bytes: strings of bytes, and the contracts of slices.Clone, slices.Equal over bytes, liaisonnum.Bytes and Kept.
-/
import Derived.Test.YtdbgdmhlnaldoaaDoorBase
import Derived.Test.YtdbgdmhlnaldoaaDoorPhi
import Derived.Test.YtdbgdmhlnaldoaaDoorProg
import Derived.Lib.Bytes
namespace Go.Proofs.YtdbgdmhlnaldoaaDoor
open Go.RowKit

/-! ### strings -/
def bs (l : List UInt8) : ByteArray := ⟨l.toArray⟩
theorem bs_toList (l : List UInt8) : (bs l).toList = l := by rw [Lib.toList_data]; rfl
theorem bs_size (l : List UInt8) : (bs l).size = l.length := by simp [bs, ByteArray.size]
theorem bs_append (l m : List UInt8) : bs l ++ bs m = bs (l ++ m) := by
  apply ByteArray.ext
  rw [ByteArray.data_append]; simp [bs]
theorem run_str_add {P : Program} (w : World) (a b : List UInt8) (h : a.length + b.length ≤ 9223372036854775807) :
    (Op.stringOp .add (bs a) (bs b)).run P w = .ok (.string (bs (a ++ b))) w := by
  unfold Op.stringOp
  simp only
  rw [if_neg (by rw [bs_size, bs_size]; show ¬ (IntKind.i64.max < _); simp [IntKind.max, IntKind.signed, IntKind.bits]; omega), bs_append]
  rfl
/-- a slice of bytes as a string -/
theorem run_str {P : Program} {w : World} {t e d : TypeId} {v : Value} {l : List UInt8} (ht : P.underlying t = some (.slice e)) (he : P.underlying e = some (.int .u8)) (hd : P.underlying d = some .string) (h : Byt w v l) :
    (convert t d v).run P w = .ok (.string (bs l)) w := by
  obtain ⟨p, cap, rfl, h1, h2, h3⟩ := h
  have hs : ∀ l : List UInt8, strOfNums (l.map fun c => (c.toNat : Int)) = bs l := by
    intro l
    unfold strOfNums bs
    rw [List.map_map]
    congr 2
    conv => rhs; rw [← List.map_id l]
    refine List.map_congr_left fun c _ => ?_
    simp
  cases p with
  | none =>
    have : l = [] := by
      rcases h3 with h | ⟨b, off, hp, _⟩
      · exact (bvs_nil l).1 h
      · cases hp
    subst this
    rw [run_convert_bytes_nil w t e ht he _ _ d hd]; rfl
  | some a =>
    by_cases hl : l = []
    · subst hl
      have := run_convert_bytes_string w t d e (some a) 0 cap ht he hd
      rw [List.length_nil, this]
      have hld : (loadCells a 0).run P w = .ok (([] : List Int).map (Value.int .u8)).toArray w := by simp [loadCells, loadCellsFrom]
      rw [run_bytesToString w a 0 cap [] hld]
      rfl
    · obtain ⟨b, off, hp, hc⟩ := h3.has (by rw [Ne, bvs_nil]; exact hl)
      cases hp
      rw [run_convert_bytes_arg w t e ht he b off l.length cap (l.map fun c => (c.toNat : Int)) (by simp) (fun i hi => ?_) d hd, hs]
      rw [hc i _ (bvs_get l i hi)]
      simp [hi]

theorem byt8Info : (Tryd.prog.info? 5).map (fun i => (i.zero, i.size, i.bytes)) = some (some (.int .u8 0), 1, 1) := by kernel_rfl

/-! ### slices.Clone -/
def Cloned (w : World) (l : List UInt8) (e : Ending) (w' : World) : Prop :=
  ∃ v, e = .returned v ∧ w'.ownsRow w.heap.size 5 1 v l.length (bvs l) ∧ Below w.heap.size w w'
set_option maxHeartbeats 400000 in
theorem clone_any (v : Value) (l : List UInt8) (w : World) (hl : l.length ≤ 1099511627776) (hv : Byt w v l) :
    Calls Tryd.prog 19 #[v] w (Cloned w l) := by
  obtain ⟨p, cap, rfl, h1, h2, h3⟩ := hv
  unfold maxLen at h2
  obtain ⟨i0, hi, hz0, hz1, hz2⟩ := info_parts byt8Info
  by_cases hp : p = none
  · subst hp
    have h0 : l = [] := by
      rcases h3 with h | ⟨b, off, hp, _⟩
      · exact (bvs_nil l).1 h
      · cases hp
    subst h0
    have hnil := fun w => Lib.run_eql_slice_nil (P := Tryd.prog) w 24 5 none 0 cap 0 0 Tryd.underlying24
    go_enter Tryd.func19, Tryd.ntmps19
    go_wp2_with fail
    go_ret
    exact ⟨_, rfl, World.ownsRow_nil _ _ _ _, Below.refl _ _⟩
  · have hnone : p.isNone = false := by cases p <;> simp_all
    have hnil := fun w => Lib.run_eql_slice_nil (P := Tryd.prog) w 24 5 p l.length cap 0 0 Tryd.underlying24
    have hown : (w.alloc (.cells #[] 5)).ownsRow w.heap.size 5 1 (.slice (some ⟨w.heap.size, 0, none⟩) 0 0) ([] : List Value).length [] := by
      simpa using World.ownsRow_lit (base := w.heap.size) (e := 5) (size := 1) w #[] 0 (Nat.le_refl _) (by unfold maxLen; omega) rfl
    have hrd := Lib.hid (h3.keep (keep_alloc w (.cells #[] 5)))
    have HP := Lib.hid hp
    clear hp h3
    go_enter Tryd.func19, Tryd.ntmps19
    go_wp2_with (at_builtin; refine wpList_app (.tmp 5) (.tmp 6) 24 rfl rfl w.heap.size 5 i0 (.int .u8 0) 1 1 Tryd.underlying24 hi hz0 hz1 hz2 rfl (by decide) _ _ _ rfl hown _ _ _ (bvs l) rfl ?c0 hrd.out bvs_one ?c1 ?c2 ?c3 ?_)
    case c0 => simp [bvs_len]
    case c1 => unfold maxLen; simp; omega
    case c2 => simp; omega
    case c3 => simp
    intro v' w' ho hg
    have hb : Below w.heap.size w w' := (below_alloc1 w (.cells #[] 5)).grown hg (by simp) (fun j hj => (hown.lt j hj).1)
    clear hown hg hnil
    go_wp2_with fail
    go_ret
    exact ⟨_, rfl, by simpa using ho, hb⟩
theorem Cloned.byt {w w' : World} {l : List UInt8} {e : Ending} (h : Cloned w l e w') : ∃ v, e = .returned v ∧ Byt w' v l ∧ Below w.heap.size w w' := by
  obtain ⟨v, h1, h2, h3⟩ := h
  exact ⟨v, h1, owns_byt h2, h3⟩

/-! ### slices.Equal -/
set_option maxHeartbeats 400000 in
theorem equal_any (v1 v2 : Value) (l m : List UInt8) (w : World) (h1 : Byt w v1 l) (h2 : Byt w v2 m) :
    Calls Tryd.prog 21 #[v1, v2] w fun e w' => e = .returned (.bool (l == m)) ∧ Below w.heap.size w w' := by
  obtain ⟨p1, cap1, rfl, h11, h12, h13⟩ := h1
  obtain ⟨p2, cap2, rfl, h21, h22, h23⟩ := h2
  have H13 := Lib.hid h13; clear h13
  have H23 := Lib.hid h23; clear h23
  unfold maxLen at h12 h22
  by_cases hlen : l.length = m.length
  · have hne : ((l.length : Int) != (m.length : Int)) = false := by simp [hlen]
    have HL := Lib.hid hlen
    have hlm : l.length ≤ m.length := by omega
    clear hlen
    go_enter Tryd.func21, Tryd.ntmps21
    go_wp2_with fail
    go_loopw [13] (fun i wr => ∃ k : Nat, k ≤ l.length ∧ i = .int .i64 k ∧ l.take k = m.take k ∧ Below w.heap.size w wr) (fun i _ => l.length - (intOf i).toNat)
    case atStart => exact ⟨0, by omega, rfl, rfl, Below.refl _ _⟩
    case round =>
      obtain ⟨k, hk, rfl, heq, hbw⟩ := hrel
      by_cases hlt : k < l.length
      · obtain ⟨ba, oa, rfl, hca⟩ := byt_cell H13.out hlt
        obtain ⟨bb, ob, rfl, hcb⟩ := byt_cell H23.out (show k < m.length by omega)
        have hca' := Below.keeps hbw _ _ hca
        have hcb' := Below.keeps hbw _ _ hcb
        clear hca hcb
        have hkm : k < m.length := by omega
        have hst := Lib.hid (fun hx : l[k] = m[k] => show l.take (k + 1) = m.take (k + 1) by
          rw [List.take_succ_eq_append_getElem hlt, List.take_succ_eq_append_getElem hkm, heq, hx])
        have hno := Lib.hid (fun (hx : ¬ l[k] = m[k]) => show (l == m) = false by
          rw [beq_eq_false_iff_ne]; intro e; subst e; exact hx rfl)
        clear heq
        generalize l[k] = x at *
        generalize m[k] = y at *
        have hx8 := x.toNat_lt
        have hy8 := y.toNat_lt
        by_cases hxy : x = y
        · have hne2 : ((x.toNat : Int) != (y.toNat : Int)) = false := by simp [hxy]
          have hst2 := Lib.hid (hst.out hxy)
          clear hxy hst hno
          go_wp2_with fail
          go_quiet (fail)
          go_wp2_with fail
          go_roundw
          case rel => exact ⟨k + 1, by omega, by go_num, hst2.out, hbw.trans ((below_drewN _ _).mono hbw.size)⟩
          case measure => simp [intOf]; omega
        · have hne2 : ((x.toNat : Int) != (y.toNat : Int)) = true := by
            simp only [bne_iff_ne, ne_eq]; intro e; exact hxy (UInt8.toNat_inj.1 (by omega))
          have hno2 := Lib.hid (hno.out hxy)
          clear hxy hst hno
          go_wp2_with fail
          go_quiet (fail)
          go_wp2_with fail
          go_ret
          exact ⟨by rw [hno2.out]; rfl, hbw.trans ((below_drewN _ _).mono hbw.size)⟩
      · obtain rfl : k = l.length := by omega
        go_wp2_with fail
        go_ret
        refine ⟨?_, hbw⟩
        rw [List.take_of_length_le (Nat.le_refl _), HL.out, List.take_of_length_le (Nat.le_refl _)] at heq
        rw [heq]; simp
  · have hne : ((l.length : Int) != (m.length : Int)) = true := by simp; omega
    have hno : (l == m) = false := by rw [beq_eq_false_iff_ne]; intro e; exact hlen (by rw [e])
    go_enter Tryd.func21, Tryd.ntmps21
    go_wp2_with fail
    go_ret
    exact ⟨by rw [hno]; rfl, Below.refl _ _⟩

/-! ### liaisonnum.Bytes and Kept -/
theorem wpList_make {P : Program} {w : World} {ops : Array Oper} {rest : List Oper} {o : Oper} {a : Act} {Q : Exit → Act → World → Prop} (lo co : Operand) (t : TypeId)
    (ho : o.op = .makeSlice t lo co) (hw : Region.wanted o (yielded ops a.tmps) = true)
    (base : Nat) (e : TypeId) (i : TypeInfo) (z : Value) (size : Nat) (ht : P.underlying t = some (.slice e)) (hi : P.info? e = some i) (hz : i.zero = some z) (hsize : i.size = size)
    (kl kc : IntKind) (c : Nat) (c' : Int) (hlo : a.eval lo = .int kl 0) (hco : a.eval co = .int kc c') (hc : c' = (c : Int)) (hcells : c * size ≤ 16777216) (hbytes : i.bytes * c ≤ 281474976710656) (h63 : c ≤ maxLen) (hbase : base ≤ w.heap.size)
    (h : ∀ w', w'.ownsRow base e size (.slice (some ⟨w.heap.size, 0, none⟩) 0 c) 0 [] → w.grownBy w' none → wpList P ops Q rest (a.put o.dst (.slice (some ⟨w.heap.size, 0, none⟩) 0 c)) w') : wpList P ops Q (o :: rest) a w := by
  obtain ⟨w', hr, h1, h2⟩ := run_makeSlice_owned (P := P) w base t e i z size ht hi hz hsize kl kc c hcells hbytes h63 hbase
  refine wpList_run hw (v := .slice (some ⟨w.heap.size, 0, none⟩) 0 c) (w' := w') ?_ (h w' h1 h2)
  unfold execOp
  simp only [ho, hlo, hco, hc, Sem.run_bind, Sem.run_pure, Result.andThen_ok, hr]

def marks : List UInt8 := [201, 202, 203, 204, 205, 206]
/-- bytes with marked room behind -/
def Marked (w : World) (v : Value) (l : List UInt8) : Prop :=
  ∃ p cap, v = .slice p l.length cap ∧ l.length + 6 ≤ cap ∧ cap ≤ maxLen ∧ Rd w p (bvs (l ++ marks))
theorem Marked.byt {w : World} {v : Value} {l : List UInt8} (h : Marked w v l) : Byt w v l := by
  obtain ⟨p, cap, rfl, h1, h2, h3⟩ := h
  refine ⟨p, cap, rfl, by omega, h2, ?_⟩
  have := h3.take l.length
  rwa [← bvs_take, List.take_left] at this
theorem Marked.keep {w w' : World} {v : Value} {l : List UInt8} (h : Marked w v l) (hk : ∀ a v, w.cell? a = some v → w'.cell? a = some v) : Marked w' v l := by
  obtain ⟨p, cap, rfl, h1, h2, h3⟩ := h
  exact ⟨p, cap, rfl, h1, h2, h3.keep hk⟩

def MadeMarked (w : World) (l : List UInt8) (e : Ending) (w' : World) : Prop := ∃ v, e = .returned v ∧ Marked w' v l ∧ Below w.heap.size w w'
set_option maxHeartbeats 400000 in
theorem bytes_any (v : Value) (l : List UInt8) (w : World) (hl : l.length ≤ 65536) (hv : Byt w v l) :
    Calls Tryd.prog 12 #[v] w (MadeMarked w l) := by
  obtain ⟨p, cap, rfl, h1, h2, h3⟩ := hv
  unfold maxLen at h2
  obtain ⟨i0, hi, hz0, hz1, hz2⟩ := info_parts byt8Info
  have H3 := Lib.hid h3; clear h3
  go_enter Tryd.func12, Tryd.ntmps12
  go_wp2_with (at_make; refine wpList_make _ _ 24 rfl rfl w.heap.size 5 i0 (.int .u8 0) 1 Tryd.underlying24 hi hz0 hz1 .i64 .i64 (l.length + 6) _ rfl rfl ?c0 ?c1 ?c2 ?c3 ?c4 ?_)
  case c0 => simp
  case c1 => omega
  case c2 => rw [hz2]; omega
  case c3 => unfold maxLen; omega
  case c4 => exact Nat.le_refl _
  intro w1 ho hg
  have hb1 : Below w.heap.size w w1 := (Below.refl _ _).grown hg (Nat.le_refl _) (fun _ h => by cases h)
  have hrd := Lib.hid (H3.out.keep (Below.keeps hb1))
  have hs1 := hb1.size
  clear hg
  go_wp2_with (at_builtin; refine wpList_app (.tmp 7) (.tmp 8) 24 rfl rfl w.heap.size 5 i0 (.int .u8 0) 1 1 Tryd.underlying24 hi hz0 hz1 hz2 rfl (by decide) _ _ _ rfl ho _ _ _ (bvs l) rfl ?d0 hrd.out bvs_one ?d1 ?d2 hs1 ?_)
  case d0 => simp [bvs_len]
  case d1 => unfold maxLen; omega
  case d2 => omega
  intro v2 w2 ho2 hg2
  have hb2 := hb1.grown hg2 hs1 (fun j hj => (ho.lt j hj).1)
  have hs2 := hb2.size
  clear ho hg2 hrd
  go_wp2_with (at_builtin; refine wpList_app (.tmp 9) (.tmp 10) 24 rfl rfl w.heap.size 5 i0 (.int .u8 0) 1 1 Tryd.underlying24 hi hz0 hz1 hz2 rfl (by decide) _ _ _ rfl (ho2.alloc _) _ _ _ (bvs marks) rfl ?e0 (rd_at _ _ _ _ _ rfl) bvs_one ?e1 ?e2 ?e3 ?_)
  case e0 => rfl
  case e1 => unfold maxLen; omega
  case e2 => omega
  case e3 => simp; omega
  intro v3 w3 ho3 hg3
  have hb3 := (hb2.alloc hs2 _).grown hg3 (by simp; omega) (fun j hj => (ho2.lt j hj).1)
  clear ho2 hg3
  obtain ⟨p3, c3, rfl, h31, h32, h33⟩ := owns_rd ho3
  have hcut := fun w => run_slice_to (P := Tryd.prog) Tryd.underlying24 hi p3 (l.length + 6) c3 l.length (by omega) w
  have HR := Lib.hid h33
  clear h33 ho3
  unfold maxLen at h32
  go_wp2_with fail
  go_ret
  exact ⟨_, rfl, ⟨p3, c3, rfl, h31, by unfold maxLen; omega, by rw [bvs_app]; exact HR.out⟩, hb3⟩

theorem marks_get (l : List UInt8) (k : Nat) (h : k < 6) : (bvs (l ++ marks))[l.length + k]? = some (.int .u8 (201 + k : Int)) := by
  rw [bvs_app, List.getElem?_append_right (by rw [bvs_len]; omega), bvs_len, Nat.add_sub_cancel_left]
  have : k = 0 ∨ k = 1 ∨ k = 2 ∨ k = 3 ∨ k = 4 ∨ k = 5 := by omega
  rcases this with rfl | rfl | rfl | rfl | rfl | rfl <;> rfl

attribute [local go_sem] bs_toList
set_option maxHeartbeats 1000000 in
theorem kept_any (v1 v2 : Value) (l : List UInt8) (w : World) (h1 : Marked w v1 l) (h2 : Byt w v2 l) :
    Calls Tryd.prog 16 #[v1, v2] w fun e w' => e = .returned (.bool true) ∧ Below w.heap.size w w' := by
  have hB := Marked.byt h1
  have HB2 := Lib.hid h2
  obtain ⟨p1, cap1, rfl, h11, h12, h13⟩ := h1
  obtain ⟨p2, cap2, rfl, h21, h22, h23⟩ := h2
  have H13 := Lib.hid h13; clear h13
  have H23 := Lib.hid h23; clear h23
  unfold maxLen at h12 h22
  obtain ⟨i0, hi, hz0, hz1, hz2⟩ := info_parts byt8Info
  have hc1 := fun w => run_slice_to (P := Tryd.prog) Tryd.underlying24 hi p1 l.length cap1 cap1 (Nat.le_refl _) w
  have hc2 := fun w => run_slice_to (P := Tryd.prog) Tryd.underlying24 hi p1 cap1 cap1 l.length (by omega) w
  have hd : decide ((cap1 : Int) < (l.length : Int) + 6) = false := by simp; omega
  go_enter Tryd.func16, Tryd.ntmps16
  go_wp2_with fail
  refine wp_phi (fun w' => Byt w' (.slice p1 l.length cap1) l ∧ Byt w' (.slice p2 l.length cap2) l ∧ Below w.heap.size w w') [] [] (by kernel_rfl) (by kernel_rfl) ?_ ?_ ⟨hB, HB2.out, (Below.refl _ _).drew⟩ ?_
  · rintro w1 w2 ⟨a1, a2, a3⟩ hb
    exact ⟨a1.below hb, a2.below hb, a3.trans (hb.mono a3.size)⟩
  · intro p hp; cases hp
  repeat (refine phi_pureK rfl rfl (fun K hK => ?_); apply Exists.intro; constructor; (rintro w' ⟨hI1, hI2, hI3⟩; have s1 := run_str (P := Tryd.prog) Tryd.underlying24 Tryd.underlying5 Tryd.underlying9 hI1; have s2 := run_str (P := Tryd.prog) Tryd.underlying24 Tryd.underlying5 Tryd.underlying9 hI2; clear hI1 hI2 hI3; first | (go_simp; (try go_bits); (try go_simp); rfl) | go_simp); simp only [Act.put, List.setIfInBounds_toArray, List.set_cons_succ, List.set_cons_zero, List.nil_append, List.cons_append]; apply hK; clear hK K)
  refine phi_done ?_
  rintro w1 ⟨_, _, hbw⟩ _
  refine wpList_nil ?_
  clear hc1 hc2 hd hB HB2
  go_wp2_with fail
  go_loop [6] (fun i => ∃ k : Nat, k ≤ 6 ∧ i = .int .i64 k) (fun i => 6 - (intOf i).toNat)
  case atStart => exact ⟨0, by omega, rfl⟩
  case round =>
    obtain ⟨k, hk, rfl⟩ := hrel
    by_cases hlt : k < 6
    · obtain ⟨b, off, rfl, hc⟩ := (H13.out.keep (Below.keeps hbw)).has (by simp [bvs, marks])
      have hck := hc _ _ (marks_get l k hlt)
      clear hc
      have hne : ((201 + (k : Int)) != (201 + (k : Int))) = false := by simp
      go_wp2_with fail
      go_round
      case rel => exact ⟨k + 1, by omega, by go_num⟩
      case measure => simp [intOf]; omega
    · obtain rfl : k = 6 := by omega
      go_wp2_with fail
      go_ret
      exact ⟨rfl, hbw⟩
end Go.Proofs.YtdbgdmhlnaldoaaDoor
