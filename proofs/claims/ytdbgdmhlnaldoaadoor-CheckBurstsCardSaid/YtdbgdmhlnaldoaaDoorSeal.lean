/-
  Seal: the walks of check.four, liaisonref04.Four, check.Seal and check.Open.
-/
import Derived.Test.YtdbgdmhlnaldoaaDoorCrc
import Derived.Test.YtdbgdmhlnaldoaaDoorBytes
import Derived.Test.YtdbgdmhlnaldoaaDoorErr
namespace Go.Proofs.YtdbgdmhlnaldoaaDoor
open Go.RowKit

/-- a sum's bytes, the high one first -/
def four (s : BitVec 32) : List UInt8 := [UInt8.ofNat (s.toNat / 16777216), UInt8.ofNat (s.toNat / 65536), UInt8.ofNat (s.toNat / 256), UInt8.ofNat s.toNat]
theorem four_len (s : BitVec 32) : (four s).length = 4 := rfl
theorem byte_div (s : BitVec 32) (d : Nat) : n32 s / (d : Int) % 256 = ((UInt8.ofNat (s.toNat / d)).toNat : Int) := by
  unfold n32
  rw [UInt8.toNat_ofNat']; simp
theorem byte_all (s : BitVec 32) : n32 s % 256 = ((UInt8.ofNat s.toNat).toNat : Int) := by
  unfold n32
  rw [UInt8.toNat_ofNat']; simp
theorem four_bvs (s : BitVec 32) : bvs (four s) = [.int .u8 (n32 s / 16777216), .int .u8 (n32 s / 65536 % 256), .int .u8 (n32 s / 256 % 256), .int .u8 (n32 s % 256)] := by
  have h1 := byte_div s 16777216
  have h2 := byte_div s 65536
  have h3 := byte_div s 256
  have h4 := byte_all s
  simp only [four, bvs, List.map_cons, List.map_nil, bv]
  have h5 := n32_bd s
  have h6 : n32 s / 16777216 % 256 = n32 s / 16777216 := by omega
  rw [← h1, ← h2, ← h3, ← h4]
  show [Value.int .u8 (n32 s / 16777216 % 256), _, _, _] = _
  rw [h6]
  rfl
def GivesBytes (w : World) (l : List UInt8) (e : Ending) (w' : World) : Prop := ∃ v, e = .returned v ∧ Byt w' v l ∧ Below w.heap.size w w'
set_option maxHeartbeats 400000 in
theorem four_any (s : BitVec 32) (w : World) : Calls Tryd.prog 20 #[.int .u32 (n32 s)] w (GivesBytes w (four s)) := by
  have hbd := n32_bd s
  have hf := Lib.hid (four_bvs s)
  go_enter Tryd.func20, Tryd.ntmps20
  go_wp2_with fail
  go_ret
  refine ⟨_, rfl, ⟨_, _, rfl, by rw [four_len]; exact Nat.le_refl _, by unfold maxLen; decide, ?_⟩, below_alloc1 _ _⟩
  rw [hf.out]
  exact rd_at _ #[_, _, _, _] _ _ _ rfl
set_option maxHeartbeats 400000 in
theorem reffour_any (s : BitVec 32) (w : World) : Calls Tryd.prog 15 #[.int .u32 (n32 s)] w (GivesBytes w (four s)) := by
  have hbd := n32_bd s
  have hf := Lib.hid (four_bvs s)
  go_enter Tryd.func15, Tryd.ntmps15
  go_wp2_with fail
  go_ret
  refine ⟨_, rfl, ⟨_, _, rfl, by rw [four_len]; exact Nat.le_refl _, by unfold maxLen; decide, ?_⟩, below_alloc1 _ _⟩
  rw [hf.out]
  exact rd_at _ #[_, _, _, _] _ _ _ rfl

def sealed (l : List UInt8) : List UInt8 := l ++ four (rsum l)
def Sealed (w : World) (l : List UInt8) (e : Ending) (w' : World) : Prop :=
  ∃ v, e = .returned v ∧ w'.ownsRow w.heap.size 5 1 v (sealed l).length (bvs (sealed l)) ∧ Below w.heap.size w w'
set_option maxHeartbeats 400000 in
theorem seal_any (v : Value) (l : List UInt8) (w : World) (ht : HalfTab w) (hl : l.length ≤ 65536) (hv : Byt w v l) :
    Calls Tryd.prog 13 #[v] w (Sealed w l) := by
  have HV := Lib.hid hv
  obtain ⟨p, cap, rfl, h1, h2, h3⟩ := hv
  unfold maxLen at h2
  clear h3
  obtain ⟨i0, hi, hz0, hz1, hz2⟩ := info_parts byt8Info
  go_enter Tryd.func13, Tryd.ntmps13
  go_wp2_with fail
  refine (clone_any _ l w (by omega) HV.out).mono ?_
  rintro e w1 ⟨v1, rfl, ho1, hb1⟩
  have HO1 := Lib.hid ho1; clear ho1
  have hs1 := hb1.size
  go_wp2_with fail
  refine (sum_any _ [l] _ ((ht.keep (Below.keeps hb1)).keep (keep_alloc _ _)) (bytL_one (HV.out.below hb1) _ _ _ rfl)).mono ?_
  rintro e w2 ⟨rfl, rfl⟩
  rw [csums_one, csum_zero]
  go_wp2_with fail
  refine (four_any (rsum l) _).mono ?_
  rintro e w3 ⟨v3, rfl, ⟨p3, c3, rfl, h31, h32, h33⟩, hb3⟩
  have hb13 : Below w1.heap.size w1 w3 := (below_alloc1 w1 _).trans (hb3.mono (by simp))
  have ho3 := owns_below HO1.out hb13
  have hs3 := (hb1.trans (hb13.mono hs1)).size
  have HR := Lib.hid h33; clear h33
  go_wp2_with (at_builtin; refine wpList_app (.tmp 4) (.tmp 8) 24 rfl rfl w.heap.size 5 i0 (.int .u8 0) 1 1 Tryd.underlying24 hi hz0 hz1 hz2 rfl (by decide) _ _ _ rfl ho3 _ _ _ (bvs (four (rsum l))) rfl ?e0 HR.out bvs_one ?e1 ?e2 hs3 ?_)
  case e0 => rw [bvs_len]; omega
  case e1 => rw [four_len]; unfold maxLen; omega
  case e2 => rw [four_len]; omega
  intro v4 w4 ho4 hg4
  have hb4 := (hb1.trans (hb13.mono hs1)).grown hg4 hs3 (fun j hj => (ho3.lt j hj).1)
  clear ho3 hg4
  go_wp2_with fail
  go_ret
  exact ⟨_, rfl, by unfold sealed; rw [bvs_app, List.length_append]; exact ho4, hb4⟩

/-! ### Open -/
def openErr (l : List UInt8) : Nat := if l.length < 4 then 2 else if l.drop (l.length - 4) = four (rsum (l.take (l.length - 4))) then 0 else 5
def openRes (l : List UInt8) : List UInt8 := if openErr l = 0 then l.take (l.length - 4) else []
def Opened (w : World) (E : Nat → Addr) (l : List UInt8) (e : Ending) (w' : World) : Prop :=
  ∃ v, e = .returned (.tuple #[v, errV E (openErr l)]) ∧ Byt w' v (openRes l) ∧ Below w.heap.size w w'
theorem byt_nil (w : World) : Byt w (.slice none 0 0) [] := ⟨none, 0, rfl, Nat.le_refl _, by unfold maxLen; omega, .inl rfl⟩

set_option maxHeartbeats 1000000 in
theorem open_any (v : Value) (l : List UInt8) (w : World) (E : Nat → Addr) (ht : HalfTab w) (he : Errs w E) (hl : l.length ≤ 65536) (hv : Byt w v l) :
    Calls Tryd.prog 14 #[v] w (Opened w E l) := by
  have HV := Lib.hid hv
  have HE := Lib.hid he
  obtain ⟨p, cap, rfl, h1, h2, h3⟩ := hv
  unfold maxLen at h2
  clear h3 he
  obtain ⟨i0, hi, hz0, hz1, hz2⟩ := info_parts byt8Info
  by_cases h4 : l.length < 4
  · have hd : decide ((l.length : Int) - 4 < 0) = true := by simp; omega
    have hE0 : openErr l = 2 := by unfold openErr; rw [if_pos h4]
    have HE0 := Lib.hid hE0; clear hE0
    go_enter Tryd.func14, Tryd.ntmps14
    go_wp2_with fail
    refine wp_phi (fun w' => Errs w' E ∧ Below w.heap.size w w') [] [] (by kernel_rfl) (by kernel_rfl) ?_ ?_ ⟨HE.out.below ((Below.refl _ _).drew), (Below.refl _ _).drew⟩ ?_
    · rintro w1 w2 ⟨a1, a2⟩ hb
      exact ⟨a1.below hb, a2.trans (hb.mono a2.size)⟩
    · intro p hp; cases hp
    repeat (refine phi_pureK rfl rfl (fun K hK => ?_); apply Exists.intro; constructor; (rintro w' ⟨hI1, hI2⟩; have s1 := hI1.cell 1 (by omega); simp only [errVar, List.getD_cons_zero, List.getD_cons_succ] at s1; clear hI1 hI2; first | (go_simp; (try go_bits); (try go_simp); rfl) | go_simp); simp only [Act.put, List.setIfInBounds_toArray, List.set_cons_succ, List.set_cons_zero, List.nil_append, List.cons_append]; apply hK; clear hK K)
    refine phi_done ?_
    rintro w1 ⟨_, hbw⟩ _
    refine wpList_nil ?_
    go_wp2_with fail
    go_ret2
    refine ⟨_, by rw [HE0.out]; rfl, ?_, hbw⟩
    unfold openRes
    rw [HE0.out]
    exact byt_nil _
  · have hd : decide ((l.length : Int) - 4 < 0) = false := by simp; omega
    obtain ⟨n, hn⟩ : ∃ n, l.length = n + 4 := ⟨l.length - 4, by omega⟩
    have hn4 : l.length - 4 = n := by omega
    have HN := Lib.hid hn
    have hsub : (l.length : Int) - 4 = (n : Int) := by omega
    have hnl : n ≤ l.length := by omega
    clear hn hd
    have hto := fun w => run_slice_to (P := Tryd.prog) Tryd.underlying24 hi p l.length cap n (by omega) w
    have hfrom := fun w => run_slice_from (P := Tryd.prog) Tryd.underlying24 hi p l.length cap n hnl w
    have hbt : ∀ w', Byt w' (.slice p l.length cap) l → Byt w' (.slice p n cap) (l.take n) := fun w' h => byt_take h n hnl
    have hbd : ∀ w', Byt w' (.slice p l.length cap) l → Byt w' (.slice (cutp p n cap 1) (l.length - n) (cap - n)) (l.drop n) := fun w' h => byt_drop h n hnl
    have HBT := Lib.hid hbt
    have HBD := Lib.hid hbd
    clear hbt hbd
    have hop : openErr l = if l.drop n = four (rsum (l.take n)) then 0 else 5 := by
      unfold openErr; rw [if_neg h4, hn4]
    have HOP := Lib.hid hop
    clear hop
    obtain ⟨eqb, heqb⟩ : ∃ b : Bool, (l.drop n == four (rsum (l.take n))) = b := ⟨_, rfl⟩
    have HEQ := Lib.hid heqb
    clear heqb
    go_enter Tryd.func14, Tryd.ntmps14
    go_wp2_with fail
    refine wp_phi (fun w' => Byt w' (.slice p l.length cap) l ∧ HalfTab w' ∧ Below w.heap.size w w')
      [(6, PBytL [l.take n]), (7, PVal (.int .u32 (n32 (rsum (l.take n))))), (8, PByt (four (rsum (l.take n)))), (9, PVal (.bool eqb))] [(7, [6]), (9, [8])] (by kernel_rfl) (by kernel_rfl) ?_ ?_ ⟨HV.out, ht, (Below.refl _ _).drew⟩ ?_
    · rintro w1 w2 ⟨a1, a2, a3⟩ hb
      exact ⟨a1.below hb, a2.keep (Below.keeps hb), a3.trans (hb.mono a3.size)⟩
    · simp only [List.mem_cons, List.not_mem_nil, or_false, forall_eq_or_imp, forall_eq]
      exact ⟨fun _ _ _ _ h => PBytL_stays _ _ _ _ h, fun _ _ _ _ h => PVal_stays _ _ _ _ h, fun _ _ _ _ h => PByt_stays _ _ _ _ h, fun _ _ _ _ h => PVal_stays _ _ _ _ h⟩
    repeat (refine phi_pureK rfl rfl (fun K hK => ?_); apply Exists.intro; constructor; (rintro w' ⟨hI1, hI2, hI3⟩; clear hI1 hI2 hI3; first | (go_simp; (try go_bits); (try go_simp); rfl) | go_simp); simp only [Act.put, List.setIfInBounds_toArray, List.set_cons_succ, List.set_cons_zero, List.nil_append, List.cons_append]; apply hK; clear hK K)
    refine phi_partK (PBytL [l.take n]) rfl rfl ⟨_, none, 0, rfl⟩ ?_ (fun K hK v hv => ?_)
    · rintro w' ⟨hI1, hI2, hI3⟩ _
      have hI4 := Lib.hid (HBT.out w' hI1)
      clear hI1 hI2 hI3
      unfold gives
      go_simp
      exact ⟨⟨_, _, rfl⟩, bytL_one hI4.out _ _ _ rfl, below_alloc1 _ _⟩
    obtain ⟨p', c', rfl⟩ := hv
    simp only [Act.put, List.setIfInBounds_toArray, List.set_cons_succ, List.set_cons_zero, List.nil_append, List.cons_append]
    apply hK
    clear hK K
    refine phi_partK (PVal (.int .u32 (n32 (rsum (l.take n))))) rfl rfl ⟨_, rfl⟩ ?_ (fun K hK v hv => ?_)
    · rintro w' ⟨hI1, hI2, hI3⟩ hf
      have hb : BytL w' _ [l.take n] := hf (6, fun w => (PBytL [l.take n]).fact w (.slice p' 1 c')) (by simp) (List.contains_iff_mem.1 rfl)
      unfold gives
      clear hf hI1 hI3
      go_simp
      refine (sum_any _ [l.take n] _ hI2 hb).mono ?_
      rintro e w'' ⟨rfl, rfl⟩
      exact ⟨_, rfl, by rw [csums_one, csum_zero]; rfl, trivial, Below.refl _ _⟩
    obtain rfl : v = _ := hv
    simp only [Act.put, List.setIfInBounds_toArray, List.set_cons_succ, List.set_cons_zero, List.nil_append, List.cons_append]
    apply hK
    clear hK K
    refine phi_partK (PByt (four (rsum (l.take n)))) rfl rfl ⟨_, none, 0, rfl⟩ ?_ (fun K hK v hv => ?_)
    · rintro w' ⟨hI1, hI2, hI3⟩ hf
      unfold gives
      clear hf hI1 hI2 hI3
      go_simp
      refine (four_any (rsum (l.take n)) w').mono ?_
      rintro e w'' ⟨v, rfl, hby, hb⟩
      have hby' := hby
      obtain ⟨q, c, rfl, _⟩ := hby'
      exact ⟨_, rfl, ⟨q, c, rfl⟩, hby, hb⟩
    obtain ⟨p'', c'', rfl⟩ := hv
    simp only [Act.put, List.setIfInBounds_toArray, List.set_cons_succ, List.set_cons_zero, List.nil_append, List.cons_append]
    apply hK
    clear hK K
    refine phi_partK (PVal (.bool eqb)) rfl rfl ⟨_, rfl⟩ ?_ (fun K hK v hv => ?_)
    · rintro w' ⟨hI1, hI2, hI3⟩ hf
      have hb : Byt w' _ (four (rsum (l.take n))) := hf (8, fun w => (PByt (four (rsum (l.take n)))).fact w (.slice p'' (four (rsum (l.take n))).length c'')) (by simp) (List.contains_iff_mem.1 rfl)
      have hI4 := Lib.hid (HBD.out w' hI1)
      unfold gives
      clear hf hI1 hI2 hI3
      go_simp
      refine (equal_any _ _ (l.drop n) (four (rsum (l.take n))) w' hI4.out hb).mono ?_
      rintro e w'' ⟨rfl, hb⟩
      exact ⟨_, rfl, by rw [HEQ.out]; rfl, trivial, hb⟩
    obtain rfl : v = _ := hv
    simp only [Act.put, List.setIfInBounds_toArray, List.set_cons_succ, List.set_cons_zero, List.nil_append, List.cons_append]
    apply hK
    clear hK K
    repeat (refine phi_pureK rfl rfl (fun K hK => ?_); apply Exists.intro; constructor; (rintro w' ⟨hI1, hI2, hI3⟩; clear hI1 hI2 hI3; first | (go_simp; (try go_bits); (try go_simp); rfl) | go_simp); simp only [Act.put, List.setIfInBounds_toArray, List.set_cons_succ, List.set_cons_zero, List.nil_append, List.cons_append]; apply hK; clear hK K)
    refine phi_done ?_
    rintro w1 ⟨hB1, ht1, hbw⟩ _
    refine wpList_nil ?_
    have HB1 := Lib.hid hB1
    clear hB1
    cases eqb with
    | true =>
      have hE0 : openErr l = 0 := by rw [HOP.out, if_pos (beq_iff_eq.1 HEQ.out)]
      have HE0 := Lib.hid hE0
      clear hE0
      simp only [Bool.not_true]
      go_wp2_with fail
      refine (clone_any _ (l.take n) w1 (by simp; omega) (HBT.out w1 HB1.out)).mono ?_
      rintro e w2 hcl
      obtain ⟨v2, rfl, hby, hb2⟩ := hcl.byt
      have HBY := Lib.hid hby
      clear hby
      go_wp2_with fail
      go_ret2
      refine ⟨_, by rw [HE0.out]; rfl, ?_, hbw.trans (hb2.mono hbw.size)⟩
      unfold openRes
      rw [HE0.out, if_pos rfl, hn4]
      exact HBY.out
    | false =>
      have hE0 : openErr l = 5 := by rw [HOP.out, if_neg (beq_eq_false_iff_ne.1 HEQ.out)]
      have HE0 := Lib.hid hE0
      clear hE0
      simp only [Bool.not_false]
      have hs := hbw.size
      go_wp2_with fail
      refine wp_phi (fun w' => Errs w' E ∧ Below w.heap.size w w') [] [] (by kernel_rfl) (by kernel_rfl) ?_ ?_ ⟨(HE.out.below hbw).below ((Below.refl _ _).drew), hbw.drew⟩ ?_
      · rintro w1 w2 ⟨a1, a2⟩ hb
        exact ⟨a1.below hb, a2.trans (hb.mono a2.size)⟩
      · intro p hp; cases hp
      repeat (refine phi_pureK rfl rfl (fun K hK => ?_); apply Exists.intro; constructor; (rintro w' ⟨hI1, hI2⟩; have s1 := hI1.cell 4 (by omega); simp only [errVar, List.getD_cons_zero, List.getD_cons_succ] at s1; clear hI1 hI2; first | (go_simp; (try go_bits); (try go_simp); rfl) | go_simp); simp only [Act.put, List.setIfInBounds_toArray, List.set_cons_succ, List.set_cons_zero, List.nil_append, List.cons_append]; apply hK; clear hK K)
      refine phi_done ?_
      rintro w2 ⟨_, hbw2⟩ _
      refine wpList_nil ?_
      go_wp2_with fail
      go_ret2
      refine ⟨_, by rw [HE0.out]; rfl, ?_, hbw2⟩
      unfold openRes
      rw [HE0.out]
      exact byt_nil _
end Go.Proofs.YtdbgdmhlnaldoaaDoor
