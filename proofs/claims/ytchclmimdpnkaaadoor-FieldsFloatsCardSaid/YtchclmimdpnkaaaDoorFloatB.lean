/-
  FloatB: the walks of fields.Float, ToFloat, and of the reference's.
-/
import Derived.Test.YtchclmimdpnkaaaDoorFltBits
import Derived.Test.YtchclmimdpnkaaaDoorRefNum
namespace Go.Proofs.YtchclmimdpnkaaaDoor
open Go.RowKit

/-- a float's bytes -/
def eightB (n : Nat) : List UInt8 := [UInt8.ofNat (n / 72057594037927936), UInt8.ofNat (n / 281474976710656), UInt8.ofNat (n / 1099511627776), UInt8.ofNat (n / 4294967296), UInt8.ofNat (n / 16777216), UInt8.ofNat (n / 65536), UInt8.ofNat (n / 256), UInt8.ofNat n]
theorem eightB_len (n : Nat) : (eightB n).length = 8 := rfl
theorem eight_bvs (n : Nat) : bvs (eightB n) = [.int .u8 ((n : Int) / 72057594037927936 % 256), .int .u8 ((n : Int) / 281474976710656 % 256), .int .u8 ((n : Int) / 1099511627776 % 256), .int .u8 ((n : Int) / 4294967296 % 256), .int .u8 ((n : Int) / 16777216 % 256), .int .u8 ((n : Int) / 65536 % 256), .int .u8 ((n : Int) / 256 % 256), .int .u8 ((n : Int) % 256)] := by
  simp only [bvs, eightB, List.map_cons, List.map_nil, bv, byte_wrap]
  rfl
set_option maxRecDepth 20000 in
set_option maxHeartbeats 1000000 in
theorem float_any (x : Nat) (hx : x < 18446744073709551616) (w : World) :
    Calls Tryd.prog 17 #[.float .f64 x] w (GivesO w (eightB (plainN x))) := by
  have hmk : ∀ w : World, (Instr.makeSlice 23 (.int .i64 8) (.int .i64 8)).run Tryd.prog w = .ok (.slice (some ⟨w.heap.size, 0, none⟩) 8 8) (w.alloc (.cells #[.int .u8 0, .int .u8 0, .int .u8 0, .int .u8 0, .int .u8 0, .int .u8 0, .int .u8 0, .int .u8 0] 5)) := fun _ => by kernel_rfl
  go_enter Tryd.func17, Tryd.ntmps17
  go_wp2_with fail
  refine (bits_any x hx w).mono ?_
  rintro e w1 ⟨rfl, hb1⟩
  generalize plainN x = n at *
  go_wp2_with fail
  refine wp_loop_rounds 9 ?_
  iterate 9 (rw [rounds_succ]; go_wp2_with fail)
  go_ret
  refine ⟨_, rfl, ?_, below_alloc hb1 _⟩
  rw [eight_bvs]
  exact World.ownsRow_lit (base := w.heap.size) (e := 5) (size := 1) w1 #[_, _, _, _, _, _, _, _] 8 hb1.size (by unfold maxLen; omega) rfl
set_option maxRecDepth 20000 in
set_option maxHeartbeats 2000000 in
theorem reffloat_any (x : Nat) (hx : x < 18446744073709551616) (w : World) :
    Calls Tryd.prog 19 #[.float .f64 x] w (GivesO w (eightB (plainN x))) := by
  obtain ⟨i0, hi, hz0, hz1, hz2⟩ := info_parts byt8Info
  go_enter Tryd.func19, Tryd.ntmps19
  go_wp2_with fail
  have ho0 := World.ownsRow_lit (base := w.heap.size) (e := 5) (size := 1) w #[] 0 (Nat.le_refl _) (by unfold maxLen; omega) rfl
  have hb0 := below_alloc1 w (.cells #[] 5)
  refine (refbits_any x hx _).mono ?_
  rintro e w1 ⟨rfl, hb1'⟩
  have hown0 := owns_below ho0 hb1'
  have hbw0 := hb0.trans (hb1'.mono hb0.size)
  have hs0 := hbw0.size
  clear hb1' ho0 hb0
  generalize plainN x = n at *
  go_wp2_with fail
  refine wp_loop_rounds 9 ?_
  rw [rounds_succ]
  go_wp2_with (at_builtin; refine wpList_app (.tmp 13) (.tmp 20) 23 rfl rfl w.heap.size 5 i0 (.int .u8 0) 1 1 Tryd.underlying23 hi hz0 hz1 hz2 rfl (by decide) _ _ _ rfl (owns_below hown0 (below_alloc1 _ _)) _ _ _ _ rfl rfl (rd_at _ _ _ _ _ rfl) (by intro u hu; simp at hu; subst hu; rfl) (by unfold maxLen; omega) (by omega) (by simp; omega) ?_)
  intro v1 w1 hown1 hg1
  have hbw1 := (below_alloc hbw0 (.cells _ 5)).grown hg1 (by simp; omega) (fun j hj => (hown0.lt j hj).1)
  have hs1 := hbw1.size
  clear hown0 hg1 hbw0 hs0
  go_wp2_with fail
  rw [rounds_succ]
  go_wp2_with (at_builtin; refine wpList_app (.tmp 13) (.tmp 20) 23 rfl rfl w.heap.size 5 i0 (.int .u8 0) 1 1 Tryd.underlying23 hi hz0 hz1 hz2 rfl (by decide) _ _ _ rfl (owns_below hown1 (below_alloc1 _ _)) _ _ _ _ rfl rfl (rd_at _ _ _ _ _ rfl) (by intro u hu; simp at hu; subst hu; rfl) (by unfold maxLen; omega) (by omega) (by simp; omega) ?_)
  intro v2 w2 hown2 hg2
  have hbw2 := (below_alloc hbw1 (.cells _ 5)).grown hg2 (by simp; omega) (fun j hj => (hown1.lt j hj).1)
  have hs2 := hbw2.size
  clear hown1 hg2 hbw1 hs1
  go_wp2_with fail
  rw [rounds_succ]
  go_wp2_with (at_builtin; refine wpList_app (.tmp 13) (.tmp 20) 23 rfl rfl w.heap.size 5 i0 (.int .u8 0) 1 1 Tryd.underlying23 hi hz0 hz1 hz2 rfl (by decide) _ _ _ rfl (owns_below hown2 (below_alloc1 _ _)) _ _ _ _ rfl rfl (rd_at _ _ _ _ _ rfl) (by intro u hu; simp at hu; subst hu; rfl) (by unfold maxLen; omega) (by omega) (by simp; omega) ?_)
  intro v3 w3 hown3 hg3
  have hbw3 := (below_alloc hbw2 (.cells _ 5)).grown hg3 (by simp; omega) (fun j hj => (hown2.lt j hj).1)
  have hs3 := hbw3.size
  clear hown2 hg3 hbw2 hs2
  go_wp2_with fail
  rw [rounds_succ]
  go_wp2_with (at_builtin; refine wpList_app (.tmp 13) (.tmp 20) 23 rfl rfl w.heap.size 5 i0 (.int .u8 0) 1 1 Tryd.underlying23 hi hz0 hz1 hz2 rfl (by decide) _ _ _ rfl (owns_below hown3 (below_alloc1 _ _)) _ _ _ _ rfl rfl (rd_at _ _ _ _ _ rfl) (by intro u hu; simp at hu; subst hu; rfl) (by unfold maxLen; omega) (by omega) (by simp; omega) ?_)
  intro v4 w4 hown4 hg4
  have hbw4 := (below_alloc hbw3 (.cells _ 5)).grown hg4 (by simp; omega) (fun j hj => (hown3.lt j hj).1)
  have hs4 := hbw4.size
  clear hown3 hg4 hbw3 hs3
  go_wp2_with fail
  rw [rounds_succ]
  go_wp2_with (at_builtin; refine wpList_app (.tmp 13) (.tmp 20) 23 rfl rfl w.heap.size 5 i0 (.int .u8 0) 1 1 Tryd.underlying23 hi hz0 hz1 hz2 rfl (by decide) _ _ _ rfl (owns_below hown4 (below_alloc1 _ _)) _ _ _ _ rfl rfl (rd_at _ _ _ _ _ rfl) (by intro u hu; simp at hu; subst hu; rfl) (by unfold maxLen; omega) (by omega) (by simp; omega) ?_)
  intro v5 w5 hown5 hg5
  have hbw5 := (below_alloc hbw4 (.cells _ 5)).grown hg5 (by simp; omega) (fun j hj => (hown4.lt j hj).1)
  have hs5 := hbw5.size
  clear hown4 hg5 hbw4 hs4
  go_wp2_with fail
  rw [rounds_succ]
  go_wp2_with (at_builtin; refine wpList_app (.tmp 13) (.tmp 20) 23 rfl rfl w.heap.size 5 i0 (.int .u8 0) 1 1 Tryd.underlying23 hi hz0 hz1 hz2 rfl (by decide) _ _ _ rfl (owns_below hown5 (below_alloc1 _ _)) _ _ _ _ rfl rfl (rd_at _ _ _ _ _ rfl) (by intro u hu; simp at hu; subst hu; rfl) (by unfold maxLen; omega) (by omega) (by simp; omega) ?_)
  intro v6 w6 hown6 hg6
  have hbw6 := (below_alloc hbw5 (.cells _ 5)).grown hg6 (by simp; omega) (fun j hj => (hown5.lt j hj).1)
  have hs6 := hbw6.size
  clear hown5 hg6 hbw5 hs5
  go_wp2_with fail
  rw [rounds_succ]
  go_wp2_with (at_builtin; refine wpList_app (.tmp 13) (.tmp 20) 23 rfl rfl w.heap.size 5 i0 (.int .u8 0) 1 1 Tryd.underlying23 hi hz0 hz1 hz2 rfl (by decide) _ _ _ rfl (owns_below hown6 (below_alloc1 _ _)) _ _ _ _ rfl rfl (rd_at _ _ _ _ _ rfl) (by intro u hu; simp at hu; subst hu; rfl) (by unfold maxLen; omega) (by omega) (by simp; omega) ?_)
  intro v7 w7 hown7 hg7
  have hbw7 := (below_alloc hbw6 (.cells _ 5)).grown hg7 (by simp; omega) (fun j hj => (hown6.lt j hj).1)
  have hs7 := hbw7.size
  clear hown6 hg7 hbw6 hs6
  go_wp2_with fail
  rw [rounds_succ]
  go_wp2_with (at_builtin; refine wpList_app (.tmp 13) (.tmp 20) 23 rfl rfl w.heap.size 5 i0 (.int .u8 0) 1 1 Tryd.underlying23 hi hz0 hz1 hz2 rfl (by decide) _ _ _ rfl (owns_below hown7 (below_alloc1 _ _)) _ _ _ _ rfl rfl (rd_at _ _ _ _ _ rfl) (by intro u hu; simp at hu; subst hu; rfl) (by unfold maxLen; omega) (by omega) (by simp; omega) ?_)
  intro v8 w8 hown8 hg8
  have hbw8 := (below_alloc hbw7 (.cells _ 5)).grown hg8 (by simp; omega) (fun j hj => (hown7.lt j hj).1)
  have hs8 := hbw8.size
  clear hown7 hg8 hbw7 hs7
  go_wp2_with fail
  rw [rounds_succ]
  go_wp2_with fail
  go_ret
  exact ⟨_, rfl, by rw [eight_bvs, eightB_len]; simpa using hown8, hbw8⟩

/-! ### and back -/
def toFltE (l : List UInt8) : Nat := if l.length = 8 ∧ plainN (valB l) = valB l then 0 else 4
def toFltF (l : List UInt8) : Nat := if l.length = 8 ∧ plainN (valB l) = valB l then valB l else 0
theorem plain_idem (x : Nat) : plainN (plainN x) = plainN x := by
  unfold plainN
  by_cases hn : isNan x = true
  · rw [if_pos hn, if_pos (by decide)]
  · rw [if_neg hn]
    by_cases h0 : x = 9223372036854775808
    · rw [if_pos h0]; rfl
    · rw [if_neg h0, if_neg hn, if_neg h0]
theorem plain_lt {x : Nat} (hx : x < 18446744073709551616) : plainN x < 18446744073709551616 := by
  unfold plainN nanC; repeat' split
  all_goals omega
theorem or_byteU (n c : Nat) (hc : c < 256) (hn : n < 72057594037927936) : bits .or .u64 ((n : Int) * 256) (c : Int) = ((256 * n + c : Nat) : Int) := by
  have b1 : n * 256 < 18446744073709551616 := by
    have := Nat.mul_lt_mul_of_pos_right hn (show 0 < 256 by decide)
    exact this
  have b2 : c < 18446744073709551616 := by omega
  have b3 : 256 * n + c < 18446744073709551616 := by omega
  have e1 : ∀ m : Nat, m < 18446744073709551616 → BitVec.ofInt 64 (m : Int) = BitVec.ofNat 64 m := by
    intro m hm
    apply BitVec.eq_of_toNat_eq
    rw [BitVec.ofInt_natCast]
  have e2 : ((n : Int) * 256) = ((n * 256 : Nat) : Int) := by omega
  have e3 : (n * 256) ||| c = n * 256 + c := by
    have := Nat.shiftLeft_add_eq_or_of_lt (i := 8) (b := c) (by omega) n
    rw [Nat.shiftLeft_eq] at this
    exact this.symm
  show IntKind.u64.wrap ((BitVec.ofInt 64 ((n : Int) * 256) ||| BitVec.ofInt 64 (c : Int)).toNat : Int) = _
  have e4 := e1 _ b1
  have e5 := e1 _ b2
  have e6 : (n * 256) % 2 ^ 64 = n * 256 := Nat.mod_eq_of_lt b1
  have e7 : c % 2 ^ 64 = c := Nat.mod_eq_of_lt b2
  rw [e2, e4, e5, BitVec.toNat_or, BitVec.toNat_ofNat, BitVec.toNat_ofNat, e6, e7, e3]
  rw [show ((n * 256 + c : Nat) : Int) = ((256 * n + c : Nat) : Int) by omega]
  rw [IntKind.wrap_u64]; omega
set_option maxRecDepth 20000 in
set_option maxHeartbeats 1000000 in
theorem tofloat_any (v : Value) (l : List UInt8) (w : World) (E : Nat → Addr) (he : ErrsOn [3] w E) (hv : Byt w v l) :
    Calls Tryd.prog 18 #[v] w fun e w' => e = .returned (.tuple #[.float .f64 (toFltF l), errV E (toFltE l)]) ∧ Below w.heap.size w w' := by
  have HE := Lib.hid he
  have e3 := he.cell 3 rfl
  simp only [errVar, List.getD_cons_zero, List.getD_cons_succ, errAt] at e3
  obtain ⟨p, cap, rfl, h1, h2, h3⟩ := hv
  unfold maxLen at h2
  have H3 := Lib.hid h3
  clear h3 he
  by_cases h8 : l.length = 8
  · have d8 : ((l.length : Int) != 8) = false := by simp; omega
    have hl8 : l.length ≤ 8 := by omega
    have hmax := valB_8b l hl8
    have HE0 := Lib.hid (show toFltE l = (if plainN (valB l) = valB l then 0 else 4) ∧ toFltF l = (if plainN (valB l) = valB l then valB l else 0) by
      unfold toFltE toFltF; simp [h8])
    clear h8 e3
    go_enter Tryd.func18, Tryd.ntmps18
    go_wp2_with fail
    go_loop [4, 14] (fun n i => ∃ k : Nat, k ≤ l.length ∧ i = .int .i64 k ∧ n = .int .u64 (valB (l.take k) : Int)) (fun _ i => l.length - (intOf i).toNat)
    case atStart => exact ⟨0, by omega, rfl, rfl⟩
    case round =>
      obtain ⟨k, hk, rfl, rfl⟩ := hrel
      by_cases hlt : k < l.length
      · obtain ⟨b2, off2, hp2, hck⟩ := byt_cell H3.out hlt
        have hpre := valB_pre l hl8 k hlt
        have HT := Lib.hid (valB_take l k hlt)
        have hor := or_byteU (valB (l.take k)) l[k].toNat l[k].toNat_lt hpre
        have hc8 := l[k].toNat_lt
        first | (cases hp2; skip) | (subst hp2; skip)
        generalize valB (l.take k) = u at *
        generalize l[k].toNat = x at *
        go_wp2_with fail
        go_round
        case rel => exact ⟨k + 1, by omega, by go_num, by rw [HT.out]; go_num⟩
        case measure => simp [intOf]; omega
      · obtain rfl : k = l.length := by omega
        rw [List.take_of_length_le (Nat.le_refl _)]
        generalize valB l = u at *
        go_wp2_with fail
        refine (from_any u hmax w).mono ?_
        rintro e w1 ⟨rfl, hb1⟩
        go_wp2_with fail
        refine (bits_any (plainN u) (plain_lt hmax) w1).mono ?_
        rintro e w2 ⟨rfl, hb2⟩
        have hb2' := hb1.trans (hb2.mono hb1.size)
        rw [plain_idem]
        by_cases hp : plainN u = u
        · rw [hp]
          have dq : ((u : Int) != (u : Int)) = false := by simp
          rw [if_pos hp, if_pos hp] at HE0
          clear hp
          go_wp2_with fail
          go_ret2
          rw [HE0.out.1, HE0.out.2]
          exact ⟨rfl, hb2'⟩
        · have dq : ((plainN u : Int) != (u : Int)) = true := by simp; omega
          have e3 := (HE.out.below hb2').cell 3 rfl
          simp only [errVar, List.getD_cons_zero, List.getD_cons_succ, errAt] at e3
          rw [if_neg hp, if_neg hp] at HE0
          clear hp
          go_wp2_with fail
          go_quiet (fail)
          go_wp2_with fail
          go_ret2
          rw [HE0.out.1, HE0.out.2]
          exact ⟨rfl, hb2'.trans ((below_drewN _ _).mono hb2'.size)⟩
  · have d8 : ((l.length : Int) != 8) = true := by simp; omega
    have HE0 := Lib.hid (show toFltE l = 4 ∧ toFltF l = 0 by unfold toFltE toFltF; simp [h8])
    clear h8
    go_enter Tryd.func18, Tryd.ntmps18
    go_wp2_with fail
    go_quiet (fail)
    go_wp2_with fail
    go_ret2
    rw [HE0.out.1, HE0.out.2]
    exact ⟨rfl, below_drewN _ _⟩
set_option maxRecDepth 20000 in
set_option maxHeartbeats 1000000 in
theorem reftofloat_any (v : Value) (l : List UInt8) (w : World) (hv : Byt w v l) :
    Calls Tryd.prog 22 #[v] w fun e w' => e = .returned (.tuple #[.float .f64 (toFltF l), .int .i64 (toFltE l : Int)]) ∧ Below w.heap.size w w' := by
  obtain ⟨p, cap, rfl, h1, h2, h3⟩ := hv
  unfold maxLen at h2
  have H3 := Lib.hid h3
  clear h3
  by_cases h8 : l.length = 8
  · have d8 : ((l.length : Int) != 8) = false := by simp; omega
    have hl8 : l.length ≤ 8 := by omega
    have hmax := valB_8b l hl8
    have HE0 := Lib.hid (show toFltE l = (if plainN (valB l) = valB l then 0 else 4) ∧ toFltF l = (if plainN (valB l) = valB l then valB l else 0) by
      unfold toFltE toFltF; simp [h8])
    clear h8
    go_enter Tryd.func22, Tryd.ntmps22
    go_wp2_with fail
    go_loop [4, 13] (fun n i => ∃ k : Nat, k ≤ l.length ∧ i = .int .i64 k ∧ n = .int .u64 (valB (l.take k) : Int)) (fun _ i => l.length - (intOf i).toNat)
    case atStart => exact ⟨0, by omega, rfl, rfl⟩
    case round =>
      obtain ⟨k, hk, rfl, rfl⟩ := hrel
      by_cases hlt : k < l.length
      · obtain ⟨b2, off2, hp2, hck⟩ := byt_cell H3.out hlt
        have hpre := valB_pre l hl8 k hlt
        have HT := Lib.hid (valB_take l k hlt)
        have hc8 := l[k].toNat_lt
        first | (cases hp2; skip) | (subst hp2; skip)
        generalize valB (l.take k) = u at *
        generalize l[k].toNat = x at *
        go_wp2_with fail
        go_round
        case rel => exact ⟨k + 1, by omega, by go_num, by rw [HT.out]; go_num⟩
        case measure => simp [intOf]; omega
      · obtain rfl : k = l.length := by omega
        rw [List.take_of_length_le (Nat.le_refl _)]
        generalize valB l = u at *
        have h1 := run_frombits u
        go_wp2_with fail
        refine (refbits_any u hmax w).mono ?_
        rintro e w2 ⟨rfl, hb2⟩
        by_cases hp : plainN u = u
        · rw [hp]
          have dq : ((u : Int) != (u : Int)) = false := by simp
          rw [if_pos hp, if_pos hp] at HE0
          clear hp
          go_wp2_with fail
          go_ret2
          rw [HE0.out.1, HE0.out.2]
          exact ⟨rfl, hb2⟩
        · have dq : ((plainN u : Int) != (u : Int)) = true := by simp; omega
          rw [if_neg hp, if_neg hp] at HE0
          clear hp
          go_wp2_with fail
          go_ret2
          rw [HE0.out.1, HE0.out.2]
          exact ⟨rfl, hb2⟩
  · have d8 : ((l.length : Int) != 8) = true := by simp; omega
    have HE0 := Lib.hid (show toFltE l = 4 ∧ toFltF l = 0 by unfold toFltE toFltF; simp [h8])
    clear h8
    go_enter Tryd.func22, Tryd.ntmps22
    go_wp2_with fail
    go_ret2
    rw [HE0.out.1, HE0.out.2]
    exact ⟨rfl, Below.refl _ _⟩
end Go.Proofs.YtchclmimdpnkaaaDoor
