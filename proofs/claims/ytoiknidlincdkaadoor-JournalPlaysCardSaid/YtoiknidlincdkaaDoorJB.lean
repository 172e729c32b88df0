/-
  Crc: the walks of check.Next, check.Sum, liaisonref04.Register and liaisonref04.Sum: what each computes, as a plain function.
  Seal: the walks of check.four, liaisonref04.Four, check.Seal and check.Open.
  Spoil: plain laws: what is sealed is opened; sealed bytes with one byte changed are not.
  SealO: check.Open: what it gives is a row of the call's own.
-/
import Derived.Test.YtoiknidlincdkaaDoorJA
import Derived.Test.YtoiknidlincdkaaDoorProg
namespace Go.Proofs.YtoiknidlincdkaaDoor
open Go.RowKit

/-! ### the plain functions -/
def halfL : List (BitVec 32) := [0x00000000, 0x1db71064, 0x3b6e20c8, 0x26d930ac, 0x76dc4190, 0x6b6b51f4, 0x4db26158, 0x5005713c,
  0xedb88320, 0xf00f9344, 0xd6d6a3e8, 0xcb61b38c, 0x9b64c2b0, 0x86d3d2d4, 0xa00ae278, 0xbdbdf21c]
def half (k : Nat) : BitVec 32 := halfL.getD k 0
def c8 (c : UInt8) : BitVec 32 := BitVec.ofNat 32 c.toNat
def n15 (x : BitVec 32) : Nat := (x &&& 15#32).toNat
def sh4 (x : BitVec 32) : BitVec 32 := x >>> 4
def nib (x : BitVec 32) : BitVec 32 := sh4 x ^^^ half (n15 x)
def nibs (x : BitVec 32) : Nat → BitVec 32
  | 0 => x
  | k + 1 => nib (nibs x k)
def cnext (s : BitVec 32) (c : UInt8) : BitVec 32 := ~~~ (nibs (~~~ s ^^^ c8 c) 2)
def csum (s : BitVec 32) (l : List UInt8) : BitVec 32 := l.foldl cnext s

/-- the table's cells -/
def HalfTab (w : World) : Prop := ∀ k, k < 16 → w.cell? ⟨14, k, none⟩ = some (.int .u32 (n32 (half k)))
theorem HalfTab.below {B : Nat} {w w' : World} (h : HalfTab w) (hb : Below B w w') (hB : 14 < B) : HalfTab w' :=
  fun k hk => (hb.cell (p := ⟨14, k, none⟩) hB).trans (h k hk)
theorem HalfTab.keep {w w' : World} (h : HalfTab w) (hk : ∀ a v, w.cell? a = some v → w'.cell? a = some v) : HalfTab w' := fun k hk' => hk _ _ (h k hk')
theorem HalfTab.lt {w : World} (h : HalfTab w) : 14 < w.heap.size := cell_lt (h 0 (by omega))

theorem c8_nat (c : UInt8) : (c8 c).toNat = c.toNat := by
  have := c.toNat_lt
  simp only [c8, BitVec.toNat_ofNat]; omega
theorem bits32_xor_u8 (x : BitVec 32) (c : UInt8) : bits .xor .u32 (n32 x) (c.toNat : Int) = n32 (x ^^^ c8 c) := by
  rw [← c8_nat c]; exact bits32_xor _ _
theorem bits32_and15 (x : BitVec 32) : bits .and .u32 (n32 x) 15 = (n15 x : Int) := bits32_and x 15#32
theorem shr4 (x : BitVec 32) : n32 x / 16 = n32 (sh4 x) := by
  unfold n32 sh4
  rw [BitVec.toNat_ushiftRight, Nat.shiftRight_eq_div_pow]; omega
theorem n15_lt (x : BitVec 32) : n15 x < 16 := by
  unfold n15
  rw [BitVec.toNat_and]
  have : x.toNat &&& (15#32).toNat ≤ 15 := Nat.and_le_right
  omega

section
attribute [local go_sem] bits32_xor bits32_xor_u8 bits32_and15 bits32_not shr4
set_option maxHeartbeats 400000 in
theorem next_any (x : BitVec 32) (b : UInt8) (w : World) (ht : HalfTab w) :
    Calls Tryd.prog 66 #[.int .u32 (n32 x), .int .u8 b.toNat] w fun e w' => e = .returned (.int .u32 (n32 (cnext x b))) ∧ w = w' := by
  have hb := b.toNat_lt
  have hx := n32_bd x
  go_enter Tryd.func66, Tryd.ntmps66
  go_wp2_with fail
  go_loop [5, 11] (fun v i => ∃ k : Nat, k ≤ 2 ∧ i = .int .i64 k ∧ v = .int .u32 (n32 (nibs (~~~ x ^^^ c8 b) k))) (fun _ i => 2 - (intOf i).toNat)
  case atStart => exact ⟨0, by omega, rfl, rfl⟩
  case round =>
    obtain ⟨k, hk, rfl, rfl⟩ := hrel
    by_cases hlt : k < 2
    · have h15 := n15_lt (nibs (~~~ x ^^^ c8 b) k)
      have hbd := n32_bd (nibs (~~~ x ^^^ c8 b) k)
      have hc := ht _ h15
      clear ht
      go_wp2_with fail
      go_round
      case rel => exact ⟨k + 1, by omega, by go_num, rfl⟩
      case measure => simp [intOf]; omega
    · obtain rfl : k = 2 := by omega
      go_wp2_with fail
      go_ret
      exact ⟨rfl, rfl⟩
end

theorem csum_take (s : BitVec 32) (l : List UInt8) (k : Nat) (h : k < l.length) : csum s (l.take (k + 1)) = cnext (csum s (l.take k)) l[k] := by
  unfold csum; rw [List.take_succ_eq_append_getElem h, List.foldl_append]; rfl
def csums (s : BitVec 32) (ls : List (List UInt8)) : BitVec 32 := ls.foldl csum s
theorem csums_take (s : BitVec 32) (ls : List (List UInt8)) (k : Nat) (h : k < ls.length) : csums s (ls.take (k + 1)) = csum (csums s (ls.take k)) ls[k] := by
  unfold csums; rw [List.take_succ_eq_append_getElem h, List.foldl_append]; rfl

set_option maxHeartbeats 800000 in
theorem sum_any (v : Value) (ls : List (List UInt8)) (w : World) (ht : HalfTab w) (hv : BytL w v ls) :
    Calls Tryd.prog 52 #[v] w fun e w' => e = .returned (.int .u32 (n32 (csums 0 ls))) ∧ w = w' := by
  obtain ⟨p, cap, vs, rfl, h1, h2, h3, h4, h5⟩ := hv
  have H5 := Lib.hid h5; clear h5
  have H4 := Lib.hid h4; clear h4
  unfold maxLen at h2
  go_enter Tryd.func52, Tryd.ntmps52
  go_wp2_with fail
  go_loop [3, 10] (fun v i => ∃ k : Nat, k ≤ ls.length ∧ i = .int .i64 k ∧ v = .int .u32 (n32 (csums 0 (ls.take k)))) (fun _ i => ls.length - (intOf i).toNat)
  case atStart => exact ⟨0, by omega, rfl, rfl⟩
  case round =>
    obtain ⟨k, hk, rfl, rfl⟩ := hrel
    by_cases hlt : k < ls.length
    · obtain ⟨b, off, q, cq, rfl, hc, hq1, hq2, hq3⟩ := bytL_cell h3 H5.out hlt
      have hst := Lib.hid (csums_take 0 ls k hlt)
      generalize csums 0 (ls.take k) = s0 at *
      generalize ls[k] = l at *
      unfold maxLen at hq2
      go_wp2_with fail
      clear hc
      go_loop [3, 16] (fun v i => ∃ j : Nat, j ≤ l.length ∧ i = .int .i64 j ∧ v = .int .u32 (n32 (csum s0 (l.take j)))) (fun _ i => l.length - (intOf i).toNat)
      case atStart => exact ⟨0, by omega, rfl, rfl⟩
      case round =>
        obtain ⟨j, hj, rfl, rfl⟩ := hrel
        by_cases hjt : j < l.length
        · obtain ⟨b2, off2, rfl, hc2⟩ := byt_cell hq3 hjt
          have hs2 := Lib.hid (csum_take s0 l j hjt)
          generalize csum s0 (l.take j) = s1 at *
          generalize l[j] = c at *
          go_wp2_with (go_at_call 66; refine (next_any _ _ _ ht).mono ?_; rintro e w' ⟨rfl, rfl⟩)
          go_round
          case rel => exact ⟨j + 1, by omega, by go_num, by rw [hs2.out]⟩
          case measure => simp [intOf]; omega
        · obtain rfl : j = l.length := by omega
          rw [List.take_of_length_le (Nat.le_refl _)]
          go_wp2_with fail
          go_round
          case rel => exact ⟨k + 1, by omega, by go_num, by rw [hst.out]⟩
          case measure => simp [intOf]; omega
    · obtain rfl : k = ls.length := by omega
      go_wp2_with fail
      go_ret
      exact ⟨by simp, rfl⟩

/-! ### the reference, bit by bit -/
def sh1 (x : BitVec 32) : BitVec 32 := x >>> 1
def rb (x : BitVec 32) (c : UInt8) (k : Nat) : BitVec 32 := (x &&& 1#32) ^^^ ((c8 c >>> k) &&& 1#32)
def rbit (x : BitVec 32) (c : UInt8) (k : Nat) : Bool := rb x c k == 1#32
def poly : BitVec 32 := 0xedb88320#32
def pxor (x : BitVec 32) : BitVec 32 := x ^^^ poly
def rstep (c : UInt8) (x : BitVec 32) (k : Nat) : BitVec 32 := if rbit x c k then pxor (sh1 x) else sh1 x
def reg (x : BitVec 32) (c : UInt8) : Nat → BitVec 32
  | 0 => x
  | k + 1 => rstep c (reg x c k) k
theorem bits32_rb (x : BitVec 32) (c : UInt8) (k : Nat) :
    bits .xor .u32 (bits .and .u32 (n32 x) 1) (bits .and .u32 ((c.toNat : Int) / 2 ^ k % 4294967296) 1) = n32 (rb x c k) := by
  have hs : (c8 c >>> k).toNat = c.toNat / 2 ^ k := by rw [BitVec.toNat_ushiftRight, Nat.shiftRight_eq_div_pow, c8_nat]
  have e : ((c.toNat : Int) / 2 ^ k % 4294967296) = n32 (c8 c >>> k) := by
    unfold n32
    rw [hs]
    have h1 : c.toNat / 2 ^ k ≤ c.toNat := Nat.div_le_self _ _
    have h2 := c.toNat_lt
    have h3 : ((c.toNat : Int) / 2 ^ k) = ((c.toNat / 2 ^ k : Nat) : Int) := by simp
    rw [h3]; omega
  rw [e, show bits .and .u32 (n32 x) 1 = n32 (x &&& 1#32) from bits32_and x 1#32, show bits .and .u32 (n32 (c8 c >>> k)) 1 = n32 ((c8 c >>> k) &&& 1#32) from bits32_and _ 1#32, bits32_xor]
  rfl
theorem rb_eq1 (x : BitVec 32) (c : UInt8) (k : Nat) : (n32 (rb x c k) == 1) = rbit x c k := n32_beq (rb x c k) 1#32
theorem shr1 (x : BitVec 32) : n32 x / 2 = n32 (sh1 x) := by
  unfold n32 sh1
  rw [BitVec.toNat_ushiftRight, Nat.shiftRight_eq_div_pow]; omega
theorem bits32_poly (x : BitVec 32) : bits .xor .u32 (n32 x) 3988292384 = n32 (pxor x) := bits32_xor x poly
theorem bits32_ones (x : BitVec 32) : bits .xor .u32 (n32 x) 4294967295 = n32 (~~~ x) := by
  rw [show (4294967295 : Int) = n32 (BitVec.allOnes 32) from by decide, bits32_xor, BitVec.xor_allOnes]

section
attribute [local go_sem] bits32_rb rb_eq1 shr1 bits32_poly
set_option maxHeartbeats 400000 in
theorem register_any (x : BitVec 32) (b : UInt8) (w : World) :
    Calls Tryd.prog 53 #[.int .u32 (n32 x), .int .u8 b.toNat] w fun e w' => e = .returned (.int .u32 (n32 (reg x b 8))) ∧ w = w' := by
  have hb := b.toNat_lt
  go_enter Tryd.func53, Tryd.ntmps53
  go_wp2_with fail
  go_loop [0, 5] (fun v i => ∃ k : Nat, k ≤ 8 ∧ i = .int .i64 k ∧ v = .int .u32 (n32 (reg x b k))) (fun _ i => 8 - (intOf i).toNat)
  case atStart => exact ⟨0, by omega, rfl, rfl⟩
  case round =>
    obtain ⟨k, hk, rfl, rfl⟩ := hrel
    by_cases hlt : k < 8
    · have hbd := n32_bd (reg x b k)
      cases hr : rbit (reg x b k) b k
      · have he := Lib.hid (show reg x b (k + 1) = sh1 (reg x b k) by simp [reg, rstep, hr])
        go_wp2_with fail
        go_round
        case rel => exact ⟨k + 1, by omega, by go_num, by rw [he.out]⟩
        case measure => simp [intOf]; omega
      · have he := Lib.hid (show reg x b (k + 1) = pxor (sh1 (reg x b k)) by simp [reg, rstep, hr])
        go_wp2_with fail
        go_round
        case rel => exact ⟨k + 1, by omega, by go_num, by rw [he.out]⟩
        case measure => simp [intOf]; omega
    · obtain rfl : k = 8 := by omega
      go_wp2_with fail
      go_ret
      exact ⟨rfl, rfl⟩
end

def rnext (x : BitVec 32) (c : UInt8) : BitVec 32 := reg x c 8
def rregs (x : BitVec 32) (l : List UInt8) : BitVec 32 := l.foldl rnext x
def rsum (l : List UInt8) : BitVec 32 := ~~~ (rregs (BitVec.allOnes 32) l)
theorem rregs_take (s : BitVec 32) (l : List UInt8) (k : Nat) (h : k < l.length) : rregs s (l.take (k + 1)) = rnext (rregs s (l.take k)) l[k] := by
  unfold rregs; rw [List.take_succ_eq_append_getElem h, List.foldl_append]; rfl
theorem ones_u32 : n32 (BitVec.allOnes 32) = 4294967295 := by decide

section
attribute [local go_sem] bits32_ones
set_option maxHeartbeats 400000 in
theorem refsum_any (v : Value) (l : List UInt8) (w : World) (hv : Byt w v l) :
    Calls Tryd.prog 34 #[v] w fun e w' => e = .returned (.int .u32 (n32 (rsum l))) ∧ w = w' := by
  obtain ⟨p, cap, rfl, h1, h2, h3⟩ := hv
  unfold maxLen at h2
  go_enter Tryd.func34, Tryd.ntmps34
  go_wp2_with fail
  go_loop [3, 8] (fun v i => ∃ j : Nat, j ≤ l.length ∧ i = .int .i64 j ∧ v = .int .u32 (n32 (rregs (BitVec.allOnes 32) (l.take j)))) (fun _ i => l.length - (intOf i).toNat)
  case atStart => exact ⟨0, by omega, rfl, by rw [← ones_u32]; rfl⟩
  case round =>
    obtain ⟨j, hj, rfl, rfl⟩ := hrel
    by_cases hjt : j < l.length
    · obtain ⟨b2, off2, rfl, hc2⟩ := byt_cell h3 hjt
      have hs2 := Lib.hid (rregs_take (BitVec.allOnes 32) l j hjt)
      generalize rregs (BitVec.allOnes 32) (l.take j) = s1 at *
      generalize l[j] = c at *
      go_wp2_with (go_at_call 53; refine (register_any _ _ _).mono ?_; rintro e w' ⟨rfl, rfl⟩)
      go_round
      case rel => exact ⟨j + 1, by omega, by go_num, by rw [hs2.out]; rfl⟩
      case measure => simp [intOf]; omega
    · obtain rfl : j = l.length := by omega
      rw [List.take_of_length_le (Nat.le_refl _)]
      go_wp2_with fail
      go_ret
      exact ⟨rfl, rfl⟩
end

/-! ### the plain law: both are one -/
def bstep (x : BitVec 32) : BitVec 32 := (x >>> 1) ^^^ (if x.getLsbD 0 then poly else 0)
def bsteps (x : BitVec 32) : Nat → BitVec 32
  | 0 => x
  | k + 1 => bstep (bsteps x k)
theorem xor_left (x y z : BitVec 32) : x ^^^ (y ^^^ z) = y ^^^ (x ^^^ z) := by rw [← BitVec.xor_assoc, BitVec.xor_comm x y, BitVec.xor_assoc]
theorem xor_twice (x y : BitVec 32) : x ^^^ (x ^^^ y) = y := by rw [← BitVec.xor_assoc, BitVec.xor_self, BitVec.zero_xor]
theorem bstep_xor (x y : BitVec 32) : bstep (x ^^^ y) = bstep x ^^^ bstep y := by
  unfold bstep
  rw [BitVec.ushiftRight_xor_distrib, BitVec.getLsbD_xor]
  cases x.getLsbD 0 <;> cases y.getLsbD 0 <;> simp [BitVec.xor_assoc, BitVec.xor_comm, xor_left, xor_twice]
theorem bsteps_xor (x y : BitVec 32) (k : Nat) : bsteps (x ^^^ y) k = bsteps x k ^^^ bsteps y k := by
  induction k with
  | zero => rfl
  | succ k ih => simp only [bsteps, ih, bstep_xor]
theorem bsteps_add (x : BitVec 32) (j k : Nat) : bsteps x (j + k) = bsteps (bsteps x j) k := by
  induction k with
  | zero => rfl
  | succ k ih => rw [← Nat.add_assoc]; simp only [bsteps, ih]
theorem bsteps_low (x : BitVec 32) (k : Nat) (h : ∀ i, i < k → x.getLsbD i = false) : bsteps x k = x >>> k := by
  induction k with
  | zero => simp [bsteps]
  | succ k ih =>
    simp only [bsteps]
    rw [ih (fun i hi => h i (by omega))]
    have h0 : (x >>> k).getLsbD 0 = false := by simp [h k (by omega)]
    unfold bstep
    rw [h0]
    simp [BitVec.shiftRight_add]
theorem bsteps_half : ∀ k : Fin 16, bsteps (BitVec.ofNat 32 k.val) 4 = half k.val := by decide
theorem nib_eq (x : BitVec 32) : nib x = bsteps x 4 := by
  have hx : x = (x &&& ~~~ 15#32) ^^^ (x &&& 15#32) := by
    apply BitVec.eq_of_getLsbD_eq
    intro i hi
    simp only [BitVec.getLsbD_xor, BitVec.getLsbD_and, BitVec.getLsbD_not, hi]
    cases x.getLsbD i <;> cases (15#32).getLsbD i <;> simp
  have h1 : bsteps (x &&& ~~~ 15#32) 4 = x >>> 4 := by
    rw [bsteps_low]
    · apply BitVec.eq_of_getLsbD_eq
      intro i hi
      simp only [BitVec.getLsbD_ushiftRight, BitVec.getLsbD_and, BitVec.getLsbD_not]
      by_cases h32 : 4 + i < 32
      · have hf : ∀ j : Fin 28, (15#32).getLsbD (4 + j.val) = false := by decide
        rw [hf ⟨i, by omega⟩]
        simp [h32]
      · simp [BitVec.getLsbD_of_ge _ _ (show 32 ≤ 4 + i by omega)]
    · intro i hi
      have : ∀ j : Fin 4, (15#32).getLsbD j.val = true := by decide
      simp only [BitVec.getLsbD_and, BitVec.getLsbD_not]
      simp [this ⟨i, hi⟩]
  have h2 : bsteps (x &&& 15#32) 4 = half (n15 x) := by
    have := bsteps_half ⟨n15 x, n15_lt x⟩
    rw [← this]
    congr 1
    apply BitVec.eq_of_toNat_eq
    rw [BitVec.toNat_ofNat]
    exact (Nat.mod_eq_of_lt (x &&& 15#32).isLt).symm
  conv => rhs; rw [hx]
  rw [bsteps_xor, h1, h2]
  rfl
theorem reg_inv (x : BitVec 32) (c : UInt8) (k : Nat) : reg x c k ^^^ (c8 c >>> k) = bsteps (x ^^^ c8 c) k := by
  induction k with
  | zero => simp [reg, bsteps]
  | succ k ih =>
    simp only [reg, bsteps]
    rw [← ih, bstep_xor]
    have hb : rbit (reg x c k) c k = ((reg x c k).getLsbD 0 ^^ (c8 c >>> k).getLsbD 0) := by
      unfold rbit rb
      generalize reg x c k = y
      generalize c8 c >>> k = z
      have e1 : ∀ y : BitVec 32, y &&& 1#32 = if y.getLsbD 0 then 1#32 else 0#32 := by
        intro y
        apply BitVec.eq_of_getLsbD_eq
        intro i hi
        rw [BitVec.getLsbD_and]
        cases i with
        | zero => cases y.getLsbD 0 <;> rfl
        | succ i =>
          have : (1#32).getLsbD (i + 1) = false := by simp [BitVec.getLsbD_one]
          rw [this]
          cases y.getLsbD 0 <;> simp [BitVec.getLsbD_one]
      rw [e1 y, e1 z]
      cases y.getLsbD 0 <;> cases z.getLsbD 0 <;> decide
    unfold rstep
    rw [hb]
    generalize reg x c k = y
    have e2 : c8 c >>> (k + 1) = (c8 c >>> k) >>> 1 := by rw [BitVec.shiftRight_add]
    rw [e2]
    generalize c8 c >>> k = z
    unfold bstep sh1 pxor
    cases y.getLsbD 0 <;> cases z.getLsbD 0 <;> simp [BitVec.xor_assoc, BitVec.xor_comm, xor_left, xor_twice]
theorem rnext_eq (x : BitVec 32) (c : UInt8) : rnext x c = nibs (x ^^^ c8 c) 2 := by
  have h := reg_inv x c 8
  have hz : c8 c >>> 8 = 0#32 := by
    apply BitVec.eq_of_toNat_eq
    rw [BitVec.toNat_ushiftRight, Nat.shiftRight_eq_div_pow, c8_nat]
    have := c.toNat_lt
    simp; omega
  rw [hz] at h
  simp only [BitVec.xor_zero] at h
  show reg x c 8 = nib (nib (x ^^^ c8 c))
  rw [h, nib_eq, nib_eq, ← bsteps_add]
theorem cnext_eq (s : BitVec 32) (c : UInt8) : cnext s c = ~~~ rnext (~~~ s) c := by rw [rnext_eq]; rfl
theorem csum_eq (s : BitVec 32) (l : List UInt8) : csum s l = ~~~ rregs (~~~ s) l := by
  induction l generalizing s with
  | nil => simp [csum, rregs]
  | cons c l ih =>
    show csum (cnext s c) l = ~~~ rregs (rnext (~~~ s) c) l
    rw [ih, cnext_eq, BitVec.not_not]
theorem csum_zero (l : List UInt8) : csum 0 l = rsum l := by rw [csum_eq]; rfl
theorem csum_append (s : BitVec 32) (l m : List UInt8) : csum s (l ++ m) = csum (csum s l) m := by simp [csum]
theorem csums_eq (s : BitVec 32) (ls : List (List UInt8)) : csums s ls = csum s ls.flatten := by
  induction ls generalizing s with
  | nil => rfl
  | cons l ls ih => rw [List.flatten_cons, csum_append]; exact ih (csum s l)
theorem csums_rsum (ls : List (List UInt8)) : csums 0 ls = rsum ls.flatten := by rw [csums_eq, csum_zero]
theorem cnext_rsum (l : List UInt8) (c : UInt8) : cnext (rsum l) c = rsum (l ++ [c]) := by
  rw [← csum_zero, ← csum_zero, csum_append]; rfl

theorem csums_one (s : BitVec 32) (l : List UInt8) : csums s [l] = csum s l := rfl
/-! ### three rows' odd bits -/
def odds : List UInt8 → List UInt8 → List UInt8 → List UInt8
  | x :: a, y :: b, z :: c => bx (bx x y) z :: odds a b c
  | _, _, _ => []
theorem odds_get : ∀ (a b c : List UInt8) (k : Nat) (ha : k < a.length) (hb : k < b.length) (hc : k < c.length), (odds a b c)[k]? = some (bx (bx a[k] b[k]) c[k])
  | x :: a, y :: b, z :: c, 0, _, _, _ => rfl
  | x :: a, y :: b, z :: c, k + 1, ha, hb, hc => by
    simp only [odds, List.getElem?_cons_succ, List.getElem_cons_succ]
    exact odds_get a b c k (by simpa using ha) (by simpa using hb) (by simpa using hc)
  | [], _, _, _, ha, _, _ => by simp at ha
  | _ :: _, [], _, _, _, hb, _ => by simp at hb
  | _ :: _, _ :: _, [], _, _, _, hc => by simp at hc
theorem odds_take (a b c : List UInt8) (k : Nat) (ha : k < a.length) (hb : k < b.length) (hc : k < c.length) :
    (odds a b c).take (k + 1) = (odds a b c).take k ++ [bx (bx a[k] b[k]) c[k]] := by
  rw [List.take_add_one, odds_get a b c k ha hb hc]; rfl
theorem odds_len : ∀ (a b c : List UInt8), (odds a b c).length = min3 a.length b.length c.length
  | x :: a, y :: b, z :: c => by
    simp only [odds, List.length_cons, odds_len a b c, min3]; omega
  | [], _, _ => by simp [odds, min3]
  | _ :: _, [], _ => by simp [odds, min3]
  | _ :: _, _ :: _, [] => by simp [odds, min3]
theorem c8_bx (x y : UInt8) : c8 (bx x y) = c8 x ^^^ c8 y := by
  apply BitVec.eq_of_toNat_eq
  rw [BitVec.toNat_xor, c8_nat, c8_nat, c8_nat]; unfold bx; rw [UInt8.toNat_xor]
theorem rnext_lin (s1 s2 s3 : BitVec 32) (x y z : UInt8) : rnext (s1 ^^^ s2 ^^^ s3) (bx (bx x y) z) = rnext s1 x ^^^ rnext s2 y ^^^ rnext s3 z := by
  have e : ∀ s c, rnext s c = bsteps (s ^^^ c8 c) 8 := by
    intro s c
    rw [rnext_eq, show (8 : Nat) = 4 + 4 from rfl, bsteps_add, ← nib_eq, ← nib_eq]; rfl
  rw [e, e, e, e, ← bsteps_xor, ← bsteps_xor, c8_bx, c8_bx]
  congr 1
  simp only [BitVec.xor_assoc, BitVec.xor_comm, xor_left]
theorem rregs_lin : ∀ (a b c : List UInt8) (s1 s2 s3 : BitVec 32), a.length = b.length → b.length = c.length →
    rregs (s1 ^^^ s2 ^^^ s3) (odds a b c) = rregs s1 a ^^^ rregs s2 b ^^^ rregs s3 c
  | [], [], [], _, _, _, _, _ => rfl
  | x :: a, y :: b, z :: c, s1, s2, s3, h1, h2 => by
    show rregs (rnext (s1 ^^^ s2 ^^^ s3) (bx (bx x y) z)) (odds a b c) = rregs (rnext s1 x) a ^^^ rregs (rnext s2 y) b ^^^ rregs (rnext s3 z) c
    rw [rnext_lin]
    exact rregs_lin a b c _ _ _ (by simpa using h1) (by simpa using h2)
  | [], _ :: _, _, _, _, _, h1, _ => by simp at h1
  | [], [], _ :: _, _, _, _, _, h2 => by simp at h2
  | _ :: _, [], _, _, _, _, h1, _ => by simp at h1
  | _ :: _, _ :: _, [], _, _, _, _, h2 => by simp at h2
theorem odds_cut : ∀ (a b c : List UInt8) (n : Nat), n = min3 a.length b.length c.length → odds (a.take n) (b.take n) (c.take n) = odds a b c
  | x :: a, y :: b, z :: c, n, h => by
    obtain ⟨m, rfl⟩ : ∃ m, n = m + 1 := ⟨n - 1, by unfold min3 at h; simp at h; omega⟩
    simp only [List.take_succ_cons, odds]
    rw [odds_cut a b c m (by unfold min3 at *; simp at h; omega)]
  | [], _, _, n, _ => by simp [odds]
  | _ :: _, [], _, n, h => by obtain rfl : n = 0 := by unfold min3 at h; simp at h; omega
                              simp [odds]
  | _ :: _, _ :: _, [], n, h => by obtain rfl : n = 0 := by unfold min3 at h; simp at h; omega
                                   simp [odds]
theorem xor3_not (x y z : BitVec 32) : ~~~ (x ^^^ y ^^^ z) = ~~~ x ^^^ ~~~ y ^^^ ~~~ z := by
  have e : ∀ x : BitVec 32, ~~~ x = x ^^^ BitVec.allOnes 32 := fun x => (BitVec.xor_allOnes).symm
  rw [e, e, e, e]
  simp only [BitVec.xor_assoc, BitVec.xor_comm, xor_left, xor_twice]
theorem csum_odds (a b c : List UInt8) (n : Nat) (h : n = min3 a.length b.length c.length) :
    csum 0 (odds a b c) = csum 0 (a.take n) ^^^ csum 0 (b.take n) ^^^ csum 0 (c.take n) := by
  rw [← odds_cut a b c n h]
  simp only [csum_eq]
  have ho : (~~~ (0 : BitVec 32)) = (~~~ (0 : BitVec 32)) ^^^ (~~~ (0 : BitVec 32)) ^^^ (~~~ (0 : BitVec 32)) := by decide
  conv => lhs; rw [ho]
  rw [rregs_lin _ _ _ _ _ _ (by unfold min3 at h; simp; omega) (by unfold min3 at h; simp; omega), xor3_not]
end Go.Proofs.YtoiknidlincdkaaDoor

namespace Go.Proofs.YtoiknidlincdkaaDoor
open Go.RowKit

/-- a sum's bytes, the high one first -/
def four (s : BitVec 32) : List UInt8 := [UInt8.ofNat (s.toNat / 16777216), UInt8.ofNat (s.toNat / 65536), UInt8.ofNat (s.toNat / 256), UInt8.ofNat s.toNat]
theorem four_len (s : BitVec 32) : (four s).length = 4 := rfl
theorem byte_div (s : BitVec 32) (d : Nat) : n32 s / (d : Int) % 256 = ((UInt8.ofNat (s.toNat / d)).toNat : Int) := by
  unfold n32
  rw [UInt8.toNat_ofNat']; simp
theorem byte_all (s : BitVec 32) : n32 s % 256 = ((UInt8.ofNat s.toNat).toNat : Int) := by
  unfold n32
  rw [UInt8.toNat_ofNat']; simp
theorem four_bvs (s : BitVec 32) : bvs (four s) = [.int .u8 (n32 s / 16777216), .int .u8 (n32 s / 65536 % 256), .int .u8 (n32 s / 256 % 256), .int .u8 (n32 s % 256)] := by
  have h1 := byte_div s 16777216
  have h2 := byte_div s 65536
  have h3 := byte_div s 256
  have h4 := byte_all s
  simp only [four, bvs, List.map_cons, List.map_nil, bv]
  have h5 := n32_bd s
  have h6 : n32 s / 16777216 % 256 = n32 s / 16777216 := by omega
  rw [← h1, ← h2, ← h3, ← h4]
  show [Value.int .u8 (n32 s / 16777216 % 256), _, _, _] = _
  rw [h6]
  rfl
def GivesBytes (w : World) (l : List UInt8) (e : Ending) (w' : World) : Prop := ∃ v, e = .returned v ∧ Byt w' v l ∧ Below w.heap.size w w'
set_option maxHeartbeats 400000 in
theorem four_any (s : BitVec 32) (w : World) : Calls Tryd.prog 51 #[.int .u32 (n32 s)] w (GivesBytes w (four s)) := by
  have hbd := n32_bd s
  have hf := Lib.hid (four_bvs s)
  go_enter Tryd.func51, Tryd.ntmps51
  go_wp2_with fail
  go_ret
  refine ⟨_, rfl, ⟨_, _, rfl, by rw [four_len]; exact Nat.le_refl _, by unfold maxLen; decide, ?_⟩, below_alloc1 _ _⟩
  rw [hf.out]
  exact rd_at _ #[_, _, _, _] _ _ _ rfl
set_option maxHeartbeats 400000 in
theorem reffour_any (s : BitVec 32) (w : World) : Calls Tryd.prog 33 #[.int .u32 (n32 s)] w (GivesBytes w (four s)) := by
  have hbd := n32_bd s
  have hf := Lib.hid (four_bvs s)
  go_enter Tryd.func33, Tryd.ntmps33
  go_wp2_with fail
  go_ret
  refine ⟨_, rfl, ⟨_, _, rfl, by rw [four_len]; exact Nat.le_refl _, by unfold maxLen; decide, ?_⟩, below_alloc1 _ _⟩
  rw [hf.out]
  exact rd_at _ #[_, _, _, _] _ _ _ rfl

def sealed (l : List UInt8) : List UInt8 := l ++ four (rsum l)
def Sealed (w : World) (l : List UInt8) (e : Ending) (w' : World) : Prop :=
  ∃ v, e = .returned v ∧ w'.ownsRow w.heap.size 5 1 v (sealed l).length (bvs (sealed l)) ∧ Below w.heap.size w w'
set_option maxHeartbeats 400000 in
theorem seal_any (v : Value) (l : List UInt8) (w : World) (ht : HalfTab w) (hl : l.length ≤ 65536) (hv : Byt w v l) :
    Calls Tryd.prog 32 #[v] w (Sealed w l) := by
  have HV := Lib.hid hv
  obtain ⟨p, cap, rfl, h1, h2, h3⟩ := hv
  unfold maxLen at h2
  clear h3
  obtain ⟨i0, hi, hz0, hz1, hz2⟩ := info_parts byt8Info
  go_enter Tryd.func32, Tryd.ntmps32
  go_wp2_with fail
  refine (clone_any _ l w (by omega) HV.out).mono ?_
  rintro e w1 ⟨v1, rfl, ho1, hb1⟩
  have HO1 := Lib.hid ho1; clear ho1
  have hs1 := hb1.size
  go_wp2_with fail
  refine (sum_any _ [l] _ ((ht.keep (Below.keeps hb1)).keep (keep_alloc _ _)) (bytL_one (HV.out.below hb1) _ _ _ rfl)).mono ?_
  rintro e w2 ⟨rfl, rfl⟩
  rw [csums_one, csum_zero]
  go_wp2_with fail
  refine (four_any (rsum l) _).mono ?_
  rintro e w3 ⟨v3, rfl, ⟨p3, c3, rfl, h31, h32, h33⟩, hb3⟩
  have hb13 : Below w1.heap.size w1 w3 := (below_alloc1 w1 _).trans (hb3.mono (by simp))
  have ho3 := owns_below HO1.out hb13
  have hs3 := (hb1.trans (hb13.mono hs1)).size
  have HR := Lib.hid h33; clear h33
  go_wp2_with (at_builtin; refine wpList_app (.tmp 4) (.tmp 8) 22 rfl rfl w.heap.size 5 i0 (.int .u8 0) 1 1 Tryd.underlying22 hi hz0 hz1 hz2 rfl (by decide) _ _ _ rfl ho3 _ _ _ (bvs (four (rsum l))) rfl ?e0 HR.out bvs_one ?e1 ?e2 hs3 ?_)
  case e0 => rw [bvs_len]; omega
  case e1 => rw [four_len]; unfold maxLen; omega
  case e2 => rw [four_len]; omega
  intro v4 w4 ho4 hg4
  have hb4 := (hb1.trans (hb13.mono hs1)).grown hg4 hs3 (fun j hj => (ho3.lt j hj).1)
  clear ho3 hg4
  go_wp2_with fail
  go_ret
  exact ⟨_, rfl, by unfold sealed; rw [bvs_app, List.length_append]; exact ho4, hb4⟩

/-! ### Open -/
def openErr (l : List UInt8) : Nat := if l.length < 4 then 2 else if l.drop (l.length - 4) = four (rsum (l.take (l.length - 4))) then 0 else 5
def openRes (l : List UInt8) : List UInt8 := if openErr l = 0 then l.take (l.length - 4) else []
def Opened (w : World) (E : Nat → Addr) (l : List UInt8) (e : Ending) (w' : World) : Prop :=
  ∃ v, e = .returned (.tuple #[v, errV E (openErr l)]) ∧ Byt w' v (openRes l) ∧ Below w.heap.size w w'
theorem byt_nil (w : World) : Byt w (.slice none 0 0) [] := ⟨none, 0, rfl, Nat.le_refl _, by unfold maxLen; omega, .inl rfl⟩

set_option maxRecDepth 20000 in
set_option maxHeartbeats 1000000 in
theorem open_any (v : Value) (l : List UInt8) (w : World) (E : Nat → Addr) (ht : HalfTab w) (he : Errs w E) (hl : l.length ≤ 65536) (hv : Byt w v l) :
    Calls Tryd.prog 57 #[v] w (Opened w E l) := by
  have HV := Lib.hid hv
  have HE := Lib.hid he
  obtain ⟨p, cap, rfl, h1, h2, h3⟩ := hv
  unfold maxLen at h2
  clear h3 he
  obtain ⟨i0, hi, hz0, hz1, hz2⟩ := info_parts byt8Info
  by_cases h4 : l.length < 4
  · have hd : decide ((l.length : Int) - 4 < 0) = true := by simp; omega
    have hE0 : openErr l = 2 := by unfold openErr; rw [if_pos h4]
    have HE0 := Lib.hid hE0; clear hE0
    go_enter Tryd.func57, Tryd.ntmps57
    go_wp2_with fail
    refine wp_phi (fun w' => Errs w' E ∧ Below w.heap.size w w') [] [] (by kernel_rfl) (by kernel_rfl) ?_ ?_ ⟨HE.out.below ((Below.refl _ _).drew), (Below.refl _ _).drew⟩ ?_
    · rintro w1 w2 ⟨a1, a2⟩ hb
      exact ⟨a1.below hb, a2.trans (hb.mono a2.size)⟩
    · intro p hp; cases hp
    repeat (refine phi_pureK rfl rfl (fun K hK => ?_); apply Exists.intro; constructor; (rintro w' ⟨hI1, hI2⟩; have s1 := hI1.cell 1 (by omega); simp only [errVar, List.getD_cons_zero, List.getD_cons_succ] at s1; clear hI1 hI2; first | (go_simp; (try go_bits); (try go_simp); rfl) | go_simp); simp only [Act.put, List.setIfInBounds_toArray, List.set_cons_succ, List.set_cons_zero]; (try simp only [List.cons_append]); (try simp only [List.nil_append]); apply hK; clear hK K)
    refine phi_done ?_
    rintro w1 ⟨_, hbw⟩ _
    refine wpList_nil ?_
    go_wp2_with fail
    go_ret2
    refine ⟨_, by rw [HE0.out]; rfl, ?_, hbw⟩
    unfold openRes
    rw [HE0.out]
    exact byt_nil _
  · have hd : decide ((l.length : Int) - 4 < 0) = false := by simp; omega
    obtain ⟨n, hn⟩ : ∃ n, l.length = n + 4 := ⟨l.length - 4, by omega⟩
    have hn4 : l.length - 4 = n := by omega
    have HN := Lib.hid hn
    have hsub : (l.length : Int) - 4 = (n : Int) := by omega
    have hnl : n ≤ l.length := by omega
    clear hn hd
    have hto := fun w => run_slice_to (P := Tryd.prog) Tryd.underlying22 hi p l.length cap n (by omega) w
    have hfrom := fun w => run_slice_from (P := Tryd.prog) Tryd.underlying22 hi p l.length cap n hnl w
    have hbt : ∀ w', Byt w' (.slice p l.length cap) l → Byt w' (.slice p n cap) (l.take n) := fun w' h => byt_take h n hnl
    have hbd : ∀ w', Byt w' (.slice p l.length cap) l → Byt w' (.slice (cutp p n cap 1) (l.length - n) (cap - n)) (l.drop n) := fun w' h => byt_drop h n hnl
    have HBT := Lib.hid hbt
    have HBD := Lib.hid hbd
    clear hbt hbd
    have hop : openErr l = if l.drop n = four (rsum (l.take n)) then 0 else 5 := by
      unfold openErr; rw [if_neg h4, hn4]
    have HOP := Lib.hid hop
    clear hop
    obtain ⟨eqb, heqb⟩ : ∃ b : Bool, (l.drop n == four (rsum (l.take n))) = b := ⟨_, rfl⟩
    have HEQ := Lib.hid heqb
    clear heqb
    go_enter Tryd.func57, Tryd.ntmps57
    go_wp2_with fail
    refine wp_phi (fun w' => Byt w' (.slice p l.length cap) l ∧ HalfTab w' ∧ Below w.heap.size w w')
      [(6, PBytL [l.take n]), (7, PVal (.int .u32 (n32 (rsum (l.take n))))), (8, PByt (four (rsum (l.take n)))), (9, PVal (.bool eqb))] [(7, [6]), (9, [8])] (by kernel_rfl) (by kernel_rfl) ?_ ?_ ⟨HV.out, ht, (Below.refl _ _).drew⟩ ?_
    · rintro w1 w2 ⟨a1, a2, a3⟩ hb
      exact ⟨a1.below hb, a2.keep (Below.keeps hb), a3.trans (hb.mono a3.size)⟩
    · simp only [List.mem_cons, List.not_mem_nil, or_false, forall_eq_or_imp, forall_eq]
      exact ⟨fun _ _ _ _ h => PBytL_stays _ _ _ _ h, fun _ _ _ _ h => PVal_stays _ _ _ _ h, fun _ _ _ _ h => PByt_stays _ _ _ _ h, fun _ _ _ _ h => PVal_stays _ _ _ _ h⟩
    repeat (refine phi_pureK rfl rfl (fun K hK => ?_); apply Exists.intro; constructor; (focus (rintro w' ⟨hI1, hI2, hI3⟩; clear hI1 hI2 hI3; first | (go_simp; done) | (go_simp; (try go_bits); (try go_simp); rfl) | go_simp)); simp only [Act.put, List.setIfInBounds_toArray, List.set_cons_succ, List.set_cons_zero]; (try simp only [List.cons_append]); (try simp only [List.nil_append]); apply hK; clear hK K)
    refine phi_partK (PBytL [l.take n]) rfl rfl ⟨_, none, 0, rfl⟩ ?_ (fun K hK v hv => ?_)
    · rintro w' ⟨hI1, hI2, hI3⟩ _
      have hI4 := Lib.hid (HBT.out w' hI1)
      clear hI1 hI2 hI3
      unfold gives
      go_simp
      exact ⟨⟨_, _, rfl⟩, bytL_one hI4.out _ _ _ rfl, below_alloc1 _ _⟩
    obtain ⟨p', c', rfl⟩ := hv
    simp only [Act.put, List.setIfInBounds_toArray, List.set_cons_succ, List.set_cons_zero]; (try simp only [List.cons_append]); (try simp only [List.nil_append])
    apply hK
    clear hK K
    refine phi_partK (PVal (.int .u32 (n32 (rsum (l.take n))))) rfl rfl ⟨_, rfl⟩ ?_ (fun K hK v hv => ?_)
    · rintro w' ⟨hI1, hI2, hI3⟩ hf
      have hb : BytL w' _ [l.take n] := hf (6, fun w => (PBytL [l.take n]).fact w (.slice p' 1 c')) (by simp) (List.contains_iff_mem.1 rfl)
      unfold gives
      clear hf hI1 hI3
      go_simp
      refine (sum_any _ [l.take n] _ hI2 hb).mono ?_
      rintro e w'' ⟨rfl, rfl⟩
      exact ⟨_, rfl, by rw [csums_one, csum_zero]; rfl, trivial, Below.refl _ _⟩
    obtain rfl : v = _ := hv
    simp only [Act.put, List.setIfInBounds_toArray, List.set_cons_succ, List.set_cons_zero]; (try simp only [List.cons_append]); (try simp only [List.nil_append])
    apply hK
    clear hK K
    refine phi_partK (PByt (four (rsum (l.take n)))) rfl rfl ⟨_, none, 0, rfl⟩ ?_ (fun K hK v hv => ?_)
    · rintro w' ⟨hI1, hI2, hI3⟩ hf
      unfold gives
      clear hf hI1 hI2 hI3
      go_simp
      refine (four_any (rsum (l.take n)) w').mono ?_
      rintro e w'' ⟨v, rfl, hby, hb⟩
      have hby' := hby
      obtain ⟨q, c, rfl, _⟩ := hby'
      exact ⟨_, rfl, ⟨q, c, rfl⟩, hby, hb⟩
    obtain ⟨p'', c'', rfl⟩ := hv
    simp only [Act.put, List.setIfInBounds_toArray, List.set_cons_succ, List.set_cons_zero]; (try simp only [List.cons_append]); (try simp only [List.nil_append])
    apply hK
    clear hK K
    refine phi_partK (PVal (.bool eqb)) rfl rfl ⟨_, rfl⟩ ?_ (fun K hK v hv => ?_)
    · rintro w' ⟨hI1, hI2, hI3⟩ hf
      have hb : Byt w' _ (four (rsum (l.take n))) := hf (8, fun w => (PByt (four (rsum (l.take n)))).fact w (.slice p'' (four (rsum (l.take n))).length c'')) (by simp) (List.contains_iff_mem.1 rfl)
      have hI4 := Lib.hid (HBD.out w' hI1)
      unfold gives
      clear hf hI1 hI2 hI3
      go_simp
      refine (equal_any _ _ (l.drop n) (four (rsum (l.take n))) w' hI4.out hb).mono ?_
      rintro e w'' ⟨rfl, hb⟩
      exact ⟨_, rfl, by rw [HEQ.out]; rfl, trivial, hb⟩
    obtain rfl : v = _ := hv
    simp only [Act.put, List.setIfInBounds_toArray, List.set_cons_succ, List.set_cons_zero]; (try simp only [List.cons_append]); (try simp only [List.nil_append])
    apply hK
    clear hK K
    repeat (refine phi_pureK rfl rfl (fun K hK => ?_); apply Exists.intro; constructor; (focus (rintro w' ⟨hI1, hI2, hI3⟩; clear hI1 hI2 hI3; first | (go_simp; done) | (go_simp; (try go_bits); (try go_simp); rfl) | go_simp)); simp only [Act.put, List.setIfInBounds_toArray, List.set_cons_succ, List.set_cons_zero]; (try simp only [List.cons_append]); (try simp only [List.nil_append]); apply hK; clear hK K)
    refine phi_done ?_
    rintro w1 ⟨hB1, ht1, hbw⟩ _
    refine wpList_nil ?_
    have HB1 := Lib.hid hB1
    clear hB1
    cases eqb with
    | true =>
      have hE0 : openErr l = 0 := by rw [HOP.out, if_pos (beq_iff_eq.1 HEQ.out)]
      have HE0 := Lib.hid hE0
      clear hE0
      simp only [Bool.not_true]
      go_wp2_with fail
      refine (clone_any _ (l.take n) w1 (by simp; omega) (HBT.out w1 HB1.out)).mono ?_
      rintro e w2 hcl
      obtain ⟨v2, rfl, hby, hb2⟩ := hcl.byt
      have HBY := Lib.hid hby
      clear hby
      go_wp2_with fail
      go_ret2
      refine ⟨_, by rw [HE0.out]; rfl, ?_, hbw.trans (hb2.mono hbw.size)⟩
      unfold openRes
      rw [HE0.out, if_pos rfl, hn4]
      exact HBY.out
    | false =>
      have hE0 : openErr l = 5 := by rw [HOP.out, if_neg (beq_eq_false_iff_ne.1 HEQ.out)]
      have HE0 := Lib.hid hE0
      clear hE0
      simp only [Bool.not_false]
      have hs := hbw.size
      go_wp2_with fail
      refine wp_phi (fun w' => Errs w' E ∧ Below w.heap.size w w') [] [] (by kernel_rfl) (by kernel_rfl) ?_ ?_ ⟨(HE.out.below hbw).below ((Below.refl _ _).drew), hbw.drew⟩ ?_
      · rintro w1 w2 ⟨a1, a2⟩ hb
        exact ⟨a1.below hb, a2.trans (hb.mono a2.size)⟩
      · intro p hp; cases hp
      repeat (refine phi_pureK rfl rfl (fun K hK => ?_); apply Exists.intro; constructor; (rintro w' ⟨hI1, hI2⟩; have s1 := hI1.cell 4 (by omega); simp only [errVar, List.getD_cons_zero, List.getD_cons_succ] at s1; clear hI1 hI2; first | (go_simp; (try go_bits); (try go_simp); rfl) | go_simp); simp only [Act.put, List.setIfInBounds_toArray, List.set_cons_succ, List.set_cons_zero]; (try simp only [List.cons_append]); (try simp only [List.nil_append]); apply hK; clear hK K)
      refine phi_done ?_
      rintro w2 ⟨_, hbw2⟩ _
      refine wpList_nil ?_
      go_wp2_with fail
      go_ret2
      refine ⟨_, by rw [HE0.out]; rfl, ?_, hbw2⟩
      unfold openRes
      rw [HE0.out]
      exact byt_nil _
end Go.Proofs.YtoiknidlincdkaaDoor

namespace Go.Proofs.YtoiknidlincdkaaDoor
open Go.RowKit

theorem poly_top : poly.getLsbD 31 = true := by decide
theorem bstep_zero {z : BitVec 32} (h : bstep z = 0) : z = 0 := by
  have h31 : (bstep z).getLsbD 31 = z.getLsbD 0 := by
    unfold bstep
    rw [BitVec.getLsbD_xor, BitVec.getLsbD_ushiftRight, BitVec.getLsbD_of_ge _ (1 + 31) (by omega)]
    cases z.getLsbD 0 <;> simp [poly_top]
  have h0 : z.getLsbD 0 = false := by rw [← h31, h]; simp
  have hs : bstep z = z >>> 1 := by unfold bstep; rw [h0]; simp
  rw [hs] at h
  apply BitVec.eq_of_getLsbD_eq
  intro i hi
  cases i with
  | zero => rw [h0]; simp
  | succ i =>
    have := congrArg (·.getLsbD i) h
    simp only [BitVec.getLsbD_ushiftRight] at this
    rw [Nat.add_comm 1 i] at this
    rw [this]; simp
theorem xor_zero_iff {x y : BitVec 32} (h : x ^^^ y = 0) : x = y := by
  have := congrArg (· ^^^ y) h
  simpa [BitVec.xor_assoc] using this
theorem bstep_inj {x y : BitVec 32} (h : bstep x = bstep y) : x = y := by
  apply xor_zero_iff
  apply bstep_zero
  rw [bstep_xor, h, BitVec.xor_self]
  rfl
theorem bsteps_inj {x y : BitVec 32} (k : Nat) (h : bsteps x k = bsteps y k) : x = y := by
  induction k with
  | zero => exact h
  | succ k ih => exact ih (bstep_inj h)
theorem rnext_steps (s : BitVec 32) (c : UInt8) : rnext s c = bsteps (s ^^^ c8 c) 8 := by
  rw [rnext_eq, show (8 : Nat) = 4 + 4 from rfl, bsteps_add, ← nib_eq, ← nib_eq]; rfl
theorem xor_right_inj {x y z : BitVec 32} (h : x ^^^ z = y ^^^ z) : x = y := by
  have := congrArg (· ^^^ z) h
  simpa [BitVec.xor_assoc] using this
theorem xor_left_inj {x y z : BitVec 32} (h : z ^^^ x = z ^^^ y) : x = y := by
  rw [BitVec.xor_comm z x, BitVec.xor_comm z y] at h; exact xor_right_inj h
theorem rregs_inj {s s' : BitVec 32} : ∀ (l : List UInt8), rregs s l = rregs s' l → s = s'
  | [], h => h
  | c :: l, h => by
    have := rregs_inj l (show rregs (rnext s c) l = rregs (rnext s' c) l from h)
    rw [rnext_steps, rnext_steps] at this
    exact xor_right_inj (bsteps_inj 8 this)
theorem c8_inj {c d : UInt8} (h : c8 c = c8 d) : c = d := by
  have := congrArg BitVec.toNat h
  rw [c8_nat, c8_nat] at this
  exact UInt8.toNat_inj.1 this
theorem rregs_append (s : BitVec 32) (l m : List UInt8) : rregs s (l ++ m) = rregs (rregs s l) m := by simp [rregs]
theorem rregs_change (s : BitVec 32) (l m : List UInt8) (c d : UInt8) (h : rregs s (l ++ c :: m) = rregs s (l ++ d :: m)) : c = d := by
  rw [rregs_append, rregs_append] at h
  have := rregs_inj m (show rregs (rnext (rregs s l) c) m = rregs (rnext (rregs s l) d) m from h)
  rw [rnext_steps, rnext_steps] at this
  exact c8_inj (xor_left_inj (bsteps_inj 8 this))
theorem not_inj {x y : BitVec 32} (h : ~~~ x = ~~~ y) : x = y := by
  have := congrArg (~~~ ·) h
  simpa using this
theorem rsum_set {l : List UInt8} {k : Nat} (hk : k < l.length) (c : UInt8) (h : rsum (l.set k c) = rsum l) : c = l[k] := by
  have e1 : l = l.take k ++ l[k] :: l.drop (k + 1) := by
    rw [List.getElem_cons_drop, List.take_append_drop]
  have e2 : l.set k c = l.take k ++ c :: l.drop (k + 1) := by
    rw [List.set_eq_take_append_cons_drop, if_pos hk]
  have h' := not_inj h
  rw [e2] at h'
  conv at h' => rhs; rw [e1]
  exact rregs_change _ _ _ _ _ h'
theorem four_inj {s t : BitVec 32} (h : four s = four t) : s = t := by
  simp only [four, List.cons.injEq, and_true] at h
  obtain ⟨h1, h2, h3, h4⟩ := h
  have e1 := congrArg UInt8.toNat h1
  have e2 := congrArg UInt8.toNat h2
  have e3 := congrArg UInt8.toNat h3
  have e4 := congrArg UInt8.toNat h4
  simp only [UInt8.toNat_ofNat'] at e1 e2 e3 e4
  apply BitVec.eq_of_toNat_eq
  have hs := s.isLt
  have ht := t.isLt
  omega
theorem sealed_len (l : List UInt8) : (sealed l).length = l.length + 4 := by unfold sealed; rw [List.length_append, four_len]
/-- what openErr is of l bytes and four more -/
theorem openErr_app (a b : List UInt8) (hb : b.length = 4) : openErr (a ++ b) = if b = four (rsum a) then 0 else 5 := by
  unfold openErr
  rw [if_neg (by simp [hb])]
  have e : (a ++ b).length - 4 = a.length := by simp [hb]
  rw [e, List.drop_left, List.take_left]
theorem openRes_app (a b : List UInt8) (hb : b.length = 4) (h : openErr (a ++ b) = 0) : openRes (a ++ b) = a := by
  unfold openRes
  rw [if_pos h, show (a ++ b).length - 4 = a.length by simp [hb], List.take_left]
theorem openRes_err {l : List UInt8} (h : openErr l ≠ 0) : openRes l = [] := by unfold openRes; rw [if_neg h]
theorem open_sealed (l : List UInt8) : openErr (sealed l) = 0 ∧ openRes (sealed l) = l := by
  have h : openErr (sealed l) = 0 := by unfold sealed; rw [openErr_app _ _ (four_len _), if_pos rfl]
  exact ⟨h, openRes_app _ _ (four_len _) h⟩
theorem bx_zero (c : UInt8) : bx c 0 = c := by unfold bx; exact UInt8.xor_zero
theorem bx_ne {c y : UInt8} (h : y ≠ 0) : bx c y ≠ c := by
  unfold bx
  intro e
  apply h
  have := congrArg (c ^^^ ·) e
  simpa [← UInt8.xor_assoc] using this
theorem spoil_same (l : List UInt8) (k : Nat) (hk : k < (sealed l).length) : (sealed l).set k (bx (sealed l)[k] 0) = sealed l := by
  rw [bx_zero]; exact List.set_getElem_self hk
theorem sealed_lt (l : List UInt8) (k : Nat) (h : k < l.length) (hk : k < (sealed l).length) : (sealed l)[k] = l[k] := List.getElem_append_left h
theorem sealed_ge (l : List UInt8) (k : Nat) (h : l.length ≤ k) (hk : k < (sealed l).length) (h4 : k - l.length < (four (rsum l)).length) : (sealed l)[k] = (four (rsum l))[k - l.length] := List.getElem_append_right h
theorem spoil_err (l : List UInt8) (k : Nat) (hk : k < (sealed l).length) (y : UInt8) (hy : y ≠ 0) : openErr ((sealed l).set k (bx (sealed l)[k] y)) = 5 := by
  have hlen := sealed_len l
  by_cases hkl : k < l.length
  · have e : (sealed l).set k (bx (sealed l)[k] y) = l.set k (bx (sealed l)[k] y) ++ four (rsum l) := by
      have : sealed l = l ++ four (rsum l) := rfl
      conv => lhs; arg 1; rw [this]
      rw [List.set_append_left _ _ hkl]
    rw [e, openErr_app _ _ (four_len _), if_neg]
    intro h
    have h1 := rsum_set hkl _ (four_inj h).symm
    have h2 := sealed_lt l k hkl hk
    rw [h2] at h1
    exact bx_ne hy h1
  · have e : (sealed l).set k (bx (sealed l)[k] y) = l ++ (four (rsum l)).set (k - l.length) (bx (sealed l)[k] y) := by
      have : sealed l = l ++ four (rsum l) := rfl
      conv => lhs; arg 1; rw [this]
      rw [List.set_append_right _ _ (by omega)]
    rw [e, openErr_app _ _ (by simp [four_len]), if_neg]
    intro h
    have hk4 : k - l.length < (four (rsum l)).length := by rw [four_len]; omega
    have h1 := congrArg (·[k - l.length]?) h
    simp only [List.getElem?_set_self hk4] at h1
    have h2 := sealed_ge l k (by omega) hk hk4
    rw [List.getElem?_eq_getElem hk4, h2] at h1
    exact bx_ne hy (Option.some.inj h1)
end Go.Proofs.YtoiknidlincdkaaDoor

namespace Go.Proofs.YtoiknidlincdkaaDoor
open Go.RowKit

def OpenedO (w : World) (E : Nat → Addr) (l : List UInt8) (e : Ending) (w' : World) : Prop :=
  ∃ v, e = .returned (.tuple #[v, errV E (openErr l)]) ∧ w'.ownsRow w.heap.size 5 1 v (openRes l).length (bvs (openRes l)) ∧ Below w.heap.size w w'
set_option maxRecDepth 20000 in
set_option maxHeartbeats 1000000 in
theorem open_own (v : Value) (l : List UInt8) (w : World) (E : Nat → Addr) (ht : HalfTab w) (he : Errs w E) (hl : l.length ≤ 65536) (hv : Byt w v l) :
    Calls Tryd.prog 57 #[v] w (OpenedO w E l) := by
  have HV := Lib.hid hv
  have HE := Lib.hid he
  obtain ⟨p, cap, rfl, h1, h2, h3⟩ := hv
  unfold maxLen at h2
  clear h3 he
  obtain ⟨i0, hi, hz0, hz1, hz2⟩ := info_parts byt8Info
  by_cases h4 : l.length < 4
  · have hd : decide ((l.length : Int) - 4 < 0) = true := by simp; omega
    have hE0 : openErr l = 2 := by unfold openErr; rw [if_pos h4]
    have HE0 := Lib.hid hE0; clear hE0
    go_enter Tryd.func57, Tryd.ntmps57
    go_wp2_with fail
    refine wp_phi (fun w' => Errs w' E ∧ Below w.heap.size w w') [] [] (by kernel_rfl) (by kernel_rfl) ?_ ?_ ⟨HE.out.below ((Below.refl _ _).drew), (Below.refl _ _).drew⟩ ?_
    · rintro w1 w2 ⟨a1, a2⟩ hb
      exact ⟨a1.below hb, a2.trans (hb.mono a2.size)⟩
    · intro p hp; cases hp
    repeat (refine phi_pureK rfl rfl (fun K hK => ?_); apply Exists.intro; constructor; (rintro w' ⟨hI1, hI2⟩; have s1 := hI1.cell 1 (by omega); simp only [errVar, List.getD_cons_zero, List.getD_cons_succ] at s1; clear hI1 hI2; first | (go_simp; (try go_bits); (try go_simp); rfl) | go_simp); simp only [Act.put, List.setIfInBounds_toArray, List.set_cons_succ, List.set_cons_zero]; (try simp only [List.cons_append]); (try simp only [List.nil_append]); apply hK; clear hK K)
    refine phi_done ?_
    rintro w1 ⟨_, hbw⟩ _
    refine wpList_nil ?_
    go_wp2_with fail
    go_ret2
    refine ⟨_, by rw [HE0.out]; rfl, ?_, hbw⟩
    unfold openRes
    rw [HE0.out]
    exact ⟨rfl, .inl ⟨rfl, rfl⟩⟩
  · have hd : decide ((l.length : Int) - 4 < 0) = false := by simp; omega
    obtain ⟨n, hn⟩ : ∃ n, l.length = n + 4 := ⟨l.length - 4, by omega⟩
    have hn4 : l.length - 4 = n := by omega
    have HN := Lib.hid hn
    have hsub : (l.length : Int) - 4 = (n : Int) := by omega
    have hnl : n ≤ l.length := by omega
    clear hn hd
    have hto := fun w => run_slice_to (P := Tryd.prog) Tryd.underlying22 hi p l.length cap n (by omega) w
    have hfrom := fun w => run_slice_from (P := Tryd.prog) Tryd.underlying22 hi p l.length cap n hnl w
    have hbt : ∀ w', Byt w' (.slice p l.length cap) l → Byt w' (.slice p n cap) (l.take n) := fun w' h => byt_take h n hnl
    have hbd : ∀ w', Byt w' (.slice p l.length cap) l → Byt w' (.slice (cutp p n cap 1) (l.length - n) (cap - n)) (l.drop n) := fun w' h => byt_drop h n hnl
    have HBT := Lib.hid hbt
    have HBD := Lib.hid hbd
    clear hbt hbd
    have hop : openErr l = if l.drop n = four (rsum (l.take n)) then 0 else 5 := by
      unfold openErr; rw [if_neg h4, hn4]
    have HOP := Lib.hid hop
    clear hop
    obtain ⟨eqb, heqb⟩ : ∃ b : Bool, (l.drop n == four (rsum (l.take n))) = b := ⟨_, rfl⟩
    have HEQ := Lib.hid heqb
    clear heqb
    go_enter Tryd.func57, Tryd.ntmps57
    go_wp2_with fail
    refine wp_phi (fun w' => Byt w' (.slice p l.length cap) l ∧ HalfTab w' ∧ Below w.heap.size w w')
      [(6, PBytL [l.take n]), (7, PVal (.int .u32 (n32 (rsum (l.take n))))), (8, PByt (four (rsum (l.take n)))), (9, PVal (.bool eqb))] [(7, [6]), (9, [8])] (by kernel_rfl) (by kernel_rfl) ?_ ?_ ⟨HV.out, ht, (Below.refl _ _).drew⟩ ?_
    · rintro w1 w2 ⟨a1, a2, a3⟩ hb
      exact ⟨a1.below hb, a2.keep (Below.keeps hb), a3.trans (hb.mono a3.size)⟩
    · simp only [List.mem_cons, List.not_mem_nil, or_false, forall_eq_or_imp, forall_eq]
      exact ⟨fun _ _ _ _ h => PBytL_stays _ _ _ _ h, fun _ _ _ _ h => PVal_stays _ _ _ _ h, fun _ _ _ _ h => PByt_stays _ _ _ _ h, fun _ _ _ _ h => PVal_stays _ _ _ _ h⟩
    repeat (refine phi_pureK rfl rfl (fun K hK => ?_); apply Exists.intro; constructor; (focus (rintro w' ⟨hI1, hI2, hI3⟩; clear hI1 hI2 hI3; first | (go_simp; done) | (go_simp; (try go_bits); (try go_simp); rfl) | go_simp)); simp only [Act.put, List.setIfInBounds_toArray, List.set_cons_succ, List.set_cons_zero]; (try simp only [List.cons_append]); (try simp only [List.nil_append]); apply hK; clear hK K)
    refine phi_partK (PBytL [l.take n]) rfl rfl ⟨_, none, 0, rfl⟩ ?_ (fun K hK v hv => ?_)
    · rintro w' ⟨hI1, hI2, hI3⟩ _
      have hI4 := Lib.hid (HBT.out w' hI1)
      clear hI1 hI2 hI3
      unfold gives
      go_simp
      exact ⟨⟨_, _, rfl⟩, bytL_one hI4.out _ _ _ rfl, below_alloc1 _ _⟩
    obtain ⟨p', c', rfl⟩ := hv
    simp only [Act.put, List.setIfInBounds_toArray, List.set_cons_succ, List.set_cons_zero]; (try simp only [List.cons_append]); (try simp only [List.nil_append])
    apply hK
    clear hK K
    refine phi_partK (PVal (.int .u32 (n32 (rsum (l.take n))))) rfl rfl ⟨_, rfl⟩ ?_ (fun K hK v hv => ?_)
    · rintro w' ⟨hI1, hI2, hI3⟩ hf
      have hb : BytL w' _ [l.take n] := hf (6, fun w => (PBytL [l.take n]).fact w (.slice p' 1 c')) (by simp) (List.contains_iff_mem.1 rfl)
      unfold gives
      clear hf hI1 hI3
      go_simp
      refine (sum_any _ [l.take n] _ hI2 hb).mono ?_
      rintro e w'' ⟨rfl, rfl⟩
      exact ⟨_, rfl, by rw [csums_one, csum_zero]; rfl, trivial, Below.refl _ _⟩
    obtain rfl : v = _ := hv
    simp only [Act.put, List.setIfInBounds_toArray, List.set_cons_succ, List.set_cons_zero]; (try simp only [List.cons_append]); (try simp only [List.nil_append])
    apply hK
    clear hK K
    refine phi_partK (PByt (four (rsum (l.take n)))) rfl rfl ⟨_, none, 0, rfl⟩ ?_ (fun K hK v hv => ?_)
    · rintro w' ⟨hI1, hI2, hI3⟩ hf
      unfold gives
      clear hf hI1 hI2 hI3
      go_simp
      refine (four_any (rsum (l.take n)) w').mono ?_
      rintro e w'' ⟨v, rfl, hby, hb⟩
      have hby' := hby
      obtain ⟨q, c, rfl, _⟩ := hby'
      exact ⟨_, rfl, ⟨q, c, rfl⟩, hby, hb⟩
    obtain ⟨p'', c'', rfl⟩ := hv
    simp only [Act.put, List.setIfInBounds_toArray, List.set_cons_succ, List.set_cons_zero]; (try simp only [List.cons_append]); (try simp only [List.nil_append])
    apply hK
    clear hK K
    refine phi_partK (PVal (.bool eqb)) rfl rfl ⟨_, rfl⟩ ?_ (fun K hK v hv => ?_)
    · rintro w' ⟨hI1, hI2, hI3⟩ hf
      have hb : Byt w' _ (four (rsum (l.take n))) := hf (8, fun w => (PByt (four (rsum (l.take n)))).fact w (.slice p'' (four (rsum (l.take n))).length c'')) (by simp) (List.contains_iff_mem.1 rfl)
      have hI4 := Lib.hid (HBD.out w' hI1)
      unfold gives
      clear hf hI1 hI2 hI3
      go_simp
      refine (equal_any _ _ (l.drop n) (four (rsum (l.take n))) w' hI4.out hb).mono ?_
      rintro e w'' ⟨rfl, hb⟩
      exact ⟨_, rfl, by rw [HEQ.out]; rfl, trivial, hb⟩
    obtain rfl : v = _ := hv
    simp only [Act.put, List.setIfInBounds_toArray, List.set_cons_succ, List.set_cons_zero]; (try simp only [List.cons_append]); (try simp only [List.nil_append])
    apply hK
    clear hK K
    repeat (refine phi_pureK rfl rfl (fun K hK => ?_); apply Exists.intro; constructor; (focus (rintro w' ⟨hI1, hI2, hI3⟩; clear hI1 hI2 hI3; first | (go_simp; done) | (go_simp; (try go_bits); (try go_simp); rfl) | go_simp)); simp only [Act.put, List.setIfInBounds_toArray, List.set_cons_succ, List.set_cons_zero]; (try simp only [List.cons_append]); (try simp only [List.nil_append]); apply hK; clear hK K)
    refine phi_done ?_
    rintro w1 ⟨hB1, ht1, hbw⟩ _
    refine wpList_nil ?_
    have HB1 := Lib.hid hB1
    clear hB1
    cases eqb with
    | true =>
      have hE0 : openErr l = 0 := by rw [HOP.out, if_pos (beq_iff_eq.1 HEQ.out)]
      have HE0 := Lib.hid hE0
      clear hE0
      simp only [Bool.not_true]
      go_wp2_with fail
      refine (clone_any _ (l.take n) w1 (by simp; omega) (HBT.out w1 HB1.out)).mono ?_
      rintro e w2 ⟨v2, rfl, hby, hb2⟩
      have HBY := Lib.hid (owns_lower hby hbw.size)
      clear hby
      go_wp2_with fail
      go_ret2
      refine ⟨_, by rw [HE0.out]; rfl, ?_, hbw.trans (hb2.mono hbw.size)⟩
      unfold openRes
      rw [HE0.out, if_pos rfl, hn4]
      exact HBY.out
    | false =>
      have hE0 : openErr l = 5 := by rw [HOP.out, if_neg (beq_eq_false_iff_ne.1 HEQ.out)]
      have HE0 := Lib.hid hE0
      clear hE0
      simp only [Bool.not_false]
      have hs := hbw.size
      go_wp2_with fail
      refine wp_phi (fun w' => Errs w' E ∧ Below w.heap.size w w') [] [] (by kernel_rfl) (by kernel_rfl) ?_ ?_ ⟨(HE.out.below hbw).below ((Below.refl _ _).drew), hbw.drew⟩ ?_
      · rintro w1 w2 ⟨a1, a2⟩ hb
        exact ⟨a1.below hb, a2.trans (hb.mono a2.size)⟩
      · intro p hp; cases hp
      repeat (refine phi_pureK rfl rfl (fun K hK => ?_); apply Exists.intro; constructor; (rintro w' ⟨hI1, hI2⟩; have s1 := hI1.cell 4 (by omega); simp only [errVar, List.getD_cons_zero, List.getD_cons_succ] at s1; clear hI1 hI2; first | (go_simp; (try go_bits); (try go_simp); rfl) | go_simp); simp only [Act.put, List.setIfInBounds_toArray, List.set_cons_succ, List.set_cons_zero]; (try simp only [List.cons_append]); (try simp only [List.nil_append]); apply hK; clear hK K)
      refine phi_done ?_
      rintro w2 ⟨_, hbw2⟩ _
      refine wpList_nil ?_
      go_wp2_with fail
      go_ret2
      refine ⟨_, by rw [HE0.out]; rfl, ?_, hbw2⟩
      unfold openRes
      rw [HE0.out]
      exact ⟨rfl, .inl ⟨rfl, rfl⟩⟩
end Go.Proofs.YtoiknidlincdkaaDoor
