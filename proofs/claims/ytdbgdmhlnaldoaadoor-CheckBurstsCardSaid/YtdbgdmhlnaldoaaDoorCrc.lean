/-
  Crc: the walks of check.Next, check.Sum, liaisonref04.Register and liaisonref04.Sum: what each computes, as a plain function.
-/
import Derived.Test.YtdbgdmhlnaldoaaDoorBase
import Derived.Test.YtdbgdmhlnaldoaaDoorProg
namespace Go.Proofs.YtdbgdmhlnaldoaaDoor
open Go.RowKit

/-! ### the plain functions -/
def halfL : List (BitVec 32) := [0x00000000, 0x1db71064, 0x3b6e20c8, 0x26d930ac, 0x76dc4190, 0x6b6b51f4, 0x4db26158, 0x5005713c,
  0xedb88320, 0xf00f9344, 0xd6d6a3e8, 0xcb61b38c, 0x9b64c2b0, 0x86d3d2d4, 0xa00ae278, 0xbdbdf21c]
def half (k : Nat) : BitVec 32 := halfL.getD k 0
def c8 (c : UInt8) : BitVec 32 := BitVec.ofNat 32 c.toNat
def n15 (x : BitVec 32) : Nat := (x &&& 15#32).toNat
def sh4 (x : BitVec 32) : BitVec 32 := x >>> 4
def nib (x : BitVec 32) : BitVec 32 := sh4 x ^^^ half (n15 x)
def nibs (x : BitVec 32) : Nat → BitVec 32
  | 0 => x
  | k + 1 => nib (nibs x k)
def cnext (s : BitVec 32) (c : UInt8) : BitVec 32 := ~~~ (nibs (~~~ s ^^^ c8 c) 2)
def csum (s : BitVec 32) (l : List UInt8) : BitVec 32 := l.foldl cnext s

/-- the table's cells -/
def HalfTab (w : World) : Prop := ∀ k, k < 16 → w.cell? ⟨0, k, none⟩ = some (.int .u32 (n32 (half k)))
theorem HalfTab.below {B : Nat} {w w' : World} (h : HalfTab w) (hb : Below B w w') (hB : 0 < B) : HalfTab w' :=
  fun k hk => (hb.cell (p := ⟨0, k, none⟩) hB).trans (h k hk)
theorem HalfTab.keep {w w' : World} (h : HalfTab w) (hk : ∀ a v, w.cell? a = some v → w'.cell? a = some v) : HalfTab w' := fun k hk' => hk _ _ (h k hk')
theorem HalfTab.lt {w : World} (h : HalfTab w) : 0 < w.heap.size := cell_lt (h 0 (by omega))

theorem c8_nat (c : UInt8) : (c8 c).toNat = c.toNat := by
  have := c.toNat_lt
  simp only [c8, BitVec.toNat_ofNat]; omega
theorem bits32_xor_u8 (x : BitVec 32) (c : UInt8) : bits .xor .u32 (n32 x) (c.toNat : Int) = n32 (x ^^^ c8 c) := by
  rw [← c8_nat c]; exact bits32_xor _ _
theorem bits32_and15 (x : BitVec 32) : bits .and .u32 (n32 x) 15 = (n15 x : Int) := bits32_and x 15#32
theorem shr4 (x : BitVec 32) : n32 x / 16 = n32 (sh4 x) := by
  unfold n32 sh4
  rw [BitVec.toNat_ushiftRight, Nat.shiftRight_eq_div_pow]; omega
theorem n15_lt (x : BitVec 32) : n15 x < 16 := by
  unfold n15
  rw [BitVec.toNat_and]
  have : x.toNat &&& (15#32).toNat ≤ 15 := Nat.and_le_right
  omega

section
attribute [local go_sem] bits32_xor bits32_xor_u8 bits32_and15 bits32_not shr4
set_option maxHeartbeats 400000 in
theorem next_any (x : BitVec 32) (b : UInt8) (w : World) (ht : HalfTab w) :
    Calls Tryd.prog 11 #[.int .u32 (n32 x), .int .u8 b.toNat] w fun e w' => e = .returned (.int .u32 (n32 (cnext x b))) ∧ w = w' := by
  have hb := b.toNat_lt
  have hx := n32_bd x
  go_enter Tryd.func11, Tryd.ntmps11
  go_wp2_with fail
  go_loop [5, 11] (fun v i => ∃ k : Nat, k ≤ 2 ∧ i = .int .i64 k ∧ v = .int .u32 (n32 (nibs (~~~ x ^^^ c8 b) k))) (fun _ i => 2 - (intOf i).toNat)
  case atStart => exact ⟨0, by omega, rfl, rfl⟩
  case round =>
    obtain ⟨k, hk, rfl, rfl⟩ := hrel
    by_cases hlt : k < 2
    · have h15 := n15_lt (nibs (~~~ x ^^^ c8 b) k)
      have hbd := n32_bd (nibs (~~~ x ^^^ c8 b) k)
      have hc := ht _ h15
      clear ht
      go_wp2_with fail
      go_round
      case rel => exact ⟨k + 1, by omega, by go_num, rfl⟩
      case measure => simp [intOf]; omega
    · obtain rfl : k = 2 := by omega
      go_wp2_with fail
      go_ret
      exact ⟨rfl, rfl⟩
end

theorem csum_take (s : BitVec 32) (l : List UInt8) (k : Nat) (h : k < l.length) : csum s (l.take (k + 1)) = cnext (csum s (l.take k)) l[k] := by
  unfold csum; rw [List.take_succ_eq_append_getElem h, List.foldl_append]; rfl
def csums (s : BitVec 32) (ls : List (List UInt8)) : BitVec 32 := ls.foldl csum s
theorem csums_take (s : BitVec 32) (ls : List (List UInt8)) (k : Nat) (h : k < ls.length) : csums s (ls.take (k + 1)) = csum (csums s (ls.take k)) ls[k] := by
  unfold csums; rw [List.take_succ_eq_append_getElem h, List.foldl_append]; rfl

set_option maxHeartbeats 800000 in
theorem sum_any (v : Value) (ls : List (List UInt8)) (w : World) (ht : HalfTab w) (hv : BytL w v ls) :
    Calls Tryd.prog 9 #[v] w fun e w' => e = .returned (.int .u32 (n32 (csums 0 ls))) ∧ w = w' := by
  obtain ⟨p, cap, vs, rfl, h1, h2, h3, h4, h5⟩ := hv
  have H5 := Lib.hid h5; clear h5
  have H4 := Lib.hid h4; clear h4
  unfold maxLen at h2
  go_enter Tryd.func9, Tryd.ntmps9
  go_wp2_with fail
  go_loop [3, 10] (fun v i => ∃ k : Nat, k ≤ ls.length ∧ i = .int .i64 k ∧ v = .int .u32 (n32 (csums 0 (ls.take k)))) (fun _ i => ls.length - (intOf i).toNat)
  case atStart => exact ⟨0, by omega, rfl, rfl⟩
  case round =>
    obtain ⟨k, hk, rfl, rfl⟩ := hrel
    by_cases hlt : k < ls.length
    · obtain ⟨b, off, q, cq, rfl, hc, hq1, hq2, hq3⟩ := bytL_cell h3 H5.out hlt
      have hst := Lib.hid (csums_take 0 ls k hlt)
      generalize csums 0 (ls.take k) = s0 at *
      generalize ls[k] = l at *
      unfold maxLen at hq2
      go_wp2_with fail
      clear hc
      go_loop [3, 16] (fun v i => ∃ j : Nat, j ≤ l.length ∧ i = .int .i64 j ∧ v = .int .u32 (n32 (csum s0 (l.take j)))) (fun _ i => l.length - (intOf i).toNat)
      case atStart => exact ⟨0, by omega, rfl, rfl⟩
      case round =>
        obtain ⟨j, hj, rfl, rfl⟩ := hrel
        by_cases hjt : j < l.length
        · obtain ⟨b2, off2, rfl, hc2⟩ := byt_cell hq3 hjt
          have hs2 := Lib.hid (csum_take s0 l j hjt)
          generalize csum s0 (l.take j) = s1 at *
          generalize l[j] = c at *
          go_wp2_with (go_at_call 11; refine (next_any _ _ _ ht).mono ?_; rintro e w' ⟨rfl, rfl⟩)
          go_round
          case rel => exact ⟨j + 1, by omega, by go_num, by rw [hs2.out]⟩
          case measure => simp [intOf]; omega
        · obtain rfl : j = l.length := by omega
          rw [List.take_of_length_le (Nat.le_refl _)]
          go_wp2_with fail
          go_round
          case rel => exact ⟨k + 1, by omega, by go_num, by rw [hst.out]⟩
          case measure => simp [intOf]; omega
    · obtain rfl : k = ls.length := by omega
      go_wp2_with fail
      go_ret
      exact ⟨by simp, rfl⟩

/-! ### the reference, bit by bit -/
def sh1 (x : BitVec 32) : BitVec 32 := x >>> 1
def rb (x : BitVec 32) (c : UInt8) (k : Nat) : BitVec 32 := (x &&& 1#32) ^^^ ((c8 c >>> k) &&& 1#32)
def rbit (x : BitVec 32) (c : UInt8) (k : Nat) : Bool := rb x c k == 1#32
def poly : BitVec 32 := 0xedb88320#32
def pxor (x : BitVec 32) : BitVec 32 := x ^^^ poly
def rstep (c : UInt8) (x : BitVec 32) (k : Nat) : BitVec 32 := if rbit x c k then pxor (sh1 x) else sh1 x
def reg (x : BitVec 32) (c : UInt8) : Nat → BitVec 32
  | 0 => x
  | k + 1 => rstep c (reg x c k) k
theorem bits32_rb (x : BitVec 32) (c : UInt8) (k : Nat) :
    bits .xor .u32 (bits .and .u32 (n32 x) 1) (bits .and .u32 ((c.toNat : Int) / 2 ^ k % 4294967296) 1) = n32 (rb x c k) := by
  have hs : (c8 c >>> k).toNat = c.toNat / 2 ^ k := by rw [BitVec.toNat_ushiftRight, Nat.shiftRight_eq_div_pow, c8_nat]
  have e : ((c.toNat : Int) / 2 ^ k % 4294967296) = n32 (c8 c >>> k) := by
    unfold n32
    rw [hs]
    have h1 : c.toNat / 2 ^ k ≤ c.toNat := Nat.div_le_self _ _
    have h2 := c.toNat_lt
    have h3 : ((c.toNat : Int) / 2 ^ k) = ((c.toNat / 2 ^ k : Nat) : Int) := by simp
    rw [h3]; omega
  rw [e, show bits .and .u32 (n32 x) 1 = n32 (x &&& 1#32) from bits32_and x 1#32, show bits .and .u32 (n32 (c8 c >>> k)) 1 = n32 ((c8 c >>> k) &&& 1#32) from bits32_and _ 1#32, bits32_xor]
  rfl
theorem rb_eq1 (x : BitVec 32) (c : UInt8) (k : Nat) : (n32 (rb x c k) == 1) = rbit x c k := n32_beq (rb x c k) 1#32
theorem shr1 (x : BitVec 32) : n32 x / 2 = n32 (sh1 x) := by
  unfold n32 sh1
  rw [BitVec.toNat_ushiftRight, Nat.shiftRight_eq_div_pow]; omega
theorem bits32_poly (x : BitVec 32) : bits .xor .u32 (n32 x) 3988292384 = n32 (pxor x) := bits32_xor x poly
theorem bits32_ones (x : BitVec 32) : bits .xor .u32 (n32 x) 4294967295 = n32 (~~~ x) := by
  rw [show (4294967295 : Int) = n32 (BitVec.allOnes 32) from by decide, bits32_xor, BitVec.xor_allOnes]

section
attribute [local go_sem] bits32_rb rb_eq1 shr1 bits32_poly
set_option maxHeartbeats 400000 in
theorem register_any (x : BitVec 32) (b : UInt8) (w : World) :
    Calls Tryd.prog 18 #[.int .u32 (n32 x), .int .u8 b.toNat] w fun e w' => e = .returned (.int .u32 (n32 (reg x b 8))) ∧ w = w' := by
  have hb := b.toNat_lt
  go_enter Tryd.func18, Tryd.ntmps18
  go_wp2_with fail
  go_loop [0, 5] (fun v i => ∃ k : Nat, k ≤ 8 ∧ i = .int .i64 k ∧ v = .int .u32 (n32 (reg x b k))) (fun _ i => 8 - (intOf i).toNat)
  case atStart => exact ⟨0, by omega, rfl, rfl⟩
  case round =>
    obtain ⟨k, hk, rfl, rfl⟩ := hrel
    by_cases hlt : k < 8
    · have hbd := n32_bd (reg x b k)
      cases hr : rbit (reg x b k) b k
      · have he := Lib.hid (show reg x b (k + 1) = sh1 (reg x b k) by simp [reg, rstep, hr])
        go_wp2_with fail
        go_round
        case rel => exact ⟨k + 1, by omega, by go_num, by rw [he.out]⟩
        case measure => simp [intOf]; omega
      · have he := Lib.hid (show reg x b (k + 1) = pxor (sh1 (reg x b k)) by simp [reg, rstep, hr])
        go_wp2_with fail
        go_round
        case rel => exact ⟨k + 1, by omega, by go_num, by rw [he.out]⟩
        case measure => simp [intOf]; omega
    · obtain rfl : k = 8 := by omega
      go_wp2_with fail
      go_ret
      exact ⟨rfl, rfl⟩
end

def rnext (x : BitVec 32) (c : UInt8) : BitVec 32 := reg x c 8
def rregs (x : BitVec 32) (l : List UInt8) : BitVec 32 := l.foldl rnext x
def rsum (l : List UInt8) : BitVec 32 := ~~~ (rregs (BitVec.allOnes 32) l)
theorem rregs_take (s : BitVec 32) (l : List UInt8) (k : Nat) (h : k < l.length) : rregs s (l.take (k + 1)) = rnext (rregs s (l.take k)) l[k] := by
  unfold rregs; rw [List.take_succ_eq_append_getElem h, List.foldl_append]; rfl
theorem ones_u32 : n32 (BitVec.allOnes 32) = 4294967295 := by decide

section
attribute [local go_sem] bits32_ones
set_option maxHeartbeats 400000 in
theorem refsum_any (v : Value) (l : List UInt8) (w : World) (hv : Byt w v l) :
    Calls Tryd.prog 10 #[v] w fun e w' => e = .returned (.int .u32 (n32 (rsum l))) ∧ w = w' := by
  obtain ⟨p, cap, rfl, h1, h2, h3⟩ := hv
  unfold maxLen at h2
  go_enter Tryd.func10, Tryd.ntmps10
  go_wp2_with fail
  go_loop [3, 8] (fun v i => ∃ j : Nat, j ≤ l.length ∧ i = .int .i64 j ∧ v = .int .u32 (n32 (rregs (BitVec.allOnes 32) (l.take j)))) (fun _ i => l.length - (intOf i).toNat)
  case atStart => exact ⟨0, by omega, rfl, by rw [← ones_u32]; rfl⟩
  case round =>
    obtain ⟨j, hj, rfl, rfl⟩ := hrel
    by_cases hjt : j < l.length
    · obtain ⟨b2, off2, rfl, hc2⟩ := byt_cell h3 hjt
      have hs2 := Lib.hid (rregs_take (BitVec.allOnes 32) l j hjt)
      generalize rregs (BitVec.allOnes 32) (l.take j) = s1 at *
      generalize l[j] = c at *
      go_wp2_with (go_at_call 18; refine (register_any _ _ _).mono ?_; rintro e w' ⟨rfl, rfl⟩)
      go_round
      case rel => exact ⟨j + 1, by omega, by go_num, by rw [hs2.out]; rfl⟩
      case measure => simp [intOf]; omega
    · obtain rfl : j = l.length := by omega
      rw [List.take_of_length_le (Nat.le_refl _)]
      go_wp2_with fail
      go_ret
      exact ⟨rfl, rfl⟩
end

/-! ### the plain law: both are one -/
def bstep (x : BitVec 32) : BitVec 32 := (x >>> 1) ^^^ (if x.getLsbD 0 then poly else 0)
def bsteps (x : BitVec 32) : Nat → BitVec 32
  | 0 => x
  | k + 1 => bstep (bsteps x k)
theorem xor_left (x y z : BitVec 32) : x ^^^ (y ^^^ z) = y ^^^ (x ^^^ z) := by rw [← BitVec.xor_assoc, BitVec.xor_comm x y, BitVec.xor_assoc]
theorem xor_twice (x y : BitVec 32) : x ^^^ (x ^^^ y) = y := by rw [← BitVec.xor_assoc, BitVec.xor_self, BitVec.zero_xor]
theorem bstep_xor (x y : BitVec 32) : bstep (x ^^^ y) = bstep x ^^^ bstep y := by
  unfold bstep
  rw [BitVec.ushiftRight_xor_distrib, BitVec.getLsbD_xor]
  cases x.getLsbD 0 <;> cases y.getLsbD 0 <;> simp [BitVec.xor_assoc, BitVec.xor_comm, xor_left, xor_twice]
theorem bsteps_xor (x y : BitVec 32) (k : Nat) : bsteps (x ^^^ y) k = bsteps x k ^^^ bsteps y k := by
  induction k with
  | zero => rfl
  | succ k ih => simp only [bsteps, ih, bstep_xor]
theorem bsteps_add (x : BitVec 32) (j k : Nat) : bsteps x (j + k) = bsteps (bsteps x j) k := by
  induction k with
  | zero => rfl
  | succ k ih => rw [← Nat.add_assoc]; simp only [bsteps, ih]
theorem bsteps_low (x : BitVec 32) (k : Nat) (h : ∀ i, i < k → x.getLsbD i = false) : bsteps x k = x >>> k := by
  induction k with
  | zero => simp [bsteps]
  | succ k ih =>
    simp only [bsteps]
    rw [ih (fun i hi => h i (by omega))]
    have h0 : (x >>> k).getLsbD 0 = false := by simp [h k (by omega)]
    unfold bstep
    rw [h0]
    simp [BitVec.shiftRight_add]
theorem bsteps_half : ∀ k : Fin 16, bsteps (BitVec.ofNat 32 k.val) 4 = half k.val := by decide
theorem nib_eq (x : BitVec 32) : nib x = bsteps x 4 := by
  have hx : x = (x &&& ~~~ 15#32) ^^^ (x &&& 15#32) := by
    apply BitVec.eq_of_getLsbD_eq
    intro i hi
    simp only [BitVec.getLsbD_xor, BitVec.getLsbD_and, BitVec.getLsbD_not, hi]
    cases x.getLsbD i <;> cases (15#32).getLsbD i <;> simp
  have h1 : bsteps (x &&& ~~~ 15#32) 4 = x >>> 4 := by
    rw [bsteps_low]
    · apply BitVec.eq_of_getLsbD_eq
      intro i hi
      simp only [BitVec.getLsbD_ushiftRight, BitVec.getLsbD_and, BitVec.getLsbD_not]
      by_cases h32 : 4 + i < 32
      · have hf : ∀ j : Fin 28, (15#32).getLsbD (4 + j.val) = false := by decide
        rw [hf ⟨i, by omega⟩]
        simp [h32]
      · simp [BitVec.getLsbD_of_ge _ _ (show 32 ≤ 4 + i by omega)]
    · intro i hi
      have : ∀ j : Fin 4, (15#32).getLsbD j.val = true := by decide
      simp only [BitVec.getLsbD_and, BitVec.getLsbD_not]
      simp [this ⟨i, hi⟩]
  have h2 : bsteps (x &&& 15#32) 4 = half (n15 x) := by
    have := bsteps_half ⟨n15 x, n15_lt x⟩
    rw [← this]
    congr 1
    apply BitVec.eq_of_toNat_eq
    rw [BitVec.toNat_ofNat]
    exact (Nat.mod_eq_of_lt (x &&& 15#32).isLt).symm
  conv => rhs; rw [hx]
  rw [bsteps_xor, h1, h2]
  rfl
theorem reg_inv (x : BitVec 32) (c : UInt8) (k : Nat) : reg x c k ^^^ (c8 c >>> k) = bsteps (x ^^^ c8 c) k := by
  induction k with
  | zero => simp [reg, bsteps]
  | succ k ih =>
    simp only [reg, bsteps]
    rw [← ih, bstep_xor]
    have hb : rbit (reg x c k) c k = ((reg x c k).getLsbD 0 ^^ (c8 c >>> k).getLsbD 0) := by
      unfold rbit rb
      generalize reg x c k = y
      generalize c8 c >>> k = z
      have e1 : ∀ y : BitVec 32, y &&& 1#32 = if y.getLsbD 0 then 1#32 else 0#32 := by
        intro y
        apply BitVec.eq_of_getLsbD_eq
        intro i hi
        rw [BitVec.getLsbD_and]
        cases i with
        | zero => cases y.getLsbD 0 <;> rfl
        | succ i =>
          have : (1#32).getLsbD (i + 1) = false := by simp [BitVec.getLsbD_one]
          rw [this]
          cases y.getLsbD 0 <;> simp [BitVec.getLsbD_one]
      rw [e1 y, e1 z]
      cases y.getLsbD 0 <;> cases z.getLsbD 0 <;> decide
    unfold rstep
    rw [hb]
    generalize reg x c k = y
    have e2 : c8 c >>> (k + 1) = (c8 c >>> k) >>> 1 := by rw [BitVec.shiftRight_add]
    rw [e2]
    generalize c8 c >>> k = z
    unfold bstep sh1 pxor
    cases y.getLsbD 0 <;> cases z.getLsbD 0 <;> simp [BitVec.xor_assoc, BitVec.xor_comm, xor_left, xor_twice]
theorem rnext_eq (x : BitVec 32) (c : UInt8) : rnext x c = nibs (x ^^^ c8 c) 2 := by
  have h := reg_inv x c 8
  have hz : c8 c >>> 8 = 0#32 := by
    apply BitVec.eq_of_toNat_eq
    rw [BitVec.toNat_ushiftRight, Nat.shiftRight_eq_div_pow, c8_nat]
    have := c.toNat_lt
    simp; omega
  rw [hz] at h
  simp only [BitVec.xor_zero] at h
  show reg x c 8 = nib (nib (x ^^^ c8 c))
  rw [h, nib_eq, nib_eq, ← bsteps_add]
theorem cnext_eq (s : BitVec 32) (c : UInt8) : cnext s c = ~~~ rnext (~~~ s) c := by rw [rnext_eq]; rfl
theorem csum_eq (s : BitVec 32) (l : List UInt8) : csum s l = ~~~ rregs (~~~ s) l := by
  induction l generalizing s with
  | nil => simp [csum, rregs]
  | cons c l ih =>
    show csum (cnext s c) l = ~~~ rregs (rnext (~~~ s) c) l
    rw [ih, cnext_eq, BitVec.not_not]
theorem csum_zero (l : List UInt8) : csum 0 l = rsum l := by rw [csum_eq]; rfl
theorem csum_append (s : BitVec 32) (l m : List UInt8) : csum s (l ++ m) = csum (csum s l) m := by simp [csum]
theorem csums_eq (s : BitVec 32) (ls : List (List UInt8)) : csums s ls = csum s ls.flatten := by
  induction ls generalizing s with
  | nil => rfl
  | cons l ls ih => rw [List.flatten_cons, csum_append]; exact ih (csum s l)
theorem csums_rsum (ls : List (List UInt8)) : csums 0 ls = rsum ls.flatten := by rw [csums_eq, csum_zero]
theorem cnext_rsum (l : List UInt8) (c : UInt8) : cnext (rsum l) c = rsum (l ++ [c]) := by
  rw [← csum_zero, ← csum_zero, csum_append]; rfl

theorem csums_one (s : BitVec 32) (l : List UInt8) : csums s [l] = csum s l := rfl
/-! ### three rows' odd bits -/
def odds : List UInt8 → List UInt8 → List UInt8 → List UInt8
  | x :: a, y :: b, z :: c => bx (bx x y) z :: odds a b c
  | _, _, _ => []
theorem odds_get : ∀ (a b c : List UInt8) (k : Nat) (ha : k < a.length) (hb : k < b.length) (hc : k < c.length), (odds a b c)[k]? = some (bx (bx a[k] b[k]) c[k])
  | x :: a, y :: b, z :: c, 0, _, _, _ => rfl
  | x :: a, y :: b, z :: c, k + 1, ha, hb, hc => by
    simp only [odds, List.getElem?_cons_succ, List.getElem_cons_succ]
    exact odds_get a b c k (by simpa using ha) (by simpa using hb) (by simpa using hc)
  | [], _, _, _, ha, _, _ => by simp at ha
  | _ :: _, [], _, _, _, hb, _ => by simp at hb
  | _ :: _, _ :: _, [], _, _, _, hc => by simp at hc
theorem odds_take (a b c : List UInt8) (k : Nat) (ha : k < a.length) (hb : k < b.length) (hc : k < c.length) :
    (odds a b c).take (k + 1) = (odds a b c).take k ++ [bx (bx a[k] b[k]) c[k]] := by
  rw [List.take_add_one, odds_get a b c k ha hb hc]; rfl
theorem odds_len : ∀ (a b c : List UInt8), (odds a b c).length = min3 a.length b.length c.length
  | x :: a, y :: b, z :: c => by
    simp only [odds, List.length_cons, odds_len a b c, min3]; omega
  | [], _, _ => by simp [odds, min3]
  | _ :: _, [], _ => by simp [odds, min3]
  | _ :: _, _ :: _, [] => by simp [odds, min3]
theorem c8_bx (x y : UInt8) : c8 (bx x y) = c8 x ^^^ c8 y := by
  apply BitVec.eq_of_toNat_eq
  rw [BitVec.toNat_xor, c8_nat, c8_nat, c8_nat]; unfold bx; rw [UInt8.toNat_xor]
theorem rnext_lin (s1 s2 s3 : BitVec 32) (x y z : UInt8) : rnext (s1 ^^^ s2 ^^^ s3) (bx (bx x y) z) = rnext s1 x ^^^ rnext s2 y ^^^ rnext s3 z := by
  have e : ∀ s c, rnext s c = bsteps (s ^^^ c8 c) 8 := by
    intro s c
    rw [rnext_eq, show (8 : Nat) = 4 + 4 from rfl, bsteps_add, ← nib_eq, ← nib_eq]; rfl
  rw [e, e, e, e, ← bsteps_xor, ← bsteps_xor, c8_bx, c8_bx]
  congr 1
  simp only [BitVec.xor_assoc, BitVec.xor_comm, xor_left]
theorem rregs_lin : ∀ (a b c : List UInt8) (s1 s2 s3 : BitVec 32), a.length = b.length → b.length = c.length →
    rregs (s1 ^^^ s2 ^^^ s3) (odds a b c) = rregs s1 a ^^^ rregs s2 b ^^^ rregs s3 c
  | [], [], [], _, _, _, _, _ => rfl
  | x :: a, y :: b, z :: c, s1, s2, s3, h1, h2 => by
    show rregs (rnext (s1 ^^^ s2 ^^^ s3) (bx (bx x y) z)) (odds a b c) = rregs (rnext s1 x) a ^^^ rregs (rnext s2 y) b ^^^ rregs (rnext s3 z) c
    rw [rnext_lin]
    exact rregs_lin a b c _ _ _ (by simpa using h1) (by simpa using h2)
  | [], _ :: _, _, _, _, _, h1, _ => by simp at h1
  | [], [], _ :: _, _, _, _, _, h2 => by simp at h2
  | _ :: _, [], _, _, _, _, h1, _ => by simp at h1
  | _ :: _, _ :: _, [], _, _, _, _, h2 => by simp at h2
theorem odds_cut : ∀ (a b c : List UInt8) (n : Nat), n = min3 a.length b.length c.length → odds (a.take n) (b.take n) (c.take n) = odds a b c
  | x :: a, y :: b, z :: c, n, h => by
    obtain ⟨m, rfl⟩ : ∃ m, n = m + 1 := ⟨n - 1, by unfold min3 at h; simp at h; omega⟩
    simp only [List.take_succ_cons, odds]
    rw [odds_cut a b c m (by unfold min3 at *; simp at h; omega)]
  | [], _, _, n, _ => by simp [odds]
  | _ :: _, [], _, n, h => by obtain rfl : n = 0 := by unfold min3 at h; simp at h; omega
                              simp [odds]
  | _ :: _, _ :: _, [], n, h => by obtain rfl : n = 0 := by unfold min3 at h; simp at h; omega
                                   simp [odds]
theorem xor3_not (x y z : BitVec 32) : ~~~ (x ^^^ y ^^^ z) = ~~~ x ^^^ ~~~ y ^^^ ~~~ z := by
  have e : ∀ x : BitVec 32, ~~~ x = x ^^^ BitVec.allOnes 32 := fun x => (BitVec.xor_allOnes).symm
  rw [e, e, e, e]
  simp only [BitVec.xor_assoc, BitVec.xor_comm, xor_left, xor_twice]
theorem csum_odds (a b c : List UInt8) (n : Nat) (h : n = min3 a.length b.length c.length) :
    csum 0 (odds a b c) = csum 0 (a.take n) ^^^ csum 0 (b.take n) ^^^ csum 0 (c.take n) := by
  rw [← odds_cut a b c n h]
  simp only [csum_eq]
  have ho : (~~~ (0 : BitVec 32)) = (~~~ (0 : BitVec 32)) ^^^ (~~~ (0 : BitVec 32)) ^^^ (~~~ (0 : BitVec 32)) := by decide
  conv => lhs; rw [ho]
  rw [rregs_lin _ _ _ _ _ _ (by unfold min3 at h; simp; omega) (by unfold min3 at h; simp; omega), xor3_not]
end Go.Proofs.YtdbgdmhlnaldoaaDoor
