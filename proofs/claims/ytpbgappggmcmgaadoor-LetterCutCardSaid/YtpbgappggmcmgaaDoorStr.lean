/-
  Str: strings of bytes. No program.
-/
import Derived.Test.YtpbgappggmcmgaaDoorBase
import Derived.Lib.Bytes
namespace Go.Proofs.YtpbgappggmcmgaaDoor
open Go.RowKit

/-! ### strings -/
def bs (l : List UInt8) : ByteArray := ⟨l.toArray⟩
theorem bs_toList (l : List UInt8) : (bs l).toList = l := by rw [Lib.toList_data]; rfl
theorem bs_size (l : List UInt8) : (bs l).size = l.length := by simp [bs, ByteArray.size]
theorem bs_append (l m : List UInt8) : bs l ++ bs m = bs (l ++ m) := by
  apply ByteArray.ext
  rw [ByteArray.data_append]; simp [bs]
theorem run_str_add {P : Program} (w : World) (a b : List UInt8) (h : a.length + b.length ≤ 9223372036854775807) :
    (Op.stringOp .add (bs a) (bs b)).run P w = .ok (.string (bs (a ++ b))) w := by
  unfold Op.stringOp
  simp only
  rw [if_neg (by rw [bs_size, bs_size]; show ¬ (IntKind.i64.max < _); simp [IntKind.max, IntKind.signed, IntKind.bits]; omega), bs_append]
  rfl
/-- a slice of bytes as a string -/
theorem run_str {P : Program} {w : World} {t e d : TypeId} {v : Value} {l : List UInt8} (ht : P.underlying t = some (.slice e)) (he : P.underlying e = some (.int .u8)) (hd : P.underlying d = some .string) (h : Byt w v l) :
    (convert t d v).run P w = .ok (.string (bs l)) w := by
  obtain ⟨p, cap, rfl, h1, h2, h3⟩ := h
  have hs : ∀ l : List UInt8, strOfNums (l.map fun c => (c.toNat : Int)) = bs l := by
    intro l
    unfold strOfNums bs
    rw [List.map_map]
    congr 2
    conv => rhs; rw [← List.map_id l]
    refine List.map_congr_left fun c _ => ?_
    simp
  cases p with
  | none =>
    have : l = [] := by
      rcases h3 with h | ⟨b, off, hp, _⟩
      · exact (bvs_nil l).1 h
      · cases hp
    subst this
    rw [run_convert_bytes_nil w t e ht he _ _ d hd]; rfl
  | some a =>
    by_cases hl : l = []
    · subst hl
      have := run_convert_bytes_string w t d e (some a) 0 cap ht he hd
      rw [List.length_nil, this]
      have hld : (loadCells a 0).run P w = .ok (([] : List Int).map (Value.int .u8)).toArray w := by simp [loadCells, loadCellsFrom]
      rw [run_bytesToString w a 0 cap [] hld]
      rfl
    · obtain ⟨b, off, hp, hc⟩ := h3.has (by rw [Ne, bvs_nil]; exact hl)
      cases hp
      rw [run_convert_bytes_arg w t e ht he b off l.length cap (l.map fun c => (c.toNat : Int)) (by simp) (fun i hi => ?_) d hd, hs]
      rw [hc i _ (bvs_get l i hi)]
      simp [hi]

/-- min and max of two -/
theorem run_min2 {P : Program} (w : World) (ts : Array TypeId) (t : TypeId) (k k' : IntKind) (x y z : Int) (h : min x y = z) :
    (Builtin.min_ ts t #[.int k x, .int k' y]).run P w = .ok (.int k z) w := by
  have e : ∀ x y : Int, (if y < x then y else x) = min x y := by intro x y; split <;> omega
  simp only [Builtin.min_, List.foldlM_cons, List.foldlM_nil, Builtin.min2, Sem.run_bind, Sem.run_pure, Result.andThen_ok, e, h]
theorem run_max2 {P : Program} (w : World) (ts : Array TypeId) (t : TypeId) (k k' : IntKind) (x y z : Int) (h : max x y = z) :
    (Builtin.max_ ts t #[.int k x, .int k' y]).run P w = .ok (.int k z) w := by
  have e : ∀ x y : Int, (if x < y then y else x) = max x y := by intro x y; split <;> omega
  simp only [Builtin.max_, List.foldlM_cons, List.foldlM_nil, Builtin.max2, Sem.run_bind, Sem.run_pure, Result.andThen_ok, e, h]
/-- s[:k] of a string -/
theorem bs_extract (l : List UInt8) (i j : Nat) : (bs l).extract i j = bs ((l.drop i).take (j - i)) := by
  apply ByteArray.ext
  rw [ByteArray.data_extract]
  simp [bs, List.extract_toArray, List.extract_eq_take_drop]
theorem run_str_to {P : Program} {t : TypeId} (ht : P.underlying t = some .string) (l : List UInt8) (k : Nat) (hk : k ≤ l.length) (w : World) :
    (Instr.slice t (.string (bs l)) none (some (.int .i64 (k : Int))) none).run P w = .ok (.string (bs (l.take k))) w := by
  have h1 : (0 : Int) ≤ (k : Int) ∧ (k : Int) ≤ (l.length : Int) := by omega
  have h2 := bs_extract l 0 k
  rw [List.drop_zero, Nat.sub_zero] at h2
  simp [Instr.slice, run_underlying ht, Instr.sliceBounds, run_sliceBound, bs_size, h2, hk]
/-- int(uint(x) % m) -/
theorem wrap_mod (x m : Int) (h0 : 0 < m) (h1 : m ≤ 4294967296) : ∃ n : Nat, wrap64 ((IntKind.u64.wrap x).tmod m) = (n : Int) ∧ (n : Int) < m ∧ (n : Int) = (x % 18446744073709551616) % m := by
  have hx : 0 ≤ IntKind.u64.wrap x := by rw [IntKind.wrap_u64]; omega
  rw [Int.tmod_eq_emod_of_nonneg hx, IntKind.wrap_u64]
  have a1 := Int.emod_nonneg (x % 18446744073709551616) (show m ≠ 0 by omega)
  have a2 := Int.emod_lt_of_pos (x % 18446744073709551616) h0
  generalize x % 18446744073709551616 % m = r at *
  refine ⟨r.toNat, ?_, by omega, by omega⟩
  unfold wrap64
  omega
end Go.Proofs.YtpbgappggmcmgaaDoor
