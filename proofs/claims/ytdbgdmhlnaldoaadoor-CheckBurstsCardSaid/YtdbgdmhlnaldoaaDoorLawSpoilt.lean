/-
  LawSpoilt: the walk of CheckSpoilt.
-/
import Derived.Test.YtdbgdmhlnaldoaaDoorSpoil
import Derived.Test.YtdbgdmhlnaldoaaDoorLawSums
namespace Go.Proofs.YtdbgdmhlnaldoaaDoor
open Go.RowKit

/-- an int as an unsigned number -/
def u64n (x : Int) : Nat := (x % 18446744073709551616).toNat
theorem u64n_lt (x : Int) : u64n x < 18446744073709551616 := by unfold u64n; omega
theorem u64_conv (x : Int) (w : World) : (convert 3 39 (.int .i64 x)).run Tryd.prog w = .ok (.int .u64 (u64n x : Int)) w := by
  have e : (convert 3 39 (.int .i64 x)).run Tryd.prog w = .ok (.int .u64 (IntKind.u64.wrap x)) w := by
    simp [convert, run_underlying Tryd.underlying3, run_underlying Tryd.underlying39, Conv.intToInt]
  rw [e]
  have : IntKind.u64.wrap x = (u64n x : Int) := by
    unfold u64n
    simp only [IntKind.wrap, IntKind.bits, IntKind.signed]
    simp
    omega
  rw [this]

attribute [local go_sem] bits8_xor bs_toList
set_option maxHeartbeats 1000000 in
theorem spoilt_any (v : Value) (l : List UInt8) (x : Int) (y : UInt8) (w : World) (E : Nat → Addr) (ht : HalfTab w) (he : Errs w E) (hv : Byt w v l) :
    Calls Tryd.prog 7 #[v, .int .i64 x, .int .u8 y.toNat] w fun e w' => e = .returned (.bool true) ∧ Below w.heap.size w w' := by
  have HV := Lib.hid hv
  have HE := Lib.hid he
  obtain ⟨p, cap, rfl, h1, h2, h3⟩ := hv
  unfold maxLen at h2
  clear h3 he
  have hu := u64_conv x
  go_enter Tryd.func7, Tryd.ntmps7
  go_wp2_with fail
  refine (alive_any _ ht).mono ?_
  rintro e w1 ⟨rfl, hb1⟩
  by_cases hl : l.length ≤ 500
  · have hld : decide (500 < (l.length : Int)) = false := by simp; omega
    go_wp2_with fail
    refine (seal_any _ l w1 (ht.keep (Below.keeps hb1)) (by omega) (HV.out.below hb1)).mono ?_
    rintro e w2 ⟨v2, rfl, ho2, hb2⟩
    obtain ⟨p2, c2, hv2, h21, h22, h23⟩ := owns_rd ho2
    subst hv2
    have HO2 := Lib.hid ho2
    clear ho2
    unfold maxLen at h22
    have hsl : (sealed l).length = l.length + 4 := by unfold sealed; rw [List.length_append, four_len]
    obtain ⟨k, hk⟩ : ∃ k, k = u64n x % (l.length + 4) := ⟨_, rfl⟩
    have hkl : k < l.length + 4 := by rw [hk]; exact Nat.mod_lt _ (by omega)
    have hkm : (u64n x : Int) % ((l.length : Int) + 4) = (k : Int) := by rw [hk]; simp
    clear hk
    have hks : k < (sealed l).length := by omega
    obtain ⟨g, cg, cur, hvs, hgb⟩ : ∃ g cap cur, Value.slice p2 (sealed l).length c2 = .slice (some ⟨g, 0, none⟩) (sealed l).length cap ∧ w1.heap.size ≤ g ∧ w2.heap[g]? = some (.cells cur 5 (0, 0)) := by
      rcases HO2.out.2 with ⟨_, h0⟩ | ⟨g, cap, cur, hv, hb, hg, _⟩
      · omega
      · exact ⟨g, cap, cur, hv, hb, hg⟩
    simp only [Value.slice.injEq] at hvs
    obtain ⟨rfl, _, rfl⟩ := hvs
    have hcell : w2.cell? ⟨g, k, none⟩ = some (.int .u8 ((sealed l)[k].toNat : Int)) := by
      have := HO2.out.cellAt k (by omega)
      rw [this, bvs_get _ k hks]
    have hfz : w2.frozen? ⟨g, k, none⟩ = false := HO2.out.frozenAt k
    have hst := HO2.out.stored k (.int .u8 ((bx (sealed l)[k] y).toNat : Int))
    obtain ⟨sp, hsp⟩ : ∃ sp, sp = (sealed l).set k (bx (sealed l)[k] y) := ⟨_, rfl⟩
    have hst2 := hst.1
    have hset : (bvs (sealed l)).set k (.int .u8 ((bx (sealed l)[k] y).toNat : Int)) = bvs sp := by rw [hsp]; simp only [bvs, List.map_set]; rfl
    have hspl : sp.length = (sealed l).length := by rw [hsp]; simp
    rw [hset, ← hspl] at hst2
    have HSAME := Lib.hid (show y = 0 → sp = sealed l from fun h => by rw [hsp, h]; exact spoil_same l k hks)
    have HERR := Lib.hid (show y ≠ 0 → openErr sp = 5 from fun h => by rw [hsp]; exact spoil_err l k hks y h)
    have hsp4 : sp.length = l.length + 4 := by omega
    have HSP4 := Lib.hid hsp4
    have HST := Lib.hid (owns_byt hst2)
    clear hst2 hset hspl hsp hsp4
    have hb3 : Below w.heap.size w (w2.setCell ⟨g, k, none⟩ (.int .u8 ((bx (sealed l)[k] y).toNat : Int))) := (hb1.trans (hb2.mono hb1.size)).setCell (by have := hb1.size; show w.heap.size ≤ g; omega) _
    have HB3 := Lib.hid hb3
    clear hst hb3 h23
    generalize (sealed l)[k] = c at *
    go_wp2_with fail
    have ht3 := ht.keep (Below.keeps HB3.out)
    have he3 := HE.out.below HB3.out
    refine (open_any _ sp _ E ht3 he3 (by rw [HSP4.out]; omega) (by have := HST.out; rwa [HSP4.out] at this)).mono ?_
    rintro e w4 ⟨v4, rfl, hby4, hb4⟩
    have hb5 := HB3.out.trans (hb4.mono HB3.out.size)
    clear hb4 hkm hcell hfz
    by_cases hy : y = 0
    · subst hy
      have hsame : sp = sealed l := HSAME.out rfl
      have hE0 : errV E (openErr sp) = .nilIface := by rw [hsame, (open_sealed l).1]; rfl
      rw [hsame, (open_sealed l).2] at hby4
      have s1 := run_str (P := Tryd.prog) Tryd.underlying24 Tryd.underlying5 Tryd.underlying9 hby4
      have s2 := run_str (P := Tryd.prog) Tryd.underlying24 Tryd.underlying5 Tryd.underlying9 (HV.out.keep (Below.keeps hb5))
      rw [hE0]
      clear hE0 hsame hby4
      have hz : ((UInt8.toNat 0 : Nat) : Int) = 0 := rfl
      rw [hz]
      clear hz
      go_wp2_with fail
      go_ret
      exact ⟨rfl, hb5⟩
    · have hy0 : ((y.toNat : Int) == 0) = false := by
        simp only [beq_eq_false_iff_ne, ne_eq]
        intro h
        exact hy (UInt8.toNat_inj.1 (by simpa using h))
      have hE5 : openErr sp = 5 := HERR.out hy
      rw [openRes_err (by rw [hE5]; decide)] at hby4
      rw [hE5]
      obtain ⟨q, cq, rfl, _, _, _⟩ := hby4
      clear hE5 hy
      have he4 := HE.out.below hb5
      go_wp2_with fail
      refine (num_any w4 E 5 (by omega) he4).mono ?_
      rintro e w6 ⟨rfl, hb6⟩
      go_wp2_with fail
      go_ret
      exact ⟨rfl, hb5.trans (hb6.mono hb5.size)⟩
  · have hld : decide (500 < (l.length : Int)) = true := by simp; omega
    go_wp2_with fail
    go_ret
    exact ⟨rfl, hb1⟩
end Go.Proofs.YtdbgdmhlnaldoaaDoor
