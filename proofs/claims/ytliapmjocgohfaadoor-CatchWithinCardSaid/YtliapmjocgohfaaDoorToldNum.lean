/-
  ToldNum: what told makes of strconv's error.
-/
import Derived.Test.YtliapmjocgohfaaDoorAtoi2
namespace Go.Proofs.YtliapmjocgohfaaDoor
open Go.RowKit Go.Extern.Stop Go.Stop Go.Extern

theorem told1_at (w : World) (c : Nat) (T : TypeId) (v : Value) (b : Addr) (h : Calls Tryd.prog 32 #[.iface T v, errAt b] w fun e w' => e = .returned (.bool false) ∧ w = w') (hc : w.cell? ⟨c, 0, none⟩ = some (.iface T v)) :
    Calls Tryd.prog 39 #[errAt b, .pointer (some ⟨c, 0, none⟩)] w fun e w' => e = .returned (.bool false) ∧ w = w' := by
  have HI := h
  clear h
  unfold errAt at HI ⊢
  go_enter Tryd.func39, Tryd.ntmps39
  go_wp2_with fail
  refine HI.mono ?_
  rintro e w1 ⟨rfl, rfl⟩
  go_wp2_with fail
  go_ret
  exact ⟨rfl, rfl⟩
set_option maxHeartbeats 1000000 in
theorem indexAt_any (w : World) (E : Nat → Addr) (g c : Nat) (T : TypeId) (v : Value) (h : ∀ k, k < 14 → Calls Tryd.prog 32 #[.iface T v, errAt (E k)] w fun e w' => e = .returned (.bool false) ∧ w = w') (hg : Rd w (some ⟨g, 0, none⟩) (errList E)) (hc : w.cell? ⟨c, 0, none⟩ = some (.iface T v)) :
    Calls Tryd.prog 37 #[.slice (some ⟨g, 0, none⟩) 14 14, .func (.func 39) #[] #[.pointer (some ⟨c, 0, none⟩)]] w fun e w' => e = .returned (.int .i64 (-1)) ∧ w = w' := by
  have HA := Lib.hid h
  have HG := Lib.hid hg
  have HC := Lib.hid hc
  clear h hg hc
  go_enter Tryd.func37, Tryd.ntmps37
  go_wp2_with fail
  go_loop [8] (fun i => ∃ k : Nat, k ≤ 14 ∧ i = .int .i64 k) (fun i => 14 - (intOf i).toNat)
  case atStart => exact ⟨0, by omega, rfl⟩
  case round =>
    obtain ⟨k, hk, rfl⟩ := hrel
    by_cases hlt : k < 14
    · obtain ⟨b, off, hp, hcl⟩ := HG.out.has (by simp [errList])
      cases hp
      have hck := hcl k _ (errList_get E k (by omega))
      rw [Nat.zero_add] at hck
      unfold errAt at hck
      clear hcl
      go_wp2_with fail
      refine (told1_at w c T v (E k) (HA.out k hlt) HC.out).mono ?_
      rintro e w' ⟨rfl, rfl⟩
      go_wp2_with fail
      go_round
      case rel => exact ⟨k + 1, by omega, by go_num⟩
      case measure => simp [intOf]; omega
    · obtain rfl : k = 14 := by omega
      go_wp2_with fail
      go_ret
      exact ⟨rfl, rfl⟩
set_option maxRecDepth 20000 in
set_option maxHeartbeats 1000000 in
theorem told_gen (E : Nat → Addr) (T : TypeId) (v : Value) (w0 : World) (h : ∀ w, Below w0.heap.size w0 w → Errs w E → ∀ k, k < 14 → Calls Tryd.prog 32 #[.iface T v, errAt (E k)] w fun e w' => e = .returned (.bool false) ∧ w = w')
    (hta : ∀ w : World, (Instr.typeAssert (.iface T v) 20 25 true).run Tryd.prog w = .ok (.tuple #[.iface T v, .bool true]) w) : Tells w0 (.iface T v) E 12 := by
  intro w hbw he
  have HBW := Lib.hid hbw
  have HE := Lib.hid he
  have HA := Lib.hid h
  have hmf := @run_makeFunc Tryd.prog
  clear he h hbw
  unfold errAt
  go_enter Tryd.func31, Tryd.ntmps31
  go_wp2_with fail
  have hb1 : Below w.heap.size w (w.alloc (.cells #[.iface T v] 25)) := below_alloc1 _ _
  have hc1 : (w.alloc (.cells #[.iface T v] 25)).cell? ⟨w.heap.size, 0, none⟩ = some (.iface T v) := cell_of_row _ _ 0 _ _ _ (heap_alloc_new w _)
  refine (own_any _ E (HE.out.below hb1)).mono ?_
  rintro e w2 ⟨rfl, hw2⟩
  have hb2 := below_alloc hb1 (.cells (errList E).toArray 25)
  have hc2 := keep_alloc _ (.cells (errList E).toArray 25) _ _ hc1
  have hr2 := rd_new (w.alloc (.cells #[.iface T v] 25)) (errList E).toArray 25 (0, 0)
  rw [← hw2] at hb2 hc2 hr2
  have HS := Lib.hid (show (w.alloc (.cells #[.iface T v] 25)).heap.size = w.heap.size + 1 by simp)
  rw [HS.out] at hr2 ⊢
  have HB2 := Lib.hid hb2
  have HC2 := Lib.hid hc2
  have HR2 := Lib.hid (show Rd w2 (some ⟨w.heap.size + 1, 0, none⟩) (errList E) by simpa using hr2)
  have he2 := (HE.out.below hb2).cell 12 (by omega)
  simp only [errVar, List.getD_cons_zero, List.getD_cons_succ, errAt] at he2
  clear hb1 hc1 hb2 hc2 hr2 hw2
  go_wp2_with fail
  refine (indexAt_any w2 E _ _ T v (HA.out w2 (HBW.out.trans (HB2.out.mono HBW.out.size)) (HE.out.below HB2.out)) HR2.out HC2.out).mono ?_
  rintro e w3 ⟨rfl, rfl⟩
  go_wp2_with fail
  go_ret
  exact ⟨rfl, HB2.out⟩
theorem noIsN (v : Value) (xT : TypeId) (w : World) : (Instr.typeAssert (.iface 76 v) xT 67 true).run Tryd.prog w = .ok (.tuple #[.nilIface, .bool false]) w := run_typeAssert_lacksB Tryd.underlying67 (by kernel_rfl) (by kernel_rfl) v xT w
theorem hasUnwrapN (v : Value) (w : World) : (Instr.typeAssert (.iface 76 v) 25 69 true).run Tryd.prog w = .ok (.tuple #[.iface 76 v, .bool true]) w := by kernel_rfl
theorem assertN (v : Value) (w : World) : (Instr.typeAssert (.iface 76 v) 20 25 true).run Tryd.prog w = .ok (.tuple #[.iface 76 v, .bool true]) w := by kernel_rfl
theorem methodUnwrapN (v : Value) (w : World) : (Go.method 239 76 v "Unwrap").run Tryd.prog w = .ok (98, v) w := by kernel_rfl
theorem unwrap_any (w : World) (N : Nat) (v : Value) (hv : ∃ T x, v = .iface T x) (hc : w.cell? ⟨N, 2, none⟩ = some v) :
    Calls Tryd.prog 98 #[.pointer (some ⟨N, 0, none⟩)] w fun e w' => e = .returned v ∧ w = w' := by
  obtain ⟨T, x, rfl⟩ := hv
  go_enter Tryd.func98, Tryd.ntmps98
  go_wp2_with fail
  go_ret
  exact ⟨rfl, rfl⟩
set_option maxRecDepth 20000 in
theorem is_num (w : World) (N : Nat) (fn s : ByteArray) (sy b : Addr) (hB : Blk w N 84 #[.string fn, .string s, errAt sy]) (hne : sy ≠ b) (ha : ∃ c t, w.heap[sy.block]? = some (.cells c t (0, 0))) (hb : ∃ c t, w.heap[b.block]? = some (.cells c t (0, 0))) :
    Calls Tryd.prog 32 #[.iface 76 (.pointer (some ⟨N, 0, none⟩)), errAt b] w fun e w' => e = .returned (.bool false) ∧ w = w' := by
  have HU := Lib.hid (unwrap_any w N (errAt sy) ⟨_, _, rfl⟩ ((hB.cell 2).trans rfl))
  unfold errAt at HU ⊢
  obtain ⟨ca, ta, ha⟩ := ha
  obtain ⟨cb, tb, hb⟩ := hb
  obtain ⟨i, hi, hcmp⟩ := Option.map_eq_some_iff.1 isComp
  obtain ⟨j, hj, hjs⟩ := Option.map_eq_some_iff.1 isSize
  have h8 := @run_callFunc_extern Tryd.prog 40 _ Extern.ReflectliteType.typeOf Tryd.func40 (by kernel_rfl) (by kernel_rfl) (by kernel_rfl) (by kernel_rfl)
  have h32 := @run_callFunc_extern Tryd.prog 87 _ compE Tryd.func87 (by kernel_rfl) (by kernel_rfl) (by kernel_rfl) (by kernel_rfl)
  have tT := isTypeOf
  have cT := isComparable
  have mR := isMethodComparable
  have nE := noIsE
  have uE := noUnwrapE
  have vE := noUnwrapsE
  have nN := noIsN
  have uN := hasUnwrapN
  have mN := methodUnwrapN
  have heq1 := run_eql_iface_types (P := Tryd.prog) (x := .pointer (some ⟨N, 0, none⟩)) (y := .pointer (some b)) (tx := 76) (ty := 90) Tryd.underlying25 (by decide)
  have heq := run_eql_iface_ptr_other (P := Tryd.prog) w Tryd.underlying25 Tryd.underlying90 hi hcmp hj (by rw [hjs]; decide) hne ha hb
  clear ha hb hB
  go_enter Tryd.func32, Tryd.ntmps32
  go_wp2
  refine wp_loop_rounds 2 ?_
  rw [rounds_succ]
  go_wp2_with fail
  refine HU.out.mono ?_
  rintro e w1 ⟨rfl, rfl⟩
  go_wp2_with fail
  rw [rounds_succ]
  go_wp2
  go_ret
  exact ⟨rfl, rfl⟩
end Go.Proofs.YtliapmjocgohfaaDoor
