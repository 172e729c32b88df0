/-
  Err: package api's errors as the walks meet them; errors.Is between two of them; liaisonnum.Num. After the guide's worked text on errors.Is over sentinels (SentryIs).
-/
import Derived.Test.YtpbgappggmcmgaaDoorBase
import Derived.Test.YtpbgappggmcmgaaDoorPhi
import Derived.Test.YtpbgappggmcmgaaDoorProg
import Derived.LaidEql
import Derived.Stop.Asserts
import Derived.RowKitTokens
namespace Go.Proofs.YtpbgappggmcmgaaDoor
open Go.RowKit Go.Extern.Stop Go.Stop Go.Extern

theorem isTypeOf (v : Value) (w : World) : (Extern.ReflectliteType.typeOf #[.iface 128 v]).run Tryd.prog w = .ok (.iface 105 (.agg #[.pointer (some ⟨17, 128, none⟩)])) w := by kernel_rfl
def compE : Array Value → Sem Value := Extern.ReflectliteType.method fun t => do Extern.Rtype.noPackHeld "Comparable" t; pure (.bool (← typeInfo t).comparable)
theorem isComparable (w : World) : (compE #[.agg #[.pointer (some ⟨17, 128, none⟩)]]).run Tryd.prog w = .ok (.bool true) w := by kernel_rfl
theorem isMethodComparable (v : Value) (w : World) : (Go.method 264 105 v "Comparable").run Tryd.prog w = .ok (99, v) w := by kernel_rfl
theorem isComp : (Tryd.prog.info? 128).map (·.comparable) = some true := by kernel_rfl
theorem isSize : (Tryd.prog.info? 152).map (·.size) = some 1 := by kernel_rfl
theorem noIsE (v : Value) (xT : TypeId) (w : World) : (Instr.typeAssert (.iface 128 v) xT 107 true).run Tryd.prog w = .ok (.tuple #[.nilIface, .bool false]) w := run_typeAssert_lacksB Tryd.underlying107 (by kernel_rfl) (by kernel_rfl) v xT w
theorem noUnwrapE (v : Value) (xT : TypeId) (w : World) : (Instr.typeAssert (.iface 128 v) xT 109 true).run Tryd.prog w = .ok (.tuple #[.nilIface, .bool false]) w := run_typeAssert_lacksB Tryd.underlying109 (by kernel_rfl) (by kernel_rfl) v xT w
theorem noUnwrapsE (v : Value) (xT : TypeId) (w : World) : (Instr.typeAssert (.iface 128 v) xT 111 true).run Tryd.prog w = .ok (.tuple #[.nilIface, .bool false]) w := run_typeAssert_lacksB Tryd.underlying111 (by kernel_rfl) (by kernel_rfl) v xT w

/-- the error value that points to a -/
def errAt (a : Addr) : Value := .iface 128 (.pointer (some a))

theorem is_same (a : Addr) (w : World) :
    Calls Tryd.prog 34 #[errAt a, errAt a] w fun e w' => e = .returned (.bool true) ∧ w = w' := by
  unfold errAt
  obtain ⟨i, hi, hcmp⟩ := Option.map_eq_some_iff.1 isComp
  obtain ⟨j, hj, hjs⟩ := Option.map_eq_some_iff.1 isSize
  have h8 := @run_callFunc_extern Tryd.prog 50 _ Extern.ReflectliteType.typeOf Tryd.func50 (by kernel_rfl) (by kernel_rfl) (by kernel_rfl) (by kernel_rfl)
  have h32 := @run_callFunc_extern Tryd.prog 99 _ compE Tryd.func99 (by kernel_rfl) (by kernel_rfl) (by kernel_rfl) (by kernel_rfl)
  have tT := isTypeOf
  have cT := isComparable
  have mR := isMethodComparable
  have heq := run_eql_iface_ptr_same (P := Tryd.prog) w a Tryd.underlying29 Tryd.underlying128 hi hcmp hj
  go_enter Tryd.func34, Tryd.ntmps34
  go_wp2
  refine wp_loop_rounds 1 ?_
  rw [rounds_succ]
  go_wp2
  go_ret
  exact ⟨rfl, rfl⟩

theorem is_other (a b : Addr) (w : World) (hne : a ≠ b) (ha : ∃ c t, w.heap[a.block]? = some (.cells c t (0, 0))) (hb : ∃ c t, w.heap[b.block]? = some (.cells c t (0, 0))) :
    Calls Tryd.prog 34 #[errAt a, errAt b] w fun e w' => e = .returned (.bool false) ∧ w = w' := by
  unfold errAt
  obtain ⟨ca, ta, ha⟩ := ha
  obtain ⟨cb, tb, hb⟩ := hb
  obtain ⟨i, hi, hcmp⟩ := Option.map_eq_some_iff.1 isComp
  obtain ⟨j, hj, hjs⟩ := Option.map_eq_some_iff.1 isSize
  have h8 := @run_callFunc_extern Tryd.prog 50 _ Extern.ReflectliteType.typeOf Tryd.func50 (by kernel_rfl) (by kernel_rfl) (by kernel_rfl) (by kernel_rfl)
  have h32 := @run_callFunc_extern Tryd.prog 99 _ compE Tryd.func99 (by kernel_rfl) (by kernel_rfl) (by kernel_rfl) (by kernel_rfl)
  have tT := isTypeOf
  have cT := isComparable
  have mR := isMethodComparable
  have nE := noIsE
  have uE := noUnwrapE
  have vE := noUnwrapsE
  have heq := run_eql_iface_ptr_other (P := Tryd.prog) w Tryd.underlying29 Tryd.underlying128 hi hcmp hj (by rw [hjs]; decide) hne ha hb
  clear ha hb
  go_enter Tryd.func34, Tryd.ntmps34
  go_wp2
  refine wp_loop_rounds 1 ?_
  rw [rounds_succ]
  go_wp2
  go_ret
  exact ⟨rfl, rfl⟩

/-! ### the fourteen errors -/
/-- the variable of the error with the number i + 1 -/
def errVar (i : Nat) : Nat := [1, 2, 3, 0, 4, 5, 6, 7, 8, 9, 10, 11, 12, 13].getD i 0
structure Errs (w : World) (E : Nat → Addr) : Prop where
  cell : ∀ i, i < 14 → w.cell? ⟨errVar i, 0, none⟩ = some (errAt (E i))
  ne : ∀ i j, i < 14 → j < 14 → i ≠ j → E i ≠ E j
  row : ∀ i, i < 14 → ∃ c t, w.heap[(E i).block]? = some (.cells c t (0, 0))
theorem Errs.below {w w' : World} {E : Nat → Addr} (h : Errs w E) (hb : Below w.heap.size w w') : Errs w' E :=
  ⟨fun i hi => Below.keeps hb _ _ (h.cell i hi), h.ne, fun i hi => by
    obtain ⟨c, t, hc⟩ := h.row i hi
    exact ⟨c, t, by rw [hb.block _ (Array.getElem?_eq_some_iff.1 hc).1]; exact hc⟩⟩
/-- the error with the number n; 0: none -/
def errV (E : Nat → Addr) (n : Nat) : Value := match n with | 0 => .nilIface | n + 1 => errAt (E n)

def errList (E : Nat → Addr) : List Value := (List.range 14).map fun i => errAt (E i)
theorem errList_get (E : Nat → Addr) (k : Nat) (h : k < 14) : (errList E)[k]? = some (errAt (E k)) := by
  simp [errList, h]

theorem num_nil (w : World) : Calls Tryd.prog 17 #[.nilIface] w fun e w' => e = .returned (.int .i64 0) ∧ Below w.heap.size w w' := by
  go_enter Tryd.func17, Tryd.ntmps17
  go_wp2_with fail
  go_ret
  exact ⟨rfl, Below.refl _ _⟩

set_option maxHeartbeats 1000000 in
theorem num_err (w : World) (E : Nat → Addr) (n : Nat) (hn : n < 14) (he : Errs w E) :
    Calls Tryd.prog 17 #[errAt (E n)] w fun e w' => e = .returned (.int .i64 (n + 1)) ∧ Below w.heap.size w w' := by
  have HE := Lib.hid he
  have g0 := he.cell 0 (by omega)
  have g1 := he.cell 1 (by omega)
  have g2 := he.cell 2 (by omega)
  have g3 := he.cell 3 (by omega)
  have g4 := he.cell 4 (by omega)
  have g5 := he.cell 5 (by omega)
  have g6 := he.cell 6 (by omega)
  have g7 := he.cell 7 (by omega)
  have g8 := he.cell 8 (by omega)
  have g9 := he.cell 9 (by omega)
  have g10 := he.cell 10 (by omega)
  have g11 := he.cell 11 (by omega)
  have g12 := he.cell 12 (by omega)
  have g13 := he.cell 13 (by omega)
  clear he
  simp only [errVar, errAt, List.getD_cons_zero, List.getD_cons_succ] at g0 g1 g2 g3 g4 g5 g6 g7 g8 g9 g10 g11 g12 g13
  unfold errAt
  go_enter Tryd.func17, Tryd.ntmps17
  go_wp2_with fail
  clear g0 g1 g2 g3 g4 g5 g6 g7 g8 g9 g10 g11 g12 g13
  have hw1 : Below w.heap.size w (w.alloc (.cells (errList E).toArray 29)) := (Below.refl _ _).alloc (Nat.le_refl _) _
  have hrd : Rd (w.alloc (.cells (errList E).toArray 29)) (some ⟨w.heap.size, 0, none⟩) (errList E) := rd_new w _ _ _
  have HW : Hid (w.alloc (.cells (errList E).toArray 29) = w.alloc (.cells #[errAt (E 0), errAt (E 1), errAt (E 2), errAt (E 3), errAt (E 4), errAt (E 5), errAt (E 6), errAt (E 7), errAt (E 8), errAt (E 9), errAt (E 10), errAt (E 11), errAt (E 12), errAt (E 13)] 29)) := rfl
  have hw2 := HW.out
  unfold errAt at hw2
  rw [← hw2]
  clear hw2 HW
  have he1 := HE.out.below hw1
  generalize w.alloc (.cells (errList E).toArray 29) = w1 at *
  go_loop [25] (fun i => ∃ k : Nat, k ≤ n ∧ i = .int .i64 k) (fun i => 14 - (intOf i).toNat)
  case atStart => exact ⟨0, by omega, rfl⟩
  case round =>
    obtain ⟨k, hk, rfl⟩ := hrel
    obtain ⟨b, off, hp, hc⟩ := hrd.has (by simp [errList])
    cases hp
    have hck := hc k _ (errList_get E k (by omega))
    rw [Nat.zero_add] at hck
    unfold errAt at hck
    clear hc
    by_cases hkn : k = n
    · subst hkn
      go_wp2_with fail
      refine (is_same (E k) w1).mono ?_
      rintro e w' ⟨rfl, rfl⟩
      go_wp2_with fail
      go_ret
      exact ⟨rfl, hw1⟩
    · go_wp2_with fail
      refine (is_other (E n) (E k) w1 (he1.ne n k hn (by omega) (by omega)) (he1.row n hn) (he1.row k (by omega))).mono ?_
      rintro e w' ⟨rfl, rfl⟩
      go_wp2_with fail
      go_round
      case rel => exact ⟨k + 1, by omega, by go_num⟩
      case measure => simp [intOf]; omega

/-- the number of an error of ours -/
theorem errV_zero (E : Nat → Addr) : errV E 0 = .nilIface := rfl
theorem errV_suc (E : Nat → Addr) (n : Nat) : errV E (n + 1) = .iface 128 (.pointer (some (E n))) := rfl
theorem num_any (w : World) (E : Nat → Addr) (n : Nat) (hn : n ≤ 14) (he : Errs w E) :
    Calls Tryd.prog 17 #[errV E n] w fun e w' => e = .returned (.int .i64 n) ∧ Below w.heap.size w w' := by
  cases n with
  | zero => exact num_nil w
  | succ n => exact num_err w E n (by omega) he
end Go.Proofs.YtpbgappggmcmgaaDoor
