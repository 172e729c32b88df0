/-
  ToldR: what told makes of a runtime error: api.ErrPanic.
-/
import Derived.Test.YtliapmjocgohfaaDoorTold
namespace Go.Proofs.YtliapmjocgohfaaDoor
open Go.RowKit Go.Extern.Stop Go.Stop Go.Extern

theorem run_eql_iface_types {P : Program} {ti tx ty : TypeId} {ms : Array (String × TypeId)} {x y : Value} (hi : P.underlying ti = some (.interface ms)) (hne : tx ≠ ty) (w : World) : (binOp .eql ti (.iface tx x) (.iface ty y)).run P w = .ok (.bool false) w := by
  have h : ∀ d : Nat, (Op.equalIn (d + 1) ti (.iface tx x) (.iface ty y)).run P w = .ok false w := fun d => by simp [Op.equalIn, run_underlying hi, hne]
  simp only [binOp]
  simp [Op.equal, Op.maxDepth, h 9999]
theorem noIsB (v : Value) (xT : TypeId) (w : World) : (Instr.typeAssert (.iface 8 v) xT 67 true).run Tryd.prog w = .ok (.tuple #[.nilIface, .bool false]) w := run_typeAssert_lacksB Tryd.underlying67 (by kernel_rfl) (by kernel_rfl) v xT w
theorem noUnwrapB (v : Value) (xT : TypeId) (w : World) : (Instr.typeAssert (.iface 8 v) xT 69 true).run Tryd.prog w = .ok (.tuple #[.nilIface, .bool false]) w := run_typeAssert_lacksB Tryd.underlying69 (by kernel_rfl) (by kernel_rfl) v xT w
theorem noUnwrapsB (v : Value) (xT : TypeId) (w : World) : (Instr.typeAssert (.iface 8 v) xT 71 true).run Tryd.prog w = .ok (.tuple #[.nilIface, .bool false]) w := run_typeAssert_lacksB Tryd.underlying71 (by kernel_rfl) (by kernel_rfl) v xT w
theorem assertB (v : Value) (w : World) : (Instr.typeAssert (.iface 8 v) 20 25 true).run Tryd.prog w = .ok (.tuple #[.iface 8 v, .bool true]) w := by kernel_rfl
theorem isB (v : Value) (b : Addr) (w : World) :
    Calls Tryd.prog 32 #[.iface 8 v, errAt b] w fun e w' => e = .returned (.bool false) ∧ w = w' := by
  unfold errAt
  have h8 := @run_callFunc_extern Tryd.prog 40 _ Extern.ReflectliteType.typeOf Tryd.func40 (by kernel_rfl) (by kernel_rfl) (by kernel_rfl) (by kernel_rfl)
  have h32 := @run_callFunc_extern Tryd.prog 87 _ compE Tryd.func87 (by kernel_rfl) (by kernel_rfl) (by kernel_rfl) (by kernel_rfl)
  have tT := isTypeOf
  have cT := isComparable
  have mR := isMethodComparable
  have nE := noIsB
  have uE := noUnwrapB
  have vE := noUnwrapsB
  have heq := run_eql_iface_types (P := Tryd.prog) (x := v) (y := .pointer (some b)) (tx := 8) (ty := 90) Tryd.underlying25 (by decide)
  go_enter Tryd.func32, Tryd.ntmps32
  go_wp2
  refine wp_loop_rounds 1 ?_
  rw [rounds_succ]
  go_wp2
  go_ret
  exact ⟨rfl, rfl⟩
theorem noIsS (v : Value) (xT : TypeId) (w : World) : (Instr.typeAssert (.iface 10 v) xT 67 true).run Tryd.prog w = .ok (.tuple #[.nilIface, .bool false]) w := run_typeAssert_lacksB Tryd.underlying67 (by kernel_rfl) (by kernel_rfl) v xT w
theorem noUnwrapS (v : Value) (xT : TypeId) (w : World) : (Instr.typeAssert (.iface 10 v) xT 69 true).run Tryd.prog w = .ok (.tuple #[.nilIface, .bool false]) w := run_typeAssert_lacksB Tryd.underlying69 (by kernel_rfl) (by kernel_rfl) v xT w
theorem noUnwrapsS (v : Value) (xT : TypeId) (w : World) : (Instr.typeAssert (.iface 10 v) xT 71 true).run Tryd.prog w = .ok (.tuple #[.nilIface, .bool false]) w := run_typeAssert_lacksB Tryd.underlying71 (by kernel_rfl) (by kernel_rfl) v xT w
theorem assertS (v : Value) (w : World) : (Instr.typeAssert (.iface 10 v) 20 25 true).run Tryd.prog w = .ok (.tuple #[.iface 10 v, .bool true]) w := by kernel_rfl
theorem isS (v : Value) (b : Addr) (w : World) :
    Calls Tryd.prog 32 #[.iface 10 v, errAt b] w fun e w' => e = .returned (.bool false) ∧ w = w' := by
  unfold errAt
  have h8 := @run_callFunc_extern Tryd.prog 40 _ Extern.ReflectliteType.typeOf Tryd.func40 (by kernel_rfl) (by kernel_rfl) (by kernel_rfl) (by kernel_rfl)
  have h32 := @run_callFunc_extern Tryd.prog 87 _ compE Tryd.func87 (by kernel_rfl) (by kernel_rfl) (by kernel_rfl) (by kernel_rfl)
  have tT := isTypeOf
  have cT := isComparable
  have mR := isMethodComparable
  have nE := noIsS
  have uE := noUnwrapS
  have vE := noUnwrapsS
  have heq := run_eql_iface_types (P := Tryd.prog) (x := v) (y := .pointer (some b)) (tx := 10) (ty := 90) Tryd.underlying25 (by decide)
  go_enter Tryd.func32, Tryd.ntmps32
  go_wp2
  refine wp_loop_rounds 1 ?_
  rw [rounds_succ]
  go_wp2
  go_ret
  exact ⟨rfl, rfl⟩
theorem noIsP (v : Value) (xT : TypeId) (w : World) : (Instr.typeAssert (.iface 11 v) xT 67 true).run Tryd.prog w = .ok (.tuple #[.nilIface, .bool false]) w := run_typeAssert_lacksB Tryd.underlying67 (by kernel_rfl) (by kernel_rfl) v xT w
theorem noUnwrapP (v : Value) (xT : TypeId) (w : World) : (Instr.typeAssert (.iface 11 v) xT 69 true).run Tryd.prog w = .ok (.tuple #[.nilIface, .bool false]) w := run_typeAssert_lacksB Tryd.underlying69 (by kernel_rfl) (by kernel_rfl) v xT w
theorem noUnwrapsP (v : Value) (xT : TypeId) (w : World) : (Instr.typeAssert (.iface 11 v) xT 71 true).run Tryd.prog w = .ok (.tuple #[.nilIface, .bool false]) w := run_typeAssert_lacksB Tryd.underlying71 (by kernel_rfl) (by kernel_rfl) v xT w
theorem assertP (v : Value) (w : World) : (Instr.typeAssert (.iface 11 v) 20 25 true).run Tryd.prog w = .ok (.tuple #[.iface 11 v, .bool true]) w := by kernel_rfl
theorem isP (v : Value) (b : Addr) (w : World) :
    Calls Tryd.prog 32 #[.iface 11 v, errAt b] w fun e w' => e = .returned (.bool false) ∧ w = w' := by
  unfold errAt
  have h8 := @run_callFunc_extern Tryd.prog 40 _ Extern.ReflectliteType.typeOf Tryd.func40 (by kernel_rfl) (by kernel_rfl) (by kernel_rfl) (by kernel_rfl)
  have h32 := @run_callFunc_extern Tryd.prog 87 _ compE Tryd.func87 (by kernel_rfl) (by kernel_rfl) (by kernel_rfl) (by kernel_rfl)
  have tT := isTypeOf
  have cT := isComparable
  have mR := isMethodComparable
  have nE := noIsP
  have uE := noUnwrapP
  have vE := noUnwrapsP
  have heq := run_eql_iface_types (P := Tryd.prog) (x := v) (y := .pointer (some b)) (tx := 11) (ty := 90) Tryd.underlying25 (by decide)
  go_enter Tryd.func32, Tryd.ntmps32
  go_wp2
  refine wp_loop_rounds 1 ?_
  rw [rounds_succ]
  go_wp2
  go_ret
  exact ⟨rfl, rfl⟩

end Go.Proofs.YtliapmjocgohfaaDoor
