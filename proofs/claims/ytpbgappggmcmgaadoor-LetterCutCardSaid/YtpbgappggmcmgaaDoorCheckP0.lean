/-
  CheckP0: what a call ends as that gives a value or panics with an error of package api.
-/
import Derived.Test.YtpbgappggmcmgaaDoorTold
import Derived.Test.YtpbgappggmcmgaaDoorTryC
namespace Go.Proofs.YtpbgappggmcmgaaDoor
open Go.RowKit Go.Extern.Stop Go.Stop Go.Extern

/-- the panic with package api's error n -/
def panE (E : Nat → Addr) (n : Nat) : List PanicEntry := [{ v := errAt (E n), recovered := false }]
theorem told_own (E : Nat → Addr) (n : Nat) (hn : n < 14) (w0 : World) : Tells w0 (errAt (E n)) E n := fun w _ he => told_any w E n hn he
/-- ends with a value that the world then knows, or panics with the error n; of what was there nothing turns -/
def PanR (E : Nat → Addr) (R : Value → World → Prop) (Q : Nat → Prop) (w : World) (e : Ending) (w' : World) : Prop :=
  Below w.heap.size w w' ∧ ((∃ v, e = .returned v ∧ R v w') ∨ ∃ n, n < 14 ∧ Q n ∧ e = .panicked (panE E n))
theorem PanR.may {E : Nat → Addr} {R : Value → World → Prop} {Q : Nat → Prop} {w w' : World} {e : Ending} (h : PanR E R Q w e w') : MayG R (fun n _ => Q n) E e w' ∧ But [] w w' := by
  refine ⟨?_, But.of_below h.1⟩
  rcases h.2 with ⟨v, rfl, hR⟩ | ⟨n, hn, hq, rfl⟩
  · exact .inl ⟨v, rfl, hR⟩
  · exact .inr ⟨errAt (E n), n, hn, hq, ⟨_, _, rfl⟩, told_own E n hn w', rfl⟩
theorem But.nil_below {w w' : World} (h : But [] w w') : Below w.heap.size w w' := ⟨h.os, h.tape, h.output, h.size, fun k hk => h.block k hk (by simp)⟩
/-- what Try makes of it -/
def TryV (E : Nat → Addr) (R : Value → World → Prop) (Q : Nat → Prop) (z : Value) (w : World) (e : Ending) (w' : World) : Prop :=
  Below w.heap.size w w' ∧ ((∃ v, e = .returned (.tuple #[v, .nilIface]) ∧ R v w') ∨ ∃ n, n < 14 ∧ Q n ∧ e = .returned (.tuple #[z, errAt (E n)]))
theorem TryG.v {E : Nat → Addr} {R : Value → World → Prop} {Q : Nat → Prop} {z : Value} {w w' : World} {e : Ending} (hst : ∀ v a b, But [w.heap.size, w.heap.size + 1, w.heap.size + 2] a b → R v a → R v b)
    (h : TryG [] (fun _ v w => R v w) (fun n _ _ => Q n) E z w e w') : TryV E R Q z w e w' := by
  obtain ⟨h1, w1, w2, hs, hb1, hb2, hb3, hor⟩ := h
  refine ⟨h1.nil_below, ?_⟩
  rcases hor with ⟨v, rfl, hR⟩ | ⟨n, hn, hq, rfl⟩
  · refine .inl ⟨v, rfl, ?_⟩
    exact hst v w2 w' hb3 hR
  · exact .inr ⟨n, hn, hq, rfl⟩
end Go.Proofs.YtpbgappggmcmgaaDoor
