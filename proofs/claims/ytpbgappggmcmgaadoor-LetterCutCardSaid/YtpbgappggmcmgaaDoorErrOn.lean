/-
  ErrOn: some of package api's errors, where a row lists not all of them.
-/
import Derived.Test.YtpbgappggmcmgaaDoorErr
namespace Go.Proofs.YtpbgappggmcmgaaDoor
open Go.RowKit

/-- of the errors just those with the numbers of S (from 0 on) -/
structure ErrsOn (S : List Nat) (w : World) (E : Nat → Addr) : Prop where
  cell : ∀ i, S.contains i = true → w.cell? ⟨errVar i, 0, none⟩ = some (errAt (E i))
  ne : ∀ i j, S.contains i = true → S.contains j = true → i ≠ j → E i ≠ E j
  row : ∀ i, S.contains i = true → ∃ c t, w.heap[(E i).block]? = some (.cells c t (0, 0))
theorem ErrsOn.below {S : List Nat} {w w' : World} {E : Nat → Addr} (h : ErrsOn S w E) (hb : Below w.heap.size w w') : ErrsOn S w' E :=
  ⟨fun i hi => Below.keeps hb _ _ (h.cell i hi), h.ne, fun i hi => by
    obtain ⟨c, t, hc⟩ := h.row i hi
    exact ⟨c, t, by rw [hb.block _ (Array.getElem?_eq_some_iff.1 hc).1]; exact hc⟩⟩
theorem Errs.on {w : World} {E : Nat → Addr} (h : Errs w E) (S : List Nat) (hS : S.all (fun i => decide (i < 14)) = true) : ErrsOn S w E := by
  have hi : ∀ i, S.contains i = true → i < 14 := fun i hi => by
    have := List.all_eq_true.1 hS i (by simpa using hi)
    simpa using this
  exact ⟨fun i h' => h.cell i (hi i h'), fun i j h1 h2 => h.ne i j (hi i h1) (hi j h2), fun i h' => h.row i (hi i h')⟩
theorem errs_sub {S T : List Nat} {w : World} {E : Nat → Addr} (h : ErrsOn S w E) (hs : T.all (fun i => S.contains i) = true) : ErrsOn T w E := by
  have hi : ∀ i, T.contains i = true → S.contains i = true := fun i hi => List.all_eq_true.1 hs i (by simpa using hi)
  exact ⟨fun i h' => h.cell i (hi i h'), fun i j h1 h2 => h.ne i j (hi i h1) (hi j h2), fun i h' => h.row i (hi i h')⟩
end Go.Proofs.YtpbgappggmcmgaaDoor
