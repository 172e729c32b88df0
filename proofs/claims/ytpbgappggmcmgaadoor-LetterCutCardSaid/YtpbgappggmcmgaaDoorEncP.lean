/-
  EncP: what the walks of Encode share: Must over bytes, a field behind a row, an owned row beside blocks that turned.
-/
import Derived.Test.YtpbgappggmcmgaaDoorNumW
import Derived.Test.YtpbgappggmcmgaaDoorSplitW
import Derived.Test.YtpbgappggmcmgaaDoorRefSplit
import Derived.Test.YtpbgappggmcmgaaDoorCheckP
namespace Go.Proofs.YtpbgappggmcmgaaDoor
open Go.RowKit Go.Extern.Stop Go.Stop Go.Extern

theorem mustB_any (w : World) (p : Option Addr) (n c : Nat) : Calls Tryd.prog 26 #[.slice p n c, .nilIface] w fun e w' => e = .returned (.slice p n c) ∧ w = w' := by
  go_enter Tryd.func26, Tryd.ntmps26
  go_wp2_with fail
  refine (check_nil w).mono ?_
  rintro e w' ⟨rfl, rfl⟩
  go_wp2_with fail
  go_ret
  exact ⟨rfl, rfl⟩
theorem But.owns {S : List Nat} {w w' : World} {base size n : Nat} {e : TypeId} {v : Value} {xs : List Value} (h : But S w w') (hS : ∀ s ∈ S, s < base) (ho : w.ownsRow base e size v n xs) : w'.ownsRow base e size v n xs := by
  refine ⟨ho.1, ?_⟩
  rcases ho.2 with h2 | ⟨g, cap, cur, hv, hg, hh, r⟩
  · exact .inl h2
  · refine .inr ⟨g, cap, cur, hv, hg, (h.block g (Array.getElem?_eq_some_iff.1 hh).1 ?_).trans hh, r⟩
    rw [Bool.eq_false_iff]
    intro hc
    have := hS g (List.contains_iff_mem.1 hc)
    omega
end Go.Proofs.YtpbgappggmcmgaaDoor
