/- BndW -/
import Derived.Test.YthboiahdheehkaaGreatDoorBQ
import Derived.Test.YthboiahdheehkaaGreatDoorPA
import Derived.Test.YthboiahdheehkaaGreatDoorPD
open Go.Proofs.Tryz renaming prog → pG
open Go.Value renaming string → S
namespace Go.Proofs.YthboiahdheehkaaGreatDoor
section
open Go.RowKit Go.Extern.Stop Go.Stop Go.Extern
attribute [local go_sem] bs_toList bs_size
attribute [local irreducible] wpPhi wpPhiU
theorem must_str (s : List UInt8) (w : World) : Calls pG 29 #[S (bs s), .nilIface] w fun e w' => e = .returned (S (bs s)) ∧ w = w' := by
 go_enter Tryz.func29, Tryz.ntmps29
 go_wp2_with (go_at_call 61; refine (check_nil _).mono ?_; rintro e w' ⟨rfl, rfl⟩)
 go_ret
 exact ⟨rfl, rfl⟩
end
section
open Go.RowKit Go.Extern.Stop Go.Stop Go.Extern
attribute [local go_sem] bs_toList bs_size
end
section
open Go.RowKit Go.Extern.Stop Go.Stop Go.Extern
attribute [local go_sem] bs_toList
theorem must_strN (E : Nat → Addr) (s : List UInt8) (k : Nat) (w : World) : Calls pG 29 #[S (bs s), errV E (k + 1)] w fun e w' => e = .panicked (panE E k) ∧ Below w.heap.size w w' := by
 have HC := Lib.hid (fun w => check_err w E k)
 rw [show errV E (k + 1) = errAt (E k) from rfl] at HC ⊢
 unfold panE errAt at HC ⊢
 go_enter Tryz.func29, Tryz.ntmps29
 go_wp2_with (go_at_call 61; refine (HC.out _).mono ?_; rintro e w2 ⟨rfl, rfl⟩)
 exact ⟨rfl, rfl, Below.refl _ _⟩
def TxR (E : Nat → Addr) (s : List UInt8) (n : Nat) (w : World) (e : Ending) (w' : World) : Prop :=
 Below w.heap.size w w' ∧ ((n = 0 ∧ e = .returned (S (bs s))) ∨ ∃ k, n = k + 1 ∧ k < 14 ∧ e = .panicked (panE E k))
theorem must_txt (E : Nat → Addr) (s : List UInt8) (n : Nat) (hn : n ≤ 14) (w : World) : Calls pG 29 #[S (bs s), errV E n] w (TxR E s n w) := by
 cases n with
 | zero =>
  refine (must_str s w).mono ?_
  rintro e w' ⟨rfl, rfl⟩
  exact ⟨Below.refl _ _, .inl ⟨rfl, rfl⟩⟩
 | succ k =>
  refine (must_strN E s k w).mono ?_
  rintro e w' ⟨rfl, hb⟩
  exact ⟨hb, .inr ⟨k, rfl, by omega, rfl⟩⟩
theorem try_txt (w : World) (E : Nat → Addr) (f : FuncId) (caps : Array Value) (s : List UInt8) (n : Nat) (he : Errs w E) (hcf : ∀ w, (callFunc f caps).run pG w = .ok (.enter f caps) w)
  (hdo : ∀ w1, Below w.heap.size w w1 → Calls pG f caps w1 (TxR E s n w1)) : Calls pG 27 #[.func (.func f) #[] caps] w fun e w' => e = .returned (.tuple #[S (bs (if n = 0 then s else [])), errV E n]) ∧ Below w.heap.size w w' := by
 refine (tryStr_any w E f caps [] (fun _ v _ => n = 0 ∧ v = S (bs s)) (fun k _ _ => n = k + 1) (by simp) (fun w' h => he.below h.nil_below) (fun _ v _ h => by obtain ⟨_, rfl⟩ := h; exact ⟨_, rfl⟩) hcf (fun w1 hb _ => (hdo w1 hb).mono ?_)).mono ?_
 ·rintro e w2 ⟨h1, h2⟩
  refine PanR.may (Q := fun k => n = k + 1) ⟨h1, ?_⟩
  rcases h2 with ⟨ho, rfl⟩ | ⟨k, ho, hk, rfl⟩
  ·exact .inl ⟨_, rfl, ho, rfl⟩
  ·exact .inr ⟨k, hk, ho, rfl⟩
 ·intro e w' h
  obtain ⟨h1, h2⟩ := TryG.v (R := fun v _ => n = 0 ∧ v = S (bs s)) (Q := fun k => n = k + 1) (fun _ _ _ _ h => h) h
  refine ⟨?_, h1⟩
  rcases h2 with ⟨v, rfl, rfl, rfl⟩ | ⟨k, _, rfl, rfl⟩
  ·rfl
  ·rw [if_neg (by omega)]
   rfl
end
end Go.Proofs.YthboiahdheehkaaGreatDoor
