/-
  FlagW: the walks of fields.Flag and fields.ToFlag.
-/
import Derived.Test.YtchclmimdpnkaaaDoorNumW
namespace Go.Proofs.YtchclmimdpnkaaaDoor
open Go.RowKit

def flagL (is : Bool) : List UInt8 := if is then [1] else []
theorem flag_any (is : Bool) (w : World) :
    Calls Tryd.prog 12 #[.bool is] w fun e w' => ∃ v, e = .returned v ∧ w'.ownsRow w.heap.size 5 1 v (flagL is).length (bvs (flagL is)) ∧ Below w.heap.size w w' := by
  go_enter Tryd.func12, Tryd.ntmps12
  cases is
  · go_wp2_with fail
    go_ret
    exact ⟨_, rfl, ⟨rfl, .inl ⟨rfl, rfl⟩⟩, Below.refl _ _⟩
  · go_wp2_with fail
    go_ret
    refine ⟨_, rfl, ?_, below_alloc1 _ _⟩
    simpa [bvs, flagL, bv] using World.ownsRow_lit (base := w.heap.size) (e := 5) (size := 1) w #[.int .u8 1] 1 (Nat.le_refl _) (by unfold maxLen; omega) rfl
theorem toflag_flag (is : Bool) (v : Value) (w : World) (hv : Byt w v (flagL is)) :
    Calls Tryd.prog 11 #[v] w fun e w' => e = .returned (.tuple #[.bool is, .nilIface]) ∧ Below w.heap.size w w' := by
  obtain ⟨p, cap, rfl, h1, h2, h3⟩ := hv
  unfold maxLen at h2
  go_enter Tryd.func11, Tryd.ntmps11
  cases is
  · clear h3
    unfold flagL at *
    simp only [Bool.false_eq_true, if_false, List.length_nil] at *
    go_wp2_with fail
    go_ret2
    exact ⟨rfl, Below.refl _ _⟩
  · obtain ⟨b, off, rfl, hc⟩ := byt_cell h3 (k := 0) (by decide)
    have hc' : w.cell? ⟨b, off, none⟩ = some (.int .u8 1) := hc
    clear h3 hc
    unfold flagL at *
    simp only [if_true, List.length_singleton] at *
    go_wp2_with fail
    go_ret2
    exact ⟨rfl, Below.refl _ _⟩
end Go.Proofs.YtchclmimdpnkaaaDoor
