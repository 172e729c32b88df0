/-
  Clone: the contract of slices.Clone over bytes.
-/
import Derived.Test.YtpbgappggmcmgaaDoorStr
import Derived.Test.YtpbgappggmcmgaaDoorPhi
import Derived.Test.YtpbgappggmcmgaaDoorProg
namespace Go.Proofs.YtpbgappggmcmgaaDoor
open Go.RowKit

theorem byt8Info : (Tryd.prog.info? 5).map (fun i => (i.zero, i.size, i.bytes)) = some (some (.int .u8 0), 1, 1) := by kernel_rfl

/-- string(b) -/
theorem str_of {w : World} {v : Value} {l : List UInt8} (h : Byt w v l) : (convert 27 9 v).run Tryd.prog w = .ok (.string (bs l)) w :=
  run_str Tryd.underlying27 Tryd.underlying5 Tryd.underlying9 h

/-! ### slices.Clone -/
def Cloned (w : World) (l : List UInt8) (e : Ending) (w' : World) : Prop :=
  ∃ v, e = .returned v ∧ w'.ownsRow w.heap.size 5 1 v l.length (bvs l) ∧ Below w.heap.size w w'
set_option maxHeartbeats 400000 in
theorem clone_any (v : Value) (l : List UInt8) (w : World) (hl : l.length ≤ 1099511627776) (hv : Byt w v l) :
    Calls Tryd.prog 65 #[v] w (Cloned w l) := by
  obtain ⟨p, cap, rfl, h1, h2, h3⟩ := hv
  unfold maxLen at h2
  obtain ⟨i0, hi, hz0, hz1, hz2⟩ := info_parts byt8Info
  by_cases hp : p = none
  · subst hp
    have h0 : l = [] := by
      rcases h3 with h | ⟨b, off, hp, _⟩
      · exact (bvs_nil l).1 h
      · cases hp
    subst h0
    have hnil := fun w => Lib.run_eql_slice_nil (P := Tryd.prog) w 27 5 none 0 cap 0 0 Tryd.underlying27
    go_enter Tryd.func65, Tryd.ntmps65
    go_wp2_with fail
    go_ret
    exact ⟨_, rfl, World.ownsRow_nil _ _ _ _, Below.refl _ _⟩
  · have hnone : p.isNone = false := by cases p <;> simp_all
    have hnil := fun w => Lib.run_eql_slice_nil (P := Tryd.prog) w 27 5 p l.length cap 0 0 Tryd.underlying27
    have hown : (w.alloc (.cells #[] 5)).ownsRow w.heap.size 5 1 (.slice (some ⟨w.heap.size, 0, none⟩) 0 0) ([] : List Value).length [] := by
      simpa using World.ownsRow_lit (base := w.heap.size) (e := 5) (size := 1) w #[] 0 (Nat.le_refl _) (by unfold maxLen; omega) rfl
    have hrd := Lib.hid (h3.keep (keep_alloc w (.cells #[] 5)))
    have HP := Lib.hid hp
    clear hp h3
    go_enter Tryd.func65, Tryd.ntmps65
    go_wp2_with (at_builtin; refine wpList_app (.tmp 5) (.tmp 6) 27 rfl rfl w.heap.size 5 i0 (.int .u8 0) 1 1 Tryd.underlying27 hi hz0 hz1 hz2 rfl (by decide) _ _ _ rfl hown _ _ _ (bvs l) rfl ?c0 hrd.out bvs_one ?c1 ?c2 ?c3 ?_)
    case c0 => simp [bvs_len]
    case c1 => unfold maxLen; simp; omega
    case c2 => simp; omega
    case c3 => simp
    intro v' w' ho hg
    have hb : Below w.heap.size w w' := (below_alloc1 w (.cells #[] 5)).grown hg (by simp) (fun j hj => (hown.lt j hj).1)
    clear hown hg hnil
    go_wp2_with fail
    go_ret
    exact ⟨_, rfl, by simpa using ho, hb⟩
theorem Cloned.byt {w w' : World} {l : List UInt8} {e : Ending} (h : Cloned w l e w') : ∃ v, e = .returned v ∧ Byt w' v l ∧ Below w.heap.size w w' := by
  obtain ⟨v, h1, h2, h3⟩ := h
  exact ⟨v, h1, owns_byt h2, h3⟩

end Go.Proofs.YtpbgappggmcmgaaDoor
