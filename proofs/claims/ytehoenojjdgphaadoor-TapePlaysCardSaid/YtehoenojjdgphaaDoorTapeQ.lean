/-
  TapeQ: the walks of Off and Room.
-/
import Derived.Test.YtehoenojjdgphaaDoorTapeW4
namespace Go.Proofs.YtehoenojjdgphaaDoor
open Go.RowKit

theorem off_any (w : World) (B a : Nat) (s : TSt) (ht : Tp w B a s) : Calls Tryd.prog 18 #[.pointer (some ⟨a, 0, none⟩)] w (TapeQ w (.bool s.off)) := by
  obtain ⟨v, hB, hb, _, _⟩ := ht
  obtain ⟨c0, c1, c2, c3, c4, c5⟩ := hb.cells
  clear hb
  go_enter Tryd.func18, Tryd.ntmps18
  go_wp2_with fail
  go_ret
  exact ⟨rfl, Below.refl _ _⟩
theorem room_any (w : World) (B a : Nat) (s : TSt) (ht : Tp w B a s) : Calls Tryd.prog 22 #[.pointer (some ⟨a, 0, none⟩)] w (TapeQ w (.int .i64 s.room)) := by
  obtain ⟨v, hB, hb, _, _⟩ := ht
  obtain ⟨c0, c1, c2, c3, c4, c5⟩ := hb.cells
  clear hb
  go_enter Tryd.func22, Tryd.ntmps22
  go_wp2_with fail
  go_ret
  exact ⟨rfl, Below.refl _ _⟩
end Go.Proofs.YtehoenojjdgphaaDoor
