/-
  JnSB: what the row of SoapBacks says of the program's text, reckoned by itself (it needs much memory).
-/
import Derived.Test.YthboiahdheehkaaGreatDoorCards
import Derived.Test.YthboiahdheehkaaGreatDoorTie
import Derived.Lay
import Derived.Deep.DeepWitnessRowRef
namespace Go.Proofs.YthboiahdheehkaaGreatDoor.soapBacks
theorem joined : joinedFacts Tryz.pinned.checked.prog 5 Tryz.f5 (OpenSpec.ofChange Rows.soapBacksSpec).bare Rows.soapBacksRow = true := by kernel_rfl
end Go.Proofs.YthboiahdheehkaaGreatDoor.soapBacks
