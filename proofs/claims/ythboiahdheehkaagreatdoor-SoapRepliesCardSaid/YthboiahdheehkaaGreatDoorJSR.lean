/- JnSR -/
import Derived.Test.YthboiahdheehkaaGreatDoorCards
import Derived.Test.YthboiahdheehkaaGreatDoorTie
import Derived.Lay
import Derived.Deep.DeepWitnessRowRef
namespace Go.Proofs.YthboiahdheehkaaGreatDoor.soapReplies
theorem joined : joinedFacts Tryz.pinned.checked.prog 4 Tryz.f4 (OpenSpec.ofChange Rows.soapRepliesSpec).bare Rows.soapRepliesRow = true := by kernel_rfl
end Go.Proofs.YthboiahdheehkaaGreatDoor.soapReplies
