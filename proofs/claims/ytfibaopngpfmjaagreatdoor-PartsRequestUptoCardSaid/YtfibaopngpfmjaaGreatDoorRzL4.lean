/- Closed facts of PartsRequest's row, first part. Conditions: those that each theorem names. -/
import Derived.Test.YtfibaopngpfmjaaGreatDoorRows
import Derived.JoinedCond
set_option linter.unusedVariables false
namespace Go.Proofs.YtfibaopngpfmjaaGreatDoor.partsRequestDone
theorem fInPlace : (Rows.partsRequestUptoRow.inPlace == Tryz.prog.inPlace 4) = true := by kernel_rfl
theorem fUnfollowed : (Rows.partsRequestUptoRow.unfollowed == Tryz.prog.unfollowed 4) = true := by kernel_rfl
end Go.Proofs.YtfibaopngpfmjaaGreatDoor.partsRequestDone
