/- Closed facts of PartsRequest's row, second part. Conditions: those that each theorem names. -/
import Derived.Test.YtfibaopngpfmjaaGreatDoorRows
import Derived.JoinedCond
set_option linter.unusedVariables false
namespace Go.Proofs.YtfibaopngpfmjaaGreatDoor.partsRequestDone
theorem fRecurses : (Rows.partsRequestRow.recurses == Tryz.prog.recurses 4) = true := by kernel_rfl
theorem fNamed : (Rows.partsRequestRow.named == Tryz.prog.varsNamed 4) = true := by kernel_rfl
end Go.Proofs.YtfibaopngpfmjaaGreatDoor.partsRequestDone
