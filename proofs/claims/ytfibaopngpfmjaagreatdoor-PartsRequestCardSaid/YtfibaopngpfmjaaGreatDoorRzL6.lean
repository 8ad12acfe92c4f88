/- Closed facts of PartsRequest's row, third part. Conditions: those that each theorem names. -/
import Derived.Test.YtfibaopngpfmjaaGreatDoorRows
import Derived.JoinedCond
set_option linter.unusedVariables false
namespace Go.Proofs.YtfibaopngpfmjaaGreatDoor.partsRequestDone
theorem fLaid : laidOutB Tryz.prog = true := by kernel_rfl
theorem fMaps : mapsRowed Tryz.prog = true := by kernel_rfl
theorem fStops : Tryz.prog.stopsHeard = true := by kernel_rfl
theorem fEnter : Tryz.prog.mayEnter = true := by kernel_rfl
end Go.Proofs.YtfibaopngpfmjaaGreatDoor.partsRequestDone
