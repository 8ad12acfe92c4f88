/- The statement of PartsRequest. Conditions: those that each theorem names. -/
import Derived.Test.YtfibaopngpfmjaaGreatDoorRzL3
import Derived.Test.YtfibaopngpfmjaaGreatDoorRzL4
import Derived.Test.YtfibaopngpfmjaaGreatDoorRzL5
import Derived.Test.YtfibaopngpfmjaaGreatDoorRzL6
import Derived.Test.YtfibaopngpfmjaaGreatDoorCards
import Derived.Test.YtfibaopngpfmjaaGreatDoorTie
import Derived.ProofKit
import Derived.OpenShut
import Derived.ShutString
import Derived.ChangeOld
import Derived.Below
import Derived.Deep.DeepHandedRow
import Derived.Deep.DeepLaidRun
import Derived.Shelf.Vars
set_option linter.unusedVariables false
set_option maxRecDepth 100000
namespace Go.Proofs.YtfibaopngpfmjaaGreatDoor.partsRequestDone
open Go.ChangeShapes Go.WideShapes Go.ChangeAt Go.RowKit
open Go.ChangeMaps (open_string shut_string)
theorem closed : joinedFacts Tryz.prog 4 Tryz.f4 (OpenSpec.ofChange Rows.partsRequestSpec).bare Rows.partsRequestRow = true := by
 unfold joinedFacts
 rw [fInPlace, fUnfollowed, fRecurses, fNamed, fLaid, fMaps, fStops, fEnter]
 kernel_rfl
theorem said : Rows.PartsRequestSaid :=
 OpenClaim.holds_of_cond 4 Tryz.f4 rfl rfl rfl rfl rfl rfl rfl ⟨rfl, rfl, rfl, rfl, rfl⟩ rfl rfl rfl rfl rfl (by kernel_rfl) Tryz.func4 closed
  (of_decide_eq_true (by kernel_rfl)) (by unfold Func.isWrapper; first | (rw [if_pos (by decide +kernel)]; kernel_rfl) | (rw [if_neg (by decide +kernel)]; exact ⟨rfl, rfl⟩))
  (fun os started H enc _ F => by rw [OpenClaim.pre_eq_preRow]; exact lifted os started H enc F)
end Go.Proofs.YtfibaopngpfmjaaGreatDoor.partsRequestDone
