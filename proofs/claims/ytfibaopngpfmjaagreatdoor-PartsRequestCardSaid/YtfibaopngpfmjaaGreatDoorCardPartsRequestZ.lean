/- The card of PartsRequest of filespacetop: for every client and message the call returns true, and both read afterwards as they read before. Conditions: the row's list of the library's tables and errors. -/
import Derived.Test.YtfibaopngpfmjaaGreatDoorRzL7
import Derived.Test.YtfibaopngpfmjaaGreatDoorCards
import Derived.Test.YtfibaopngpfmjaaGreatDoorTie
import Derived.ProofKit
import Derived.OpenShut
import Derived.ShutString
import Derived.ChangeOld
import Derived.Below
import Derived.Deep.DeepHandedRow
import Derived.Deep.DeepLaidRun
import Derived.Shelf.Vars
set_option linter.unusedVariables false
namespace Go.Proofs.YtfibaopngpfmjaaGreatDoor.partsRequestDone
open Go.ChangeShapes Go.WideShapes Go.ChangeAt Go.RowKit
open Go.ChangeMaps (open_string shut_string)
theorem plain (f : FuncId) (fn : Func) (hf : Tryz.pinned.checked.prog.funcNamed "filespace/filespacetop.PartsRequest" = some f) (hfn : Tryz.pinned.checked.prog.funcs[f]? = some fn) :
  true = Tryz.pinned.checked.prog.looks [] ∧ ∀ (j : Nat) t, fn.params[j]? = some t → Tryz.pinned.checked.prog.wantsStandIn t = false := by
 obtain rfl : f = 4 := Option.some.inj ((show Tryz.prog.funcNamed "filespace/filespacetop.PartsRequest" = some 4 by kernel_rfl).symm.trans hf) |>.symm
 obtain rfl : fn = Tryz.f4 := (Option.some.inj (Tryz.func4.symm.trans hfn)).symm
 refine ⟨by kernel_rfl, fun j t ht => ?_⟩
 rw [Tryz.params4] at ht
 have hm : t = 41 ∨ t = 48 := by simpa using Array.mem_of_getElem? ht
 rcases hm with rfl | rfl
 ·exact (show Tryz.prog.wantsStandIn 41 = false by kernel_rfl)
 ·exact (show Tryz.prog.wantsStandIn 48 = false by kernel_rfl)

/-- The card. -/
theorem proved : Rows.PartsRequestCardSaid :=
 Claim7.holds_tied_plain_at .later [] _ _ _ _ said (fun _ h => by cases h) (by kernel_rfl) (fun _ h => by cases h) partsRequest_row_tie rfl ⟨rfl, rfl⟩ (by kernel_rfl) rfl plain (by kernel_rfl)
#print axioms proved
end Go.Proofs.YtfibaopngpfmjaaGreatDoor.partsRequestDone
