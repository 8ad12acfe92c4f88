/-
  DERIVED. GIVEN WITH THE SEED: THE CARDS: each row of YtfibaopngpfmjaaGreatDoorRows.lean that lists a variable, with what it lists TIED to the program's text (the seventh form; the later family's looks); each row that meets fmt, with fmt's text TOLD by the authors' own Lean function (tested against real Go, not proved from fmt's source: count such statements apart). THE CARD IS WHAT COUNTS. Prove the row's statement (the work); the ties are given (YtfibaopngpfmjaaGreatDoorTie.lean); close each card by the builder's one call (the guide's Derived/Test/ToyasCard.lean, 'card_holds'). Laid BY PROGRAM, IN A SANDBOX (cutbox-door.mjs). By AI agents, Wed Nov 11 2026. No macro, syntax, notation, axiom, sorry.
-/
import Derived.Test.YtfibaopngpfmjaaGreatDoorRows
import GoSem.ClaimSeven
namespace Go.Proofs.YtfibaopngpfmjaaGreatDoor
namespace Rows

/-- THE TIED CARD OF 'filespacetop.PartsWords'. -/
def partsWordsCard : Claim7 := { stood := { row := partsWordsRow, standIns := [], harness := (true, "14a3638733c27350d02d16315da132ea0eccdd01d93f40d791411189555ddfa7"), looks := true }, kinds := [], alts := [], laidByText := true, laidKinds := [.data, .data, .data, .data, .sentinel, .sentinel, .pinned], laidTests := true, laidLooks := .later }
def PartsWordsCardSaid : Prop := Claim7.holds Tryz.pinned (.plain (OpenSpec.ofChange partsWordsSpec)) partsWordsCard

/-- THE TIED CARD OF 'filespacetop.PartsRequest'. -/
def partsRequestCard : Claim7 := { stood := { row := partsRequestRow, standIns := [], harness := (true, "14a3638733c27350d02d16315da132ea0eccdd01d93f40d791411189555ddfa7"), looks := true }, kinds := [], alts := [], laidByText := true, laidKinds := [.data, .data, .data, .data, .sentinel, .sentinel, .pinned], laidTests := true, laidLooks := .later }
def PartsRequestCardSaid : Prop := Claim7.holds Tryz.pinned (.plain (OpenSpec.ofChange partsRequestSpec)) partsRequestCard

/-- THE SECOND FORM's CARD OF 'filespacetop.PartsWords'. -/
def partsWordsUptoCard : Claim7 := { stood := { row := partsWordsUptoRow, standIns := [], harness := (true, "14a3638733c27350d02d16315da132ea0eccdd01d93f40d791411189555ddfa7"), looks := true }, kinds := [], alts := [], laidByText := true, laidKinds := [.data, .data, .data, .data, .sentinel, .sentinel, .pinned], laidTests := true, laidLooks := .later }
def PartsWordsUptoCardSaid : Prop := Claim7.holds Tryz.pinned (.plain (OpenSpec.upto partsWordsSpec)) partsWordsUptoCard

/-- THE SECOND FORM's CARD OF 'filespacetop.PartsRequest'. -/
def partsRequestUptoCard : Claim7 := { stood := { row := partsRequestUptoRow, standIns := [], harness := (true, "14a3638733c27350d02d16315da132ea0eccdd01d93f40d791411189555ddfa7"), looks := true }, kinds := [], alts := [], laidByText := true, laidKinds := [.data, .data, .data, .data, .sentinel, .sentinel, .pinned], laidTests := true, laidLooks := .later }
def PartsRequestUptoCardSaid : Prop := Claim7.holds Tryz.pinned (.plain (OpenSpec.upto partsRequestSpec)) partsRequestUptoCard
end Rows
end Go.Proofs.YtfibaopngpfmjaaGreatDoor
