/-
  DERIVED. GIVEN WITH THE SEED: THE CARDS: each row of YtjjdaelddicokaaGreatDoorRows.lean that lists a variable, with what it lists TIED to the program's text (the seventh form; the later family's looks); each row that meets fmt, with fmt's text TOLD by the authors' own Lean function (tested against real Go, not proved from fmt's source: count such statements apart). THE CARD IS WHAT COUNTS. Prove the row's statement (the work); the ties are given (YtjjdaelddicokaaGreatDoorTie.lean); close each card by the builder's one call (the guide's Derived/Test/ToyasCard.lean, 'card_holds'). Laid BY PROGRAM, IN A SANDBOX (cutbox-door.mjs). By AI agents, Wed Nov 11 2026. No macro, syntax, notation, axiom, sorry.
-/
import Derived.Test.YtjjdaelddicokaaGreatDoorRows
import GoSem.ClaimSeven
namespace Go.Proofs.YtjjdaelddicokaaGreatDoor
namespace Rows

/-- THE TIED CARD OF 'filespacelaw25.AuthSteps'. -/
def authStepsCard : Claim7 := { stood := { row := authStepsRow, standIns := [], harness := (true, "b766b641cc360966276c53eefa04413607b5a7f10c2f09c103e30ec874dba2cb"), looks := false }, kinds := [], alts := [], laidByText := true, laidKinds := [.data], laidTests := true, laidLooks := .later }
def AuthStepsCardSaid : Prop := Claim7.holds Tryz.pinned (.plain (OpenSpec.ofChange authStepsSpec)) authStepsCard

/-- THE TIED CARD OF 'filespacelaw25.AuthRuns'. -/
def authRunsCard : Claim7 := { stood := { row := authRunsRow, standIns := [], harness := (true, "b766b641cc360966276c53eefa04413607b5a7f10c2f09c103e30ec874dba2cb"), looks := false }, kinds := [], alts := [], laidByText := true, laidKinds := [.data], laidTests := true, laidLooks := .later }
def AuthRunsCardSaid : Prop := Claim7.holds Tryz.pinned (.plain (OpenSpec.ofChange authRunsSpec)) authRunsCard

/-- THE SECOND FORM's CARD OF 'filespacelaw25.AuthSteps'. -/
def authStepsUptoCard : Claim7 := { stood := { row := authStepsUptoRow, standIns := [], harness := (true, "b766b641cc360966276c53eefa04413607b5a7f10c2f09c103e30ec874dba2cb"), looks := false }, kinds := [], alts := [], laidByText := true, laidKinds := [.data], laidTests := true, laidLooks := .later }
def AuthStepsUptoCardSaid : Prop := Claim7.holds Tryz.pinned (.plain (OpenSpec.upto authStepsSpec)) authStepsUptoCard

/-- THE SECOND FORM's CARD OF 'filespacelaw25.AuthRuns'. -/
def authRunsUptoCard : Claim7 := { stood := { row := authRunsUptoRow, standIns := [], harness := (true, "b766b641cc360966276c53eefa04413607b5a7f10c2f09c103e30ec874dba2cb"), looks := false }, kinds := [], alts := [], laidByText := true, laidKinds := [.data], laidTests := true, laidLooks := .later }
def AuthRunsUptoCardSaid : Prop := Claim7.holds Tryz.pinned (.plain (OpenSpec.upto authRunsSpec)) authRunsUptoCard
end Rows
end Go.Proofs.YtjjdaelddicokaaGreatDoor
