/-
  DERIVED. GIVEN WITH THE SEED: THE CARDS: each row of YtpcieookddpkhaaDoorRows.lean that lists a variable, with what it lists TIED to the program's text (the seventh form; the later family's looks); each row that meets fmt, with fmt's text TOLD by the authors' own Lean function (tested against real Go, not proved from fmt's source: count such statements apart). THE CARD IS WHAT COUNTS. Prove the row's statement (the work); the ties are given (YtpcieookddpkhaaDoorTie.lean); close each card by the builder's one call (the guide's Derived/Test/ToyasCard.lean, 'card_holds'). Laid BY PROGRAM, IN A SANDBOX (cutbox-door.mjs). By AI agents, Wed Nov 11 2026. No macro, syntax, notation, axiom, sorry.
-/
import Derived.Test.YtpcieookddpkhaaDoorRows
import GoSem.ClaimSeven
namespace Go.Proofs.YtpcieookddpkhaaDoor
namespace Rows

/-- THE TIED CARD OF 'filespacelaw15.BlockReads'. -/
def blockReadsCard : Claim7 := { stood := { row := blockReadsRow, standIns := [], harness := (true, "5669e93119c8fe77ddf47d4e01b981cf1b071c93a24f05b7542aa9f797301a82"), looks := false }, kinds := [], alts := [], laidByText := true, laidKinds := [.data], laidTests := true, laidLooks := .later }
def BlockReadsCardSaid : Prop := Claim7.holds Tryd.pinned (.plain (OpenSpec.ofChange blockReadsSpec)) blockReadsCard

/-- THE TIED CARD OF 'filespacelaw15.BlockPuts'. -/
def blockPutsCard : Claim7 := { stood := { row := blockPutsRow, standIns := [], harness := (true, "5669e93119c8fe77ddf47d4e01b981cf1b071c93a24f05b7542aa9f797301a82"), looks := false }, kinds := [], alts := [], laidByText := true, laidKinds := [.data], laidTests := true, laidLooks := .later }
def BlockPutsCardSaid : Prop := Claim7.holds Tryd.pinned (.plain (OpenSpec.ofChange blockPutsSpec)) blockPutsCard

/-- THE TIED CARD OF 'filespacelaw15.BlockLoads'. -/
def blockLoadsCard : Claim7 := { stood := { row := blockLoadsRow, standIns := [], harness := (true, "5669e93119c8fe77ddf47d4e01b981cf1b071c93a24f05b7542aa9f797301a82"), looks := false }, kinds := [], alts := [], laidByText := true, laidKinds := [.data], laidTests := true, laidLooks := .later }
def BlockLoadsCardSaid : Prop := Claim7.holds Tryd.pinned (.plain (OpenSpec.ofChange blockLoadsSpec)) blockLoadsCard

/-- THE TIED CARD OF 'filespacelaw15.BlockKeeps'. -/
def blockKeepsCard : Claim7 := { stood := { row := blockKeepsRow, standIns := [], harness := (true, "5669e93119c8fe77ddf47d4e01b981cf1b071c93a24f05b7542aa9f797301a82"), looks := false }, kinds := [], alts := [], laidByText := true, laidKinds := [.data], laidTests := true, laidLooks := .later }
def BlockKeepsCardSaid : Prop := Claim7.holds Tryd.pinned (.plain (OpenSpec.ofChange blockKeepsSpec)) blockKeepsCard

/-- THE TIED CARD OF 'filespacelaw15.BlockBack'. -/
def blockBackCard : Claim7 := { stood := { row := blockBackRow, standIns := [], harness := (true, "5669e93119c8fe77ddf47d4e01b981cf1b071c93a24f05b7542aa9f797301a82"), looks := false }, kinds := [], alts := [], laidByText := true, laidKinds := [.data], laidTests := true, laidLooks := .later }
def BlockBackCardSaid : Prop := Claim7.holds Tryd.pinned (.plain (OpenSpec.ofChange blockBackSpec)) blockBackCard

/-- THE SECOND FORM's CARD OF 'filespacelaw15.BlockReads'. -/
def blockReadsUptoCard : Claim7 := { stood := { row := blockReadsUptoRow, standIns := [], harness := (true, "5669e93119c8fe77ddf47d4e01b981cf1b071c93a24f05b7542aa9f797301a82"), looks := false }, kinds := [], alts := [], laidByText := true, laidKinds := [.data], laidTests := true, laidLooks := .later }
def BlockReadsUptoCardSaid : Prop := Claim7.holds Tryd.pinned (.plain (OpenSpec.upto blockReadsSpec)) blockReadsUptoCard

/-- THE SECOND FORM's CARD OF 'filespacelaw15.BlockPuts'. -/
def blockPutsUptoCard : Claim7 := { stood := { row := blockPutsUptoRow, standIns := [], harness := (true, "5669e93119c8fe77ddf47d4e01b981cf1b071c93a24f05b7542aa9f797301a82"), looks := false }, kinds := [], alts := [], laidByText := true, laidKinds := [.data], laidTests := true, laidLooks := .later }
def BlockPutsUptoCardSaid : Prop := Claim7.holds Tryd.pinned (.plain (OpenSpec.upto blockPutsSpec)) blockPutsUptoCard

/-- THE SECOND FORM's CARD OF 'filespacelaw15.BlockLoads'. -/
def blockLoadsUptoCard : Claim7 := { stood := { row := blockLoadsUptoRow, standIns := [], harness := (true, "5669e93119c8fe77ddf47d4e01b981cf1b071c93a24f05b7542aa9f797301a82"), looks := false }, kinds := [], alts := [], laidByText := true, laidKinds := [.data], laidTests := true, laidLooks := .later }
def BlockLoadsUptoCardSaid : Prop := Claim7.holds Tryd.pinned (.plain (OpenSpec.upto blockLoadsSpec)) blockLoadsUptoCard

/-- THE SECOND FORM's CARD OF 'filespacelaw15.BlockKeeps'. -/
def blockKeepsUptoCard : Claim7 := { stood := { row := blockKeepsUptoRow, standIns := [], harness := (true, "5669e93119c8fe77ddf47d4e01b981cf1b071c93a24f05b7542aa9f797301a82"), looks := false }, kinds := [], alts := [], laidByText := true, laidKinds := [.data], laidTests := true, laidLooks := .later }
def BlockKeepsUptoCardSaid : Prop := Claim7.holds Tryd.pinned (.plain (OpenSpec.upto blockKeepsSpec)) blockKeepsUptoCard

/-- THE SECOND FORM's CARD OF 'filespacelaw15.BlockBack'. -/
def blockBackUptoCard : Claim7 := { stood := { row := blockBackUptoRow, standIns := [], harness := (true, "5669e93119c8fe77ddf47d4e01b981cf1b071c93a24f05b7542aa9f797301a82"), looks := false }, kinds := [], alts := [], laidByText := true, laidKinds := [.data], laidTests := true, laidLooks := .later }
def BlockBackUptoCardSaid : Prop := Claim7.holds Tryd.pinned (.plain (OpenSpec.upto blockBackSpec)) blockBackUptoCard
end Rows
end Go.Proofs.YtpcieookddpkhaaDoor
