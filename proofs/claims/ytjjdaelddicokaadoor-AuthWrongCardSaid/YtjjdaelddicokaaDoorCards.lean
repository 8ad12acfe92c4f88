/-
  DERIVED. GIVEN WITH THE SEED: THE CARDS: each row of YtjjdaelddicokaaDoorRows.lean that lists a variable, with what it lists TIED to the program's text (the seventh form; the later family's looks); each row that meets fmt, with fmt's text TOLD by the authors' own Lean function (tested against real Go, not proved from fmt's source: count such statements apart). THE CARD IS WHAT COUNTS. Prove the row's statement (the work); the ties are given (YtjjdaelddicokaaDoorTie.lean); close each card by the builder's one call (the guide's Derived/Test/ToyasCard.lean, 'card_holds'). Laid BY PROGRAM, IN A SANDBOX (cutbox-door.mjs). By AI agents, Wed Nov 11 2026. No macro, syntax, notation, axiom, sorry.
-/
import Derived.Test.YtjjdaelddicokaaDoorRows
import GoSem.ClaimSeven
namespace Go.Proofs.YtjjdaelddicokaaDoor
namespace Rows

/-- THE TIED CARD OF 'filespacelaw25.AuthHonest'. -/
def authHonestCard : Claim7 := { stood := { row := authHonestRow, standIns := [], harness := (true, "5cdf6fe5cc6fa045f78b00fc32bf91a0c7aa4122c8e3f7c02c4f402ee517f64a"), looks := false }, kinds := [], alts := [], laidByText := true, laidKinds := [.data], laidTests := true, laidLooks := .later }
def AuthHonestCardSaid : Prop := Claim7.holds Tryd.pinned (.plain (OpenSpec.ofChange authHonestSpec)) authHonestCard

/-- THE TIED CARD OF 'filespacelaw25.AuthWrong'. -/
def authWrongCard : Claim7 := { stood := { row := authWrongRow, standIns := [], harness := (true, "5cdf6fe5cc6fa045f78b00fc32bf91a0c7aa4122c8e3f7c02c4f402ee517f64a"), looks := false }, kinds := [], alts := [], laidByText := true, laidKinds := [.data], laidTests := true, laidLooks := .later }
def AuthWrongCardSaid : Prop := Claim7.holds Tryd.pinned (.plain (OpenSpec.ofChange authWrongSpec)) authWrongCard

/-- THE TIED CARD OF 'filespacelaw25.AuthOnly'. -/
def authOnlyCard : Claim7 := { stood := { row := authOnlyRow, standIns := [], harness := (true, "5cdf6fe5cc6fa045f78b00fc32bf91a0c7aa4122c8e3f7c02c4f402ee517f64a"), looks := false }, kinds := [], alts := [], laidByText := true, laidKinds := [.data], laidTests := true, laidLooks := .later }
def AuthOnlyCardSaid : Prop := Claim7.holds Tryd.pinned (.plain (OpenSpec.ofChange authOnlySpec)) authOnlyCard

/-- THE TIED CARD OF 'filespacelaw25.AuthKeys'. -/
def authKeysCard : Claim7 := { stood := { row := authKeysRow, standIns := [], harness := (true, "5cdf6fe5cc6fa045f78b00fc32bf91a0c7aa4122c8e3f7c02c4f402ee517f64a"), looks := false }, kinds := [], alts := [], laidByText := true, laidKinds := [.data], laidTests := true, laidLooks := .later }
def AuthKeysCardSaid : Prop := Claim7.holds Tryd.pinned (.plain (OpenSpec.ofChange authKeysSpec)) authKeysCard

/-- THE TIED CARD OF 'filespacelaw25.AuthStarts'. -/
def authStartsCard : Claim7 := { stood := { row := authStartsRow, standIns := [], harness := (true, "5cdf6fe5cc6fa045f78b00fc32bf91a0c7aa4122c8e3f7c02c4f402ee517f64a"), looks := false }, kinds := [], alts := [], laidByText := true, laidKinds := [.data], laidTests := true, laidLooks := .later }
def AuthStartsCardSaid : Prop := Claim7.holds Tryd.pinned (.plain (OpenSpec.ofChange authStartsSpec)) authStartsCard

/-- THE TIED CARD OF 'filespacelaw25.AuthRight'. -/
def authRightCard : Claim7 := { stood := { row := authRightRow, standIns := [], harness := (true, "5cdf6fe5cc6fa045f78b00fc32bf91a0c7aa4122c8e3f7c02c4f402ee517f64a"), looks := false }, kinds := [], alts := [], laidByText := true, laidKinds := [.data], laidTests := true, laidLooks := .later }
def AuthRightCardSaid : Prop := Claim7.holds Tryd.pinned (.plain (OpenSpec.ofChange authRightSpec)) authRightCard

/-- THE SECOND FORM's CARD OF 'filespacelaw25.AuthHonest'. -/
def authHonestUptoCard : Claim7 := { stood := { row := authHonestUptoRow, standIns := [], harness := (true, "5cdf6fe5cc6fa045f78b00fc32bf91a0c7aa4122c8e3f7c02c4f402ee517f64a"), looks := false }, kinds := [], alts := [], laidByText := true, laidKinds := [.data], laidTests := true, laidLooks := .later }
def AuthHonestUptoCardSaid : Prop := Claim7.holds Tryd.pinned (.plain (OpenSpec.upto authHonestSpec)) authHonestUptoCard

/-- THE SECOND FORM's CARD OF 'filespacelaw25.AuthWrong'. -/
def authWrongUptoCard : Claim7 := { stood := { row := authWrongUptoRow, standIns := [], harness := (true, "5cdf6fe5cc6fa045f78b00fc32bf91a0c7aa4122c8e3f7c02c4f402ee517f64a"), looks := false }, kinds := [], alts := [], laidByText := true, laidKinds := [.data], laidTests := true, laidLooks := .later }
def AuthWrongUptoCardSaid : Prop := Claim7.holds Tryd.pinned (.plain (OpenSpec.upto authWrongSpec)) authWrongUptoCard

/-- THE SECOND FORM's CARD OF 'filespacelaw25.AuthOnly'. -/
def authOnlyUptoCard : Claim7 := { stood := { row := authOnlyUptoRow, standIns := [], harness := (true, "5cdf6fe5cc6fa045f78b00fc32bf91a0c7aa4122c8e3f7c02c4f402ee517f64a"), looks := false }, kinds := [], alts := [], laidByText := true, laidKinds := [.data], laidTests := true, laidLooks := .later }
def AuthOnlyUptoCardSaid : Prop := Claim7.holds Tryd.pinned (.plain (OpenSpec.upto authOnlySpec)) authOnlyUptoCard

/-- THE SECOND FORM's CARD OF 'filespacelaw25.AuthKeys'. -/
def authKeysUptoCard : Claim7 := { stood := { row := authKeysUptoRow, standIns := [], harness := (true, "5cdf6fe5cc6fa045f78b00fc32bf91a0c7aa4122c8e3f7c02c4f402ee517f64a"), looks := false }, kinds := [], alts := [], laidByText := true, laidKinds := [.data], laidTests := true, laidLooks := .later }
def AuthKeysUptoCardSaid : Prop := Claim7.holds Tryd.pinned (.plain (OpenSpec.upto authKeysSpec)) authKeysUptoCard

/-- THE SECOND FORM's CARD OF 'filespacelaw25.AuthStarts'. -/
def authStartsUptoCard : Claim7 := { stood := { row := authStartsUptoRow, standIns := [], harness := (true, "5cdf6fe5cc6fa045f78b00fc32bf91a0c7aa4122c8e3f7c02c4f402ee517f64a"), looks := false }, kinds := [], alts := [], laidByText := true, laidKinds := [.data], laidTests := true, laidLooks := .later }
def AuthStartsUptoCardSaid : Prop := Claim7.holds Tryd.pinned (.plain (OpenSpec.upto authStartsSpec)) authStartsUptoCard

/-- THE SECOND FORM's CARD OF 'filespacelaw25.AuthRight'. -/
def authRightUptoCard : Claim7 := { stood := { row := authRightUptoRow, standIns := [], harness := (true, "5cdf6fe5cc6fa045f78b00fc32bf91a0c7aa4122c8e3f7c02c4f402ee517f64a"), looks := false }, kinds := [], alts := [], laidByText := true, laidKinds := [.data], laidTests := true, laidLooks := .later }
def AuthRightUptoCardSaid : Prop := Claim7.holds Tryd.pinned (.plain (OpenSpec.upto authRightSpec)) authRightUptoCard
end Rows
end Go.Proofs.YtjjdaelddicokaaDoor
