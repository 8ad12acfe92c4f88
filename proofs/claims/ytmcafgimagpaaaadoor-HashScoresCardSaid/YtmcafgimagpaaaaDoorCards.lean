/-
  DERIVED. GIVEN WITH THE SEED: THE CARDS: each row of YtmcafgimagpaaaaDoorRows.lean that lists a variable, with what it lists TIED to the program's text (the seventh form; the later family's looks); each row that meets fmt, with fmt's text TOLD by the authors' own Lean function (tested against real Go, not proved from fmt's source: count such statements apart). THE CARD IS WHAT COUNTS. Prove the row's statement (the work); the ties are given (YtmcafgimagpaaaaDoorTie.lean); close each card by the builder's one call (the guide's Derived/Test/ToyasCard.lean, 'card_holds'). Laid BY PROGRAM, IN A SANDBOX (cutbox-door.mjs). By AI agents, Wed Nov 11 2026. No macro, syntax, notation, axiom, sorry.
-/
import Derived.Test.YtmcafgimagpaaaaDoorRows
import GoSem.ClaimSeven
namespace Go.Proofs.YtmcafgimagpaaaaDoor
namespace Rows

/-- THE TIED CARD OF 'filespacelaw14.HashSums'. -/
def hashSumsCard : Claim7 := { stood := { row := hashSumsRow, standIns := [], harness := (true, "aed00e6a0167e2f12fdfe6ccb81fea9889e4f8fc4a3a39bea035ae3241089e23"), looks := false }, kinds := [], alts := [], laidByText := true, laidKinds := [.data], laidTests := true, laidLooks := .later }
def HashSumsCardSaid : Prop := Claim7.holds Tryd.pinned (.plain (OpenSpec.ofChange hashSumsSpec)) hashSumsCard

/-- THE TIED CARD OF 'filespacelaw14.HashMacs'. -/
def hashMacsCard : Claim7 := { stood := { row := hashMacsRow, standIns := [], harness := (true, "aed00e6a0167e2f12fdfe6ccb81fea9889e4f8fc4a3a39bea035ae3241089e23"), looks := false }, kinds := [], alts := [], laidByText := true, laidKinds := [.data], laidTests := true, laidLooks := .later }
def HashMacsCardSaid : Prop := Claim7.holds Tryd.pinned (.plain (OpenSpec.ofChange hashMacsSpec)) hashMacsCard

/-- THE TIED CARD OF 'filespacelaw14.HashScores'. -/
def hashScoresCard : Claim7 := { stood := { row := hashScoresRow, standIns := [], harness := (true, "aed00e6a0167e2f12fdfe6ccb81fea9889e4f8fc4a3a39bea035ae3241089e23"), looks := false }, kinds := [], alts := [], laidByText := true, laidKinds := [.data], laidTests := true, laidLooks := .later }
def HashScoresCardSaid : Prop := Claim7.holds Tryd.pinned (.plain (OpenSpec.ofChange hashScoresSpec)) hashScoresCard

/-- THE TIED CARD OF 'filespacelaw14.HashTexts'. -/
def hashTextsCard : Claim7 := { stood := { row := hashTextsRow, standIns := [], harness := (true, "aed00e6a0167e2f12fdfe6ccb81fea9889e4f8fc4a3a39bea035ae3241089e23"), looks := false }, kinds := [], alts := [], laidByText := true, laidKinds := [.data], laidTests := true, laidLooks := .later }
def HashTextsCardSaid : Prop := Claim7.holds Tryd.pinned (.plain (OpenSpec.ofChange hashTextsSpec)) hashTextsCard

/-- THE TIED CARD OF 'filespacelaw14.HashInverse'. -/
def hashInverseCard : Claim7 := { stood := { row := hashInverseRow, standIns := [], harness := (true, "aed00e6a0167e2f12fdfe6ccb81fea9889e4f8fc4a3a39bea035ae3241089e23"), looks := false }, kinds := [], alts := [], laidByText := true, laidKinds := [.data], laidTests := true, laidLooks := .later }
def HashInverseCardSaid : Prop := Claim7.holds Tryd.pinned (.plain (OpenSpec.ofChange hashInverseSpec)) hashInverseCard

/-- THE TIED CARD OF 'filespacelaw14.HashKeys'. -/
def hashKeysCard : Claim7 := { stood := { row := hashKeysRow, standIns := [], harness := (true, "aed00e6a0167e2f12fdfe6ccb81fea9889e4f8fc4a3a39bea035ae3241089e23"), looks := false }, kinds := [], alts := [], laidByText := true, laidKinds := [.data], laidTests := true, laidLooks := .later }
def HashKeysCardSaid : Prop := Claim7.holds Tryd.pinned (.plain (OpenSpec.ofChange hashKeysSpec)) hashKeysCard

/-- THE SECOND FORM's CARD OF 'filespacelaw14.HashSums'. -/
def hashSumsUptoCard : Claim7 := { stood := { row := hashSumsUptoRow, standIns := [], harness := (true, "aed00e6a0167e2f12fdfe6ccb81fea9889e4f8fc4a3a39bea035ae3241089e23"), looks := false }, kinds := [], alts := [], laidByText := true, laidKinds := [.data], laidTests := true, laidLooks := .later }
def HashSumsUptoCardSaid : Prop := Claim7.holds Tryd.pinned (.plain (OpenSpec.upto hashSumsSpec)) hashSumsUptoCard

/-- THE SECOND FORM's CARD OF 'filespacelaw14.HashMacs'. -/
def hashMacsUptoCard : Claim7 := { stood := { row := hashMacsUptoRow, standIns := [], harness := (true, "aed00e6a0167e2f12fdfe6ccb81fea9889e4f8fc4a3a39bea035ae3241089e23"), looks := false }, kinds := [], alts := [], laidByText := true, laidKinds := [.data], laidTests := true, laidLooks := .later }
def HashMacsUptoCardSaid : Prop := Claim7.holds Tryd.pinned (.plain (OpenSpec.upto hashMacsSpec)) hashMacsUptoCard

/-- THE SECOND FORM's CARD OF 'filespacelaw14.HashScores'. -/
def hashScoresUptoCard : Claim7 := { stood := { row := hashScoresUptoRow, standIns := [], harness := (true, "aed00e6a0167e2f12fdfe6ccb81fea9889e4f8fc4a3a39bea035ae3241089e23"), looks := false }, kinds := [], alts := [], laidByText := true, laidKinds := [.data], laidTests := true, laidLooks := .later }
def HashScoresUptoCardSaid : Prop := Claim7.holds Tryd.pinned (.plain (OpenSpec.upto hashScoresSpec)) hashScoresUptoCard

/-- THE SECOND FORM's CARD OF 'filespacelaw14.HashTexts'. -/
def hashTextsUptoCard : Claim7 := { stood := { row := hashTextsUptoRow, standIns := [], harness := (true, "aed00e6a0167e2f12fdfe6ccb81fea9889e4f8fc4a3a39bea035ae3241089e23"), looks := false }, kinds := [], alts := [], laidByText := true, laidKinds := [.data], laidTests := true, laidLooks := .later }
def HashTextsUptoCardSaid : Prop := Claim7.holds Tryd.pinned (.plain (OpenSpec.upto hashTextsSpec)) hashTextsUptoCard

/-- THE SECOND FORM's CARD OF 'filespacelaw14.HashInverse'. -/
def hashInverseUptoCard : Claim7 := { stood := { row := hashInverseUptoRow, standIns := [], harness := (true, "aed00e6a0167e2f12fdfe6ccb81fea9889e4f8fc4a3a39bea035ae3241089e23"), looks := false }, kinds := [], alts := [], laidByText := true, laidKinds := [.data], laidTests := true, laidLooks := .later }
def HashInverseUptoCardSaid : Prop := Claim7.holds Tryd.pinned (.plain (OpenSpec.upto hashInverseSpec)) hashInverseUptoCard

/-- THE SECOND FORM's CARD OF 'filespacelaw14.HashKeys'. -/
def hashKeysUptoCard : Claim7 := { stood := { row := hashKeysUptoRow, standIns := [], harness := (true, "aed00e6a0167e2f12fdfe6ccb81fea9889e4f8fc4a3a39bea035ae3241089e23"), looks := false }, kinds := [], alts := [], laidByText := true, laidKinds := [.data], laidTests := true, laidLooks := .later }
def HashKeysUptoCardSaid : Prop := Claim7.holds Tryd.pinned (.plain (OpenSpec.upto hashKeysSpec)) hashKeysUptoCard
end Rows
end Go.Proofs.YtmcafgimagpaaaaDoor
