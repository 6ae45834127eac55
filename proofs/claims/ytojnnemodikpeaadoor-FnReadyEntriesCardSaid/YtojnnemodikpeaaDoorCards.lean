/-
  DERIVED. GIVEN WITH THE SEED: THE CARDS: each row of YtojnnemodikpeaaDoorRows.lean that lists a variable, with what it lists TIED to the program's text (the seventh form; the later family's looks); each row that meets fmt, with fmt's text TOLD by the authors' own Lean function (tested against real Go, not proved from fmt's source: count such statements apart). THE CARD IS WHAT COUNTS. Prove the row's statement (the work); the ties are given (YtojnnemodikpeaaDoorTie.lean); close each card by the builder's one call (the guide's Derived/Test/ToyasCard.lean, 'card_holds'). Laid BY PROGRAM, IN A SANDBOX (cutbox-door.mjs). By AI agents, Wed Nov 11 2026. No macro, syntax, notation, axiom, sorry.
-/
import Derived.Test.YtojnnemodikpeaaDoorRows
import GoSem.ClaimSeven
namespace Go.Proofs.YtojnnemodikpeaaDoor
namespace Rows

/-- THE TIED CARD OF 'laws.FnExactTakenFrom'. -/
def fnExactTakenFromCard : Claim7 := { stood := { row := fnExactTakenFromRow, standIns := [], harness := (true, "05a7f4dca399352469161e6cb3deca5fba2881c34252a15be18ba19169d6a746"), looks := false }, kinds := [], alts := [], laidByText := true, laidKinds := [.data, .data, .data], laidTests := true, laidLooks := .later }
def FnExactTakenFromCardSaid : Prop := Claim7.holds Tryd.pinned (.plain (OpenSpec.ofChange fnExactTakenFromSpec)) fnExactTakenFromCard

/-- THE TIED CARD OF 'laws.FnRunLines'. -/
def fnRunLinesCard : Claim7 := { stood := { row := fnRunLinesRow, standIns := [], harness := (true, "05a7f4dca399352469161e6cb3deca5fba2881c34252a15be18ba19169d6a746"), looks := false }, kinds := [], alts := [], laidByText := true, laidKinds := [.data, .data, .data], laidTests := true, laidLooks := .later }
def FnRunLinesCardSaid : Prop := Claim7.holds Tryd.pinned (.plain (OpenSpec.ofChange fnRunLinesSpec)) fnRunLinesCard

/-- THE TIED CARD OF 'laws.FnExactOpenLines'. -/
def fnExactOpenLinesCard : Claim7 := { stood := { row := fnExactOpenLinesRow, standIns := [], harness := (true, "05a7f4dca399352469161e6cb3deca5fba2881c34252a15be18ba19169d6a746"), looks := false }, kinds := [], alts := [], laidByText := true, laidKinds := [.data, .data, .data], laidTests := true, laidLooks := .later }
def FnExactOpenLinesCardSaid : Prop := Claim7.holds Tryd.pinned (.plain (OpenSpec.ofChange fnExactOpenLinesSpec)) fnExactOpenLinesCard

/-- THE TIED CARD OF 'laws.FnExactRefusedDeeds'. -/
def fnExactRefusedDeedsCard : Claim7 := { stood := { row := fnExactRefusedDeedsRow, standIns := [], harness := (true, "05a7f4dca399352469161e6cb3deca5fba2881c34252a15be18ba19169d6a746"), looks := false }, kinds := [], alts := [], laidByText := true, laidKinds := [.data, .data, .data], laidTests := true, laidLooks := .later }
def FnExactRefusedDeedsCardSaid : Prop := Claim7.holds Tryd.pinned (.plain (OpenSpec.ofChange fnExactRefusedDeedsSpec)) fnExactRefusedDeedsCard

/-- THE TIED CARD OF 'laws.FnExactRunLines'. -/
def fnExactRunLinesCard : Claim7 := { stood := { row := fnExactRunLinesRow, standIns := [], harness := (true, "05a7f4dca399352469161e6cb3deca5fba2881c34252a15be18ba19169d6a746"), looks := false }, kinds := [], alts := [], laidByText := true, laidKinds := [.data, .data, .data], laidTests := true, laidLooks := .later }
def FnExactRunLinesCardSaid : Prop := Claim7.holds Tryd.pinned (.plain (OpenSpec.ofChange fnExactRunLinesSpec)) fnExactRunLinesCard

/-- THE TIED CARD OF 'laws.FnLinesApart'. -/
def fnLinesApartCard : Claim7 := { stood := { row := fnLinesApartRow, standIns := [], harness := (true, "05a7f4dca399352469161e6cb3deca5fba2881c34252a15be18ba19169d6a746"), looks := false }, kinds := [], alts := [], laidByText := true, laidKinds := [.data, .data, .data], laidTests := true, laidLooks := .later }
def FnLinesApartCardSaid : Prop := Claim7.holds Tryd.pinned (.plain (OpenSpec.ofChange fnLinesApartSpec)) fnLinesApartCard

/-- THE TIED CARD OF 'laws.FnEnded'. -/
def fnEndedCard : Claim7 := { stood := { row := fnEndedRow, standIns := [], harness := (true, "05a7f4dca399352469161e6cb3deca5fba2881c34252a15be18ba19169d6a746"), looks := false }, kinds := [], alts := [], laidByText := true, laidKinds := [.data, .data, .data], laidTests := true, laidLooks := .later }
def FnEndedCardSaid : Prop := Claim7.holds Tryd.pinned (.plain (OpenSpec.ofChange fnEndedSpec)) fnEndedCard

/-- THE TIED CARD OF 'laws.FnRefused'. -/
def fnRefusedCard : Claim7 := { stood := { row := fnRefusedRow, standIns := [], harness := (true, "05a7f4dca399352469161e6cb3deca5fba2881c34252a15be18ba19169d6a746"), looks := false }, kinds := [], alts := [], laidByText := true, laidKinds := [.data, .data, .data], laidTests := true, laidLooks := .later }
def FnRefusedCardSaid : Prop := Claim7.holds Tryd.pinned (.plain (OpenSpec.ofChange fnRefusedSpec)) fnRefusedCard

/-- THE TIED CARD OF 'laws.FnExactFirstReady'. -/
def fnExactFirstReadyCard : Claim7 := { stood := { row := fnExactFirstReadyRow, standIns := [], harness := (true, "05a7f4dca399352469161e6cb3deca5fba2881c34252a15be18ba19169d6a746"), looks := false }, kinds := [], alts := [], laidByText := true, laidKinds := [.data, .data, .data], laidTests := true, laidLooks := .later }
def FnExactFirstReadyCardSaid : Prop := Claim7.holds Tryd.pinned (.plain (OpenSpec.ofChange fnExactFirstReadySpec)) fnExactFirstReadyCard

/-- THE TIED CARD OF 'laws.FnExactLeftIn'. -/
def fnExactLeftInCard : Claim7 := { stood := { row := fnExactLeftInRow, standIns := [], harness := (true, "05a7f4dca399352469161e6cb3deca5fba2881c34252a15be18ba19169d6a746"), looks := false }, kinds := [], alts := [], laidByText := true, laidKinds := [.data, .data, .data], laidTests := true, laidLooks := .later }
def FnExactLeftInCardSaid : Prop := Claim7.holds Tryd.pinned (.plain (OpenSpec.ofChange fnExactLeftInSpec)) fnExactLeftInCard

/-- THE TIED CARD OF 'laws.FnExactNextReady'. -/
def fnExactNextReadyCard : Claim7 := { stood := { row := fnExactNextReadyRow, standIns := [], harness := (true, "05a7f4dca399352469161e6cb3deca5fba2881c34252a15be18ba19169d6a746"), looks := false }, kinds := [], alts := [], laidByText := true, laidKinds := [.data, .data, .data], laidTests := true, laidLooks := .later }
def FnExactNextReadyCardSaid : Prop := Claim7.holds Tryd.pinned (.plain (OpenSpec.ofChange fnExactNextReadySpec)) fnExactNextReadyCard

/-- THE TIED CARD OF 'laws.FnExactReadyEntries'. -/
def fnExactReadyEntriesCard : Claim7 := { stood := { row := fnExactReadyEntriesRow, standIns := [], harness := (true, "05a7f4dca399352469161e6cb3deca5fba2881c34252a15be18ba19169d6a746"), looks := false }, kinds := [], alts := [], laidByText := true, laidKinds := [.data, .data, .data], laidTests := true, laidLooks := .later }
def FnExactReadyEntriesCardSaid : Prop := Claim7.holds Tryd.pinned (.plain (OpenSpec.ofChange fnExactReadyEntriesSpec)) fnExactReadyEntriesCard

/-- THE TIED CARD OF 'laws.FnReadyEntries'. -/
def fnReadyEntriesCard : Claim7 := { stood := { row := fnReadyEntriesRow, standIns := [], harness := (true, "05a7f4dca399352469161e6cb3deca5fba2881c34252a15be18ba19169d6a746"), looks := false }, kinds := [], alts := [], laidByText := true, laidKinds := [.data, .data, .data], laidTests := true, laidLooks := .later }
def FnReadyEntriesCardSaid : Prop := Claim7.holds Tryd.pinned (.plain (OpenSpec.ofChange fnReadyEntriesSpec)) fnReadyEntriesCard

/-- THE TIED CARD OF 'laws.FnNextReady'. -/
def fnNextReadyCard : Claim7 := { stood := { row := fnNextReadyRow, standIns := [], harness := (true, "05a7f4dca399352469161e6cb3deca5fba2881c34252a15be18ba19169d6a746"), looks := false }, kinds := [], alts := [], laidByText := true, laidKinds := [.data, .data, .data], laidTests := true, laidLooks := .later }
def FnNextReadyCardSaid : Prop := Claim7.holds Tryd.pinned (.plain (OpenSpec.ofChange fnNextReadySpec)) fnNextReadyCard

/-- THE SECOND FORM's CARD OF 'laws.FnExactTakenFrom'. -/
def fnExactTakenFromUptoCard : Claim7 := { stood := { row := fnExactTakenFromUptoRow, standIns := [], harness := (true, "05a7f4dca399352469161e6cb3deca5fba2881c34252a15be18ba19169d6a746"), looks := false }, kinds := [], alts := [], laidByText := true, laidKinds := [.data, .data, .data], laidTests := true, laidLooks := .later }
def FnExactTakenFromUptoCardSaid : Prop := Claim7.holds Tryd.pinned (.plain (OpenSpec.upto fnExactTakenFromSpec)) fnExactTakenFromUptoCard

/-- THE SECOND FORM's CARD OF 'laws.FnRunLines'. -/
def fnRunLinesUptoCard : Claim7 := { stood := { row := fnRunLinesUptoRow, standIns := [], harness := (true, "05a7f4dca399352469161e6cb3deca5fba2881c34252a15be18ba19169d6a746"), looks := false }, kinds := [], alts := [], laidByText := true, laidKinds := [.data, .data, .data], laidTests := true, laidLooks := .later }
def FnRunLinesUptoCardSaid : Prop := Claim7.holds Tryd.pinned (.plain (OpenSpec.upto fnRunLinesSpec)) fnRunLinesUptoCard

/-- THE SECOND FORM's CARD OF 'laws.FnExactOpenLines'. -/
def fnExactOpenLinesUptoCard : Claim7 := { stood := { row := fnExactOpenLinesUptoRow, standIns := [], harness := (true, "05a7f4dca399352469161e6cb3deca5fba2881c34252a15be18ba19169d6a746"), looks := false }, kinds := [], alts := [], laidByText := true, laidKinds := [.data, .data, .data], laidTests := true, laidLooks := .later }
def FnExactOpenLinesUptoCardSaid : Prop := Claim7.holds Tryd.pinned (.plain (OpenSpec.upto fnExactOpenLinesSpec)) fnExactOpenLinesUptoCard

/-- THE SECOND FORM's CARD OF 'laws.FnExactRefusedDeeds'. -/
def fnExactRefusedDeedsUptoCard : Claim7 := { stood := { row := fnExactRefusedDeedsUptoRow, standIns := [], harness := (true, "05a7f4dca399352469161e6cb3deca5fba2881c34252a15be18ba19169d6a746"), looks := false }, kinds := [], alts := [], laidByText := true, laidKinds := [.data, .data, .data], laidTests := true, laidLooks := .later }
def FnExactRefusedDeedsUptoCardSaid : Prop := Claim7.holds Tryd.pinned (.plain (OpenSpec.upto fnExactRefusedDeedsSpec)) fnExactRefusedDeedsUptoCard

/-- THE SECOND FORM's CARD OF 'laws.FnExactRunLines'. -/
def fnExactRunLinesUptoCard : Claim7 := { stood := { row := fnExactRunLinesUptoRow, standIns := [], harness := (true, "05a7f4dca399352469161e6cb3deca5fba2881c34252a15be18ba19169d6a746"), looks := false }, kinds := [], alts := [], laidByText := true, laidKinds := [.data, .data, .data], laidTests := true, laidLooks := .later }
def FnExactRunLinesUptoCardSaid : Prop := Claim7.holds Tryd.pinned (.plain (OpenSpec.upto fnExactRunLinesSpec)) fnExactRunLinesUptoCard

/-- THE SECOND FORM's CARD OF 'laws.FnLinesApart'. -/
def fnLinesApartUptoCard : Claim7 := { stood := { row := fnLinesApartUptoRow, standIns := [], harness := (true, "05a7f4dca399352469161e6cb3deca5fba2881c34252a15be18ba19169d6a746"), looks := false }, kinds := [], alts := [], laidByText := true, laidKinds := [.data, .data, .data], laidTests := true, laidLooks := .later }
def FnLinesApartUptoCardSaid : Prop := Claim7.holds Tryd.pinned (.plain (OpenSpec.upto fnLinesApartSpec)) fnLinesApartUptoCard

/-- THE SECOND FORM's CARD OF 'laws.FnEnded'. -/
def fnEndedUptoCard : Claim7 := { stood := { row := fnEndedUptoRow, standIns := [], harness := (true, "05a7f4dca399352469161e6cb3deca5fba2881c34252a15be18ba19169d6a746"), looks := false }, kinds := [], alts := [], laidByText := true, laidKinds := [.data, .data, .data], laidTests := true, laidLooks := .later }
def FnEndedUptoCardSaid : Prop := Claim7.holds Tryd.pinned (.plain (OpenSpec.upto fnEndedSpec)) fnEndedUptoCard

/-- THE SECOND FORM's CARD OF 'laws.FnRefused'. -/
def fnRefusedUptoCard : Claim7 := { stood := { row := fnRefusedUptoRow, standIns := [], harness := (true, "05a7f4dca399352469161e6cb3deca5fba2881c34252a15be18ba19169d6a746"), looks := false }, kinds := [], alts := [], laidByText := true, laidKinds := [.data, .data, .data], laidTests := true, laidLooks := .later }
def FnRefusedUptoCardSaid : Prop := Claim7.holds Tryd.pinned (.plain (OpenSpec.upto fnRefusedSpec)) fnRefusedUptoCard

/-- THE SECOND FORM's CARD OF 'laws.FnExactFirstReady'. -/
def fnExactFirstReadyUptoCard : Claim7 := { stood := { row := fnExactFirstReadyUptoRow, standIns := [], harness := (true, "05a7f4dca399352469161e6cb3deca5fba2881c34252a15be18ba19169d6a746"), looks := false }, kinds := [], alts := [], laidByText := true, laidKinds := [.data, .data, .data], laidTests := true, laidLooks := .later }
def FnExactFirstReadyUptoCardSaid : Prop := Claim7.holds Tryd.pinned (.plain (OpenSpec.upto fnExactFirstReadySpec)) fnExactFirstReadyUptoCard

/-- THE SECOND FORM's CARD OF 'laws.FnExactLeftIn'. -/
def fnExactLeftInUptoCard : Claim7 := { stood := { row := fnExactLeftInUptoRow, standIns := [], harness := (true, "05a7f4dca399352469161e6cb3deca5fba2881c34252a15be18ba19169d6a746"), looks := false }, kinds := [], alts := [], laidByText := true, laidKinds := [.data, .data, .data], laidTests := true, laidLooks := .later }
def FnExactLeftInUptoCardSaid : Prop := Claim7.holds Tryd.pinned (.plain (OpenSpec.upto fnExactLeftInSpec)) fnExactLeftInUptoCard

/-- THE SECOND FORM's CARD OF 'laws.FnExactNextReady'. -/
def fnExactNextReadyUptoCard : Claim7 := { stood := { row := fnExactNextReadyUptoRow, standIns := [], harness := (true, "05a7f4dca399352469161e6cb3deca5fba2881c34252a15be18ba19169d6a746"), looks := false }, kinds := [], alts := [], laidByText := true, laidKinds := [.data, .data, .data], laidTests := true, laidLooks := .later }
def FnExactNextReadyUptoCardSaid : Prop := Claim7.holds Tryd.pinned (.plain (OpenSpec.upto fnExactNextReadySpec)) fnExactNextReadyUptoCard

/-- THE SECOND FORM's CARD OF 'laws.FnExactReadyEntries'. -/
def fnExactReadyEntriesUptoCard : Claim7 := { stood := { row := fnExactReadyEntriesUptoRow, standIns := [], harness := (true, "05a7f4dca399352469161e6cb3deca5fba2881c34252a15be18ba19169d6a746"), looks := false }, kinds := [], alts := [], laidByText := true, laidKinds := [.data, .data, .data], laidTests := true, laidLooks := .later }
def FnExactReadyEntriesUptoCardSaid : Prop := Claim7.holds Tryd.pinned (.plain (OpenSpec.upto fnExactReadyEntriesSpec)) fnExactReadyEntriesUptoCard

/-- THE SECOND FORM's CARD OF 'laws.FnReadyEntries'. -/
def fnReadyEntriesUptoCard : Claim7 := { stood := { row := fnReadyEntriesUptoRow, standIns := [], harness := (true, "05a7f4dca399352469161e6cb3deca5fba2881c34252a15be18ba19169d6a746"), looks := false }, kinds := [], alts := [], laidByText := true, laidKinds := [.data, .data, .data], laidTests := true, laidLooks := .later }
def FnReadyEntriesUptoCardSaid : Prop := Claim7.holds Tryd.pinned (.plain (OpenSpec.upto fnReadyEntriesSpec)) fnReadyEntriesUptoCard

/-- THE SECOND FORM's CARD OF 'laws.FnNextReady'. -/
def fnNextReadyUptoCard : Claim7 := { stood := { row := fnNextReadyUptoRow, standIns := [], harness := (true, "05a7f4dca399352469161e6cb3deca5fba2881c34252a15be18ba19169d6a746"), looks := false }, kinds := [], alts := [], laidByText := true, laidKinds := [.data, .data, .data], laidTests := true, laidLooks := .later }
def FnNextReadyUptoCardSaid : Prop := Claim7.holds Tryd.pinned (.plain (OpenSpec.upto fnNextReadySpec)) fnNextReadyUptoCard
end Rows
end Go.Proofs.YtojnnemodikpeaaDoor
