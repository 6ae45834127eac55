/-
  DERIVED. GIVEN WITH THE SEED: THE CARDS: each row of YtfcjiloojkjaeaaGreatDoorRows.lean that lists a variable, with what it lists TIED to the program's text (the seventh form; the later family's looks); each row that meets fmt, with fmt's text TOLD by the authors' own Lean function (tested against real Go, not proved from fmt's source: count such statements apart). THE CARD IS WHAT COUNTS. Prove the row's statement (the work); the ties are given (YtfcjiloojkjaeaaGreatDoorTie.lean); close each card by the builder's one call (the guide's Derived/Test/ToyasCard.lean, 'card_holds'). Laid BY PROGRAM, IN A SANDBOX (cutbox-door.mjs). By AI agents, Wed Nov 11 2026. No macro, syntax, notation, axiom, sorry.
-/
import Derived.Test.YtfcjiloojkjaeaaGreatDoorRows
import GoSem.ClaimSeven
namespace Go.Proofs.YtfcjiloojkjaeaaGreatDoor
namespace Rows

/-- THE TIED CARD OF 'laws.FnExactRunOffice'. -/
def fnExactRunOfficeCard : Claim7 := { stood := { row := fnExactRunOfficeRow, standIns := [], harness := (true, "3506a3beb8c616ae805148051828e294038e09eaf7ead55876772b594b7663da"), looks := false }, kinds := [], alts := [], goes := true, laidByText := true, laidKinds := [.data, .data, .data], laidTests := true, laidLooks := .later }
def FnExactRunOfficeCardSaid : Prop := Claim7.holds Tryz.pinned (.plain (OpenSpec.ofChange fnExactRunOfficeSpec)) fnExactRunOfficeCard

/-- THE TIED CARD OF 'laws.FnExactTalkingCalls'. -/
def fnExactTalkingCallsCard : Claim7 := { stood := { row := fnExactTalkingCallsRow, standIns := [], harness := (true, "3506a3beb8c616ae805148051828e294038e09eaf7ead55876772b594b7663da"), looks := false }, kinds := [], alts := [], goes := true, laidByText := true, laidKinds := [.data, .data, .data], laidTests := true, laidLooks := .later }
def FnExactTalkingCallsCardSaid : Prop := Claim7.holds Tryz.pinned (.plain (OpenSpec.ofChange fnExactTalkingCallsSpec)) fnExactTalkingCallsCard

/-- THE TIED CARD OF 'laws.FnExactCallsToReturn'. -/
def fnExactCallsToReturnCard : Claim7 := { stood := { row := fnExactCallsToReturnRow, standIns := [], harness := (true, "3506a3beb8c616ae805148051828e294038e09eaf7ead55876772b594b7663da"), looks := false }, kinds := [], alts := [], goes := true, laidByText := true, laidKinds := [.data, .data, .data], laidTests := true, laidLooks := .later }
def FnExactCallsToReturnCardSaid : Prop := Claim7.holds Tryz.pinned (.plain (OpenSpec.ofChange fnExactCallsToReturnSpec)) fnExactCallsToReturnCard

/-- THE TIED CARD OF 'laws.FnOneLine'. -/
def fnOneLineCard : Claim7 := { stood := { row := fnOneLineRow, standIns := [], harness := (true, "3506a3beb8c616ae805148051828e294038e09eaf7ead55876772b594b7663da"), looks := false }, kinds := [], alts := [], goes := true, laidByText := true, laidKinds := [.data, .data, .data], laidTests := true, laidLooks := .later }
def FnOneLineCardSaid : Prop := Claim7.holds Tryz.pinned (.plain (OpenSpec.ofChange fnOneLineSpec)) fnOneLineCard

/-- THE TIED CARD OF 'laws.FnRunOffice'. -/
def fnRunOfficeCard : Claim7 := { stood := { row := fnRunOfficeRow, standIns := [], harness := (true, "3506a3beb8c616ae805148051828e294038e09eaf7ead55876772b594b7663da"), looks := false }, kinds := [], alts := [], goes := true, laidByText := true, laidKinds := [.data, .data, .data], laidTests := true, laidLooks := .later }
def FnRunOfficeCardSaid : Prop := Claim7.holds Tryz.pinned (.plain (OpenSpec.ofChange fnRunOfficeSpec)) fnRunOfficeCard

/-- THE TIED CARD OF 'laws.FnAnswered'. -/
def fnAnsweredCard : Claim7 := { stood := { row := fnAnsweredRow, standIns := [], harness := (true, "3506a3beb8c616ae805148051828e294038e09eaf7ead55876772b594b7663da"), looks := false }, kinds := [], alts := [], goes := true, laidByText := true, laidKinds := [.data, .data, .data], laidTests := true, laidLooks := .later }
def FnAnsweredCardSaid : Prop := Claim7.holds Tryz.pinned (.plain (OpenSpec.ofChange fnAnsweredSpec)) fnAnsweredCard

/-- THE TIED CARD OF 'laws.FnReturned'. -/
def fnReturnedCard : Claim7 := { stood := { row := fnReturnedRow, standIns := [], harness := (true, "3506a3beb8c616ae805148051828e294038e09eaf7ead55876772b594b7663da"), looks := false }, kinds := [], alts := [], goes := true, laidByText := true, laidKinds := [.data, .data, .data], laidTests := true, laidLooks := .later }
def FnReturnedCardSaid : Prop := Claim7.holds Tryz.pinned (.plain (OpenSpec.ofChange fnReturnedSpec)) fnReturnedCard

/-- THE SECOND FORM's CARD OF 'laws.FnExactRunOffice'. -/
def fnExactRunOfficeUptoCard : Claim7 := { stood := { row := fnExactRunOfficeUptoRow, standIns := [], harness := (true, "3506a3beb8c616ae805148051828e294038e09eaf7ead55876772b594b7663da"), looks := false }, kinds := [], alts := [], goes := true, laidByText := true, laidKinds := [.data, .data, .data], laidTests := true, laidLooks := .later }
def FnExactRunOfficeUptoCardSaid : Prop := Claim7.holds Tryz.pinned (.plain (OpenSpec.upto fnExactRunOfficeSpec)) fnExactRunOfficeUptoCard

/-- THE SECOND FORM's CARD OF 'laws.FnExactTalkingCalls'. -/
def fnExactTalkingCallsUptoCard : Claim7 := { stood := { row := fnExactTalkingCallsUptoRow, standIns := [], harness := (true, "3506a3beb8c616ae805148051828e294038e09eaf7ead55876772b594b7663da"), looks := false }, kinds := [], alts := [], goes := true, laidByText := true, laidKinds := [.data, .data, .data], laidTests := true, laidLooks := .later }
def FnExactTalkingCallsUptoCardSaid : Prop := Claim7.holds Tryz.pinned (.plain (OpenSpec.upto fnExactTalkingCallsSpec)) fnExactTalkingCallsUptoCard

/-- THE SECOND FORM's CARD OF 'laws.FnExactCallsToReturn'. -/
def fnExactCallsToReturnUptoCard : Claim7 := { stood := { row := fnExactCallsToReturnUptoRow, standIns := [], harness := (true, "3506a3beb8c616ae805148051828e294038e09eaf7ead55876772b594b7663da"), looks := false }, kinds := [], alts := [], goes := true, laidByText := true, laidKinds := [.data, .data, .data], laidTests := true, laidLooks := .later }
def FnExactCallsToReturnUptoCardSaid : Prop := Claim7.holds Tryz.pinned (.plain (OpenSpec.upto fnExactCallsToReturnSpec)) fnExactCallsToReturnUptoCard

/-- THE SECOND FORM's CARD OF 'laws.FnOneLine'. -/
def fnOneLineUptoCard : Claim7 := { stood := { row := fnOneLineUptoRow, standIns := [], harness := (true, "3506a3beb8c616ae805148051828e294038e09eaf7ead55876772b594b7663da"), looks := false }, kinds := [], alts := [], goes := true, laidByText := true, laidKinds := [.data, .data, .data], laidTests := true, laidLooks := .later }
def FnOneLineUptoCardSaid : Prop := Claim7.holds Tryz.pinned (.plain (OpenSpec.upto fnOneLineSpec)) fnOneLineUptoCard

/-- THE SECOND FORM's CARD OF 'laws.FnRunOffice'. -/
def fnRunOfficeUptoCard : Claim7 := { stood := { row := fnRunOfficeUptoRow, standIns := [], harness := (true, "3506a3beb8c616ae805148051828e294038e09eaf7ead55876772b594b7663da"), looks := false }, kinds := [], alts := [], goes := true, laidByText := true, laidKinds := [.data, .data, .data], laidTests := true, laidLooks := .later }
def FnRunOfficeUptoCardSaid : Prop := Claim7.holds Tryz.pinned (.plain (OpenSpec.upto fnRunOfficeSpec)) fnRunOfficeUptoCard

/-- THE SECOND FORM's CARD OF 'laws.FnAnswered'. -/
def fnAnsweredUptoCard : Claim7 := { stood := { row := fnAnsweredUptoRow, standIns := [], harness := (true, "3506a3beb8c616ae805148051828e294038e09eaf7ead55876772b594b7663da"), looks := false }, kinds := [], alts := [], goes := true, laidByText := true, laidKinds := [.data, .data, .data], laidTests := true, laidLooks := .later }
def FnAnsweredUptoCardSaid : Prop := Claim7.holds Tryz.pinned (.plain (OpenSpec.upto fnAnsweredSpec)) fnAnsweredUptoCard

/-- THE SECOND FORM's CARD OF 'laws.FnReturned'. -/
def fnReturnedUptoCard : Claim7 := { stood := { row := fnReturnedUptoRow, standIns := [], harness := (true, "3506a3beb8c616ae805148051828e294038e09eaf7ead55876772b594b7663da"), looks := false }, kinds := [], alts := [], goes := true, laidByText := true, laidKinds := [.data, .data, .data], laidTests := true, laidLooks := .later }
def FnReturnedUptoCardSaid : Prop := Claim7.holds Tryz.pinned (.plain (OpenSpec.upto fnReturnedSpec)) fnReturnedUptoCard
end Rows
end Go.Proofs.YtfcjiloojkjaeaaGreatDoor
