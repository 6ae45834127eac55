/-
  DERIVED. GIVEN WITH THE SEED: THE CARDS: each row of YtfcjiloojkjaeaaDoorRows.lean that lists a variable, with what it lists TIED to the program's text (the seventh form; the later family's looks); each row that meets fmt, with fmt's text TOLD by the authors' own Lean function (tested against real Go, not proved from fmt's source: count such statements apart). THE CARD IS WHAT COUNTS. Prove the row's statement (the work); the ties are given (YtfcjiloojkjaeaaDoorTie.lean); close each card by the builder's one call (the guide's Derived/Test/ToyasCard.lean, 'card_holds'). Laid BY PROGRAM, IN A SANDBOX (cutbox-door.mjs). By AI agents, Wed Nov 11 2026. No macro, syntax, notation, axiom, sorry.
-/
import Derived.Test.YtfcjiloojkjaeaaDoorRows
import GoSem.ClaimSeven
namespace Go.Proofs.YtfcjiloojkjaeaaDoor
namespace Rows

/-- THE TIED CARD OF 'laws.FnExactClockAfter'. -/
def fnExactClockAfterCard : Claim7 := { stood := { row := fnExactClockAfterRow, standIns := [], harness := (true, "25f1e5f7f8f04d9d7a01ee6a5c94844d07371cae685e8bad7ade3f59073d6096"), looks := false }, kinds := [], alts := [], goes := true, laidByText := true, laidKinds := [.data, .data, .data], laidTests := true, laidLooks := .later }
def FnExactClockAfterCardSaid : Prop := Claim7.holds Tryd.pinned (.plain (OpenSpec.ofChange fnExactClockAfterSpec)) fnExactClockAfterCard

/-- THE SECOND FORM's CARD OF 'laws.FnExactClockAfter'. -/
def fnExactClockAfterUptoCard : Claim7 := { stood := { row := fnExactClockAfterUptoRow, standIns := [], harness := (true, "25f1e5f7f8f04d9d7a01ee6a5c94844d07371cae685e8bad7ade3f59073d6096"), looks := false }, kinds := [], alts := [], goes := true, laidByText := true, laidKinds := [.data, .data, .data], laidTests := true, laidLooks := .later }
def FnExactClockAfterUptoCardSaid : Prop := Claim7.holds Tryd.pinned (.plain (OpenSpec.upto fnExactClockAfterSpec)) fnExactClockAfterUptoCard
end Rows
end Go.Proofs.YtfcjiloojkjaeaaDoor
