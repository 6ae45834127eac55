/-
  DERIVED. GIVEN WITH THE SEED: THE CARDS: each row of YtkfafknliihabaaDoorRows.lean that lists a variable, with what it lists TIED to the program's text (the seventh form; the later family's looks); each row that meets fmt, with fmt's text TOLD by the authors' own Lean function (tested against real Go, not proved from fmt's source: count such statements apart). THE CARD IS WHAT COUNTS. Prove the row's statement (the work); the ties are given (YtkfafknliihabaaDoorTie.lean); close each card by the builder's one call (the guide's Derived/Test/ToyasCard.lean, 'card_holds'). Laid BY PROGRAM, IN A SANDBOX (cutbox-door.mjs). By AI agents, Wed Nov 11 2026. No macro, syntax, notation, axiom, sorry.
-/
import Derived.Test.YtkfafknliihabaaDoorRows
import GoSem.ClaimSeven
namespace Go.Proofs.YtkfafknliihabaaDoor
namespace Rows

/-- THE TIED CARD OF 'laws.FnServeFirst'. -/
def fnServeFirstCard : Claim7 := { stood := { row := fnServeFirstRow, standIns := [], harness := (true, "21b3ad0822510a848a0d4067fca3f04a12317497c05fbc90ee24d73a140dbb8a"), looks := false }, kinds := [], alts := [], goes := true, laidByText := true, laidKinds := [.data, .data, .data], laidTests := true, laidLooks := .later }
def FnServeFirstCardSaid : Prop := Claim7.holds Tryd.pinned (.plain (OpenSpec.ofChange fnServeFirstSpec)) fnServeFirstCard

/-- THE TIED CARD OF 'laws.FnServeAround'. -/
def fnServeAroundCard : Claim7 := { stood := { row := fnServeAroundRow, standIns := [], harness := (true, "21b3ad0822510a848a0d4067fca3f04a12317497c05fbc90ee24d73a140dbb8a"), looks := false }, kinds := [], alts := [], goes := true, laidByText := true, laidKinds := [.data, .data, .data], laidTests := true, laidLooks := .later }
def FnServeAroundCardSaid : Prop := Claim7.holds Tryd.pinned (.plain (OpenSpec.ofChange fnServeAroundSpec)) fnServeAroundCard

/-- THE TIED CARD OF 'laws.FnDeedsServed'. -/
def fnDeedsServedCard : Claim7 := { stood := { row := fnDeedsServedRow, standIns := [], harness := (true, "21b3ad0822510a848a0d4067fca3f04a12317497c05fbc90ee24d73a140dbb8a"), looks := false }, kinds := [], alts := [], goes := true, laidByText := true, laidKinds := [.data, .data, .data], laidTests := true, laidLooks := .later }
def FnDeedsServedCardSaid : Prop := Claim7.holds Tryd.pinned (.plain (OpenSpec.ofChange fnDeedsServedSpec)) fnDeedsServedCard

/-- THE TIED CARD OF 'laws.FnExactServeAround'. -/
def fnExactServeAroundCard : Claim7 := { stood := { row := fnExactServeAroundRow, standIns := [], harness := (true, "21b3ad0822510a848a0d4067fca3f04a12317497c05fbc90ee24d73a140dbb8a"), looks := false }, kinds := [], alts := [], goes := true, laidByText := true, laidKinds := [.data, .data, .data], laidTests := true, laidLooks := .later }
def FnExactServeAroundCardSaid : Prop := Claim7.holds Tryd.pinned (.plain (OpenSpec.ofChange fnExactServeAroundSpec)) fnExactServeAroundCard

/-- THE TIED CARD OF 'laws.FnExactServeFirst'. -/
def fnExactServeFirstCard : Claim7 := { stood := { row := fnExactServeFirstRow, standIns := [], harness := (true, "21b3ad0822510a848a0d4067fca3f04a12317497c05fbc90ee24d73a140dbb8a"), looks := false }, kinds := [], alts := [], goes := true, laidByText := true, laidKinds := [.data, .data, .data], laidTests := true, laidLooks := .later }
def FnExactServeFirstCardSaid : Prop := Claim7.holds Tryd.pinned (.plain (OpenSpec.ofChange fnExactServeFirstSpec)) fnExactServeFirstCard

/-- THE SECOND FORM's CARD OF 'laws.FnServeFirst'. -/
def fnServeFirstUptoCard : Claim7 := { stood := { row := fnServeFirstUptoRow, standIns := [], harness := (true, "21b3ad0822510a848a0d4067fca3f04a12317497c05fbc90ee24d73a140dbb8a"), looks := false }, kinds := [], alts := [], goes := true, laidByText := true, laidKinds := [.data, .data, .data], laidTests := true, laidLooks := .later }
def FnServeFirstUptoCardSaid : Prop := Claim7.holds Tryd.pinned (.plain (OpenSpec.upto fnServeFirstSpec)) fnServeFirstUptoCard

/-- THE SECOND FORM's CARD OF 'laws.FnServeAround'. -/
def fnServeAroundUptoCard : Claim7 := { stood := { row := fnServeAroundUptoRow, standIns := [], harness := (true, "21b3ad0822510a848a0d4067fca3f04a12317497c05fbc90ee24d73a140dbb8a"), looks := false }, kinds := [], alts := [], goes := true, laidByText := true, laidKinds := [.data, .data, .data], laidTests := true, laidLooks := .later }
def FnServeAroundUptoCardSaid : Prop := Claim7.holds Tryd.pinned (.plain (OpenSpec.upto fnServeAroundSpec)) fnServeAroundUptoCard

/-- THE SECOND FORM's CARD OF 'laws.FnDeedsServed'. -/
def fnDeedsServedUptoCard : Claim7 := { stood := { row := fnDeedsServedUptoRow, standIns := [], harness := (true, "21b3ad0822510a848a0d4067fca3f04a12317497c05fbc90ee24d73a140dbb8a"), looks := false }, kinds := [], alts := [], goes := true, laidByText := true, laidKinds := [.data, .data, .data], laidTests := true, laidLooks := .later }
def FnDeedsServedUptoCardSaid : Prop := Claim7.holds Tryd.pinned (.plain (OpenSpec.upto fnDeedsServedSpec)) fnDeedsServedUptoCard

/-- THE SECOND FORM's CARD OF 'laws.FnExactServeAround'. -/
def fnExactServeAroundUptoCard : Claim7 := { stood := { row := fnExactServeAroundUptoRow, standIns := [], harness := (true, "21b3ad0822510a848a0d4067fca3f04a12317497c05fbc90ee24d73a140dbb8a"), looks := false }, kinds := [], alts := [], goes := true, laidByText := true, laidKinds := [.data, .data, .data], laidTests := true, laidLooks := .later }
def FnExactServeAroundUptoCardSaid : Prop := Claim7.holds Tryd.pinned (.plain (OpenSpec.upto fnExactServeAroundSpec)) fnExactServeAroundUptoCard

/-- THE SECOND FORM's CARD OF 'laws.FnExactServeFirst'. -/
def fnExactServeFirstUptoCard : Claim7 := { stood := { row := fnExactServeFirstUptoRow, standIns := [], harness := (true, "21b3ad0822510a848a0d4067fca3f04a12317497c05fbc90ee24d73a140dbb8a"), looks := false }, kinds := [], alts := [], goes := true, laidByText := true, laidKinds := [.data, .data, .data], laidTests := true, laidLooks := .later }
def FnExactServeFirstUptoCardSaid : Prop := Claim7.holds Tryd.pinned (.plain (OpenSpec.upto fnExactServeFirstSpec)) fnExactServeFirstUptoCard
end Rows
end Go.Proofs.YtkfafknliihabaaDoor
