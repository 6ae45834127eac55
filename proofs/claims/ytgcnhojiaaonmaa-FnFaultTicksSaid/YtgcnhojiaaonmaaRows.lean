/-
  No cell of these rows narrows 'for every input' (looked for: loops, veiled, ifaces, maps, wideKeys, modest, calm, conditions, laid).
  DERIVED. THE GIVEN ROWS OF THIS SEAT. 12 by the template 'for every input the law returns true; each argument reads behind the call as it read before'; 0 by the template 'total and deterministic' (their statements: YtgcnhojiaaonmaaTotals.lean).
  GIVEN WITH THE SEED: the statements are not yours to turn. If you find one false, say at which input.
  Laid BY PROGRAM, IN A SANDBOX (cutbox-rows.mjs): the forced cells as the released guide's own fill.sh prints them over the translation df2ea26e33541603… (all of the seat's roots in one cut). By AI agents, Wed Nov 11 2026. No macro, syntax, notation, axiom, sorry.
-/
import Derived.Test.YtgcnhojiaaonmaaChecked
import GoSem.Claim
import GoSem.ClaimJoined
import GoSem.ClaimMapViews
import Derived.JoinedTies
import Derived.KernelRfl
namespace Go.Proofs.Ytgcnhojiaaonmaa
/- THE CELL 'sum', in the pinned program and in every row, IS THE sha256 OF THE DUMP (.gsa) THAT YtgcnhojiaaonmaaProg.lean LOADS. Nothing in Lean hashes anything: it is a label: what it is worth is what the hold of that sum in a sandbox is worth. -/
noncomputable def Try.pinned : Pinned := { name := "ytgcnhojiaaonmaa", sum := "df2ea26e335416032a7a324f1ed86857a5592a5ef4fe13113af581ab45d325b2", checked := Try.checked }
namespace Rows
def none {H : Type} : Left H := { results := [], args := [] }

/-- 'laws.FnExactTariffValid': WHATEVER THE INPUT: true; the input reads as it did. -/
def fnExactTariffValidSpec : ChangeSpec := { name := "fnExactTariffValid", fn := fun _ => fun
  | [d] => { results := [.lit (.bool true)], args := [d] }
  | _ => none }
def fnExactTariffValidRow : OpenClaim := { program := "ytgcnhojiaaonmaa", sum := "df2ea26e335416032a7a324f1ed86857a5592a5ef4fe13113af581ab45d325b2", func := "loop.example/channelboard/laws.FnExactTariffValid", spec := "fnExactTariffValid", apart := false }
def FnExactTariffValidSaid : Prop := fnExactTariffValidRow.holds Try.pinned (OpenSpec.ofChange fnExactTariffValidSpec)

/-- ITS FALSE NEIGHBOUR: 'it returns false'. Refute it at one input. -/
def fnExactTariffValidWrong : ChangeSpec := { name := "fnExactTariffValid", fn := fun _ => fun
  | [d] => { results := [.lit (.bool false)], args := [d] }
  | _ => none }
def FnExactTariffValidWrongFalsely : Prop := fnExactTariffValidRow.holds Try.pinned (OpenSpec.ofChange fnExactTariffValidWrong)

/-- 'laws.FnExactKeeperValid': WHATEVER THE INPUT: true; the input reads as it did. -/
def fnExactKeeperValidSpec : ChangeSpec := { name := "fnExactKeeperValid", fn := fun _ => fun
  | [d] => { results := [.lit (.bool true)], args := [d] }
  | _ => none }
def fnExactKeeperValidRow : OpenClaim := { program := "ytgcnhojiaaonmaa", sum := "df2ea26e335416032a7a324f1ed86857a5592a5ef4fe13113af581ab45d325b2", func := "loop.example/channelboard/laws.FnExactKeeperValid", spec := "fnExactKeeperValid", apart := false }
def FnExactKeeperValidSaid : Prop := fnExactKeeperValidRow.holds Try.pinned (OpenSpec.ofChange fnExactKeeperValidSpec)

/-- ITS FALSE NEIGHBOUR: 'it returns false'. Refute it at one input. -/
def fnExactKeeperValidWrong : ChangeSpec := { name := "fnExactKeeperValid", fn := fun _ => fun
  | [d] => { results := [.lit (.bool false)], args := [d] }
  | _ => none }
def FnExactKeeperValidWrongFalsely : Prop := fnExactKeeperValidRow.holds Try.pinned (OpenSpec.ofChange fnExactKeeperValidWrong)

/-- 'laws.FnExactChargeOf': WHATEVER THE INPUT: true; the input reads as it did. -/
def fnExactChargeOfSpec : ChangeSpec := { name := "fnExactChargeOf", fn := fun _ => fun
  | [d1, d2] => { results := [.lit (.bool true)], args := [d1, d2] }
  | _ => none }
def fnExactChargeOfRow : OpenClaim := { program := "ytgcnhojiaaonmaa", sum := "df2ea26e335416032a7a324f1ed86857a5592a5ef4fe13113af581ab45d325b2", func := "loop.example/channelboard/laws.FnExactChargeOf", spec := "fnExactChargeOf", apart := false }
def FnExactChargeOfSaid : Prop := fnExactChargeOfRow.holds Try.pinned (OpenSpec.ofChange fnExactChargeOfSpec)

/-- ITS FALSE NEIGHBOUR: 'it returns false'. Refute it at one input. -/
def fnExactChargeOfWrong : ChangeSpec := { name := "fnExactChargeOf", fn := fun _ => fun
  | [d1, d2] => { results := [.lit (.bool false)], args := [d1, d2] }
  | _ => none }
def FnExactChargeOfWrongFalsely : Prop := fnExactChargeOfRow.holds Try.pinned (OpenSpec.ofChange fnExactChargeOfWrong)

/-- 'laws.FnExactRecordValid': WHATEVER THE INPUT: true; the input reads as it did. -/
def fnExactRecordValidSpec : ChangeSpec := { name := "fnExactRecordValid", fn := fun _ => fun
  | [d] => { results := [.lit (.bool true)], args := [d] }
  | _ => none }
def fnExactRecordValidRow : OpenClaim := { program := "ytgcnhojiaaonmaa", sum := "df2ea26e335416032a7a324f1ed86857a5592a5ef4fe13113af581ab45d325b2", func := "loop.example/channelboard/laws.FnExactRecordValid", spec := "fnExactRecordValid", apart := false }
def FnExactRecordValidSaid : Prop := fnExactRecordValidRow.holds Try.pinned (OpenSpec.ofChange fnExactRecordValidSpec)

/-- ITS FALSE NEIGHBOUR: 'it returns false'. Refute it at one input. -/
def fnExactRecordValidWrong : ChangeSpec := { name := "fnExactRecordValid", fn := fun _ => fun
  | [d] => { results := [.lit (.bool false)], args := [d] }
  | _ => none }
def FnExactRecordValidWrongFalsely : Prop := fnExactRecordValidRow.holds Try.pinned (OpenSpec.ofChange fnExactRecordValidWrong)

/-- 'laws.FnCharge': WHATEVER THE INPUT: true; the input reads as it did. -/
def fnChargeSpec : ChangeSpec := { name := "fnCharge", fn := fun _ => fun
  | [d] => { results := [.lit (.bool true)], args := [d] }
  | _ => none }
def fnChargeRow : OpenClaim := { program := "ytgcnhojiaaonmaa", sum := "df2ea26e335416032a7a324f1ed86857a5592a5ef4fe13113af581ab45d325b2", func := "loop.example/channelboard/laws.FnCharge", spec := "fnCharge", apart := false }
def FnChargeSaid : Prop := fnChargeRow.holds Try.pinned (OpenSpec.ofChange fnChargeSpec)

/-- ITS FALSE NEIGHBOUR: 'it returns false'. Refute it at one input. -/
def fnChargeWrong : ChangeSpec := { name := "fnCharge", fn := fun _ => fun
  | [d] => { results := [.lit (.bool false)], args := [d] }
  | _ => none }
def FnChargeWrongFalsely : Prop := fnChargeRow.holds Try.pinned (OpenSpec.ofChange fnChargeWrong)

/-- 'laws.FnExactTalkMinutes': WHATEVER THE INPUT: true; the input reads as it did. -/
def fnExactTalkMinutesSpec : ChangeSpec := { name := "fnExactTalkMinutes", fn := fun _ => fun
  | [d] => { results := [.lit (.bool true)], args := [d] }
  | _ => none }
def fnExactTalkMinutesRow : OpenClaim := { program := "ytgcnhojiaaonmaa", sum := "df2ea26e335416032a7a324f1ed86857a5592a5ef4fe13113af581ab45d325b2", func := "loop.example/channelboard/laws.FnExactTalkMinutes", spec := "fnExactTalkMinutes", apart := false }
def FnExactTalkMinutesSaid : Prop := fnExactTalkMinutesRow.holds Try.pinned (OpenSpec.ofChange fnExactTalkMinutesSpec)

/-- ITS FALSE NEIGHBOUR: 'it returns false'. Refute it at one input. -/
def fnExactTalkMinutesWrong : ChangeSpec := { name := "fnExactTalkMinutes", fn := fun _ => fun
  | [d] => { results := [.lit (.bool false)], args := [d] }
  | _ => none }
def FnExactTalkMinutesWrongFalsely : Prop := fnExactTalkMinutesRow.holds Try.pinned (OpenSpec.ofChange fnExactTalkMinutesWrong)

/-- 'laws.FnExactTasksValid': WHATEVER THE INPUT: true; the input reads as it did. -/
def fnExactTasksValidSpec : ChangeSpec := { name := "fnExactTasksValid", fn := fun _ => fun
  | [d] => { results := [.lit (.bool true)], args := [d] }
  | _ => none }
def fnExactTasksValidRow : OpenClaim := { program := "ytgcnhojiaaonmaa", sum := "df2ea26e335416032a7a324f1ed86857a5592a5ef4fe13113af581ab45d325b2", func := "loop.example/channelboard/laws.FnExactTasksValid", spec := "fnExactTasksValid", apart := false }
def FnExactTasksValidSaid : Prop := fnExactTasksValidRow.holds Try.pinned (OpenSpec.ofChange fnExactTasksValidSpec)

/-- ITS FALSE NEIGHBOUR: 'it returns false'. Refute it at one input. -/
def fnExactTasksValidWrong : ChangeSpec := { name := "fnExactTasksValid", fn := fun _ => fun
  | [d] => { results := [.lit (.bool false)], args := [d] }
  | _ => none }
def FnExactTasksValidWrongFalsely : Prop := fnExactTasksValidRow.holds Try.pinned (OpenSpec.ofChange fnExactTasksValidWrong)

/-- 'laws.FnExactShareCharge': WHATEVER THE INPUT: true; the input reads as it did. -/
def fnExactShareChargeSpec : ChangeSpec := { name := "fnExactShareCharge", fn := fun _ => fun
  | [d1, d2] => { results := [.lit (.bool true)], args := [d1, d2] }
  | _ => none }
def fnExactShareChargeRow : OpenClaim := { program := "ytgcnhojiaaonmaa", sum := "df2ea26e335416032a7a324f1ed86857a5592a5ef4fe13113af581ab45d325b2", func := "loop.example/channelboard/laws.FnExactShareCharge", spec := "fnExactShareCharge", apart := false }
def FnExactShareChargeSaid : Prop := fnExactShareChargeRow.holds Try.pinned (OpenSpec.ofChange fnExactShareChargeSpec)

/-- ITS FALSE NEIGHBOUR: 'it returns false'. Refute it at one input. -/
def fnExactShareChargeWrong : ChangeSpec := { name := "fnExactShareCharge", fn := fun _ => fun
  | [d1, d2] => { results := [.lit (.bool false)], args := [d1, d2] }
  | _ => none }
def FnExactShareChargeWrongFalsely : Prop := fnExactShareChargeRow.holds Try.pinned (OpenSpec.ofChange fnExactShareChargeWrong)

/-- 'laws.FnShare': WHATEVER THE INPUT: true; the input reads as it did. -/
def fnShareSpec : ChangeSpec := { name := "fnShare", fn := fun _ => fun
  | [d] => { results := [.lit (.bool true)], args := [d] }
  | _ => none }
def fnShareRow : OpenClaim := { program := "ytgcnhojiaaonmaa", sum := "df2ea26e335416032a7a324f1ed86857a5592a5ef4fe13113af581ab45d325b2", func := "loop.example/channelboard/laws.FnShare", spec := "fnShare", apart := false }
def FnShareSaid : Prop := fnShareRow.holds Try.pinned (OpenSpec.ofChange fnShareSpec)

/-- ITS FALSE NEIGHBOUR: 'it returns false'. Refute it at one input. -/
def fnShareWrong : ChangeSpec := { name := "fnShare", fn := fun _ => fun
  | [d] => { results := [.lit (.bool false)], args := [d] }
  | _ => none }
def FnShareWrongFalsely : Prop := fnShareRow.holds Try.pinned (OpenSpec.ofChange fnShareWrong)

/-- 'laws.FnExactFaultTicks': WHATEVER THE INPUT: true; the input reads as it did. -/
def fnExactFaultTicksSpec : ChangeSpec := { name := "fnExactFaultTicks", fn := fun _ => fun
  | [d] => { results := [.lit (.bool true)], args := [d] }
  | _ => none }
def fnExactFaultTicksRow : OpenClaim := { program := "ytgcnhojiaaonmaa", sum := "df2ea26e335416032a7a324f1ed86857a5592a5ef4fe13113af581ab45d325b2", func := "loop.example/channelboard/laws.FnExactFaultTicks", spec := "fnExactFaultTicks", apart := false }
def FnExactFaultTicksSaid : Prop := fnExactFaultTicksRow.holds Try.pinned (OpenSpec.ofChange fnExactFaultTicksSpec)

/-- ITS FALSE NEIGHBOUR: 'it returns false'. Refute it at one input. -/
def fnExactFaultTicksWrong : ChangeSpec := { name := "fnExactFaultTicks", fn := fun _ => fun
  | [d] => { results := [.lit (.bool false)], args := [d] }
  | _ => none }
def FnExactFaultTicksWrongFalsely : Prop := fnExactFaultTicksRow.holds Try.pinned (OpenSpec.ofChange fnExactFaultTicksWrong)

/-- 'laws.FnExactFaultsNeeded': WHATEVER THE INPUT: true; the input reads as it did. -/
def fnExactFaultsNeededSpec : ChangeSpec := { name := "fnExactFaultsNeeded", fn := fun _ => fun
  | [d1, d2] => { results := [.lit (.bool true)], args := [d1, d2] }
  | _ => none }
def fnExactFaultsNeededRow : OpenClaim := { program := "ytgcnhojiaaonmaa", sum := "df2ea26e335416032a7a324f1ed86857a5592a5ef4fe13113af581ab45d325b2", func := "loop.example/channelboard/laws.FnExactFaultsNeeded", spec := "fnExactFaultsNeeded", apart := false }
def FnExactFaultsNeededSaid : Prop := fnExactFaultsNeededRow.holds Try.pinned (OpenSpec.ofChange fnExactFaultsNeededSpec)

/-- ITS FALSE NEIGHBOUR: 'it returns false'. Refute it at one input. -/
def fnExactFaultsNeededWrong : ChangeSpec := { name := "fnExactFaultsNeeded", fn := fun _ => fun
  | [d1, d2] => { results := [.lit (.bool false)], args := [d1, d2] }
  | _ => none }
def FnExactFaultsNeededWrongFalsely : Prop := fnExactFaultsNeededRow.holds Try.pinned (OpenSpec.ofChange fnExactFaultsNeededWrong)

/-- 'laws.FnFaultTicks': WHATEVER THE INPUT: true; the input reads as it did. -/
def fnFaultTicksSpec : ChangeSpec := { name := "fnFaultTicks", fn := fun _ => fun
  | [d] => { results := [.lit (.bool true)], args := [d] }
  | _ => none }
def fnFaultTicksRow : OpenClaim := { program := "ytgcnhojiaaonmaa", sum := "df2ea26e335416032a7a324f1ed86857a5592a5ef4fe13113af581ab45d325b2", func := "loop.example/channelboard/laws.FnFaultTicks", spec := "fnFaultTicks", apart := false }
def FnFaultTicksSaid : Prop := fnFaultTicksRow.holds Try.pinned (OpenSpec.ofChange fnFaultTicksSpec)

/-- ITS FALSE NEIGHBOUR: 'it returns false'. Refute it at one input. -/
def fnFaultTicksWrong : ChangeSpec := { name := "fnFaultTicks", fn := fun _ => fun
  | [d] => { results := [.lit (.bool false)], args := [d] }
  | _ => none }
def FnFaultTicksWrongFalsely : Prop := fnFaultTicksRow.holds Try.pinned (OpenSpec.ofChange fnFaultTicksWrong)

/- THE SECOND FORM. 'bulk': how many values and letters a reading holds, each counted each time it is reached (what is shared counts as often as it is met; a slice's spare places count too). A statement '..UptoSaid' is the law's where the arguments, and the package variables that the reading takes, are together of bulk at most 1048576: NARROWER than '..Said'. Prove '..Said' where nothing that the law and all that it calls make is longer than what came in: it says more and counts as full. Else prove '..UptoSaid'. A law counts once. -/
mutual
def uptoBulk {H : Type} : DataW H → Nat
  | .lit (.string bytes) => bytes.length + 1
  | .lit _ => 1
  | .nil => 1
  | .ptr d => uptoBulk d + 1
  | .slice elems spare => uptoBulkAll elems + uptoBulkAll spare + 1
  | .agg parts => uptoBulkAll parts + 1
  | .iface _ d => uptoBulk d + 1
  | .map entries => uptoBulkEntries entries + 1
  | .held _ => 1
def uptoBulkAll {H : Type} : List (DataW H) → Nat
  | [] => 0
  | d :: r => uptoBulk d + uptoBulkAll r
def uptoBulkEntries {H : Type} : List (Lit × DataW H) → Nat
  | [] => 0
  | x :: r => uptoBulkEntry x + uptoBulkEntries r
def uptoBulkEntry {H : Type} : Lit × DataW H → Nat
  | (.string bytes, d) => bytes.length + uptoBulk d + 1
  | (_, d) => uptoBulk d + 1
 end
def uptoSmall : (H : Type) → List (DataW H) → Bool := fun _ ds => decide (uptoBulkAll ds ≤ 1048576)
def OpenSpec.upto (s : _root_.Go.ChangeSpec) : _root_.Go.OpenSpec := { _root_.Go.OpenSpec.ofChange s with cond := some uptoSmall }

/-- 'laws.FnExactTariffValid', WHERE WHAT IT READS IS OF BULK AT MOST 1048576: true; the input reads as it did. -/
def fnExactTariffValidUptoRow : OpenClaim := { program := "ytgcnhojiaaonmaa", sum := "df2ea26e335416032a7a324f1ed86857a5592a5ef4fe13113af581ab45d325b2", func := "loop.example/channelboard/laws.FnExactTariffValid", spec := "fnExactTariffValid", apart := false, narrowed := true }
def FnExactTariffValidUptoSaid : Prop := fnExactTariffValidUptoRow.holds Try.pinned (OpenSpec.upto fnExactTariffValidSpec)

/-- 'laws.FnExactKeeperValid', WHERE WHAT IT READS IS OF BULK AT MOST 1048576: true; the input reads as it did. -/
def fnExactKeeperValidUptoRow : OpenClaim := { program := "ytgcnhojiaaonmaa", sum := "df2ea26e335416032a7a324f1ed86857a5592a5ef4fe13113af581ab45d325b2", func := "loop.example/channelboard/laws.FnExactKeeperValid", spec := "fnExactKeeperValid", apart := false, narrowed := true }
def FnExactKeeperValidUptoSaid : Prop := fnExactKeeperValidUptoRow.holds Try.pinned (OpenSpec.upto fnExactKeeperValidSpec)

/-- 'laws.FnExactChargeOf', WHERE WHAT IT READS IS OF BULK AT MOST 1048576: true; the input reads as it did. -/
def fnExactChargeOfUptoRow : OpenClaim := { program := "ytgcnhojiaaonmaa", sum := "df2ea26e335416032a7a324f1ed86857a5592a5ef4fe13113af581ab45d325b2", func := "loop.example/channelboard/laws.FnExactChargeOf", spec := "fnExactChargeOf", apart := false, narrowed := true }
def FnExactChargeOfUptoSaid : Prop := fnExactChargeOfUptoRow.holds Try.pinned (OpenSpec.upto fnExactChargeOfSpec)

/-- 'laws.FnExactRecordValid', WHERE WHAT IT READS IS OF BULK AT MOST 1048576: true; the input reads as it did. -/
def fnExactRecordValidUptoRow : OpenClaim := { program := "ytgcnhojiaaonmaa", sum := "df2ea26e335416032a7a324f1ed86857a5592a5ef4fe13113af581ab45d325b2", func := "loop.example/channelboard/laws.FnExactRecordValid", spec := "fnExactRecordValid", apart := false, narrowed := true }
def FnExactRecordValidUptoSaid : Prop := fnExactRecordValidUptoRow.holds Try.pinned (OpenSpec.upto fnExactRecordValidSpec)

/-- 'laws.FnCharge', WHERE WHAT IT READS IS OF BULK AT MOST 1048576: true; the input reads as it did. -/
def fnChargeUptoRow : OpenClaim := { program := "ytgcnhojiaaonmaa", sum := "df2ea26e335416032a7a324f1ed86857a5592a5ef4fe13113af581ab45d325b2", func := "loop.example/channelboard/laws.FnCharge", spec := "fnCharge", apart := false, narrowed := true }
def FnChargeUptoSaid : Prop := fnChargeUptoRow.holds Try.pinned (OpenSpec.upto fnChargeSpec)

/-- 'laws.FnExactTalkMinutes', WHERE WHAT IT READS IS OF BULK AT MOST 1048576: true; the input reads as it did. -/
def fnExactTalkMinutesUptoRow : OpenClaim := { program := "ytgcnhojiaaonmaa", sum := "df2ea26e335416032a7a324f1ed86857a5592a5ef4fe13113af581ab45d325b2", func := "loop.example/channelboard/laws.FnExactTalkMinutes", spec := "fnExactTalkMinutes", apart := false, narrowed := true }
def FnExactTalkMinutesUptoSaid : Prop := fnExactTalkMinutesUptoRow.holds Try.pinned (OpenSpec.upto fnExactTalkMinutesSpec)

/-- 'laws.FnExactTasksValid', WHERE WHAT IT READS IS OF BULK AT MOST 1048576: true; the input reads as it did. -/
def fnExactTasksValidUptoRow : OpenClaim := { program := "ytgcnhojiaaonmaa", sum := "df2ea26e335416032a7a324f1ed86857a5592a5ef4fe13113af581ab45d325b2", func := "loop.example/channelboard/laws.FnExactTasksValid", spec := "fnExactTasksValid", apart := false, narrowed := true }
def FnExactTasksValidUptoSaid : Prop := fnExactTasksValidUptoRow.holds Try.pinned (OpenSpec.upto fnExactTasksValidSpec)

/-- 'laws.FnExactShareCharge', WHERE WHAT IT READS IS OF BULK AT MOST 1048576: true; the input reads as it did. -/
def fnExactShareChargeUptoRow : OpenClaim := { program := "ytgcnhojiaaonmaa", sum := "df2ea26e335416032a7a324f1ed86857a5592a5ef4fe13113af581ab45d325b2", func := "loop.example/channelboard/laws.FnExactShareCharge", spec := "fnExactShareCharge", apart := false, narrowed := true }
def FnExactShareChargeUptoSaid : Prop := fnExactShareChargeUptoRow.holds Try.pinned (OpenSpec.upto fnExactShareChargeSpec)

/-- 'laws.FnShare', WHERE WHAT IT READS IS OF BULK AT MOST 1048576: true; the input reads as it did. -/
def fnShareUptoRow : OpenClaim := { program := "ytgcnhojiaaonmaa", sum := "df2ea26e335416032a7a324f1ed86857a5592a5ef4fe13113af581ab45d325b2", func := "loop.example/channelboard/laws.FnShare", spec := "fnShare", apart := false, narrowed := true }
def FnShareUptoSaid : Prop := fnShareUptoRow.holds Try.pinned (OpenSpec.upto fnShareSpec)

/-- 'laws.FnExactFaultTicks', WHERE WHAT IT READS IS OF BULK AT MOST 1048576: true; the input reads as it did. -/
def fnExactFaultTicksUptoRow : OpenClaim := { program := "ytgcnhojiaaonmaa", sum := "df2ea26e335416032a7a324f1ed86857a5592a5ef4fe13113af581ab45d325b2", func := "loop.example/channelboard/laws.FnExactFaultTicks", spec := "fnExactFaultTicks", apart := false, narrowed := true }
def FnExactFaultTicksUptoSaid : Prop := fnExactFaultTicksUptoRow.holds Try.pinned (OpenSpec.upto fnExactFaultTicksSpec)

/-- 'laws.FnExactFaultsNeeded', WHERE WHAT IT READS IS OF BULK AT MOST 1048576: true; the input reads as it did. -/
def fnExactFaultsNeededUptoRow : OpenClaim := { program := "ytgcnhojiaaonmaa", sum := "df2ea26e335416032a7a324f1ed86857a5592a5ef4fe13113af581ab45d325b2", func := "loop.example/channelboard/laws.FnExactFaultsNeeded", spec := "fnExactFaultsNeeded", apart := false, narrowed := true }
def FnExactFaultsNeededUptoSaid : Prop := fnExactFaultsNeededUptoRow.holds Try.pinned (OpenSpec.upto fnExactFaultsNeededSpec)

/-- 'laws.FnFaultTicks', WHERE WHAT IT READS IS OF BULK AT MOST 1048576: true; the input reads as it did. -/
def fnFaultTicksUptoRow : OpenClaim := { program := "ytgcnhojiaaonmaa", sum := "df2ea26e335416032a7a324f1ed86857a5592a5ef4fe13113af581ab45d325b2", func := "loop.example/channelboard/laws.FnFaultTicks", spec := "fnFaultTicks", apart := false, narrowed := true }
def FnFaultTicksUptoSaid : Prop := fnFaultTicksUptoRow.holds Try.pinned (OpenSpec.upto fnFaultTicksSpec)

end Rows
end Go.Proofs.Ytgcnhojiaaonmaa
