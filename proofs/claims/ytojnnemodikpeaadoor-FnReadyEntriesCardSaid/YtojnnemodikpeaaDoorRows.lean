/-
  NARROWER THAN 'FOR EVERY INPUT', by the rows' own cells (each row's printed sentence says how): FnExactTakenFrom: laid · FnRunLines: laid · FnExactOpenLines: laid · FnExactRefusedDeeds: laid · FnExactRunLines: laid · FnLinesApart: laid · FnEnded: laid · FnRefused: laid · FnExactFirstReady: laid · FnExactLeftIn: laid · FnExactNextReady: laid · FnExactReadyEntries: laid · FnReadyEntries: laid · FnNextReady: laid.
  DERIVED. THE GIVEN ROWS OF THIS SEAT. 14 by the template 'for every input the law returns true; each argument reads behind the call as it read before'; 0 by the template 'total and deterministic' (their statements: YtojnnemodikpeaaDoorTotals.lean).
  GIVEN WITH THE SEED: the statements are not yours to turn. If you find one false, say at which input.
  Laid BY PROGRAM, IN A SANDBOX (cutbox-rows.mjs): the forced cells as the released guide's own fill.sh prints them over the translation 899b2bdf6ae5c5e0… (all of the seat's roots in one cut). By AI agents, Wed Nov 11 2026. No macro, syntax, notation, axiom, sorry.
-/
import Derived.Test.YtojnnemodikpeaaDoorChecked
import GoSem.Claim
import GoSem.ClaimJoined
import GoSem.ClaimMapViews
import Derived.JoinedTies
import Derived.KernelRfl
namespace Go.Proofs.YtojnnemodikpeaaDoor
/- THE CELL 'sum', in the pinned program and in every row, IS THE sha256 OF THE DUMP (.gsa) THAT YtojnnemodikpeaaDoorProg.lean LOADS. Nothing in Lean hashes anything: it is a label: what it is worth is what the hold of that sum in a sandbox is worth. -/
noncomputable def Tryd.pinned : Pinned := { name := "ytojnnemodikpeaadoor", sum := "899b2bdf6ae5c5e0f32dab52ccc9ec4337cbb4a30331111956cdd20ffe3be965", checked := Tryd.checked }
namespace Rows
def none {H : Type} : Left H := { results := [], args := [] }

/- WHAT THE LISTED PACKAGE-LEVEL VARIABLES READ AS WHEN THE CALL BEGINS. Each datum BY PROGRAM (the guide's laid-datum.mjs) off the statement by which the dump's own 'gosem.cut.vars' lays the variable. In a bare row this is a premise. The card (YtojnnemodikpeaaDoorCards.lean) ties it to the program's text. -/
def laid_math_bits_deBruijn32tab {H : Type} : DataW H := .agg [.lit (.int .u8 0), .lit (.int .u8 1), .lit (.int .u8 28), .lit (.int .u8 2), .lit (.int .u8 29), .lit (.int .u8 14), .lit (.int .u8 24), .lit (.int .u8 3), .lit (.int .u8 30), .lit (.int .u8 22), .lit (.int .u8 20), .lit (.int .u8 15), .lit (.int .u8 25), .lit (.int .u8 17), .lit (.int .u8 4), .lit (.int .u8 8), .lit (.int .u8 31), .lit (.int .u8 27), .lit (.int .u8 13), .lit (.int .u8 23), .lit (.int .u8 21), .lit (.int .u8 19), .lit (.int .u8 16), .lit (.int .u8 7), .lit (.int .u8 26), .lit (.int .u8 12), .lit (.int .u8 18), .lit (.int .u8 6), .lit (.int .u8 11), .lit (.int .u8 5), .lit (.int .u8 10), .lit (.int .u8 9)]
def laid_math_bits_deBruijn64tab {H : Type} : DataW H := .agg [.lit (.int .u8 0), .lit (.int .u8 1), .lit (.int .u8 56), .lit (.int .u8 2), .lit (.int .u8 57), .lit (.int .u8 49), .lit (.int .u8 28), .lit (.int .u8 3), .lit (.int .u8 61), .lit (.int .u8 58), .lit (.int .u8 42), .lit (.int .u8 50), .lit (.int .u8 38), .lit (.int .u8 29), .lit (.int .u8 17), .lit (.int .u8 4), .lit (.int .u8 62), .lit (.int .u8 47), .lit (.int .u8 59), .lit (.int .u8 36), .lit (.int .u8 45), .lit (.int .u8 43), .lit (.int .u8 51), .lit (.int .u8 22), .lit (.int .u8 53), .lit (.int .u8 39), .lit (.int .u8 33), .lit (.int .u8 30), .lit (.int .u8 24), .lit (.int .u8 18), .lit (.int .u8 12), .lit (.int .u8 5), .lit (.int .u8 63), .lit (.int .u8 55), .lit (.int .u8 48), .lit (.int .u8 27), .lit (.int .u8 60), .lit (.int .u8 41), .lit (.int .u8 37), .lit (.int .u8 16), .lit (.int .u8 46), .lit (.int .u8 35), .lit (.int .u8 44), .lit (.int .u8 21), .lit (.int .u8 52), .lit (.int .u8 32), .lit (.int .u8 23), .lit (.int .u8 11), .lit (.int .u8 54), .lit (.int .u8 26), .lit (.int .u8 40), .lit (.int .u8 15), .lit (.int .u8 34), .lit (.int .u8 20), .lit (.int .u8 31), .lit (.int .u8 10), .lit (.int .u8 25), .lit (.int .u8 14), .lit (.int .u8 19), .lit (.int .u8 9), .lit (.int .u8 13), .lit (.int .u8 8), .lit (.int .u8 7), .lit (.int .u8 6)]
def laid_internal_strconv_uint64pow10 {H : Type} : DataW H := .agg [.lit (.int .u64 1), .lit (.int .u64 10), .lit (.int .u64 100), .lit (.int .u64 1000), .lit (.int .u64 10000), .lit (.int .u64 100000), .lit (.int .u64 1000000), .lit (.int .u64 10000000), .lit (.int .u64 100000000), .lit (.int .u64 1000000000), .lit (.int .u64 10000000000), .lit (.int .u64 100000000000), .lit (.int .u64 1000000000000), .lit (.int .u64 10000000000000), .lit (.int .u64 100000000000000), .lit (.int .u64 1000000000000000), .lit (.int .u64 10000000000000000), .lit (.int .u64 100000000000000000), .lit (.int .u64 1000000000000000000), .lit (.int .u64 10000000000000000000)]

/-- 'laws.FnExactTakenFrom': WHATEVER THE INPUT: true; the input reads as it did. -/
def fnExactTakenFromSpec : ChangeSpec := { name := "fnExactTakenFrom", fn := fun _ => fun
  | [d1, d2, d3] => { results := [.lit (.bool true)], args := [d1, d2, d3] }
  | _ => none }
def fnExactTakenFromRow : OpenClaim := { program := "ytojnnemodikpeaadoor", sum := "899b2bdf6ae5c5e0f32dab52ccc9ec4337cbb4a30331111956cdd20ffe3be965", func := "loop.example/channelboard/laws.FnExactTakenFrom", spec := "fnExactTakenFrom", recurses := true, named := ["internal/strconv.uint64pow10", "math/bits.deBruijn32tab", "math/bits.deBruijn64tab"], apart := false, laid := [("math/bits.deBruijn32tab", laid_math_bits_deBruijn32tab), ("math/bits.deBruijn64tab", laid_math_bits_deBruijn64tab), ("internal/strconv.uint64pow10", laid_internal_strconv_uint64pow10)] }
def FnExactTakenFromSaid : Prop := fnExactTakenFromRow.holds Tryd.pinned (OpenSpec.ofChange fnExactTakenFromSpec)

/-- ITS FALSE NEIGHBOUR: 'it returns false'. Refute it at one input. -/
def fnExactTakenFromWrong : ChangeSpec := { name := "fnExactTakenFrom", fn := fun _ => fun
  | [d1, d2, d3] => { results := [.lit (.bool false)], args := [d1, d2, d3] }
  | _ => none }
def FnExactTakenFromWrongFalsely : Prop := fnExactTakenFromRow.holds Tryd.pinned (OpenSpec.ofChange fnExactTakenFromWrong)

/-- 'laws.FnRunLines': WHATEVER THE INPUT: true; the input reads as it did. -/
def fnRunLinesSpec : ChangeSpec := { name := "fnRunLines", fn := fun _ => fun
  | [d] => { results := [.lit (.bool true)], args := [d] }
  | _ => none }
def fnRunLinesRow : OpenClaim := { program := "ytojnnemodikpeaadoor", sum := "899b2bdf6ae5c5e0f32dab52ccc9ec4337cbb4a30331111956cdd20ffe3be965", func := "loop.example/channelboard/laws.FnRunLines", spec := "fnRunLines", recurses := true, named := ["internal/strconv.uint64pow10", "math/bits.deBruijn32tab", "math/bits.deBruijn64tab"], apart := false, laid := [("math/bits.deBruijn32tab", laid_math_bits_deBruijn32tab), ("math/bits.deBruijn64tab", laid_math_bits_deBruijn64tab), ("internal/strconv.uint64pow10", laid_internal_strconv_uint64pow10)] }
def FnRunLinesSaid : Prop := fnRunLinesRow.holds Tryd.pinned (OpenSpec.ofChange fnRunLinesSpec)

/-- ITS FALSE NEIGHBOUR: 'it returns false'. Refute it at one input. -/
def fnRunLinesWrong : ChangeSpec := { name := "fnRunLines", fn := fun _ => fun
  | [d] => { results := [.lit (.bool false)], args := [d] }
  | _ => none }
def FnRunLinesWrongFalsely : Prop := fnRunLinesRow.holds Tryd.pinned (OpenSpec.ofChange fnRunLinesWrong)

/-- 'laws.FnExactOpenLines': WHATEVER THE INPUT: true; the input reads as it did. -/
def fnExactOpenLinesSpec : ChangeSpec := { name := "fnExactOpenLines", fn := fun _ => fun
  | [d1, d2] => { results := [.lit (.bool true)], args := [d1, d2] }
  | _ => none }
def fnExactOpenLinesRow : OpenClaim := { program := "ytojnnemodikpeaadoor", sum := "899b2bdf6ae5c5e0f32dab52ccc9ec4337cbb4a30331111956cdd20ffe3be965", func := "loop.example/channelboard/laws.FnExactOpenLines", spec := "fnExactOpenLines", recurses := true, named := ["internal/strconv.uint64pow10", "math/bits.deBruijn32tab", "math/bits.deBruijn64tab"], apart := false, laid := [("math/bits.deBruijn32tab", laid_math_bits_deBruijn32tab), ("math/bits.deBruijn64tab", laid_math_bits_deBruijn64tab), ("internal/strconv.uint64pow10", laid_internal_strconv_uint64pow10)] }
def FnExactOpenLinesSaid : Prop := fnExactOpenLinesRow.holds Tryd.pinned (OpenSpec.ofChange fnExactOpenLinesSpec)

/-- ITS FALSE NEIGHBOUR: 'it returns false'. Refute it at one input. -/
def fnExactOpenLinesWrong : ChangeSpec := { name := "fnExactOpenLines", fn := fun _ => fun
  | [d1, d2] => { results := [.lit (.bool false)], args := [d1, d2] }
  | _ => none }
def FnExactOpenLinesWrongFalsely : Prop := fnExactOpenLinesRow.holds Tryd.pinned (OpenSpec.ofChange fnExactOpenLinesWrong)

/-- 'laws.FnExactRefusedDeeds': WHATEVER THE INPUT: true; the input reads as it did. -/
def fnExactRefusedDeedsSpec : ChangeSpec := { name := "fnExactRefusedDeeds", fn := fun _ => fun
  | [d1, d2] => { results := [.lit (.bool true)], args := [d1, d2] }
  | _ => none }
def fnExactRefusedDeedsRow : OpenClaim := { program := "ytojnnemodikpeaadoor", sum := "899b2bdf6ae5c5e0f32dab52ccc9ec4337cbb4a30331111956cdd20ffe3be965", func := "loop.example/channelboard/laws.FnExactRefusedDeeds", spec := "fnExactRefusedDeeds", recurses := true, named := ["internal/strconv.uint64pow10", "math/bits.deBruijn32tab", "math/bits.deBruijn64tab"], apart := false, laid := [("math/bits.deBruijn32tab", laid_math_bits_deBruijn32tab), ("math/bits.deBruijn64tab", laid_math_bits_deBruijn64tab), ("internal/strconv.uint64pow10", laid_internal_strconv_uint64pow10)] }
def FnExactRefusedDeedsSaid : Prop := fnExactRefusedDeedsRow.holds Tryd.pinned (OpenSpec.ofChange fnExactRefusedDeedsSpec)

/-- ITS FALSE NEIGHBOUR: 'it returns false'. Refute it at one input. -/
def fnExactRefusedDeedsWrong : ChangeSpec := { name := "fnExactRefusedDeeds", fn := fun _ => fun
  | [d1, d2] => { results := [.lit (.bool false)], args := [d1, d2] }
  | _ => none }
def FnExactRefusedDeedsWrongFalsely : Prop := fnExactRefusedDeedsRow.holds Tryd.pinned (OpenSpec.ofChange fnExactRefusedDeedsWrong)

/-- 'laws.FnExactRunLines': WHATEVER THE INPUT: true; the input reads as it did. -/
def fnExactRunLinesSpec : ChangeSpec := { name := "fnExactRunLines", fn := fun _ => fun
  | [d1, d2] => { results := [.lit (.bool true)], args := [d1, d2] }
  | _ => none }
def fnExactRunLinesRow : OpenClaim := { program := "ytojnnemodikpeaadoor", sum := "899b2bdf6ae5c5e0f32dab52ccc9ec4337cbb4a30331111956cdd20ffe3be965", func := "loop.example/channelboard/laws.FnExactRunLines", spec := "fnExactRunLines", recurses := true, named := ["internal/strconv.uint64pow10", "math/bits.deBruijn32tab", "math/bits.deBruijn64tab"], apart := false, laid := [("math/bits.deBruijn32tab", laid_math_bits_deBruijn32tab), ("math/bits.deBruijn64tab", laid_math_bits_deBruijn64tab), ("internal/strconv.uint64pow10", laid_internal_strconv_uint64pow10)] }
def FnExactRunLinesSaid : Prop := fnExactRunLinesRow.holds Tryd.pinned (OpenSpec.ofChange fnExactRunLinesSpec)

/-- ITS FALSE NEIGHBOUR: 'it returns false'. Refute it at one input. -/
def fnExactRunLinesWrong : ChangeSpec := { name := "fnExactRunLines", fn := fun _ => fun
  | [d1, d2] => { results := [.lit (.bool false)], args := [d1, d2] }
  | _ => none }
def FnExactRunLinesWrongFalsely : Prop := fnExactRunLinesRow.holds Tryd.pinned (OpenSpec.ofChange fnExactRunLinesWrong)

/-- 'laws.FnLinesApart': WHATEVER THE INPUT: true; the input reads as it did. -/
def fnLinesApartSpec : ChangeSpec := { name := "fnLinesApart", fn := fun _ => fun
  | [d] => { results := [.lit (.bool true)], args := [d] }
  | _ => none }
def fnLinesApartRow : OpenClaim := { program := "ytojnnemodikpeaadoor", sum := "899b2bdf6ae5c5e0f32dab52ccc9ec4337cbb4a30331111956cdd20ffe3be965", func := "loop.example/channelboard/laws.FnLinesApart", spec := "fnLinesApart", recurses := true, named := ["internal/strconv.uint64pow10", "math/bits.deBruijn32tab", "math/bits.deBruijn64tab"], apart := false, laid := [("math/bits.deBruijn32tab", laid_math_bits_deBruijn32tab), ("math/bits.deBruijn64tab", laid_math_bits_deBruijn64tab), ("internal/strconv.uint64pow10", laid_internal_strconv_uint64pow10)] }
def FnLinesApartSaid : Prop := fnLinesApartRow.holds Tryd.pinned (OpenSpec.ofChange fnLinesApartSpec)

/-- ITS FALSE NEIGHBOUR: 'it returns false'. Refute it at one input. -/
def fnLinesApartWrong : ChangeSpec := { name := "fnLinesApart", fn := fun _ => fun
  | [d] => { results := [.lit (.bool false)], args := [d] }
  | _ => none }
def FnLinesApartWrongFalsely : Prop := fnLinesApartRow.holds Tryd.pinned (OpenSpec.ofChange fnLinesApartWrong)

/-- 'laws.FnEnded': WHATEVER THE INPUT: true; the input reads as it did. -/
def fnEndedSpec : ChangeSpec := { name := "fnEnded", fn := fun _ => fun
  | [d] => { results := [.lit (.bool true)], args := [d] }
  | _ => none }
def fnEndedRow : OpenClaim := { program := "ytojnnemodikpeaadoor", sum := "899b2bdf6ae5c5e0f32dab52ccc9ec4337cbb4a30331111956cdd20ffe3be965", func := "loop.example/channelboard/laws.FnEnded", spec := "fnEnded", recurses := true, named := ["internal/strconv.uint64pow10", "math/bits.deBruijn32tab", "math/bits.deBruijn64tab"], apart := false, laid := [("math/bits.deBruijn32tab", laid_math_bits_deBruijn32tab), ("math/bits.deBruijn64tab", laid_math_bits_deBruijn64tab), ("internal/strconv.uint64pow10", laid_internal_strconv_uint64pow10)] }
def FnEndedSaid : Prop := fnEndedRow.holds Tryd.pinned (OpenSpec.ofChange fnEndedSpec)

/-- ITS FALSE NEIGHBOUR: 'it returns false'. Refute it at one input. -/
def fnEndedWrong : ChangeSpec := { name := "fnEnded", fn := fun _ => fun
  | [d] => { results := [.lit (.bool false)], args := [d] }
  | _ => none }
def FnEndedWrongFalsely : Prop := fnEndedRow.holds Tryd.pinned (OpenSpec.ofChange fnEndedWrong)

/-- 'laws.FnRefused': WHATEVER THE INPUT: true; the input reads as it did. -/
def fnRefusedSpec : ChangeSpec := { name := "fnRefused", fn := fun _ => fun
  | [d] => { results := [.lit (.bool true)], args := [d] }
  | _ => none }
def fnRefusedRow : OpenClaim := { program := "ytojnnemodikpeaadoor", sum := "899b2bdf6ae5c5e0f32dab52ccc9ec4337cbb4a30331111956cdd20ffe3be965", func := "loop.example/channelboard/laws.FnRefused", spec := "fnRefused", recurses := true, named := ["internal/strconv.uint64pow10", "math/bits.deBruijn32tab", "math/bits.deBruijn64tab"], apart := false, laid := [("math/bits.deBruijn32tab", laid_math_bits_deBruijn32tab), ("math/bits.deBruijn64tab", laid_math_bits_deBruijn64tab), ("internal/strconv.uint64pow10", laid_internal_strconv_uint64pow10)] }
def FnRefusedSaid : Prop := fnRefusedRow.holds Tryd.pinned (OpenSpec.ofChange fnRefusedSpec)

/-- ITS FALSE NEIGHBOUR: 'it returns false'. Refute it at one input. -/
def fnRefusedWrong : ChangeSpec := { name := "fnRefused", fn := fun _ => fun
  | [d] => { results := [.lit (.bool false)], args := [d] }
  | _ => none }
def FnRefusedWrongFalsely : Prop := fnRefusedRow.holds Tryd.pinned (OpenSpec.ofChange fnRefusedWrong)

/-- 'laws.FnExactFirstReady': WHATEVER THE INPUT: true; the input reads as it did. -/
def fnExactFirstReadySpec : ChangeSpec := { name := "fnExactFirstReady", fn := fun _ => fun
  | [d1, d2, d3] => { results := [.lit (.bool true)], args := [d1, d2, d3] }
  | _ => none }
def fnExactFirstReadyRow : OpenClaim := { program := "ytojnnemodikpeaadoor", sum := "899b2bdf6ae5c5e0f32dab52ccc9ec4337cbb4a30331111956cdd20ffe3be965", func := "loop.example/channelboard/laws.FnExactFirstReady", spec := "fnExactFirstReady", recurses := true, named := ["internal/strconv.uint64pow10", "math/bits.deBruijn32tab", "math/bits.deBruijn64tab"], apart := false, laid := [("math/bits.deBruijn32tab", laid_math_bits_deBruijn32tab), ("math/bits.deBruijn64tab", laid_math_bits_deBruijn64tab), ("internal/strconv.uint64pow10", laid_internal_strconv_uint64pow10)] }
def FnExactFirstReadySaid : Prop := fnExactFirstReadyRow.holds Tryd.pinned (OpenSpec.ofChange fnExactFirstReadySpec)

/-- ITS FALSE NEIGHBOUR: 'it returns false'. Refute it at one input. -/
def fnExactFirstReadyWrong : ChangeSpec := { name := "fnExactFirstReady", fn := fun _ => fun
  | [d1, d2, d3] => { results := [.lit (.bool false)], args := [d1, d2, d3] }
  | _ => none }
def FnExactFirstReadyWrongFalsely : Prop := fnExactFirstReadyRow.holds Tryd.pinned (OpenSpec.ofChange fnExactFirstReadyWrong)

/-- 'laws.FnExactLeftIn': WHATEVER THE INPUT: true; the input reads as it did. -/
def fnExactLeftInSpec : ChangeSpec := { name := "fnExactLeftIn", fn := fun _ => fun
  | [d1, d2] => { results := [.lit (.bool true)], args := [d1, d2] }
  | _ => none }
def fnExactLeftInRow : OpenClaim := { program := "ytojnnemodikpeaadoor", sum := "899b2bdf6ae5c5e0f32dab52ccc9ec4337cbb4a30331111956cdd20ffe3be965", func := "loop.example/channelboard/laws.FnExactLeftIn", spec := "fnExactLeftIn", recurses := true, named := ["internal/strconv.uint64pow10", "math/bits.deBruijn32tab", "math/bits.deBruijn64tab"], apart := false, laid := [("math/bits.deBruijn32tab", laid_math_bits_deBruijn32tab), ("math/bits.deBruijn64tab", laid_math_bits_deBruijn64tab), ("internal/strconv.uint64pow10", laid_internal_strconv_uint64pow10)] }
def FnExactLeftInSaid : Prop := fnExactLeftInRow.holds Tryd.pinned (OpenSpec.ofChange fnExactLeftInSpec)

/-- ITS FALSE NEIGHBOUR: 'it returns false'. Refute it at one input. -/
def fnExactLeftInWrong : ChangeSpec := { name := "fnExactLeftIn", fn := fun _ => fun
  | [d1, d2] => { results := [.lit (.bool false)], args := [d1, d2] }
  | _ => none }
def FnExactLeftInWrongFalsely : Prop := fnExactLeftInRow.holds Tryd.pinned (OpenSpec.ofChange fnExactLeftInWrong)

/-- 'laws.FnExactNextReady': WHATEVER THE INPUT: true; the input reads as it did. -/
def fnExactNextReadySpec : ChangeSpec := { name := "fnExactNextReady", fn := fun _ => fun
  | [d1, d2, d3, d4] => { results := [.lit (.bool true)], args := [d1, d2, d3, d4] }
  | _ => none }
def fnExactNextReadyRow : OpenClaim := { program := "ytojnnemodikpeaadoor", sum := "899b2bdf6ae5c5e0f32dab52ccc9ec4337cbb4a30331111956cdd20ffe3be965", func := "loop.example/channelboard/laws.FnExactNextReady", spec := "fnExactNextReady", recurses := true, named := ["internal/strconv.uint64pow10", "math/bits.deBruijn32tab", "math/bits.deBruijn64tab"], apart := false, laid := [("math/bits.deBruijn32tab", laid_math_bits_deBruijn32tab), ("math/bits.deBruijn64tab", laid_math_bits_deBruijn64tab), ("internal/strconv.uint64pow10", laid_internal_strconv_uint64pow10)] }
def FnExactNextReadySaid : Prop := fnExactNextReadyRow.holds Tryd.pinned (OpenSpec.ofChange fnExactNextReadySpec)

/-- ITS FALSE NEIGHBOUR: 'it returns false'. Refute it at one input. -/
def fnExactNextReadyWrong : ChangeSpec := { name := "fnExactNextReady", fn := fun _ => fun
  | [d1, d2, d3, d4] => { results := [.lit (.bool false)], args := [d1, d2, d3, d4] }
  | _ => none }
def FnExactNextReadyWrongFalsely : Prop := fnExactNextReadyRow.holds Tryd.pinned (OpenSpec.ofChange fnExactNextReadyWrong)

/-- 'laws.FnExactReadyEntries': WHATEVER THE INPUT: true; the input reads as it did. -/
def fnExactReadyEntriesSpec : ChangeSpec := { name := "fnExactReadyEntries", fn := fun _ => fun
  | [d1, d2, d3] => { results := [.lit (.bool true)], args := [d1, d2, d3] }
  | _ => none }
def fnExactReadyEntriesRow : OpenClaim := { program := "ytojnnemodikpeaadoor", sum := "899b2bdf6ae5c5e0f32dab52ccc9ec4337cbb4a30331111956cdd20ffe3be965", func := "loop.example/channelboard/laws.FnExactReadyEntries", spec := "fnExactReadyEntries", recurses := true, named := ["internal/strconv.uint64pow10", "math/bits.deBruijn32tab", "math/bits.deBruijn64tab"], apart := false, laid := [("math/bits.deBruijn32tab", laid_math_bits_deBruijn32tab), ("math/bits.deBruijn64tab", laid_math_bits_deBruijn64tab), ("internal/strconv.uint64pow10", laid_internal_strconv_uint64pow10)] }
def FnExactReadyEntriesSaid : Prop := fnExactReadyEntriesRow.holds Tryd.pinned (OpenSpec.ofChange fnExactReadyEntriesSpec)

/-- ITS FALSE NEIGHBOUR: 'it returns false'. Refute it at one input. -/
def fnExactReadyEntriesWrong : ChangeSpec := { name := "fnExactReadyEntries", fn := fun _ => fun
  | [d1, d2, d3] => { results := [.lit (.bool false)], args := [d1, d2, d3] }
  | _ => none }
def FnExactReadyEntriesWrongFalsely : Prop := fnExactReadyEntriesRow.holds Tryd.pinned (OpenSpec.ofChange fnExactReadyEntriesWrong)

/-- 'laws.FnReadyEntries': WHATEVER THE INPUT: true; the input reads as it did. -/
def fnReadyEntriesSpec : ChangeSpec := { name := "fnReadyEntries", fn := fun _ => fun
  | [d] => { results := [.lit (.bool true)], args := [d] }
  | _ => none }
def fnReadyEntriesRow : OpenClaim := { program := "ytojnnemodikpeaadoor", sum := "899b2bdf6ae5c5e0f32dab52ccc9ec4337cbb4a30331111956cdd20ffe3be965", func := "loop.example/channelboard/laws.FnReadyEntries", spec := "fnReadyEntries", recurses := true, named := ["internal/strconv.uint64pow10", "math/bits.deBruijn32tab", "math/bits.deBruijn64tab"], apart := false, laid := [("math/bits.deBruijn32tab", laid_math_bits_deBruijn32tab), ("math/bits.deBruijn64tab", laid_math_bits_deBruijn64tab), ("internal/strconv.uint64pow10", laid_internal_strconv_uint64pow10)] }
def FnReadyEntriesSaid : Prop := fnReadyEntriesRow.holds Tryd.pinned (OpenSpec.ofChange fnReadyEntriesSpec)

/-- ITS FALSE NEIGHBOUR: 'it returns false'. Refute it at one input. -/
def fnReadyEntriesWrong : ChangeSpec := { name := "fnReadyEntries", fn := fun _ => fun
  | [d] => { results := [.lit (.bool false)], args := [d] }
  | _ => none }
def FnReadyEntriesWrongFalsely : Prop := fnReadyEntriesRow.holds Tryd.pinned (OpenSpec.ofChange fnReadyEntriesWrong)

/-- 'laws.FnNextReady': WHATEVER THE INPUT: true; the input reads as it did. -/
def fnNextReadySpec : ChangeSpec := { name := "fnNextReady", fn := fun _ => fun
  | [d] => { results := [.lit (.bool true)], args := [d] }
  | _ => none }
def fnNextReadyRow : OpenClaim := { program := "ytojnnemodikpeaadoor", sum := "899b2bdf6ae5c5e0f32dab52ccc9ec4337cbb4a30331111956cdd20ffe3be965", func := "loop.example/channelboard/laws.FnNextReady", spec := "fnNextReady", recurses := true, named := ["internal/strconv.uint64pow10", "math/bits.deBruijn32tab", "math/bits.deBruijn64tab"], apart := false, laid := [("math/bits.deBruijn32tab", laid_math_bits_deBruijn32tab), ("math/bits.deBruijn64tab", laid_math_bits_deBruijn64tab), ("internal/strconv.uint64pow10", laid_internal_strconv_uint64pow10)] }
def FnNextReadySaid : Prop := fnNextReadyRow.holds Tryd.pinned (OpenSpec.ofChange fnNextReadySpec)

/-- ITS FALSE NEIGHBOUR: 'it returns false'. Refute it at one input. -/
def fnNextReadyWrong : ChangeSpec := { name := "fnNextReady", fn := fun _ => fun
  | [d] => { results := [.lit (.bool false)], args := [d] }
  | _ => none }
def FnNextReadyWrongFalsely : Prop := fnNextReadyRow.holds Tryd.pinned (OpenSpec.ofChange fnNextReadyWrong)

/- THE SECOND FORM. 'bulk': how many values and letters a reading holds, each counted each time it is reached (what is shared counts as often as it is met; a slice's spare places count too). A statement '..UptoSaid' is the law's where the arguments, and the package variables that the reading takes, are together of bulk at most 1048576: NARROWER than '..Said'. Prove '..Said' where nothing that the law and all that it calls make is longer than what came in: it says more and counts as full. Else prove '..UptoSaid'. A law counts once. -/
mutual
def uptoBulk {H : Type} : DataW H → Nat
  | .lit (.string bytes) => bytes.length + 1
  | .lit _ => 1
  | .nil => 1
  | .ptr d => uptoBulk d + 1
  | .slice elems spare => uptoBulkAll elems + uptoBulkAll spare + 1
  | .agg parts => uptoBulkAll parts + 1
  | .iface _ d => uptoBulk d + 1
  | .map entries => uptoBulkEntries entries + 1
  | .held _ => 1
def uptoBulkAll {H : Type} : List (DataW H) → Nat
  | [] => 0
  | d :: r => uptoBulk d + uptoBulkAll r
def uptoBulkEntries {H : Type} : List (Lit × DataW H) → Nat
  | [] => 0
  | x :: r => uptoBulkEntry x + uptoBulkEntries r
def uptoBulkEntry {H : Type} : Lit × DataW H → Nat
  | (.string bytes, d) => bytes.length + uptoBulk d + 1
  | (_, d) => uptoBulk d + 1
 end
def uptoSmall : (H : Type) → List (DataW H) → Bool := fun _ ds => decide (uptoBulkAll ds ≤ 1048576)
def OpenSpec.upto (s : _root_.Go.ChangeSpec) : _root_.Go.OpenSpec := { _root_.Go.OpenSpec.ofChange s with cond := some uptoSmall }

/-- 'laws.FnExactTakenFrom', WHERE WHAT IT READS IS OF BULK AT MOST 1048576: true; the input reads as it did. -/
def fnExactTakenFromUptoRow : OpenClaim := { program := "ytojnnemodikpeaadoor", sum := "899b2bdf6ae5c5e0f32dab52ccc9ec4337cbb4a30331111956cdd20ffe3be965", func := "loop.example/channelboard/laws.FnExactTakenFrom", spec := "fnExactTakenFrom", recurses := true, named := ["internal/strconv.uint64pow10", "math/bits.deBruijn32tab", "math/bits.deBruijn64tab"], apart := false, laid := [("math/bits.deBruijn32tab", laid_math_bits_deBruijn32tab), ("math/bits.deBruijn64tab", laid_math_bits_deBruijn64tab), ("internal/strconv.uint64pow10", laid_internal_strconv_uint64pow10)], narrowed := true }
def FnExactTakenFromUptoSaid : Prop := fnExactTakenFromUptoRow.holds Tryd.pinned (OpenSpec.upto fnExactTakenFromSpec)

/-- 'laws.FnRunLines', WHERE WHAT IT READS IS OF BULK AT MOST 1048576: true; the input reads as it did. -/
def fnRunLinesUptoRow : OpenClaim := { program := "ytojnnemodikpeaadoor", sum := "899b2bdf6ae5c5e0f32dab52ccc9ec4337cbb4a30331111956cdd20ffe3be965", func := "loop.example/channelboard/laws.FnRunLines", spec := "fnRunLines", recurses := true, named := ["internal/strconv.uint64pow10", "math/bits.deBruijn32tab", "math/bits.deBruijn64tab"], apart := false, laid := [("math/bits.deBruijn32tab", laid_math_bits_deBruijn32tab), ("math/bits.deBruijn64tab", laid_math_bits_deBruijn64tab), ("internal/strconv.uint64pow10", laid_internal_strconv_uint64pow10)], narrowed := true }
def FnRunLinesUptoSaid : Prop := fnRunLinesUptoRow.holds Tryd.pinned (OpenSpec.upto fnRunLinesSpec)

/-- 'laws.FnExactOpenLines', WHERE WHAT IT READS IS OF BULK AT MOST 1048576: true; the input reads as it did. -/
def fnExactOpenLinesUptoRow : OpenClaim := { program := "ytojnnemodikpeaadoor", sum := "899b2bdf6ae5c5e0f32dab52ccc9ec4337cbb4a30331111956cdd20ffe3be965", func := "loop.example/channelboard/laws.FnExactOpenLines", spec := "fnExactOpenLines", recurses := true, named := ["internal/strconv.uint64pow10", "math/bits.deBruijn32tab", "math/bits.deBruijn64tab"], apart := false, laid := [("math/bits.deBruijn32tab", laid_math_bits_deBruijn32tab), ("math/bits.deBruijn64tab", laid_math_bits_deBruijn64tab), ("internal/strconv.uint64pow10", laid_internal_strconv_uint64pow10)], narrowed := true }
def FnExactOpenLinesUptoSaid : Prop := fnExactOpenLinesUptoRow.holds Tryd.pinned (OpenSpec.upto fnExactOpenLinesSpec)

/-- 'laws.FnExactRefusedDeeds', WHERE WHAT IT READS IS OF BULK AT MOST 1048576: true; the input reads as it did. -/
def fnExactRefusedDeedsUptoRow : OpenClaim := { program := "ytojnnemodikpeaadoor", sum := "899b2bdf6ae5c5e0f32dab52ccc9ec4337cbb4a30331111956cdd20ffe3be965", func := "loop.example/channelboard/laws.FnExactRefusedDeeds", spec := "fnExactRefusedDeeds", recurses := true, named := ["internal/strconv.uint64pow10", "math/bits.deBruijn32tab", "math/bits.deBruijn64tab"], apart := false, laid := [("math/bits.deBruijn32tab", laid_math_bits_deBruijn32tab), ("math/bits.deBruijn64tab", laid_math_bits_deBruijn64tab), ("internal/strconv.uint64pow10", laid_internal_strconv_uint64pow10)], narrowed := true }
def FnExactRefusedDeedsUptoSaid : Prop := fnExactRefusedDeedsUptoRow.holds Tryd.pinned (OpenSpec.upto fnExactRefusedDeedsSpec)

/-- 'laws.FnExactRunLines', WHERE WHAT IT READS IS OF BULK AT MOST 1048576: true; the input reads as it did. -/
def fnExactRunLinesUptoRow : OpenClaim := { program := "ytojnnemodikpeaadoor", sum := "899b2bdf6ae5c5e0f32dab52ccc9ec4337cbb4a30331111956cdd20ffe3be965", func := "loop.example/channelboard/laws.FnExactRunLines", spec := "fnExactRunLines", recurses := true, named := ["internal/strconv.uint64pow10", "math/bits.deBruijn32tab", "math/bits.deBruijn64tab"], apart := false, laid := [("math/bits.deBruijn32tab", laid_math_bits_deBruijn32tab), ("math/bits.deBruijn64tab", laid_math_bits_deBruijn64tab), ("internal/strconv.uint64pow10", laid_internal_strconv_uint64pow10)], narrowed := true }
def FnExactRunLinesUptoSaid : Prop := fnExactRunLinesUptoRow.holds Tryd.pinned (OpenSpec.upto fnExactRunLinesSpec)

/-- 'laws.FnLinesApart', WHERE WHAT IT READS IS OF BULK AT MOST 1048576: true; the input reads as it did. -/
def fnLinesApartUptoRow : OpenClaim := { program := "ytojnnemodikpeaadoor", sum := "899b2bdf6ae5c5e0f32dab52ccc9ec4337cbb4a30331111956cdd20ffe3be965", func := "loop.example/channelboard/laws.FnLinesApart", spec := "fnLinesApart", recurses := true, named := ["internal/strconv.uint64pow10", "math/bits.deBruijn32tab", "math/bits.deBruijn64tab"], apart := false, laid := [("math/bits.deBruijn32tab", laid_math_bits_deBruijn32tab), ("math/bits.deBruijn64tab", laid_math_bits_deBruijn64tab), ("internal/strconv.uint64pow10", laid_internal_strconv_uint64pow10)], narrowed := true }
def FnLinesApartUptoSaid : Prop := fnLinesApartUptoRow.holds Tryd.pinned (OpenSpec.upto fnLinesApartSpec)

/-- 'laws.FnEnded', WHERE WHAT IT READS IS OF BULK AT MOST 1048576: true; the input reads as it did. -/
def fnEndedUptoRow : OpenClaim := { program := "ytojnnemodikpeaadoor", sum := "899b2bdf6ae5c5e0f32dab52ccc9ec4337cbb4a30331111956cdd20ffe3be965", func := "loop.example/channelboard/laws.FnEnded", spec := "fnEnded", recurses := true, named := ["internal/strconv.uint64pow10", "math/bits.deBruijn32tab", "math/bits.deBruijn64tab"], apart := false, laid := [("math/bits.deBruijn32tab", laid_math_bits_deBruijn32tab), ("math/bits.deBruijn64tab", laid_math_bits_deBruijn64tab), ("internal/strconv.uint64pow10", laid_internal_strconv_uint64pow10)], narrowed := true }
def FnEndedUptoSaid : Prop := fnEndedUptoRow.holds Tryd.pinned (OpenSpec.upto fnEndedSpec)

/-- 'laws.FnRefused', WHERE WHAT IT READS IS OF BULK AT MOST 1048576: true; the input reads as it did. -/
def fnRefusedUptoRow : OpenClaim := { program := "ytojnnemodikpeaadoor", sum := "899b2bdf6ae5c5e0f32dab52ccc9ec4337cbb4a30331111956cdd20ffe3be965", func := "loop.example/channelboard/laws.FnRefused", spec := "fnRefused", recurses := true, named := ["internal/strconv.uint64pow10", "math/bits.deBruijn32tab", "math/bits.deBruijn64tab"], apart := false, laid := [("math/bits.deBruijn32tab", laid_math_bits_deBruijn32tab), ("math/bits.deBruijn64tab", laid_math_bits_deBruijn64tab), ("internal/strconv.uint64pow10", laid_internal_strconv_uint64pow10)], narrowed := true }
def FnRefusedUptoSaid : Prop := fnRefusedUptoRow.holds Tryd.pinned (OpenSpec.upto fnRefusedSpec)

/-- 'laws.FnExactFirstReady', WHERE WHAT IT READS IS OF BULK AT MOST 1048576: true; the input reads as it did. -/
def fnExactFirstReadyUptoRow : OpenClaim := { program := "ytojnnemodikpeaadoor", sum := "899b2bdf6ae5c5e0f32dab52ccc9ec4337cbb4a30331111956cdd20ffe3be965", func := "loop.example/channelboard/laws.FnExactFirstReady", spec := "fnExactFirstReady", recurses := true, named := ["internal/strconv.uint64pow10", "math/bits.deBruijn32tab", "math/bits.deBruijn64tab"], apart := false, laid := [("math/bits.deBruijn32tab", laid_math_bits_deBruijn32tab), ("math/bits.deBruijn64tab", laid_math_bits_deBruijn64tab), ("internal/strconv.uint64pow10", laid_internal_strconv_uint64pow10)], narrowed := true }
def FnExactFirstReadyUptoSaid : Prop := fnExactFirstReadyUptoRow.holds Tryd.pinned (OpenSpec.upto fnExactFirstReadySpec)

/-- 'laws.FnExactLeftIn', WHERE WHAT IT READS IS OF BULK AT MOST 1048576: true; the input reads as it did. -/
def fnExactLeftInUptoRow : OpenClaim := { program := "ytojnnemodikpeaadoor", sum := "899b2bdf6ae5c5e0f32dab52ccc9ec4337cbb4a30331111956cdd20ffe3be965", func := "loop.example/channelboard/laws.FnExactLeftIn", spec := "fnExactLeftIn", recurses := true, named := ["internal/strconv.uint64pow10", "math/bits.deBruijn32tab", "math/bits.deBruijn64tab"], apart := false, laid := [("math/bits.deBruijn32tab", laid_math_bits_deBruijn32tab), ("math/bits.deBruijn64tab", laid_math_bits_deBruijn64tab), ("internal/strconv.uint64pow10", laid_internal_strconv_uint64pow10)], narrowed := true }
def FnExactLeftInUptoSaid : Prop := fnExactLeftInUptoRow.holds Tryd.pinned (OpenSpec.upto fnExactLeftInSpec)

/-- 'laws.FnExactNextReady', WHERE WHAT IT READS IS OF BULK AT MOST 1048576: true; the input reads as it did. -/
def fnExactNextReadyUptoRow : OpenClaim := { program := "ytojnnemodikpeaadoor", sum := "899b2bdf6ae5c5e0f32dab52ccc9ec4337cbb4a30331111956cdd20ffe3be965", func := "loop.example/channelboard/laws.FnExactNextReady", spec := "fnExactNextReady", recurses := true, named := ["internal/strconv.uint64pow10", "math/bits.deBruijn32tab", "math/bits.deBruijn64tab"], apart := false, laid := [("math/bits.deBruijn32tab", laid_math_bits_deBruijn32tab), ("math/bits.deBruijn64tab", laid_math_bits_deBruijn64tab), ("internal/strconv.uint64pow10", laid_internal_strconv_uint64pow10)], narrowed := true }
def FnExactNextReadyUptoSaid : Prop := fnExactNextReadyUptoRow.holds Tryd.pinned (OpenSpec.upto fnExactNextReadySpec)

/-- 'laws.FnExactReadyEntries', WHERE WHAT IT READS IS OF BULK AT MOST 1048576: true; the input reads as it did. -/
def fnExactReadyEntriesUptoRow : OpenClaim := { program := "ytojnnemodikpeaadoor", sum := "899b2bdf6ae5c5e0f32dab52ccc9ec4337cbb4a30331111956cdd20ffe3be965", func := "loop.example/channelboard/laws.FnExactReadyEntries", spec := "fnExactReadyEntries", recurses := true, named := ["internal/strconv.uint64pow10", "math/bits.deBruijn32tab", "math/bits.deBruijn64tab"], apart := false, laid := [("math/bits.deBruijn32tab", laid_math_bits_deBruijn32tab), ("math/bits.deBruijn64tab", laid_math_bits_deBruijn64tab), ("internal/strconv.uint64pow10", laid_internal_strconv_uint64pow10)], narrowed := true }
def FnExactReadyEntriesUptoSaid : Prop := fnExactReadyEntriesUptoRow.holds Tryd.pinned (OpenSpec.upto fnExactReadyEntriesSpec)

/-- 'laws.FnReadyEntries', WHERE WHAT IT READS IS OF BULK AT MOST 1048576: true; the input reads as it did. -/
def fnReadyEntriesUptoRow : OpenClaim := { program := "ytojnnemodikpeaadoor", sum := "899b2bdf6ae5c5e0f32dab52ccc9ec4337cbb4a30331111956cdd20ffe3be965", func := "loop.example/channelboard/laws.FnReadyEntries", spec := "fnReadyEntries", recurses := true, named := ["internal/strconv.uint64pow10", "math/bits.deBruijn32tab", "math/bits.deBruijn64tab"], apart := false, laid := [("math/bits.deBruijn32tab", laid_math_bits_deBruijn32tab), ("math/bits.deBruijn64tab", laid_math_bits_deBruijn64tab), ("internal/strconv.uint64pow10", laid_internal_strconv_uint64pow10)], narrowed := true }
def FnReadyEntriesUptoSaid : Prop := fnReadyEntriesUptoRow.holds Tryd.pinned (OpenSpec.upto fnReadyEntriesSpec)

/-- 'laws.FnNextReady', WHERE WHAT IT READS IS OF BULK AT MOST 1048576: true; the input reads as it did. -/
def fnNextReadyUptoRow : OpenClaim := { program := "ytojnnemodikpeaadoor", sum := "899b2bdf6ae5c5e0f32dab52ccc9ec4337cbb4a30331111956cdd20ffe3be965", func := "loop.example/channelboard/laws.FnNextReady", spec := "fnNextReady", recurses := true, named := ["internal/strconv.uint64pow10", "math/bits.deBruijn32tab", "math/bits.deBruijn64tab"], apart := false, laid := [("math/bits.deBruijn32tab", laid_math_bits_deBruijn32tab), ("math/bits.deBruijn64tab", laid_math_bits_deBruijn64tab), ("internal/strconv.uint64pow10", laid_internal_strconv_uint64pow10)], narrowed := true }
def FnNextReadyUptoSaid : Prop := fnNextReadyUptoRow.holds Tryd.pinned (OpenSpec.upto fnNextReadySpec)

end Rows
end Go.Proofs.YtojnnemodikpeaaDoor
