/-
  What this program's numbers are of sync.WaitGroup's functions and types.
-/
import Derived.Test.YtjcpjijihajopaaBase
import Derived.Test.YtjcpjijihajopaaMt7
set_option linter.unusedSectionVars false
set_option linter.unusedSimpArgs false
set_option linter.unusedVariables false
namespace Go.Proofs.Ytjcpjijihajopaa
open Go.RowKit Go.Mt Go.Conc Go.Tt Go.Conc.Lib Go.ConcR.Gen
abbrev wgl : WgLink := { add := 54, done := 56, wait := 57, relMerge := 63, disable := 64, enable := 65, inBubble := 66, associate := 67, fatal := 68, uOr := 69, uAdd := 70, raceRead := 71, uLoad := 72, uStore := 73, disassociate := 74, semrelease := 75, acquire := 76, isAssociated := 77, uCas := 78, raceWrite := 79, semacquire := 80, orU64 := 86, addU64 := 87, loadU64 := 88, storeU64 := 89, casU64 := 90, tWgP := 99, tUP := 101, tAssoc := 103, tWg := 86, tAU := 83, tU64 := 81, tUint := 107, tU32 := 84, tPU32 := 108, tPAU := 125, tPU64 := 127, tNoCopy := 78, tANoCopy := 79, tAlign64 := 80 }
theorem wgLib : WgLib Try.prog wgl :=
  ⟨Try.func54, Try.func56, Try.func57, Try.func63, Try.func64, Try.func65, Try.func66, Try.func67, Try.func68, Try.func69, Try.func70, Try.func71, Try.func72, Try.func73, Try.func74, Try.func75, Try.func76, Try.func77, Try.func78, Try.func79, Try.func80, Try.func86, Try.func87, Try.func88, Try.func89, Try.func90, Try.underlying99, Try.runUnderlying99, Try.sizeOf99, Try.isAgg99, Try.zeroValue99, Try.underlying101, Try.runUnderlying101, Try.sizeOf101, Try.isAgg101, Try.zeroValue101, Try.underlying103, Try.runUnderlying103, Try.sizeOf103, Try.isAgg103, Try.zeroValue103, Try.underlying86, Try.runUnderlying86, Try.sizeOf86, Try.isAgg86, Try.zeroValue86, Try.underlying83, Try.runUnderlying83, Try.sizeOf83, Try.isAgg83, Try.zeroValue83, Try.underlying81, Try.runUnderlying81, Try.sizeOf81, Try.isAgg81, Try.zeroValue81, Try.underlying107, Try.runUnderlying107, Try.sizeOf107, Try.isAgg107, Try.zeroValue107, Try.underlying84, Try.runUnderlying84, Try.sizeOf84, Try.isAgg84, Try.zeroValue84, Try.underlying108, Try.runUnderlying108, Try.sizeOf108, Try.isAgg108, Try.zeroValue108, Try.underlying125, Try.runUnderlying125, Try.sizeOf125, Try.isAgg125, Try.zeroValue125, Try.underlying127, Try.runUnderlying127, Try.sizeOf127, Try.isAgg127, Try.zeroValue127, Try.underlying0, Try.runUnderlying0, Try.sizeOf0, Try.isAgg0, Try.zeroValue0, Try.underlying3, Try.runUnderlying3, Try.sizeOf3, Try.isAgg3, Try.zeroValue3, Try.underlying4, Try.runUnderlying4, Try.sizeOf4, Try.isAgg4, Try.zeroValue4, Try.underlying9, Try.runUnderlying9, Try.sizeOf9, Try.isAgg9, Try.zeroValue9, Try.underlying20, Try.runUnderlying20, Try.sizeOf20, Try.isAgg20, Try.zeroValue20, Try.underlying21, Try.runUnderlying21, Try.sizeOf21, Try.isAgg21, Try.zeroValue21, (by kernel_rfl), (by kernel_rfl)⟩
instance : Go.ConcR.Payload := ⟨3⟩
end Go.Proofs.Ytjcpjijihajopaa
