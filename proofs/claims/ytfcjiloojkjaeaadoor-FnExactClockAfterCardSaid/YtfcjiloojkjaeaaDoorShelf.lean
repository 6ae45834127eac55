/-
  DERIVED: THE SHELF's CONTRACTS AT THIS DUMP, IN PLAIN WORDS (tools/lay-plain.mjs out of 'TrydShelf.lean', which tools/lay-shelf.mjs wrote): THE SAME DECLARATIONS UNDER THE SAME NAMES: 'import', 'namespace', 'open', 'def', 'theorem' AND NOTHING ELSE: no command of the shelf's: FOR A HAND-IN. Each laying: the table of numbers ('.._ren') and one theorem, a field a fact of the dump's own or the kernel's comparison; each contract: ONE APPLICATION.
-/
import Derived.Shelf.Strconv.Itoa0
import Derived.Shelf.Strconv.Itoa1
import Derived.Shelf.LaysM
import Derived.Shelf.Strconv.Itoa2
import Derived.Shelf.Strconv.Itoa3
import Derived.Ground.Names2Prog
import Derived.Shelf.Slices.Delete
import Derived.Shelf.Slices.Cells
import Derived.Shelf.Slices.Empties
import Derived.Test.YtfcjiloojkjaeaaDoorProg
namespace Go.Proofs
open Go.Shelf
def Tryd.laysM171_ren:Go.Shelf.Ren:=⟨fun|171=>75|243=>86|246=>89|283=>91|284=>92|285=>93|286=>94|129=>96|317=>95|318=>97|319=>98|320=>99|337=>100|338=>101|n=>n,fun|3=>3|9=>9|2=>2|4=>4|171=>140|0=>0|53=>66|37=>119|5=>5|173=>143|212=>147|51=>69|20=>20|213=>148|46=>89|232=>152|233=>153|n=>n,fun|17=>0|18=>1|19=>2|n=>n⟩
theorem Tryd.laysM171:Go.Proofs.LaysM.n171 Tryd.prog Tryd.laysM171_ren:={
 mixed:=by kernel_rfl
 f129:=Tryd.func96.trans (congrArg some (by kernel_rfl))
 f171:=Tryd.func75.trans (congrArg some (by kernel_rfl))
 f243:=Tryd.func86.trans (congrArg some (by kernel_rfl))
 f246:=Tryd.func89.trans (congrArg some (by kernel_rfl))
 f283:=Tryd.func91.trans (congrArg some (by kernel_rfl))
 f284:=Tryd.func92.trans (congrArg some (by kernel_rfl))
 f285:=Tryd.func93.trans (congrArg some (by kernel_rfl))
 f286:=Tryd.func94.trans (congrArg some (by kernel_rfl))
 f317:=Tryd.func95.trans (congrArg some (by kernel_rfl))
 f318:=Tryd.func97.trans (congrArg some (by kernel_rfl))
 f319:=Tryd.func98.trans (congrArg some (by kernel_rfl))
 f320:=Tryd.func99.trans (congrArg some (by kernel_rfl))
 f337:=Tryd.func100.trans (congrArg some (by kernel_rfl))
 f338:=Tryd.func101.trans (congrArg some (by kernel_rfl))
 t0:=Tryd.underlying0
 a0:=Tryd.isAgg0
 z0:=Tryd.sizeOf0
 v0:=Tryd.zeroValue0
 t2:=Tryd.underlying2
 a2:=Tryd.isAgg2
 z2:=Tryd.sizeOf2
 v2:=Tryd.zeroValue2
 t3:=Tryd.underlying3
 a3:=Tryd.isAgg3
 z3:=Tryd.sizeOf3
 v3:=Tryd.zeroValue3
 t4:=Tryd.underlying4
 a4:=Tryd.isAgg4
 z4:=Tryd.sizeOf4
 v4:=Tryd.zeroValue4
 t5:=Tryd.underlying5
 a5:=Tryd.isAgg5
 z5:=Tryd.sizeOf5
 v5:=Tryd.zeroValue5
 t9:=Tryd.underlying9
 a9:=Tryd.isAgg9
 z9:=Tryd.sizeOf9
 v9:=Tryd.zeroValue9
 t20:=Tryd.underlying20
 a20:=Tryd.isAgg20
 z20:=Tryd.sizeOf20
 v20:=Tryd.zeroValue20
 t37:=Tryd.underlying119
 a37:=Tryd.isAgg119
 z37:=Tryd.sizeOf119
 v37:=Tryd.zeroValue119
 t46:=Tryd.underlying89
 a46:=Tryd.isAgg89
 z46:=Tryd.sizeOf89
 v46:=Tryd.zeroValue89
 t51:=Tryd.underlying69
 a51:=Tryd.isAgg69
 z51:=Tryd.sizeOf69
 v51:=Tryd.zeroValue69
 t53:=Tryd.underlying66
 a53:=Tryd.isAgg66
 z53:=Tryd.sizeOf66
 v53:=Tryd.zeroValue66
 t171:=Tryd.underlying140
 a171:=Tryd.isAgg140
 z171:=Tryd.sizeOf140
 v171:=Tryd.zeroValue140
 t173:=Tryd.underlying143
 a173:=Tryd.isAgg143
 z173:=Tryd.sizeOf143
 v173:=Tryd.zeroValue143
 t212:=Tryd.underlying147
 a212:=Tryd.isAgg147
 z212:=Tryd.sizeOf147
 v212:=Tryd.zeroValue147
 t213:=Tryd.underlying148
 a213:=Tryd.isAgg148
 z213:=Tryd.sizeOf148
 t232:=Tryd.underlying152
 a232:=Tryd.isAgg152
 z232:=Tryd.sizeOf152
 v232:=Tryd.zeroValue152
 t233:=Tryd.underlying153
 a233:=Tryd.isAgg153
 z233:=Tryd.sizeOf153
 v233:=Tryd.zeroValue153
 g17:=by kernel_rfl
 g18:=by kernel_rfl
 g19:=by kernel_rfl
 i0:=by kernel_rfl
 i2:=by kernel_rfl
 i3:=by kernel_rfl
 i4:=by kernel_rfl
 i5:=by kernel_rfl
 i9:=by kernel_rfl
 i20:=by kernel_rfl
 i37:=by kernel_rfl
 i46:=by kernel_rfl
 i51:=by kernel_rfl
 i53:=by kernel_rfl
 i171:=by kernel_rfl
 i173:=by kernel_rfl
 i212:=by kernel_rfl
 i232:=by kernel_rfl
 i233:=by kernel_rfl
 m17:=by kernel_rfl
 m18:=by kernel_rfl
 m19:=by kernel_rfl}
open Go.RowKit Go.Sort Go.Lib in
theorem Tryd.strconv_Itoa (n:Int)(h0: -9223372036854775808<=n)(h1:n<=9223372036854775807)(w:World)(htab:Lib.TabIs Tryd.prog w "internal/strconv.uint64pow10" .u64 Lib.pow10Tab):
 Calls Tryd.prog 75 #[.int .i64 n] w fun e w'=>e=.returned (.string ⟨(Lib.itoa n).toArray⟩)/\∃k os,w'=grow (w.drewN k) os:=Any.strconv_Itoa Tryd.laysM171 n h0 h1 w htab
def Tryd.lays171_ren:Go.Shelf.Ren:=⟨fun|171=>75|243=>86|246=>89|283=>91|284=>92|285=>93|286=>94|129=>96|317=>95|318=>97|319=>98|320=>99|337=>100|338=>101|n=>n,fun|3=>3|9=>9|2=>2|4=>4|171=>140|0=>0|53=>66|37=>119|5=>5|173=>143|212=>147|51=>69|20=>20|213=>148|46=>89|232=>152|233=>153|n=>n,fun|17=>0|18=>1|19=>2|n=>n⟩
theorem Tryd.lays171:Go.Proofs.Lays.n171 Tryd.prog Tryd.lays171_ren:={
 mixed:=by kernel_rfl
 f129:=Tryd.func96.trans (congrArg some (by kernel_rfl))
 f171:=Tryd.func75.trans (congrArg some (by kernel_rfl))
 f243:=Tryd.func86.trans (congrArg some (by kernel_rfl))
 f246:=Tryd.func89.trans (congrArg some (by kernel_rfl))
 f283:=Tryd.func91.trans (congrArg some (by kernel_rfl))
 f284:=Tryd.func92.trans (congrArg some (by kernel_rfl))
 f285:=Tryd.func93.trans (congrArg some (by kernel_rfl))
 f286:=Tryd.func94.trans (congrArg some (by kernel_rfl))
 f317:=Tryd.func95.trans (congrArg some (by kernel_rfl))
 f318:=Tryd.func97.trans (congrArg some (by kernel_rfl))
 f319:=Tryd.func98.trans (congrArg some (by kernel_rfl))
 f320:=Tryd.func99.trans (congrArg some (by kernel_rfl))
 f337:=Tryd.func100.trans (congrArg some (by kernel_rfl))
 f338:=Tryd.func101.trans (congrArg some (by kernel_rfl))
 t0:=Tryd.underlying0
 a0:=Tryd.isAgg0
 z0:=Tryd.sizeOf0
 v0:=Tryd.zeroValue0
 t2:=Tryd.underlying2
 a2:=Tryd.isAgg2
 z2:=Tryd.sizeOf2
 v2:=Tryd.zeroValue2
 t3:=Tryd.underlying3
 a3:=Tryd.isAgg3
 z3:=Tryd.sizeOf3
 v3:=Tryd.zeroValue3
 t4:=Tryd.underlying4
 a4:=Tryd.isAgg4
 z4:=Tryd.sizeOf4
 v4:=Tryd.zeroValue4
 t5:=Tryd.underlying5
 a5:=Tryd.isAgg5
 z5:=Tryd.sizeOf5
 v5:=Tryd.zeroValue5
 t9:=Tryd.underlying9
 a9:=Tryd.isAgg9
 z9:=Tryd.sizeOf9
 v9:=Tryd.zeroValue9
 t20:=Tryd.underlying20
 a20:=Tryd.isAgg20
 z20:=Tryd.sizeOf20
 v20:=Tryd.zeroValue20
 t37:=Tryd.underlying119
 a37:=Tryd.isAgg119
 z37:=Tryd.sizeOf119
 v37:=Tryd.zeroValue119
 t46:=Tryd.underlying89
 a46:=Tryd.isAgg89
 z46:=Tryd.sizeOf89
 v46:=Tryd.zeroValue89
 t51:=Tryd.underlying69
 a51:=Tryd.isAgg69
 z51:=Tryd.sizeOf69
 v51:=Tryd.zeroValue69
 t53:=Tryd.underlying66
 a53:=Tryd.isAgg66
 z53:=Tryd.sizeOf66
 v53:=Tryd.zeroValue66
 t171:=Tryd.underlying140
 a171:=Tryd.isAgg140
 z171:=Tryd.sizeOf140
 v171:=Tryd.zeroValue140
 t173:=Tryd.underlying143
 a173:=Tryd.isAgg143
 z173:=Tryd.sizeOf143
 v173:=Tryd.zeroValue143
 t212:=Tryd.underlying147
 a212:=Tryd.isAgg147
 z212:=Tryd.sizeOf147
 v212:=Tryd.zeroValue147
 t213:=Tryd.underlying148
 a213:=Tryd.isAgg148
 z213:=Tryd.sizeOf148
 t232:=Tryd.underlying152
 a232:=Tryd.isAgg152
 z232:=Tryd.sizeOf152
 v232:=Tryd.zeroValue152
 t233:=Tryd.underlying153
 a233:=Tryd.isAgg153
 z233:=Tryd.sizeOf153
 v233:=Tryd.zeroValue153
 g17:=by kernel_rfl
 g18:=by kernel_rfl
 g19:=by kernel_rfl}
open Go.RowKit Go.Sort Go.Lib in
theorem Tryd.strconv_Itoa_small (i:Nat)(hi:i<100)(w:World):
 Calls Tryd.prog 75 #[.int .i64 i] w fun e w'=>e=.returned (.string ⟨(Lib.decDigits i).toArray⟩)/\w'=w:=Any.strconv_Itoa_small Tryd.lays171 i hi w
end Go.Proofs
