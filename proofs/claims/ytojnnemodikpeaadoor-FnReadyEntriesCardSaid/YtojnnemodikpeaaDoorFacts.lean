/-
  Closed facts of the program that all its rows share.
-/
import Derived.Test.YtojnnemodikpeaaDoorRows
import Derived.Test.YtojnnemodikpeaaDoorCards
import Derived.JoinedOf
import Derived.KernelRfl
namespace Go.Proofs.YtojnnemodikpeaaDoor
theorem and_mk {a b : Bool} (h : a = true) (k : b = true) : (a && b) = true := by rw [h, k]; rfl
namespace Facts
theorem laidOut : laidOutB Tryd.pinned.checked.prog = true := by kernel_rfl
theorem mapsRowed : mapsRowed Tryd.pinned.checked.prog = true := by kernel_rfl
theorem stops : (Tryd.pinned.checked.prog.stops == []) = true := by kernel_rfl
theorem stopKnobs : (Tryd.pinned.checked.prog.stopKnobs == []) = true := by kernel_rfl
theorem plainKeys : (Rows.fnExactTakenFromRow.plainKeys == Tryd.pinned.checked.prog.plainKeys) = true := by kernel_rfl
theorem stopsHeard : Tryd.pinned.checked.prog.stopsHeard = true := by kernel_rfl
theorem mayEnter : Tryd.pinned.checked.prog.mayEnter = true := by kernel_rfl
theorem lifted : (Rows.fnExactTakenFromRow.lifted == Tryd.pinned.checked.prog.liftsFinal) = true := by kernel_rfl
theorem make : (Tryd.pinned.checked.prog.make == some Rows.fnExactTakenFromRow.make) = true := by kernel_rfl
theorem mainIs : Tryd.pinned.checked.prog.mainIs = some (Rows.fnExactTakenFromCard.stood.harness.1, Rows.fnExactTakenFromCard.stood.harness.2.toList) := by kernel_rfl
theorem looks : Rows.fnExactTakenFromCard.stood.looks = Tryd.pinned.checked.prog.looks [] := by kernel_rfl
end Facts
end Go.Proofs.YtojnnemodikpeaaDoor
