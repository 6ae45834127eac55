/-
  How long the ready entries are.
-/
import Derived.Test.YtojnnemodikpeaaDoorNextR
import Derived.Test.YtojnnemodikpeaaDoorUni
namespace Go.Proofs.YtojnnemodikpeaaDoor
open Go.RowKit
theorem readyEF_len2 (rooms : List Int) (ds ts : List DeedD) : (readyEF rooms ds ts).1.length ≤ 1048576 := Nat.le_trans (readyEF_len rooms ds ts) (by omega)
end Go.Proofs.YtojnnemodikpeaaDoor
