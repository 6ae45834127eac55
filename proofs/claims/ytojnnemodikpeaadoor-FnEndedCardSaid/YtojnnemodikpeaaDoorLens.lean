/-
  How long the answers are.
-/
import Derived.Test.YtojnnemodikpeaaDoorImplT
import Derived.Test.YtojnnemodikpeaaDoorUni
namespace Go.Proofs.YtojnnemodikpeaaDoor
open Go.RowKit
theorem takenF_len (rooms : List Int) (ds : List DeedD) (line : Int) : (takenF rooms ds line).1.length ≤ 1048576 := by
  unfold takenF
  cases hd : deedsB rooms ds with
  | false => simp
  | true =>
    cases inB line 1 rooms.length with
    | false => simp
    | true =>
      obtain ⟨_, _, h60, hp⟩ := deedsB_of hd
      have hs := runF_small hp ds.length
      rw [List.take_length] at hs
      simp only [Bool.and_self, if_true]
      rw [List.getD_eq_getElem?_getD]
      cases hl : (runF rooms ds).1[line.toNat]? with
      | none => simp
      | some l =>
        have := hs l (List.mem_of_getElem? hl)
        simp only [Option.getD_some]
        omega
theorem openLF_len (rooms : List Int) (ds : List DeedD) : (openLF rooms ds).length ≤ 1048576 := by
  unfold openLF
  cases hd : deedsB rooms ds with
  | false => simp
  | true =>
    have := openUpto_len (rooms.length + 1) (runF rooms ds).1
    have := (deedsB_of hd).1.2
    simp only [if_true]
    omega
theorem refusedF_len (rooms : List Int) (ds : List DeedD) : (refusedF rooms ds).length ≤ 1048576 := by
  have := runLinesF_len rooms ds
  have := refUpto_len (runLinesF rooms ds).1.length (runLinesF rooms ds).1
  unfold refusedF
  omega
end Go.Proofs.YtojnnemodikpeaaDoor
