/-
  An entry is ready if its deed would not be refused: the plain law.
-/
import Derived.Test.YtojnnemodikpeaaDoorApartM
import Derived.Test.YtojnnemodikpeaaDoorReadA
namespace Go.Proofs.YtojnnemodikpeaaDoor
set_option linter.unusedVariables false
def isT (t act : List UInt8) : Bool := !(t == tFull) && !(t == tEmpty) && !(t == tNever) && (!(t == tEnded) || act == takeA)
theorem ready_told {l : Ln} {d : DeedD} (hp : d.act.toList = putA ∨ d.act.toList = takeA) : isT (doneF l d).2 d.act.toList = readyF l d := by
  have hlk : ¬ d.act.toList = lookA := by
    rcases hp with e | e <;> rw [e] <;> decide
  have hen : ¬ d.act.toList = endA := by
    rcases hp with e | e <;> rw [e] <;> decide
  unfold readyF doneF
  rw [if_neg hlk]
  by_cases h0 : d.a = 0
  · rw [if_pos h0, if_pos h0]; simp [isT, tNever, tFull, tEmpty]
  · rw [if_neg h0, if_neg h0]
    rcases hp with e | e
    · have ht : ¬ d.act.toList = takeA := by rw [e]; decide
      rw [if_neg ht]
      simp only [beq_eq_false_iff_ne.2 ht]
      by_cases he : l.ended = true
      · simp [he, isT, e, tEnded, tFull, tEmpty, tNever, putA, takeA]
      · simp only [he, Bool.false_eq_true, if_false, hen]
        by_cases hr : l.room ≤ (l.held.length : Int)
        · simp [hr, isT, tFull]
        · simp [hr, isT, tPut, tFull, tEmpty, tNever, tEnded]; omega
    · rw [if_pos e]
      simp only [e, BEq.rfl]
      cases hh : l.held with
      | nil =>
        by_cases he : l.ended = true
        · simp [he, isT, tEnded, tFull, tEmpty, tNever]
        · simp [he, isT, tEmpty]
      | cons x xs =>
        simp only [List.length_cons]
        have h1 : (tTook x == tFull) = false := by unfold tFull; exact took_ne _ _ _ (by decide)
        have h2 : (tTook x == tEmpty) = false := by unfold tEmpty; exact took_ne _ _ _ (by decide)
        have h3 : (tTook x == tNever) = false := by unfold tNever; exact took_ne _ _ _ (by decide)
        have h4 : (tTook x == tEnded) = false := by unfold tEnded; exact took_ne _ _ _ (by decide)
        simp [isT, h1, h2, h3, h4]
theorem snoc_ok {rooms : List Int} {ds : List DeedD} {e : DeedD} (hd : deedsB rooms ds = true) (hl : ds.length < 60) (he : deedB rooms.length e = true) : deedsB rooms (ds ++ [e]) = true := by
  unfold deedsB at hd ⊢
  simp only [Bool.and_eq_true, decide_eq_true_eq, List.all_eq_true] at hd ⊢
  refine ⟨⟨hd.1.1, by simp; omega⟩, fun d hd' => ?_⟩
  rcases List.mem_append.1 hd' with h | h
  · exact hd.2 d h
  · obtain rfl : d = e := by simpa using h
    exact he
theorem snoc_told {rooms : List Int} {ds : List DeedD} {e : DeedD} (hd : deedsB rooms ds = true) (hl : ds.length < 60) (he : deedB rooms.length e = true) :
    runLinesF rooms (ds ++ [e]) = ((runF rooms ds).2 ++ [(doneF ((runF rooms ds).1.getD e.a.toNat ⟨0, [], false, []⟩) e).2], true) := by
  unfold runLinesF
  rw [snoc_ok hd hl he]
  simp only [if_true]
  rw [runF_snoc]
  rfl
end Go.Proofs.YtojnnemodikpeaaDoor
