/-
  The next ready entry: the plain law.
-/
import Derived.Test.YtojnnemodikpeaaDoorApartM
import Derived.Test.YtojnnemodikpeaaDoorNextR
namespace Go.Proofs.YtojnnemodikpeaaDoor
set_option linter.unusedVariables false
/-- What the next one is, of an ascending list that is not empty. -/
theorem next_is {r : List Int} {last : Int} (ha : r.Pairwise (· < ·)) (hne : r ≠ []) :
    (∃ i : Nat, r[i]? = some (nextF r last)) ∧ (∀ (i : Nat) x, r[i]? = some x → last < x → nextF r last ≤ x) ∧ (∀ (i : Nat) x, r[i]? = some x → last < x → last < nextF r last) ∧ (last < nextF r last ∨ nextF r last = r.headD (-1)) := by
  unfold nextF
  cases hf : r.find? fun x => decide (last < x) with
  | none =>
    rw [List.find?_eq_none] at hf
    have hno : ∀ (i : Nat) x, r[i]? = some x → ¬ last < x := fun i x hx => by simpa using hf x (List.mem_of_getElem? hx)
    refine ⟨?_, fun i x hx h => absurd h (hno i x hx), fun i x hx h => absurd h (hno i x hx), .inr rfl⟩
    cases r with
    | nil => exact absurd rfl hne
    | cons a l1 => exact ⟨0, rfl⟩
  | some y =>
    have hy := List.find?_some hf
    have hly : last < y := by simpa using hy
    simp only [Option.getD_some]
    refine ⟨List.getElem?_of_mem (List.mem_of_find?_eq_some hf), fun i x hx h => ?_, fun _ _ _ _ => hly, .inl hly⟩
    obtain ⟨_, l1, l2, rfl, has⟩ := List.find?_eq_some_iff_append.1 hf
    rcases List.mem_append.1 (List.mem_of_getElem? hx) with h' | h'
    · have := has x h'; simp at this; omega
    · rcases List.mem_cons.1 h' with rfl | h'
      · exact Int.le_refl _
      · have := (List.pairwise_append.1 ha).2.1
        have := (List.pairwise_cons.1 this).1 x h'
        omega
theorem first_is {r : List Int} (h : ∀ x ∈ r, 0 ≤ x) : nextF r (-1) = r.headD (-1) := by
  unfold nextF
  cases r with
  | nil => rfl
  | cons a l1 =>
    have := h a (by simp)
    rw [List.find?_cons_of_pos (by simp; omega)]
    rfl
end Go.Proofs.YtojnnemodikpeaaDoor
