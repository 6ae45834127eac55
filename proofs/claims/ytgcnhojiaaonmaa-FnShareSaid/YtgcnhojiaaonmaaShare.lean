/-
  Sharing a charge: the plain law. Parts of a charge by weights, what is left given out one by one to the first greatest rest.
-/
import Derived.Test.YtgcnhojiaaonmaaBase
namespace Go.Proofs.Ytgcnhojiaaonmaa
/-- The rests of the parts. -/
def rests (ch S : Int) (ws ps : List Int) : List Int := List.zipWith (fun w p => ch * w - p * S) ws ps
/-- The index of the first greatest number; 0 of none. -/
def argmaxUpto (l : List Int) : Nat → Nat
  | 0 => 0
  | k + 1 => if l.getD k 0 > l.getD (argmaxUpto l k) 0 then k else argmaxUpto l k
def argmax (l : List Int) : Nat := argmaxUpto l l.length
def giveOne (ch S : Int) (ws ps : List Int) : List Int := ps.set (argmax (rests ch S ws ps)) (ps.getD (argmax (rests ch S ws ps)) 0 + 1)
def giveAll (ch S : Int) (ws : List Int) : Nat → List Int → List Int
  | 0, ps => ps
  | n + 1, ps => giveAll ch S ws n (giveOne ch S ws ps)
theorem argmaxUpto_le (l : List Int) (k : Nat) : argmaxUpto l k ≤ k - 1 := by
  induction k with
  | zero => simp [argmaxUpto]
  | succ k ih => rw [argmaxUpto]; split <;> omega
theorem argmaxUpto_max (l : List Int) (k : Nat) : ∀ j, j < k → l.getD j 0 ≤ l.getD (argmaxUpto l k) 0 := by
  induction k with
  | zero => intro j hj; omega
  | succ k ih =>
    intro j hj
    rw [argmaxUpto]
    split
    · rename_i h
      by_cases e : j = k
      · subst e; exact Int.le_refl _
      · exact Int.le_trans (ih j (by omega)) (by omega)
    · rename_i h
      by_cases e : j = k
      · subst e; omega
      · exact ih j (by omega)
/-- The reference's search: -1 until a rest above 0 is found. -/
def bestUpto (l : List Int) : Nat → Int
  | 0 => -1
  | k + 1 => if l.getD k 0 > 0 ∧ (bestUpto l k < 0 ∨ l.getD k 0 > l.getD (bestUpto l k).toNat 0) then k else bestUpto l k
theorem bestUpto_eq (l : List Int) (k : Nat) : (bestUpto l k = -1 ∧ ∀ j, j < k → l.getD j 0 ≤ 0) ∨ (bestUpto l k = (argmaxUpto l k : Nat) ∧ 0 < l.getD (argmaxUpto l k) 0 ∧ argmaxUpto l k < k) := by
  induction k with
  | zero => exact .inl ⟨rfl, fun j hj => absurd hj (by omega)⟩
  | succ k ih =>
    rw [bestUpto, argmaxUpto]
    rcases ih with ⟨h1, h2⟩ | ⟨h1, h2, h3⟩
    · rw [h1]
      have hm : l.getD (argmaxUpto l k) 0 ≤ 0 ∨ k = 0 := by
        rcases Nat.eq_zero_or_pos k with h | h
        · exact .inr h
        · exact .inl (h2 _ (by have := argmaxUpto_le l k; omega))
      by_cases hp : l.getD k 0 > 0
      · rw [if_pos ⟨hp, .inl (by omega)⟩]
        right
        rcases hm with hm | hm
        · rw [if_pos (by omega)]; exact ⟨rfl, hp, by omega⟩
        · subst hm
          have e : argmaxUpto l 0 = 0 := rfl
          rw [e, if_neg (by omega)]
          exact ⟨rfl, hp, by omega⟩
      · rw [if_neg (fun h => hp h.1)]
        left
        exact ⟨rfl, fun j hj => by
          by_cases e : j = k
          · subst e; omega
          · exact h2 j (by omega)⟩
    · right
      rw [h1, Int.toNat_natCast]
      by_cases hp : l.getD k 0 > l.getD (argmaxUpto l k) 0
      · rw [if_pos ⟨by omega, .inr hp⟩, if_pos hp]
        exact ⟨rfl, by omega, by omega⟩
      · rw [if_neg (by rintro ⟨_, h | h⟩ <;> omega), if_neg hp]
        exact ⟨h1 ▸ rfl, h2, by omega⟩
end Go.Proofs.Ytgcnhojiaaonmaa
