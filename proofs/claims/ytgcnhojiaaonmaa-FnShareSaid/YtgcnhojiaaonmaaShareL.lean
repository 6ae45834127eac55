/-
  What a shared charge is: the plain law of FnShare.
-/
import Derived.Test.YtgcnhojiaaonmaaShareSN
namespace Go.Proofs.Ytgcnhojiaaonmaa
set_option linter.unusedVariables false
theorem argmaxUpto_first (l : List Int) (k : Nat) : ∀ j, j < argmaxUpto l k → l.getD j 0 < l.getD (argmaxUpto l k) 0 := by
  induction k with
  | zero => intro j hj; simp [argmaxUpto] at hj
  | succ k ih =>
    intro j hj
    rw [argmaxUpto] at hj ⊢
    split
    · rename_i h
      rw [if_pos h] at hj
      have := argmaxUpto_max l k j hj
      omega
    · rename_i h
      rw [if_neg h] at hj
      exact ih j hj
def flo (ch S : Int) (ws : List Int) (i : Nat) : Int := ch * ws.getD i 0 / S
structure ShInv (ch S : Int) (ws ps : List Int) : Prop where
  len : ps.length = ws.length
  each : ∀ i, i < ws.length → ps.getD i 0 = flo ch S ws i ∨ (ps.getD i 0 = flo ch S ws i + 1 ∧ 0 < ch * ws.getD i 0 - flo ch S ws i * S)
  ord : ∀ k i, k < i → i < ws.length → ws.getD i 0 ≤ ws.getD k 0 → flo ch S ws k = flo ch S ws i → ps.getD i 0 = flo ch S ws i + 1 → ps.getD k 0 = flo ch S ws k + 1
theorem rests_getD {ch S : Int} {ws ps : List Int} (hl : ps.length = ws.length) {i : Nat} (hi : i < ws.length) : (rests ch S ws ps).getD i 0 = ch * ws.getD i 0 - ps.getD i 0 * S := by
  have h1 : ws[i]? = some ws[i] := List.getElem?_eq_getElem hi
  have h2 : ps[i]? = some (ps[i]'(by omega)) := List.getElem?_eq_getElem _
  rw [rests_get h1 h2, List.getD_eq_getElem?_getD, List.getD_eq_getElem?_getD, h1, h2]; rfl
theorem getD_set (l : List Int) (a i : Nat) (x : Int) (ha : a < l.length) : (l.set a x).getD i 0 = if i = a then x else l.getD i 0 := by
  rw [List.getD_eq_getElem?_getD, List.getD_eq_getElem?_getD, List.getElem?_set]
  by_cases e : i = a
  · subst e; simp [ha]
  · rw [if_neg (fun x => e x.symm), if_neg e]
theorem flo_le {ch S : Int} {ws : List Int} {i : Nat} (hS : 1 ≤ S) : flo ch S ws i * S ≤ ch * ws.getD i 0 ∧ ch * ws.getD i 0 < flo ch S ws i * S + S := by
  unfold flo
  generalize ch * ws.getD i 0 = x
  have h1 := Int.emod_nonneg x (show S ≠ 0 by omega)
  have h2 := Int.emod_lt_of_pos x (show 0 < S by omega)
  have h3 := Int.emod_add_mul_ediv x S
  rw [Int.mul_comm] at h3
  omega
theorem ShInv.one {ch : Int} {ws ps : List Int} (h0 : 0 ≤ ch) (hS : 1 ≤ ws.sum) (h : ShInv ch ws.sum ws ps) (hs : ps.sum < ch) : ShInv ch ws.sum ws (giveOne ch ws.sum ws ps) ∧ (giveOne ch ws.sum ws ps).sum = ps.sum + 1 := by
  have hl := h.len
  have hrs := rests_sum ch ws.sum ws ps hl.symm
  have hpos : 0 < (rests ch ws.sum ws ps).sum := by
    rw [hrs, ← Int.sub_mul]; exact Int.mul_pos (by omega) (by omega)
  have hrl : (rests ch ws.sum ws ps).length = ps.length := rests_len hl.symm
  have hne : 1 ≤ ps.length := by
    rcases Nat.eq_zero_or_pos ps.length with h0 | h0
    · rw [List.eq_nil_of_length_eq_zero (hrl.trans h0)] at hpos; simp at hpos
    · exact h0
  obtain ⟨a, ha⟩ : ∃ a, a = argmax (rests ch ws.sum ws ps) := ⟨_, rfl⟩
  have hal : a < ps.length := by
    rw [ha]; unfold argmax
    have := argmaxUpto_le (rests ch ws.sum ws ps) (rests ch ws.sum ws ps).length; omega
  have hmax : ∀ j, j < ps.length → (rests ch ws.sum ws ps).getD j 0 ≤ (rests ch ws.sum ws ps).getD a 0 := by
    intro j hj; rw [ha]; exact argmaxUpto_max _ _ j (by omega)
  have hfirst : ∀ j, j < a → (rests ch ws.sum ws ps).getD j 0 < (rests ch ws.sum ws ps).getD a 0 := by
    intro j hj; rw [ha] at hj ⊢; exact argmaxUpto_first _ _ j hj
  have hra : 0 < (rests ch ws.sum ws ps).getD a 0 := by
    rcases Int.lt_or_le 0 ((rests ch ws.sum ws ps).getD a 0) with x | x
    · exact x
    · have := sum_nonpos (l := rests ch ws.sum ws ps) fun j hj => Int.le_trans (hmax j (by omega)) x
      omega
  have ea := rests_getD (ch := ch) (S := ws.sum) hl (i := a) (by omega)
  have fa := flo_le (ch := ch) (ws := ws) (i := a) hS
  have hpa : ps.getD a 0 = flo ch ws.sum ws a := by
    rcases h.each a (by omega) with x | ⟨x, _⟩
    · exact x
    · rw [ea, x, Int.add_mul] at hra; omega
  have hg : giveOne ch ws.sum ws ps = ps.set a (ps.getD a 0 + 1) := by rw [giveOne, ← ha]
  rw [hg]
  refine ⟨⟨by simp [hl], fun i hi => ?_, fun k i hki hi hw hf hp => ?_⟩, ?_⟩
  · rw [getD_set _ _ _ _ hal]
    by_cases e : i = a
    · subst e
      rw [if_pos rfl, hpa]
      right
      exact ⟨rfl, by rw [ea, hpa] at hra; exact hra⟩
    · rw [if_neg e]; exact h.each i hi
  · rw [getD_set _ _ _ _ hal] at hp ⊢
    by_cases ek : k = a
    · subst ek; rw [if_pos rfl, hpa]
    · rw [if_neg ek]
      by_cases ei : i = a
      · subst ei
        rcases h.each k (by omega) with x | ⟨x, _⟩
        · have h1 := hfirst k hki
          rw [ea, rests_getD hl (by omega), x, hpa, hf] at h1
          have : ch * ws.getD i 0 ≤ ch * ws.getD k 0 := Int.mul_le_mul_of_nonneg_left hw h0
          omega
        · exact x
      · rw [if_neg ei] at hp
        exact h.ord k i hki hi hw hf hp
  · have h2 : ps[a]? = some (ps.getD a 0) := by rw [List.getD_eq_getElem?_getD, List.getElem?_eq_getElem hal]; rfl
    rw [sum_set h2]; omega
theorem ShInv.all {ch : Int} {ws : List Int} (h0 : 0 ≤ ch) (hS : 1 ≤ ws.sum) : ∀ (n : Nat) (ps : List Int), ShInv ch ws.sum ws ps → ps.sum + n = ch → ShInv ch ws.sum ws (giveAll ch ws.sum ws n ps) ∧ (giveAll ch ws.sum ws n ps).sum = ch := by
  intro n
  induction n with
  | zero => intro ps h hs; exact ⟨h, by rw [giveAll]; omega⟩
  | succ n ih =>
    intro ps h hs
    obtain ⟨h1, h2⟩ := h.one h0 hS (by omega)
    rw [giveAll]
    exact ih _ h1 (by omega)
theorem ShInv.start {ch : Int} {ws : List Int} (hS : 1 ≤ ws.sum) : ShInv ch ws.sum ws (partsF ch ws.sum ws) := by
  have e : ∀ i, i < ws.length → (partsF ch ws.sum ws).getD i 0 = flo ch ws.sum ws i := fun i hi => by
    rw [partsF, List.getD_eq_getElem?_getD, List.getElem?_map, List.getElem?_eq_getElem hi, flo, List.getD_eq_getElem?_getD, List.getElem?_eq_getElem hi]; rfl
  exact ⟨by simp [partsF], fun i hi => .inl (e i hi), fun k i hki hi _ hf hp => by rw [e i hi] at hp; omega⟩
/-- What FnShare says of two lists. -/
structure Shares (ch S : Int) (ws ps : List Int) : Prop where
  len : ps.length = ws.length
  sum : ps.sum = ch
  low : ∀ i, i < ws.length → ch * ws.getD i 0 / S ≤ ps.getD i 0 ∧ ps.getD i 0 ≤ ch * ws.getD i 0 / S + 1
  none : ∀ i, i < ws.length → ws.getD i 0 = 0 → ps.getD i 0 = 0
  ord : ∀ k i, k < i → i < ws.length → ws.getD i 0 ≤ ws.getD k 0 → ps.getD i 0 ≤ ps.getD k 0
theorem shares_of {ch : Int} {ws : List Int} (h0 : 0 ≤ ch) (hS : 1 ≤ ws.sum) : Shares ch ws.sum ws (shareF ch ws) := by
  have hl := leftF_nonneg (ch := ch) hS
  obtain ⟨h, hs⟩ := (ShInv.start (ch := ch) hS).all h0 hS (leftF ch ws.sum ws).toNat _ (by rw [Int.toNat_of_nonneg hl]; unfold leftF; omega)
  refine ⟨h.len, hs, fun i hi => ?_, fun i hi hz => ?_, fun k i hki hi hw => ?_⟩
  · rcases h.each i hi with x | ⟨x, _⟩
    · have : flo ch ws.sum ws i = ch * ws.getD i 0 / ws.sum := rfl
      unfold shareF; omega
    · have : flo ch ws.sum ws i = ch * ws.getD i 0 / ws.sum := rfl
      unfold shareF; omega
  · have hz' : flo ch ws.sum ws i = 0 := by rw [flo, hz]; simp
    rcases h.each i hi with x | ⟨_, x⟩
    · unfold shareF; omega
    · rw [hz, hz'] at x; simp at x
  · have hm : flo ch ws.sum ws i ≤ flo ch ws.sum ws k := Int.ediv_le_ediv (by omega) (Int.mul_le_mul_of_nonneg_left hw h0)
    have ho := h.ord k i hki hi hw
    have hk := h.each k (by omega)
    have hi' := h.each i hi
    unfold shareF
    rcases hi' with x | ⟨x, _⟩ <;> rcases hk with y | ⟨y, _⟩ <;> omega
end Go.Proofs.Ytgcnhojiaaonmaa
