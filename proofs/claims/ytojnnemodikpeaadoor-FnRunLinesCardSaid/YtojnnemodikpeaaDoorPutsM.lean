/-
  What is put into a line: the plain law of FnRunLines.
-/
import Derived.Test.YtojnnemodikpeaaDoorRunA
namespace Go.Proofs.YtojnnemodikpeaaDoor
set_option linter.unusedVariables false
/-- The words that were put into line l by the first k deeds. -/
def putsUpto (k : Nat) (ds : List DeedD) (ans : List (List UInt8)) (l : Nat) : List Int :=
  ((List.range k).filter fun i => decide ((ds.getD i ⟨⟨#[]⟩, 0, 0⟩).a = l) && (ans.getD i [] == tPut)).map fun i => (ds.getD i ⟨⟨#[]⟩, 0, 0⟩).b
theorem putsUpto_zero (ds : List DeedD) (ans : List (List UInt8)) (l : Nat) : putsUpto 0 ds ans l = [] := rfl
theorem putsUpto_succ {k : Nat} {ds : List DeedD} {ans : List (List UInt8)} {l : Nat} {d : DeedD} {t : List UInt8} (hd : ds[k]? = some d) (ht : ans[k]? = some t) : putsUpto (k + 1) ds ans l = putsUpto k ds ans l ++ (if (decide (d.a = l) && (t == tPut)) then [d.b] else []) := by
  unfold putsUpto
  have e1 : ds.getD k ⟨⟨#[]⟩, 0, 0⟩ = d := by rw [List.getD_eq_getElem?_getD, hd]; rfl
  have e2 : ans.getD k [] = t := by rw [List.getD_eq_getElem?_getD, ht]; rfl
  rw [List.range_succ, List.filter_append, List.map_append]
  congr 1
  simp only [List.filter_cons, List.filter_nil, e1, e2]
  split <;> simp [hd]
theorem putsUpto_len (k : Nat) (ds : List DeedD) (ans : List (List UInt8)) (l : Nat) : (putsUpto k ds ans l).length ≤ k := by
  unfold putsUpto
  rw [List.length_map]
  exact Nat.le_trans (List.length_filter_le _ _) (by simp)
theorem ans_at {rooms : List Int} {ds : List DeedD} {k : Nat} {d : DeedD} (hk : ds[k]? = some d) : ∀ m, k + 1 ≤ m → (runF rooms (ds.take m)).2[k]? = some (doneF ((runF rooms (ds.take k)).1.getD d.a.toNat ⟨0, [], false, []⟩) d).2 := by
  intro m hm
  induction m with
  | zero => omega
  | succ m ih =>
    by_cases e : m = k
    · subst e
      rw [runF_take hk]
      unfold stepF
      have hl := (runF_len rooms (ds.take m)).2
      have hlt := (List.getElem?_eq_some_iff.1 hk).1
      have hz : (runF rooms (ds.take m)).2.length = m := by rw [hl, List.length_take]; omega
      simp only
      rw [List.getElem?_append_right (by omega), hz]
      simp
    · have ih' := ih (by omega)
      cases hm' : ds[m]? with
      | none =>
        have := List.getElem?_eq_none_iff.1 hm'
        rw [List.take_of_length_le (by omega)] at ih' ⊢
        exact ih'
      | some d' =>
        rw [runF_take hm']
        unfold stepF
        simp only
        rw [List.getElem?_append_left (List.getElem?_eq_some_iff.1 ih').1]
        exact ih'
theorem ans_of {rooms : List Int} {ds : List DeedD} {k : Nat} {d : DeedD} (hk : ds[k]? = some d) : (runF rooms ds).2[k]? = some (doneF ((runF rooms (ds.take k)).1.getD d.a.toNat ⟨0, [], false, []⟩) d).2 := by
  have := ans_at (rooms := rooms) hk ds.length (List.getElem?_eq_some_iff.1 hk).1
  rwa [List.take_length] at this
theorem itoa_not_put {n : Nat} (h : n ≤ 8) : (Lib.itoa (n : Int) == tPut) = false := by
  rw [Lib.itoa_nonneg, Lib.decDigits_one (by omega), beq_eq_false_iff_ne]
  simp [tPut]
theorem took_not_put (x : Int) : (tTook x == tPut) = false := by
  rw [beq_eq_false_iff_ne]
  intro e
  have := congrArg List.head? e
  simp [tTook, tPut] at this
/-- What a line holds, and what was taken from it, is what was put into it. -/
def LineInv (l : Ln) (puts : List Int) : Prop := l.taken ++ l.held = puts ∧ (l.held.length : Int) ≤ l.room ∧ l.room ≤ 8
theorem doneF_inv {l : Ln} {puts : List Int} {d : DeedD} (h : LineInv l puts) (h0 : d.a ≠ 0) : LineInv (doneF l d).1 (puts ++ (if (doneF l d).2 == tPut then [d.b] else [])) := by
  obtain ⟨h1, h2, h3⟩ := h
  have same : ∀ (l' : Ln) (t : List UInt8), l'.held = l.held → l'.taken = l.taken → l'.room = l.room → (t == tPut) = false → doneF l d = (l', t) → LineInv (doneF l d).1 (puts ++ (if (doneF l d).2 == tPut then [d.b] else [])) := by
    intro l' t e1 e2 e3 e4 hv
    rw [hv]
    simp only [e4]
    exact ⟨by simpa [e1, e2] using h1, by rw [e1, e3]; exact h2, by rw [e3]; exact h3⟩
  by_cases c1 : d.act.toList = lookA
  · exact same l _ rfl rfl rfl (itoa_not_put (show l.held.length ≤ 8 by omega)) (by unfold doneF; rw [if_pos c1])
  · by_cases ht : d.act.toList = takeA
    · cases hh : l.held with
      | nil =>
        by_cases he : l.ended = true
        · exact same l tEnded rfl rfl rfl (by decide) (by unfold doneF; rw [if_neg c1, if_neg h0]; simp [ht, hh, he])
        · exact same l tEmpty rfl rfl rfl (by decide) (by unfold doneF; rw [if_neg c1, if_neg h0]; simp [ht, hh, he])
      | cons x xs =>
        have hv : doneF l d = ({ l with held := xs, taken := l.taken ++ [x] }, tTook x) := by unfold doneF; rw [if_neg c1, if_neg h0]; simp [ht, hh]
        rw [hv]
        simp only [took_not_put]
        rw [hh] at h1 h2
        refine ⟨?_, ?_, h3⟩
        · simpa using h1
        · simp at h2 ⊢; omega
    · by_cases he : l.ended = true
      · exact same l tEnded rfl rfl rfl (by decide) (by unfold doneF; rw [if_neg c1, if_neg h0]; simp [ht, he])
      · by_cases c2 : d.act.toList = endA
        · exact same { l with ended := true } tEnd rfl rfl rfl (by decide) (by unfold doneF; rw [if_neg c1, if_neg h0]; simp [c2, he, endA, takeA])
        · by_cases c3 : l.room ≤ (l.held.length : Int)
          · exact same l tFull rfl rfl rfl (by decide) (by unfold doneF; rw [if_neg c1, if_neg h0]; simp [ht, he, c2, c3])
          · have hv : doneF l d = ({ l with held := l.held ++ [d.b] }, tPut) := by unfold doneF; rw [if_neg c1, if_neg h0]; simp [ht, he, c2, c3]
            rw [hv]
            refine ⟨by simp [← h1], ?_, h3⟩
            simp; omega
theorem run_inv {rooms : List Int} {ds : List DeedD} (hd : deedsB rooms ds = true) : ∀ k, k ≤ ds.length → ∀ i l, 1 ≤ i → (runF rooms (ds.take k)).1[i]? = some l → LineInv l (putsUpto k ds (runF rooms ds).2 i) := by
  obtain ⟨_, hr, _, hp⟩ := deedsB_of hd
  intro k
  induction k with
  | zero =>
    intro _ i l hi hl
    unfold runF openF at hl
    simp only [List.take_zero, List.foldl_nil] at hl
    obtain ⟨j, rfl⟩ : ∃ j, i = j + 1 := ⟨i - 1, by omega⟩
    rw [List.getElem?_cons_succ, List.getElem?_map] at hl
    cases hj : rooms[j]? with
    | none => rw [hj] at hl; cases hl
    | some r =>
      rw [hj] at hl
      injection hl with hl
      subst hl
      have := hr r (List.mem_of_getElem? hj)
      exact ⟨rfl, by simp; omega, this.2⟩
  | succ k ih =>
    intro hk i l hi hl
    obtain ⟨d, hdk⟩ : ∃ d, ds[k]? = some d := ⟨_, List.getElem?_eq_getElem (by omega)⟩
    have hpd := hp d (List.mem_of_getElem? hdk)
    have hans := ans_of (rooms := rooms) hdk
    rw [putsUpto_succ hdk hans]
    rw [runF_take hdk] at hl
    unfold stepF at hl
    simp only at hl
    have h0 := hpd.2.1
    have hlen := (runF_len rooms (ds.take k)).1
    by_cases e : d.a.toNat = i
    · rw [e] at hl hans ⊢
      have hil : i < (runF rooms (ds.take k)).1.length := by
        have := (List.getElem?_eq_some_iff.1 hl).1
        rw [List.length_set] at this; exact this
      obtain ⟨l0, hl0⟩ : ∃ l0, (runF rooms (ds.take k)).1[i]? = some l0 := ⟨_, List.getElem?_eq_getElem hil⟩
      have hge : (runF rooms (ds.take k)).1.getD i ⟨0, [], false, []⟩ = l0 := by rw [List.getD_eq_getElem?_getD, hl0]; rfl
      rw [hge] at hl ⊢
      rw [List.getElem?_set_self hil] at hl
      injection hl with hl
      subst hl
      have hda : d.a = (i : Int) := by omega
      have := doneF_inv (d := d) (ih (by omega) i l0 hi hl0) (by omega)
      simpa [hda] using this
    · rw [List.getElem?_set_ne e] at hl
      have hda : ¬ d.a = (i : Int) := by omega
      simpa [hda] using ih (by omega) i l hi hl
end Go.Proofs.YtojnnemodikpeaaDoor
