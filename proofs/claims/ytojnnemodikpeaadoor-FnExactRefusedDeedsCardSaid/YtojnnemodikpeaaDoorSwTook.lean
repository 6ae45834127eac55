/-
  The switchboard behind a number that was taken.
-/
import Derived.Test.YtojnnemodikpeaaDoorSwTake
namespace Go.Proofs.YtojnnemodikpeaaDoor
open Go.RowKit Go.Conc
set_option linter.unusedVariables false
/-- One channel's block, the map of the taken ones, and the taken slice's own block have changed: nothing else. -/
theorem SwOk.took {w : World} {base : Nat} {S : Sw} {ls : List Ln} (h : SwOk w base S ls) {i c : Nat} {l : Ln} {x : Int} {xs : List Int} (hc : S.cs[i]? = some c) (hl : ls[i + 1]? = some l) (hh : l.held = x :: xs) {w' : World} {s r : Nat} {ps : List (Nat × Value)} {g cc : Nat}
    (hps : ChanMap w S.mt ps) (hold : ∀ (i c : Nat) (l : Ln), S.cs[i]? = some c → ls[i + 1]? = some l → TakenAt w base (lookC c ps) l.taken)
    (hinj : ∀ c c' b, c ∈ S.cs → c' ∈ S.cs → takenBlk (lookC c ps) = some b → takenBlk (lookC c' ps) = some b → c = c')
    (hk : ∀ b, b < w.heap.size → b ≠ c → b ≠ S.mt → some b ≠ takenBlk (lookC c ps) → w'.heap[b]? = w.heap[b]?) (hch : w'.heap[c]? = some (.chan l.room.toNat (ints xs).toArray l.ended s r false))
    (hg : some g = takenBlk (lookC c ps) ∨ w.heap.size ≤ g)
    (hown : w'.ownsRow base 3 1 (.slice (some ⟨g, 0, none⟩) (l.taken.length + 1) cc) (l.taken.length + 1) (ints (l.taken ++ [x])))
    (hm : ChanMap w' S.mt (putC c (.slice (some ⟨g, 0, none⟩) (l.taken.length + 1) cc) ps)) : SwOk w' base S (ls.set (i + 1) { l with held := xs, taken := l.taken ++ [x] }) := by
  obtain ⟨b1, b2, s0, r0, hc0⟩ := h.chans i c l hc hl
  obtain ⟨g1, arr, g2, _⟩ := row_blk h.lines
  obtain ⟨es, clk, hm0, hm9⟩ := hps
  obtain ⟨q1, cps, ⟨es2, clk2, hq2, hq3⟩, q4⟩ := h.closed
  have hil := (List.getElem?_eq_some_iff.1 hl).1
  have hcm : c ∈ S.cs := List.mem_of_getElem? hc
  -- the block of what was taken is one of integers
  have hint : ∀ {b : Nat} {o : Obj}, w.heap[b]? = some o → (∀ cs, o ≠ .cells cs 3) → some b ≠ takenBlk (lookC c ps) := by
    intro b o hb ho e
    rcases hold i c l hc hl with ⟨e1, _⟩ | ⟨g', n', c', e1, e2⟩
    · rw [e1] at e; cases e
    · rw [e1] at e
      injection e with e
      have e : b = g' := e
      subst e
      obtain ⟨_, cur, k2, _⟩ := row_blk e2
      rw [hb] at k2; injection k2 with k2
      exact ho cur k2
  have hnj : ∀ {j c' : Nat}, S.cs[j]? = some c' → j ≠ i → c' ≠ c := by
    intro j c' hj hne e
    subst e
    exact hne ((List.getElem?_inj (List.getElem?_eq_some_iff.1 hj).1 h.nodup).1 (hj.trans hc.symm))
  refine ⟨?_, h.sb, ?_, by rw [List.length_set]; exact h.len, ?_, ?_, h.nodup, ⟨q1, cps, ?_, ?_⟩, ⟨h.taken.1, _, hm, ?_, ?_⟩, h.ne⟩
  · rw [hk _ (blk_lt h.st) (blk_ne h.st hc0 (by simp)) (blk_ne h.st hm0 (by simp)) (hint h.st (by intro cs e; cases e))]; exact h.st
  · exact row_at h.lines (hk _ (blk_lt g2) (blk_ne g2 hc0 (by simp)) (blk_ne g2 hm0 (by simp)) (hint g2 (by intro cs e; cases e)))
  · rw [List.getElem?_set_ne (by omega)]; exact h.head
  · intro j c' l' hj hl'
    by_cases e : j = i
    · subst e
      rw [hc] at hj; injection hj with hj; subst hj
      rw [List.getElem?_set_self hil] at hl'
      injection hl' with hl'; subst hl'
      exact ⟨b1, b2, s, r, hch⟩
    · rw [List.getElem?_set_ne (by omega)] at hl'
      obtain ⟨d1, d2, s1, r1, hd⟩ := h.chans j c' l' hj hl'
      exact ⟨d1, d2, s1, r1, by rw [hk _ (blk_lt hd) (hnj hj e) (blk_ne hd hm0 (by simp)) (hint hd (by intro cs e; cases e))]; exact hd⟩
  · exact ChanMap.at ⟨es2, clk2, hq2, hq3⟩ (hk _ (blk_lt hq2) (blk_ne hq2 hc0 (by simp)) h.ne (hint hq2 (by intro cs e; cases e)))
  · intro j c' l' hj hl'
    by_cases e : j = i
    · subst e
      rw [hc] at hj; injection hj with hj; subst hj
      rw [List.getElem?_set_self hil] at hl'
      injection hl' with hl'; subst hl'
      exact q4 j c l hc hl
    · rw [List.getElem?_set_ne (by omega)] at hl'
      exact q4 j c' l' hj hl'
  · intro j c' l' hj hl'
    rw [lookC_put]
    by_cases e : j = i
    · subst e
      rw [hc] at hj; injection hj with hj; subst hj
      rw [List.getElem?_set_self hil] at hl'
      injection hl' with hl'; subst hl'
      rw [if_pos rfl]
      exact .inr ⟨g, _, cc, rfl, hown⟩
    · rw [List.getElem?_set_ne (by omega)] at hl'
      rw [if_neg (hnj hj e)]
      rcases hold j c' l' hj hl' with hx | ⟨g', n', c2, e1, e2⟩
      · exact .inl hx
      · obtain ⟨_, cur, k2, _⟩ := row_blk e2
        refine .inr ⟨g', n', c2, e1, row_at e2 (hk _ (blk_lt k2) (blk_ne k2 hc0 (by simp)) (blk_ne k2 hm0 (by simp)) ?_)⟩
        intro e'
        exact hnj hj e (hinj c' c g' (List.mem_of_getElem? hj) hcm (by rw [e1]; rfl) e'.symm)
  · intro c1 c2 b m1 m2 t1 t2
    rw [lookC_put] at t1 t2
    have hold' : ∀ {c' : Nat}, c' ∈ S.cs → takenBlk (lookC c' ps) = some b → b < w.heap.size := by
      intro c' hm' ht
      obtain ⟨j, hj⟩ := List.mem_iff_getElem?.1 hm'
      have hj2 := (List.getElem?_eq_some_iff.1 hj).1
      have hlen := h.len
      obtain ⟨l', hl'⟩ : ∃ l', ls[j + 1]? = some l' := ⟨_, List.getElem?_eq_getElem (by omega)⟩
      rcases hold j c' l' hj hl' with ⟨e1, _⟩ | ⟨g', n', c2, e1, e2⟩
      · rw [e1] at ht; cases ht
      · rw [e1] at ht
        injection ht with ht
        have ht : g' = b := ht
        subst ht
        obtain ⟨_, cur, k2, _⟩ := row_blk e2
        exact blk_lt k2
    have same : ∀ {c' : Nat}, c' ∈ S.cs → takenBlk (lookC c' ps) = some b → g = b → c' = c := by
      intro c' hm' ht eb
      subst eb
      rcases hg with e | e
      · exact hinj c' c g hm' hcm ht e.symm
      · have := hold' hm' ht; omega
    by_cases e1 : c1 = c
    · by_cases e2 : c2 = c
      · rw [e1, e2]
      · rw [if_pos e1] at t1; rw [if_neg e2] at t2
        injection t1 with t1
        exact absurd (same m2 t2 t1) e2
    · by_cases e2 : c2 = c
      · rw [if_neg e1] at t1; rw [if_pos e2] at t2
        injection t2 with t2
        exact absurd (same m1 t1 t2) e1
      · rw [if_neg e1] at t1; rw [if_neg e2] at t2
        exact hinj c1 c2 b m1 m2 t1 t2
end Go.Proofs.YtojnnemodikpeaaDoor
