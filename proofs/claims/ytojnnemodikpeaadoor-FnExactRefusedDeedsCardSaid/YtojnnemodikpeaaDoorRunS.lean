/-
  A round of l1Run: the state after it.
-/
import Derived.Test.YtojnnemodikpeaaDoorRun
namespace Go.Proofs.YtojnnemodikpeaaDoor
open Go.RowKit
set_option linter.unusedVariables false
theorem row_set {E s : Nat} {w : World} {base g n c j : Nat} {xs : List Value} (h : w.ownsRow base E s (.slice (some ⟨g, 0, none⟩) n c) n xs) (v : Value) :
    (w.setCell ⟨g, j, none⟩ v).ownsRow base E s (.slice (some ⟨g, 0, none⟩) n c) n (xs.set j v) := by
  obtain ⟨h1, cs, h2, h3, h4, h5, h6⟩ := row_blk h
  refine ⟨by rw [List.length_set]; exact h.1, .inr ⟨g, c, cs.setIfInBounds j v, rfl, h1, blk_setCell h2 v, h3, h4, by rw [Array.size_setIfInBounds]; exact h5, ?_⟩⟩
  rw [← h6, Array.toList_setIfInBounds, List.take_set]
theorem lnCells_cons (v : LnV) (vs : List LnV) : lnCells (v :: vs) = .int .i64 v.room :: .slice v.AH v.nH v.cH :: .bool v.ended :: .slice v.AT v.nT v.cT :: lnCells vs := rfl
theorem lnCells_set (u : LnV) : ∀ (vs : List LnV) (L : Nat), L < vs.length →
    lnCells (vs.set L u) = ((((lnCells vs).set (L * 4) (.int .i64 u.room)).set (L * 4 + 1) (.slice u.AH u.nH u.cH)).set (L * 4 + 2) (.bool u.ended)).set (L * 4 + 3) (.slice u.AT u.nT u.cT)
  | v :: vs, 0, _ => by simp [lnCells_cons]
  | v :: vs, L + 1, h => by
    rw [List.set_cons_succ, lnCells_cons, lnCells_cons, lnCells_set u vs L (by simpa using h)]
    rw [show (L + 1) * 4 = L * 4 + 1 + 1 + 1 + 1 by omega]
    simp [List.set_cons_succ]
theorem row_at {E s : Nat} {w w' : World} {base g n c : Nat} {xs : List Value} (h : w.ownsRow base E s (.slice (some ⟨g, 0, none⟩) n c) n xs) (hb : w'.heap[g]? = w.heap[g]?) : w'.ownsRow base E s (.slice (some ⟨g, 0, none⟩) n c) n xs := by
  obtain ⟨h1, cs, h2, h3, h4, h5, h6⟩ := row_blk h
  exact ⟨h.1, .inr ⟨g, c, cs, rfl, h1, hb.trans h2, h3, h4, h5, h6⟩⟩
theorem txts_snoc (ss : List (List UInt8)) (x : List UInt8) : txts (ss ++ [x]) = txts ss ++ [.string ⟨x.toArray⟩] := by simp [txts, txt]
theorem RunSt.step {w wr wc Wd X w2 : World} {gl cl go co N k L g2 c2 : Nat} {vs : List LnV} {s : List Ln × List (List UInt8)} {l : Ln} {v' : LnV} {d : DeedD} (St : RunSt w wr gl cl go co N k vs s)
    (hL : d.a.toNat = L) (hLN : L < N) (hvl : vs.length = N) (hl : s.1[L]? = some l) (Bc : Below wr.heap.size wr wc) (okD : LnOk wc (fun b => w.heap.size ≤ b ∧ b ≠ go ∧ b ≠ gl) v' (doneF l d).1) (hf : 0 < L → v'.full)
    (hWd : Wd = (((wc.setCell ⟨gl, L * 4, none⟩ (.int .i64 v'.room)).setCell ⟨gl, L * 4 + 1, none⟩ (.slice v'.AH v'.nH v'.cH)).setCell ⟨gl, L * 4 + 2, none⟩ (.bool v'.ended)).setCell ⟨gl, L * 4 + 3, none⟩ (.slice v'.AT v'.nT v'.cT))
    (hX : Below Wd.heap.size Wd X) (hgr : X.grownBy w2 (some go)) (hat : go = g2 ∨ g2 = X.heap.size)
    (hown : w2.ownsRow w.heap.size 9 1 (.slice (some ⟨g2, 0, none⟩) (k + 1) c2) (k + 1) (txts s.2 ++ [.string ⟨(doneF l d).2.toArray⟩])) : RunSt w w2 gl cl g2 c2 N (k + 1) (vs.set L v') (stepF s d) := by
  have hsz : Wd.heap.size = wc.heap.size := by rw [hWd]; simp
  have hk : Chg gl (gl + 1) wc Wd := by rw [hWd]; (repeat' (first | with_reducible assumption | with_reducible exact Chg.refl _ _ _ | (with_reducible refine Chg.setCell ?_ (by first | omega | (simp; done) | (simp; omega)) (by first | omega | (simp; done) | (simp; omega)) _) | with_reducible apply Chg.alloc))
  obtain ⟨gl1, csl, kgl, _⟩ := row_blk St.lines
  have zgl := blk_lt kgl
  obtain ⟨go1, cso, kgo, _⟩ := row_blk St.out
  have zgo := blk_lt kgo
  have zc := Bc.size
  have zX := hX.size
  have ne := St.ne
  have lw : Wd.ownsRow w.heap.size 71 4 (.slice (some ⟨gl, 0, none⟩) N cl) N (lnCells (vs.set L v')) := by
    rw [lnCells_set v' vs L (by omega), hWd]
    exact row_set (row_set (row_set (row_set (row_below' St.lines Bc) _) _) _) _
  have tr : ∀ {v : LnV} {l : Ln}, LnOk wc (fun b => w.heap.size ≤ b ∧ b ≠ go ∧ b ≠ gl) v l → LnOk w2 (fun b => w.heap.size ≤ b ∧ b ≠ g2 ∧ b ≠ gl) v l := by
    intro v l ok
    have ok2 : LnOk X (fun b => w.heap.size ≤ b ∧ b ≠ go ∧ b ≠ gl) v l :=
      (ok.keep (Q := fun b => w.heap.size ≤ b ∧ b ≠ go ∧ b ≠ gl) hk.size (fun b hb hlt => hk.block b hlt (by have := hb.2.2; omega)) (fun _ h _ => h)).below hX
    refine ok2.keep hgr.size (fun b hb hlt => hgr.block b hlt (by intro e; injection e with e; exact hb.2.1 e)) (fun b hb hlt => ⟨hb.1, ?_, hb.2.2⟩)
    rcases hat with e | e
    · rw [← e]; exact hb.2.1
    · omega
  have hge : s.1.getD L ⟨0, [], false, []⟩ = l := by rw [List.getD_eq_getElem?_getD, hl]; rfl
  have hstep : stepF s d = (s.1.set L (doneF l d).1, s.2 ++ [(doneF l d).2]) := by unfold stepF; rw [hL, hge]
  refine ⟨?_, by rw [hstep]; simp only; rw [txts_snoc]; exact hown, ?_, ?_, by rw [stepF_len]; exact St.len, ?_⟩
  · have b1 : Below w.heap.size w Wd := (St.B.trans (Bc.mono St.B.size)).trans (hk.below gl1 (by have := St.B.size; omega))
    have b2 : Below w.heap.size w X := below_step b1 hX
    exact b2.trans ⟨hgr.os, hgr.tape, hgr.output, hgr.size, fun i hi => hgr.block i (Nat.lt_of_lt_of_le hi b2.size) (by intro e; injection e with e; omega)⟩
  · rcases hat with e | e <;> omega
  · exact row_at (row_below' lw hX) (hgr.block gl (by omega) (by intro e; injection e with e; omega))
  · intro i v l' hv hl'
    rw [hstep] at hl'
    simp only at hl'
    by_cases hi : i = L
    · subst hi
      rw [List.getElem?_set_self (by omega)] at hv
      rw [List.getElem?_set_self (by rw [St.len]; omega)] at hl'
      injection hv with hv; injection hl' with hl'
      subst hv hl'
      exact ⟨tr okD, hf⟩
    · rw [List.getElem?_set_ne (by omega)] at hv hl'
      obtain ⟨ok, hf'⟩ := St.lns i v l' hv hl'
      exact ⟨tr (ok.below Bc), hf'⟩
end Go.Proofs.YtojnnemodikpeaaDoor
