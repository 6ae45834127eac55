/-
  Lines after deeds: l1Run.
  A round of l1Run: the state after it.
  l1Run, walked.
-/
import Derived.Test.YtojnnemodikpeaaDoorOpenL
import Derived.Deep.RegionHeld3
import Derived.Deep.CutRange
namespace Go.Proofs.YtojnnemodikpeaaDoor
open Go.RowKit
set_option linter.unusedVariables false
theorem LnOk.keep {w w' : World} {P Q : Nat → Prop} {v : LnV} {l : Ln} (h : LnOk w P v l) (hs : w.heap.size ≤ w'.heap.size) (k : ∀ b, P b → b < w.heap.size → w'.heap[b]? = w.heap[b]?) (hQ : ∀ b, P b → b < w.heap.size → Q b) : LnOk w' Q v l := by
  have z : ∀ {A : Option Addr} {n c : Nat} {xs : List Value}, Slc w 0 w.heap.size 1 A n c xs → (∀ b off, 0 < n → A = some ⟨b, off, none⟩ → P b) → Slc w' 0 w'.heap.size 1 A n c xs ∧ (∀ b off, 0 < n → A = some ⟨b, off, none⟩ → Q b) := by
    intro A n c xs s hp
    refine ⟨⟨s.len, s.le, s.cap, fun hn => ?_⟩, fun b off hn e => ?_⟩
    · obtain ⟨b, off, e, h1, h2, h3, h4⟩ := s.at_ hn
      exact ⟨b, off, e, h1, Nat.lt_of_lt_of_le h3 hs, Nat.lt_of_lt_of_le h3 hs, fun j v hv => (World.cell?_of_block (k b (hp b off hn e) h3)).trans (h4 j v hv)⟩
    · obtain ⟨b', off', e', h1, h2, h3, h4⟩ := s.at_ hn
      rw [e] at e'; injection e' with e'; injection e' with e1 e2; subst e1
      exact hQ b (hp b off hn e) h3
  exact ⟨h.room, h.ended, (z h.held h.heldP).1, (z h.taken h.takenP).1, (z h.held h.heldP).2, (z h.taken h.takenP).2⟩
/-- What each line of a run is like: small. -/
def RunSmall (k : Nat) (s : List Ln × List (List UInt8)) : Prop := ∀ l ∈ s.1, l.held.length ≤ k ∧ l.taken.length ≤ k ∧ ∀ x ∈ l.held, 0 ≤ x ∧ x ≤ 1000
theorem doneF_small {lines : Int} {k : Nat} {l : Ln} {d : DeedD} (hd : deedP lines d) (h : l.held.length ≤ k ∧ l.taken.length ≤ k ∧ ∀ x ∈ l.held, 0 ≤ x ∧ x ≤ 1000) :
    (doneF l d).1.held.length ≤ k + 1 ∧ (doneF l d).1.taken.length ≤ k + 1 ∧ ∀ x ∈ (doneF l d).1.held, 0 ≤ x ∧ x ≤ 1000 := by
  obtain ⟨h1, h2, h3⟩ := h
  obtain ⟨-, -, -, d4, d5, -⟩ := hd
  unfold doneF
  split
  · exact ⟨Nat.le_succ_of_le h1, Nat.le_succ_of_le h2, h3⟩
  split
  · exact ⟨Nat.le_succ_of_le h1, Nat.le_succ_of_le h2, h3⟩
  split
  · next x xs hx =>
    rw [hx] at h1 h3
    simp only [List.length_cons, List.length_append, List.length_nil] at h1 ⊢
    exact ⟨by omega, by omega, fun y hy => h3 y (List.mem_cons_of_mem _ hy)⟩
  · split
    · exact ⟨Nat.le_succ_of_le h1, Nat.le_succ_of_le h2, h3⟩
    split
    · exact ⟨Nat.le_succ_of_le h1, Nat.le_succ_of_le h2, h3⟩
    split
    · exact ⟨Nat.le_succ_of_le h1, Nat.le_succ_of_le h2, h3⟩
    split
    · exact ⟨Nat.le_succ_of_le h1, Nat.le_succ_of_le h2, h3⟩
    · simp only [List.length_append, List.length_cons, List.length_nil]
      exact ⟨by omega, by omega, fun y hy => by
        rcases List.mem_append.1 hy with hy | hy
        · exact h3 y hy
        · rw [List.mem_singleton] at hy; subst hy; exact ⟨d4, d5⟩⟩
theorem stepF_small {lines : Int} {k : Nat} {s : List Ln × List (List UInt8)} {d : DeedD} (hd : deedP lines d) (h : RunSmall k s) : RunSmall (k + 1) (stepF s d) := by
  intro l hl
  unfold stepF at hl
  rcases List.mem_or_eq_of_mem_set hl with hl | rfl
  · obtain ⟨h1, h2, h3⟩ := h l hl
    exact ⟨by omega, by omega, h3⟩
  · refine doneF_small hd ?_
    rw [List.getD_eq_getElem?_getD]
    cases hq : s.1[d.a.toNat]? with
    | none => exact ⟨by simp, by simp, by simp⟩
    | some l => exact h l (List.mem_of_getElem? hq)
theorem runF_small {rooms : List Int} {ds : List DeedD} (hd : ∀ d ∈ ds, deedP rooms.length d) : ∀ k, RunSmall k (runF rooms (ds.take k)) := by
  intro k
  induction k with
  | zero =>
    intro l hl
    unfold runF at hl
    simp only [List.take_zero, List.foldl_nil] at hl
    unfold openF at hl
    rcases List.mem_cons.1 hl with rfl | hl
    · simp
    · obtain ⟨r, _, rfl⟩ := List.mem_map.1 hl; simp
  | succ k ih =>
    cases hk : ds[k]? with
    | none =>
      have hk' := List.getElem?_eq_none_iff.1 hk
      rw [List.take_of_length_le (by omega)] at ih ⊢
      intro l hl
      obtain ⟨h1, h2, h3⟩ := ih l hl
      exact ⟨by omega, by omega, h3⟩
    | some d => rw [runF_take hk]; exact stepF_small (hd d (List.mem_of_getElem? hk)) ih
/-- The state of a run of deeds: the lines' block gl, the answers' block go. -/
structure RunSt (w0 wr : World) (gl cl go co : Nat) (N k : Nat) (vs : List LnV) (s : List Ln × List (List UInt8)) : Prop where
  B : Below w0.heap.size w0 wr
  out : wr.ownsRow w0.heap.size 9 1 (.slice (some ⟨go, 0, none⟩) k co) k (txts s.2)
  ne : go ≠ gl
  lines : wr.ownsRow w0.heap.size 71 4 (.slice (some ⟨gl, 0, none⟩) N cl) N (lnCells vs)
  len : s.1.length = N
  lns : ∀ (i : Nat) v l, vs[i]? = some v → s.1[i]? = some l → LnOk wr (fun b => w0.heap.size ≤ b ∧ b ≠ go ∧ b ≠ gl) v l ∧ (0 < i → v.full)
theorem row_blk {E s : Nat} {w : World} {base g n c : Nat} {xs : List Value} (h : w.ownsRow base E s (.slice (some ⟨g, 0, none⟩) n c) n xs) : base ≤ g ∧ ∃ cs, w.heap[g]? = some (.cells cs E) ∧ n ≤ c ∧ c ≤ maxLen ∧ cs.size = c * s ∧ cs.toList.take (n * s) = xs := by
  obtain ⟨_, h | ⟨g', cap, cur, e, h1, h2, h3, h4, h5, h6⟩⟩ := h
  · cases h.1
  · injection e with e1 e2 e3; injection e1 with e1; injection e1 with e1 _; subst e1 e3
    exact ⟨h1, cur, h2, h3, h4, h5, h6⟩
theorem row_cells {E s : Nat} {w : World} {base g n c : Nat} {xs : List Value} (h : w.ownsRow base E s (.slice (some ⟨g, 0, none⟩) n c) n xs) {j : Nat} {v : Value} (hj : xs[j]? = some v) : w.cell? ⟨g, j, none⟩ = some v := by
  obtain ⟨_, cs, h2, h3, _, h5, h6⟩ := row_blk h
  rw [blk_cell h2]
  have hl := h.1
  have hj' := (List.getElem?_eq_some_iff.1 hj).1
  rw [← h6] at hj
  rw [List.getElem?_take_of_lt (by omega)] at hj
  simpa using hj
theorem info_string : (Tryd.prog.info? 9).map (fun i => (i.zero, i.size, i.bytes)) = some (some (.string ⟨#[]⟩), 1, 16) := by kernel_rfl
theorem held7_below {w W W' : World} {B : Nat} {a0 a1 a2 b0 b1 b2 b3 : Addr} {v0 v1 v2 u0 u1 u2 u3 : Value} (hb : Below W.heap.size W W') (hB : B ≤ w.heap.size)
    (h : W.cell? a0 = some v0 ∧ W.cell? a1 = some v1 ∧ W.cell? a2 = some v2 ∧ W.cell? b0 = some u0 ∧ W.cell? b1 = some u1 ∧ W.cell? b2 = some u2 ∧ W.cell? b3 = some u3 ∧ Below w.heap.size w W) :
    W'.cell? a0 = some v0 ∧ W'.cell? a1 = some v1 ∧ W'.cell? a2 = some v2 ∧ W'.cell? b0 = some u0 ∧ W'.cell? b1 = some u1 ∧ W'.cell? b2 = some u2 ∧ W'.cell? b3 = some u3 ∧ Below w.heap.size w W' := by
  have e : ∀ {a : Addr} {v : Value}, W.cell? a = some v → W'.cell? a = some v := fun {a v} hv => (World.cell?_of_block (hb.block _ (World.block_lt_of_cell? W _ hv))).trans hv
  exact ⟨e h.1, e h.2.1, e h.2.2.1, e h.2.2.2.1, e h.2.2.2.2.1, e h.2.2.2.2.2.1, e h.2.2.2.2.2.2.1, below_step h.2.2.2.2.2.2.2 hb⟩
theorem bw7 {w W W' : World} {a0 a1 a2 b0 b1 b2 b3 : Addr} {v0 v1 v2 u0 u1 u2 u3 : Value} (hb : Below W.heap.size W W')
    (h : W.cell? a0 = some v0 ∧ W.cell? a1 = some v1 ∧ W.cell? a2 = some v2 ∧ W.cell? b0 = some u0 ∧ W.cell? b1 = some u1 ∧ W.cell? b2 = some u2 ∧ W.cell? b3 = some u3 ∧ Below w.heap.size w W) : Below w.heap.size w W' := below_step h.2.2.2.2.2.2.2 hb
theorem LnOk.set {w w' : World} {P : Nat → Prop} {g : Nat} {v : LnV} {l : Ln} (h : LnOk w (fun b => P b ∧ b ≠ g) v l) (hk : Chg g (g + 1) w w') : LnOk w' P v l :=
  h.keep hk.size (fun b hb hlt => hk.block b hlt (by have := hb.2; omega)) (fun b hb _ => hb.1)
theorem LnOk.alloc {w : World} {P : Nat → Prop} {v : LnV} {l : Ln} (h : LnOk w P v l) (o : Obj) : LnOk (w.alloc o) P v l :=
  h.keep (by simp) (fun b _ hb => Below.heap_alloc w o b hb) (fun _ h _ => h)
theorem ok_held7 {w W : World} {P Q : Nat → Prop} {v : LnV} {l : Ln} {a0 a1 a2 b0 b1 b2 b3 : Addr} {v0 v1 v2 u0 u1 u2 u3 : Value}
    (h : W.cell? a0 = some v0 ∧ W.cell? a1 = some v1 ∧ W.cell? a2 = some v2 ∧ W.cell? b0 = some u0 ∧ W.cell? b1 = some u1 ∧ W.cell? b2 = some u2 ∧ W.cell? b3 = some u3 ∧ Below w.heap.size w W) (ok : LnOk w P v l) (hQ : ∀ b, P b → b < w.heap.size → Q b) : LnOk W Q v l :=
  ok.keep h.2.2.2.2.2.2.2.size (fun b _ hb => h.2.2.2.2.2.2.2.block b hb) hQ
theorem blk_set4 {w : World} {N : Nat} {a b c d x0 x1 x2 x3 : Value} {T : TypeId} (h : w.heap[N]? = some (.cells #[a, b, c, d] T)) :
    ((((w.setCell ⟨N, 0, none⟩ x0).setCell ⟨N, 1, none⟩ x1).setCell ⟨N, 2, none⟩ x2).setCell ⟨N, 3, none⟩ x3).heap[N]? = some (.cells #[x0, x1, x2, x3] T) := by
  have := blk_setCell (i := 3) (blk_setCell (i := 2) (blk_setCell (i := 1) (blk_setCell (i := 0) h x0) x1) x2) x3
  simpa using this
/-- .. from the first world on. -/
theorem held7_of {w W' : World} {a0 a1 a2 b0 b1 b2 b3 : Addr} {v0 v1 v2 u0 u1 u2 u3 : Value}
    (h : w.cell? a0 = some v0 ∧ w.cell? a1 = some v1 ∧ w.cell? a2 = some v2 ∧ w.cell? b0 = some u0 ∧ w.cell? b1 = some u1 ∧ w.cell? b2 = some u2 ∧ w.cell? b3 = some u3 ∧ Below w.heap.size w w) (hb : Below w.heap.size w W') :
    W'.cell? a0 = some v0 ∧ W'.cell? a1 = some v1 ∧ W'.cell? a2 = some v2 ∧ W'.cell? b0 = some u0 ∧ W'.cell? b1 = some u1 ∧ W'.cell? b2 = some u2 ∧ W'.cell? b3 = some u3 ∧ Below w.heap.size w W' :=
  held7_below hb (Nat.le_refl _) h
end Go.Proofs.YtojnnemodikpeaaDoor
namespace Go.Proofs.YtojnnemodikpeaaDoor
open Go.RowKit
set_option linter.unusedVariables false
theorem row_set {E s : Nat} {w : World} {base g n c j : Nat} {xs : List Value} (h : w.ownsRow base E s (.slice (some ⟨g, 0, none⟩) n c) n xs) (v : Value) :
    (w.setCell ⟨g, j, none⟩ v).ownsRow base E s (.slice (some ⟨g, 0, none⟩) n c) n (xs.set j v) := by
  obtain ⟨h1, cs, h2, h3, h4, h5, h6⟩ := row_blk h
  refine ⟨by rw [List.length_set]; exact h.1, .inr ⟨g, c, cs.setIfInBounds j v, rfl, h1, blk_setCell h2 v, h3, h4, by rw [Array.size_setIfInBounds]; exact h5, ?_⟩⟩
  rw [← h6, Array.toList_setIfInBounds, List.take_set]
theorem lnCells_cons (v : LnV) (vs : List LnV) : lnCells (v :: vs) = .int .i64 v.room :: .slice v.AH v.nH v.cH :: .bool v.ended :: .slice v.AT v.nT v.cT :: lnCells vs := rfl
theorem lnCells_set (u : LnV) : ∀ (vs : List LnV) (L : Nat), L < vs.length →
    lnCells (vs.set L u) = ((((lnCells vs).set (L * 4) (.int .i64 u.room)).set (L * 4 + 1) (.slice u.AH u.nH u.cH)).set (L * 4 + 2) (.bool u.ended)).set (L * 4 + 3) (.slice u.AT u.nT u.cT)
  | v :: vs, 0, _ => by simp [lnCells_cons]
  | v :: vs, L + 1, h => by
    rw [List.set_cons_succ, lnCells_cons, lnCells_cons, lnCells_set u vs L (by simpa using h)]
    rw [show (L + 1) * 4 = L * 4 + 1 + 1 + 1 + 1 by omega]
    simp [List.set_cons_succ]
theorem row_at {E s : Nat} {w w' : World} {base g n c : Nat} {xs : List Value} (h : w.ownsRow base E s (.slice (some ⟨g, 0, none⟩) n c) n xs) (hb : w'.heap[g]? = w.heap[g]?) : w'.ownsRow base E s (.slice (some ⟨g, 0, none⟩) n c) n xs := by
  obtain ⟨h1, cs, h2, h3, h4, h5, h6⟩ := row_blk h
  exact ⟨h.1, .inr ⟨g, c, cs, rfl, h1, hb.trans h2, h3, h4, h5, h6⟩⟩
theorem txts_snoc (ss : List (List UInt8)) (x : List UInt8) : txts (ss ++ [x]) = txts ss ++ [.string ⟨x.toArray⟩] := by simp [txts, txt]
theorem RunSt.step {w wr wc Wd X w2 : World} {gl cl go co N k L g2 c2 : Nat} {vs : List LnV} {s : List Ln × List (List UInt8)} {l : Ln} {v' : LnV} {d : DeedD} (St : RunSt w wr gl cl go co N k vs s)
    (hL : d.a.toNat = L) (hLN : L < N) (hvl : vs.length = N) (hl : s.1[L]? = some l) (Bc : Below wr.heap.size wr wc) (okD : LnOk wc (fun b => w.heap.size ≤ b ∧ b ≠ go ∧ b ≠ gl) v' (doneF l d).1) (hf : 0 < L → v'.full)
    (hWd : Wd = (((wc.setCell ⟨gl, L * 4, none⟩ (.int .i64 v'.room)).setCell ⟨gl, L * 4 + 1, none⟩ (.slice v'.AH v'.nH v'.cH)).setCell ⟨gl, L * 4 + 2, none⟩ (.bool v'.ended)).setCell ⟨gl, L * 4 + 3, none⟩ (.slice v'.AT v'.nT v'.cT))
    (hX : Below Wd.heap.size Wd X) (hgr : X.grownBy w2 (some go)) (hat : go = g2 ∨ g2 = X.heap.size)
    (hown : w2.ownsRow w.heap.size 9 1 (.slice (some ⟨g2, 0, none⟩) (k + 1) c2) (k + 1) (txts s.2 ++ [.string ⟨(doneF l d).2.toArray⟩])) : RunSt w w2 gl cl g2 c2 N (k + 1) (vs.set L v') (stepF s d) := by
  have hsz : Wd.heap.size = wc.heap.size := by rw [hWd]; simp
  have hk : Chg gl (gl + 1) wc Wd := by rw [hWd]; (repeat' (first | with_reducible assumption | with_reducible exact Chg.refl _ _ _ | (with_reducible refine Chg.setCell ?_ (by first | omega | (simp; done) | (simp; omega)) (by first | omega | (simp; done) | (simp; omega)) _) | with_reducible apply Chg.alloc))
  obtain ⟨gl1, csl, kgl, _⟩ := row_blk St.lines
  have zgl := blk_lt kgl
  obtain ⟨go1, cso, kgo, _⟩ := row_blk St.out
  have zgo := blk_lt kgo
  have zc := Bc.size
  have zX := hX.size
  have ne := St.ne
  have lw : Wd.ownsRow w.heap.size 71 4 (.slice (some ⟨gl, 0, none⟩) N cl) N (lnCells (vs.set L v')) := by
    rw [lnCells_set v' vs L (by omega), hWd]
    exact row_set (row_set (row_set (row_set (row_below' St.lines Bc) _) _) _) _
  have tr : ∀ {v : LnV} {l : Ln}, LnOk wc (fun b => w.heap.size ≤ b ∧ b ≠ go ∧ b ≠ gl) v l → LnOk w2 (fun b => w.heap.size ≤ b ∧ b ≠ g2 ∧ b ≠ gl) v l := by
    intro v l ok
    have ok2 : LnOk X (fun b => w.heap.size ≤ b ∧ b ≠ go ∧ b ≠ gl) v l :=
      (ok.keep (Q := fun b => w.heap.size ≤ b ∧ b ≠ go ∧ b ≠ gl) hk.size (fun b hb hlt => hk.block b hlt (by have := hb.2.2; omega)) (fun _ h _ => h)).below hX
    refine ok2.keep hgr.size (fun b hb hlt => hgr.block b hlt (by intro e; injection e with e; exact hb.2.1 e)) (fun b hb hlt => ⟨hb.1, ?_, hb.2.2⟩)
    rcases hat with e | e
    · rw [← e]; exact hb.2.1
    · omega
  have hge : s.1.getD L ⟨0, [], false, []⟩ = l := by rw [List.getD_eq_getElem?_getD, hl]; rfl
  have hstep : stepF s d = (s.1.set L (doneF l d).1, s.2 ++ [(doneF l d).2]) := by unfold stepF; rw [hL, hge]
  refine ⟨?_, by rw [hstep]; simp only; rw [txts_snoc]; exact hown, ?_, ?_, by rw [stepF_len]; exact St.len, ?_⟩
  · have b1 : Below w.heap.size w Wd := (St.B.trans (Bc.mono St.B.size)).trans (hk.below gl1 (by have := St.B.size; omega))
    have b2 : Below w.heap.size w X := below_step b1 hX
    exact b2.trans ⟨hgr.os, hgr.tape, hgr.output, hgr.size, fun i hi => hgr.block i (Nat.lt_of_lt_of_le hi b2.size) (by intro e; injection e with e; omega)⟩
  · rcases hat with e | e <;> omega
  · exact row_at (row_below' lw hX) (hgr.block gl (by omega) (by intro e; injection e with e; omega))
  · intro i v l' hv hl'
    rw [hstep] at hl'
    simp only at hl'
    by_cases hi : i = L
    · subst hi
      rw [List.getElem?_set_self (by omega)] at hv
      rw [List.getElem?_set_self (by rw [St.len]; omega)] at hl'
      injection hv with hv; injection hl' with hl'
      subst hv hl'
      exact ⟨tr okD, hf⟩
    · rw [List.getElem?_set_ne (by omega)] at hv hl'
      obtain ⟨ok, hf'⟩ := St.lns i v l' hv hl'
      exact ⟨tr (ok.below Bc), hf'⟩
end Go.Proofs.YtojnnemodikpeaaDoor
namespace Go.Proofs.YtojnnemodikpeaaDoor
open Go.RowKit
set_option linter.unusedVariables false
def RunSays (w : World) (rooms : List Int) (ds : List DeedD) (e : Ending) (w' : World) : Prop :=
  ∃ gl cl go co vs, e = .returned (.tuple #[.slice (some ⟨gl, 0, none⟩) (rooms.length + 1) cl, .slice (some ⟨go, 0, none⟩) ds.length co]) ∧ RunSt w w' gl cl go co (rooms.length + 1) ds.length vs (runF rooms ds)
theorem lns_len {w : World} {base g c N : Nat} {vs : List LnV} (h : w.ownsRow base 71 4 (.slice (some ⟨g, 0, none⟩) N c) N (lnCells vs)) : vs.length = N := by
  have := h.1; rw [lnCells_len] at this; omega
set_option maxRecDepth 20000 in
set_option maxHeartbeats 4000000 in
theorem l1Run_any (lo hi n c lo2 hi2 m c2 : Nat) (A A2 : Option Addr) (rooms : List Int) (ds : List DeedD) (w : World) (h : Slc w lo hi 1 A n c (ints rooms)) (h2 : Slc w lo2 hi2 3 A2 m c2 (deeds ds)) (hd : deedsB rooms ds = true) :
    Calls Tryd.prog 60 #[.slice A n c, .slice A2 m c2] w (RunSays w rooms ds) := by
  obtain ⟨⟨r1, r6⟩, hr, d60, hdp⟩ := deedsB_of hd
  have hln := h.length
  have hlm := h2.deedLen
  have HDP := Lib.hid hdp
  have HSM := Lib.hid (runF_small hdp)
  have HLM := Lib.hid hlm
  have hm60 : m ≤ 60 := by omega
  obtain ⟨N, hN⟩ : ∃ N, N = rooms.length + 1 := ⟨_, rfl⟩
  have HN := Lib.hid hN
  have HNN := Lib.hid hln
  have hn6 : n ≤ 6 := by omega
  clear hdp hr hd hN hln hlm
  obtain ⟨i0, hi0, hz0, hz1, hz2⟩ := info_parts info_string
  have HI := Lib.hid (And.intro hi0 (And.intro hz0 (And.intro hz1 hz2)))
  clear hi0 hz0 hz1 hz2
  go_enter Tryd.func60, Tryd.ntmps60
  go_wp2_with fail
  refine (l1Open_any lo hi n c A rooms _ h hn6).mono ?_
  rintro e w1 ⟨gl, cl, vs0, rfl, hown0, hopen, B0⟩
  rw [← HN.out] at hown0 ⊢
  have HO0 := Lib.hid hown0
  have HOP := Lib.hid hopen
  have HB0 := Lib.hid B0
  have z0 := B0.size
  clear hown0 hopen B0 h
  go_wp2_with fail
  go_loopw [7, 8, 9, 10] (fun v i _ _ wr => ∃ (k go co : Nat) (vs : List LnV), k ≤ m ∧ i = .int .i64 k ∧ v = .slice (some ⟨go, 0, none⟩) k co ∧ RunSt w wr gl cl go co N k vs (runF rooms (ds.take k))) (fun _ i _ _ _ => m - (intOf i).toNat)
  case atStart =>
    have hgl := (row_blk HO0.out)
    obtain ⟨hgl1, cs, hgl2, _⟩ := hgl
    have hgz := blk_lt hgl2
    refine ⟨0, w1.heap.size, 0, vs0, Nat.zero_le _, rfl, rfl, ?_⟩
    have hb := below_al (o := .cells #[] 9) (Below.refl w1.heap.size w1)
    exact ⟨HB0.out.trans (hb.mono z0), row_empty (by omega) (heap_alloc_new _ _), by omega, row_below' HO0.out (below_al (Below.refl _ _) _), by rw [HN.out]; simp [runF, openF], HOP.out.lns _ _⟩
  case round =>
    obtain ⟨k, go, co, vs, hk, rfl, rfl, St⟩ := hrel
    by_cases hlt : k < m
    · obtain ⟨b, off, d, hA, _, _, h3, hxk, hv0, hv1, hv2⟩ := (h2.below St.B).deedAt hlt
      subst hA
      obtain ⟨p1, p2, p3, p4, p5, p6⟩ := HDP.out d (List.mem_of_getElem? hxk)
      obtain ⟨s, x, y⟩ := d
      obtain ⟨L, hL⟩ := Int.eq_ofNat_of_zero_le p2
      have hL' : x = (L : Int) := hL
      subst hL'
      have hLN : L < N := by have := HN.out; simp only at p3; omega
      have hvl := lns_len St.lines
      obtain ⟨v, hv⟩ : ∃ v, vs[L]? = some v := ⟨_, List.getElem?_eq_getElem (by omega)⟩
      obtain ⟨l, hl⟩ : ∃ l, (runF rooms (ds.take k)).1[L]? = some l := ⟨_, List.getElem?_eq_getElem (by rw [St.len]; exact hLN)⟩
      obtain ⟨ok, okf⟩ := St.lns L v l hv hl
      obtain ⟨g0, g1, g2, g3⟩ := lnCells_get hv
      have c0 := row_cells St.lines g0
      have c1 := row_cells St.lines g1
      have c2' := row_cells St.lines g2
      have c3 := row_cells St.lines g3
      obtain ⟨s1, s2, s3⟩ := HSM.out k l (List.mem_of_getElem? hl)
      have sm : LnSmall l := ⟨by omega, by omega, s3⟩
      have S0 := And.intro hv0 (And.intro hv1 (And.intro hv2 (And.intro c0 (And.intro c1 (And.intro c2' (And.intro c3 (Below.refl wr.heap.size wr)))))))
      simp only [Nat.add_zero] at S0
      have HX := Lib.hid hxk
      have HP := Lib.hid (show deedP rooms.length ⟨s, (L : Int), y⟩ from ⟨p1, p2, p3, p4, p5, p6⟩)
      have HST := Lib.hid St
      have HOK := Lib.hid (And.intro ok okf)
      have HVL := Lib.hid (And.intro hv hl)
      have HSM2 := Lib.hid sm
      have zgo := blk_lt (row_blk St.out).2.choose_spec.1
      have zgl := blk_lt (row_blk St.lines).2.choose_spec.1
      have zw := St.B.size
      have i0' : (0 : Int) ≤ (k : Int) := by omega
      have i1 : (k : Int) < (m : Int) := by omega
      have i2 : (0 : Int) ≤ (L : Int) := by omega
      have i3 : (L : Int) < (N : Int) := by omega
      clear hxk p1 p2 p3 p4 p5 p6 St ok okf hv hl sm h3 hv0 hv1 hv2 c0 c1 c2' c3 g0 g1 g2 g3 h2 s1 s2 s3 hL
      obtain ⟨D, hD⟩ : ∃ D, D = doneF l ⟨s, (L : Int), y⟩ := ⟨_, rfl⟩
      have HD := Lib.hid hD
      clear hD
      go_upto_region 6 with fail
      go_cut [9, 10] from 14 to 47 (fun s9 s10 wc => ∃ b9 v', s9 = .pointer (some ⟨b9, 0, none⟩) ∧ s10 = .string ⟨D.2.toArray⟩ ∧ wc.heap[b9]? = some (.cells (LnV.cells v').toArray 71) ∧ LnOk wc (fun b => w.heap.size ≤ b ∧ b ≠ go ∧ b ≠ gl) v' D.1 ∧ Below wr.heap.size wr wc ∧ wr.heap.size ≤ b9 ∧ (v.full → v'.full))
      case first =>
        go_region_held3 (fun W => W.cell? ⟨b, off + k * 3, none⟩ = some (.string s) ∧ W.cell? ⟨b, off + k * 3 + 1, none⟩ = some (.int .i64 L) ∧ W.cell? ⟨b, off + k * 3 + 2, none⟩ = some (.int .i64 y) ∧ W.cell? ⟨gl, L * 4, none⟩ = some (.int .i64 v.room) ∧ W.cell? ⟨gl, L * 4 + 1, none⟩ = some (.slice v.AH v.nH v.cH) ∧ W.cell? ⟨gl, L * 4 + 2, none⟩ = some (.bool v.ended) ∧ W.cell? ⟨gl, L * 4 + 3, none⟩ = some (.slice v.AT v.nT v.cT) ∧ Below wr.heap.size wr W)
          (first | ((refine held7_below ?_ (Nat.le_refl _) ?_ <;> assumption); done) | (refine held7_of S0 ?_; (repeat' first | with_reducible assumption | with_reducible exact Below.refl _ _ | with_reducible apply below_al | with_reducible apply below_drew | with_reducible refine Below.setCell ?_ (by first | (simp; done) | (simp; omega)) _); done))
          (first
            | (go_at_call 85; refine (l1Done_any v l ⟨s, (L : Int), y⟩ _ (fun b => (w.heap.size ≤ b ∧ b ≠ go ∧ b ≠ gl) ∧ b ≠ wr.heap.size) (ok_held7 (by assumption) HOK.out.1 (fun b hb h => ⟨hb, by omega⟩)) HSM2.out HP.out (by intro b hb; simp at hb; exact ⟨⟨by omega, by omega, by omega⟩, by omega⟩) (fun h => HOK.out.2 (by simp only at h; omega))).mono ?_; rintro e w2 ⟨⟨r1, A1, n1, q1, t1, A3, n3, q3⟩, rfl, ok', b2, hf'⟩; have bw : Below wr.heap.size wr w2 := bw7 b2 (by assumption); simp only [LnV.cells]; have k9 : w2.heap[wr.heap.size]? = some (.cells #[.int .i64 0, .slice none 0 0, .bool false, .slice none 0 0] 71) := (b2.block _ (by simp)).trans (by ((try with_reducible apply blk_drew); (first | with_reducible assumption | (with_reducible refine heap_new' _ _ ?_; simp) | (with_reducible refine blk_alloc ?_ _; first | with_reducible assumption | (with_reducible refine heap_new' _ _ ?_; simp)) | (with_reducible refine blk_alloc ?_ _; with_reducible refine blk_alloc ?_ _; first | with_reducible assumption | (with_reducible refine heap_new' _ _ ?_; simp)) | (with_reducible refine blk_alloc ?_ _; with_reducible refine blk_alloc ?_ _; with_reducible refine blk_alloc ?_ _; first | with_reducible assumption | (with_reducible refine heap_new' _ _ ?_; simp))))); have e9 := blk_cell k9; have f9 := blk_frozen' k9; have z9 := blk_lt k9)
            | (go_at_call 85; refine (l1Done_any v l ⟨s, (L : Int), y⟩ _ (fun b => w.heap.size ≤ b ∧ b ≠ go ∧ b ≠ gl) (ok_held7 (by assumption) HOK.out.1 (fun b hb h => hb)) HSM2.out HP.out (by intro b hb; (try simp at hb); exact ⟨by omega, by omega, by omega⟩) (fun h => HOK.out.2 (by simp only at h; omega))).mono ?_; rintro e w2 ⟨⟨r1, A1, n1, q1, t1, A3, n3, q3⟩, rfl, ok', b2, hf'⟩; have bw : Below wr.heap.size wr w2 := bw7 b2 (by assumption); simp only [LnV.cells]))
        all_goals
          go_wp2_with fail
          go_meet
          have z2 := bw.size
          refine ⟨_, ⟨r1, A1, n1, q1, t1, A3, n3, q3⟩, rfl, by rw [HD.out], ?_, ?_, ?_, ?_, hf'⟩
          · first | exact (blk_set4 (x0 := .int .i64 r1) (x1 := .slice A1 n1 q1) (x2 := .bool t1) (x3 := .slice A3 n3 q3) k9) | exact heap_alloc_new _ _
          · rw [HD.out]
            first | with_reducible exact LnOk.alloc ok' _ | (refine LnOk.set ok' ?_; (repeat' (first | with_reducible assumption | with_reducible exact Chg.refl _ _ _ | (with_reducible refine Chg.setCell ?_ (by first | omega | (simp; done) | (simp; omega)) (by first | omega | (simp; done) | (simp; omega)) _) | with_reducible apply Chg.alloc)))
          · first | with_reducible exact below_al bw _ | (refine Below.chg bw (lo := wr.heap.size) (hi := wr.heap.size + 1) ?_ (Nat.le_refl _); (repeat' (first | with_reducible assumption | with_reducible exact Chg.refl _ _ _ | (with_reducible refine Chg.setCell ?_ (by first | omega | (simp; done) | (simp; omega)) (by first | omega | (simp; done) | (simp; omega)) _) | with_reducible apply Chg.alloc)))
          · first | exact z2 | exact Nat.le_refl _
      case rest =>
        obtain ⟨b9, ⟨r1, A1, n1, q1, t1, A3, n3, q3⟩, rfl, rfl, hb9, okD, Bc, zb9, hfD⟩ := hcut
        simp only [LnV.cells] at hb9
        have S1 := held7_of S0 Bc
        obtain ⟨a0, a1, a2, a3, a4, a5, a6, _⟩ := S1
        have e9 := blk_cell hb9
        obtain ⟨gl1, csl, kgl, _⟩ := row_blk HST.out.lines
        have fgl := blk_frozen' ((Bc.block gl zgl).trans kgl)
        have HBC := Lib.hid Bc
        have HOKD := Lib.hid okD
        have HFD := Lib.hid hfD
        have zc := Bc.size
        have hne := HST.out.ne
        clear hb9 okD Bc hfD kgl S0
        have hb9z : b9 ≠ gl := by omega
        go_upto_region 7 with fail
        go_region
        go_upto_region 8 with fail
        obtain ⟨Wd, hWd⟩ : ∃ Wd, Wd = (((wc.setCell ⟨gl, L * 4, none⟩ (.int .i64 r1)).setCell ⟨gl, L * 4 + 1, none⟩ (.slice A1 n1 q1)).setCell ⟨gl, L * 4 + 2, none⟩ (.bool t1)).setCell ⟨gl, L * 4 + 3, none⟩ (.slice A3 n3 q3) := ⟨_, rfl⟩
        rw [← hWd]
        have hsz : Wd.heap.size = wc.heap.size := by rw [hWd]; simp
        have hk : Chg gl (gl + 1) wc Wd := by rw [hWd]; (repeat' (first | with_reducible assumption | with_reducible exact Chg.refl _ _ _ | (with_reducible refine Chg.setCell ?_ (by first | omega | (simp; done) | (simp; omega)) (by first | omega | (simp; done) | (simp; omega)) _) | with_reducible apply Chg.alloc))
        have HWD := Lib.hid hWd
        have hO : Wd.ownsRow w.heap.size 9 1 (.slice (some ⟨go, 0, none⟩) k co) k (txts (runF rooms (ds.take k)).2) := row_at HST.out.out ((hk.block go (by omega) (by omega)).trans (HBC.out.block go zgo))
        have HO := Lib.hid hO
        clear hWd hk hO e9 fgl a0 a1 a2 a3 a4 a5 a6
        obtain ⟨hi0, hz0, hz1, hz2⟩ := HI.out
        have HH := Lib.hid hi0
        clear hi0
        go_wp2_with (at_builtin; refine wpList_append_lies _ rfl (.tmp 44) (.tmp 46) 38 rfl w.heap.size 9 i0 (.string ⟨#[]⟩) 1 16 Tryd.underlying38 HH.out hz0 hz1 hz2 rfl (by decide) (.slice (some ⟨go, 0, none⟩) k co) k _ rfl (row_below' HO.out (below_drew (below_al (Below.refl _ _) _))) ⟨_, 0, none⟩ 1 1 [.string ⟨D.2.toArray⟩] rfl rfl (World.news_of_block (cs := #[.string ⟨D.2.toArray⟩]) (blk_drew (heap_new' Wd _ hsz.symm))) (by simp [Value.oneCell']) (by decide) (by unfold maxLen; omega) (by omega) (by simp; omega) _ rfl ?_; intro g2 c2n w2 hown2 hgr2 hat2 hlt2; have HO2 := Lib.hid hown2; have HG2 := Lib.hid hgr2; have HAT := Lib.hid hat2; clear hown2 hgr2 hat2)
        go_roundw
        case rel =>
          refine ⟨k + 1, g2, c2n, vs.set L ⟨r1, A1, n1, q1, t1, A3, n3, q3⟩, by omega, by go_num, rfl, ?_⟩
          rw [runF_take HX.out]
          refine HST.out.step (l := l) rfl hLN (lns_len HST.out.lines) HVL.out.2 HBC.out (HD.out ▸ HOKD.out) (fun h => HFD.out (HOK.out.2 h)) HWD.out (below_drew (below_al (Below.refl _ _) _)) HG2.out ?_ (HD.out ▸ HO2.out)
          rcases HAT.out with h | h
          · left; simpa [Value.ownBlock] using h
          · right; exact h
        case measure => simp [intOf]; omega
    · have e : k = m := by omega
      subst e
      clear h2
      have hs := St
      rw [List.take_of_length_le (Nat.le_of_eq HLM.out)] at hs
      go_wp2
      refine bodyPost_ret (v := .tuple #[.slice (some ⟨gl, 0, none⟩) N cl, .slice (some ⟨go, 0, none⟩) k co]) ?_ rfl ⟨gl, cl, go, co, vs, by rw [HN.out, HLM.out], by rw [← HN.out, HLM.out]; exact hs⟩
      simp [results, Tryd.results60, go_sem]
end Go.Proofs.YtojnnemodikpeaaDoor
