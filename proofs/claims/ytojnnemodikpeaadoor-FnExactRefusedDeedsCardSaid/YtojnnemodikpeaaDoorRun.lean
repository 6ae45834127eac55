/-
  Lines after deeds: l1Run.
-/
import Derived.Test.YtojnnemodikpeaaDoorOpenL
import Derived.Deep.RegionHeld3
import Derived.Deep.CutRange
namespace Go.Proofs.YtojnnemodikpeaaDoor
open Go.RowKit
set_option linter.unusedVariables false
theorem LnOk.keep {w w' : World} {P Q : Nat → Prop} {v : LnV} {l : Ln} (h : LnOk w P v l) (hs : w.heap.size ≤ w'.heap.size) (k : ∀ b, P b → b < w.heap.size → w'.heap[b]? = w.heap[b]?) (hQ : ∀ b, P b → b < w.heap.size → Q b) : LnOk w' Q v l := by
  have z : ∀ {A : Option Addr} {n c : Nat} {xs : List Value}, Slc w 0 w.heap.size 1 A n c xs → (∀ b off, 0 < n → A = some ⟨b, off, none⟩ → P b) → Slc w' 0 w'.heap.size 1 A n c xs ∧ (∀ b off, 0 < n → A = some ⟨b, off, none⟩ → Q b) := by
    intro A n c xs s hp
    refine ⟨⟨s.len, s.le, s.cap, fun hn => ?_⟩, fun b off hn e => ?_⟩
    · obtain ⟨b, off, e, h1, h2, h3, h4⟩ := s.at_ hn
      exact ⟨b, off, e, h1, Nat.lt_of_lt_of_le h3 hs, Nat.lt_of_lt_of_le h3 hs, fun j v hv => (World.cell?_of_block (k b (hp b off hn e) h3)).trans (h4 j v hv)⟩
    · obtain ⟨b', off', e', h1, h2, h3, h4⟩ := s.at_ hn
      rw [e] at e'; injection e' with e'; injection e' with e1 e2; subst e1
      exact hQ b (hp b off hn e) h3
  exact ⟨h.room, h.ended, (z h.held h.heldP).1, (z h.taken h.takenP).1, (z h.held h.heldP).2, (z h.taken h.takenP).2⟩
/-- What each line of a run is like: small. -/
def RunSmall (k : Nat) (s : List Ln × List (List UInt8)) : Prop := ∀ l ∈ s.1, l.held.length ≤ k ∧ l.taken.length ≤ k ∧ ∀ x ∈ l.held, 0 ≤ x ∧ x ≤ 1000
theorem doneF_small {lines : Int} {k : Nat} {l : Ln} {d : DeedD} (hd : deedP lines d) (h : l.held.length ≤ k ∧ l.taken.length ≤ k ∧ ∀ x ∈ l.held, 0 ≤ x ∧ x ≤ 1000) :
    (doneF l d).1.held.length ≤ k + 1 ∧ (doneF l d).1.taken.length ≤ k + 1 ∧ ∀ x ∈ (doneF l d).1.held, 0 ≤ x ∧ x ≤ 1000 := by
  obtain ⟨h1, h2, h3⟩ := h
  obtain ⟨-, -, -, d4, d5, -⟩ := hd
  unfold doneF
  split
  · exact ⟨Nat.le_succ_of_le h1, Nat.le_succ_of_le h2, h3⟩
  split
  · exact ⟨Nat.le_succ_of_le h1, Nat.le_succ_of_le h2, h3⟩
  split
  · next x xs hx =>
    rw [hx] at h1 h3
    simp only [List.length_cons, List.length_append, List.length_nil] at h1 ⊢
    exact ⟨by omega, by omega, fun y hy => h3 y (List.mem_cons_of_mem _ hy)⟩
  · split
    · exact ⟨Nat.le_succ_of_le h1, Nat.le_succ_of_le h2, h3⟩
    split
    · exact ⟨Nat.le_succ_of_le h1, Nat.le_succ_of_le h2, h3⟩
    split
    · exact ⟨Nat.le_succ_of_le h1, Nat.le_succ_of_le h2, h3⟩
    split
    · exact ⟨Nat.le_succ_of_le h1, Nat.le_succ_of_le h2, h3⟩
    · simp only [List.length_append, List.length_cons, List.length_nil]
      exact ⟨by omega, by omega, fun y hy => by
        rcases List.mem_append.1 hy with hy | hy
        · exact h3 y hy
        · rw [List.mem_singleton] at hy; subst hy; exact ⟨d4, d5⟩⟩
theorem stepF_small {lines : Int} {k : Nat} {s : List Ln × List (List UInt8)} {d : DeedD} (hd : deedP lines d) (h : RunSmall k s) : RunSmall (k + 1) (stepF s d) := by
  intro l hl
  unfold stepF at hl
  rcases List.mem_or_eq_of_mem_set hl with hl | rfl
  · obtain ⟨h1, h2, h3⟩ := h l hl
    exact ⟨by omega, by omega, h3⟩
  · refine doneF_small hd ?_
    rw [List.getD_eq_getElem?_getD]
    cases hq : s.1[d.a.toNat]? with
    | none => exact ⟨by simp, by simp, by simp⟩
    | some l => exact h l (List.mem_of_getElem? hq)
theorem runF_small {rooms : List Int} {ds : List DeedD} (hd : ∀ d ∈ ds, deedP rooms.length d) : ∀ k, RunSmall k (runF rooms (ds.take k)) := by
  intro k
  induction k with
  | zero =>
    intro l hl
    unfold runF at hl
    simp only [List.take_zero, List.foldl_nil] at hl
    unfold openF at hl
    rcases List.mem_cons.1 hl with rfl | hl
    · simp
    · obtain ⟨r, _, rfl⟩ := List.mem_map.1 hl; simp
  | succ k ih =>
    cases hk : ds[k]? with
    | none =>
      have hk' := List.getElem?_eq_none_iff.1 hk
      rw [List.take_of_length_le (by omega)] at ih ⊢
      intro l hl
      obtain ⟨h1, h2, h3⟩ := ih l hl
      exact ⟨by omega, by omega, h3⟩
    | some d => rw [runF_take hk]; exact stepF_small (hd d (List.mem_of_getElem? hk)) ih
/-- The state of a run of deeds: the lines' block gl, the answers' block go. -/
structure RunSt (w0 wr : World) (gl cl go co : Nat) (N k : Nat) (vs : List LnV) (s : List Ln × List (List UInt8)) : Prop where
  B : Below w0.heap.size w0 wr
  out : wr.ownsRow w0.heap.size 9 1 (.slice (some ⟨go, 0, none⟩) k co) k (txts s.2)
  ne : go ≠ gl
  lines : wr.ownsRow w0.heap.size 71 4 (.slice (some ⟨gl, 0, none⟩) N cl) N (lnCells vs)
  len : s.1.length = N
  lns : ∀ (i : Nat) v l, vs[i]? = some v → s.1[i]? = some l → LnOk wr (fun b => w0.heap.size ≤ b ∧ b ≠ go ∧ b ≠ gl) v l ∧ (0 < i → v.full)
theorem row_blk {E s : Nat} {w : World} {base g n c : Nat} {xs : List Value} (h : w.ownsRow base E s (.slice (some ⟨g, 0, none⟩) n c) n xs) : base ≤ g ∧ ∃ cs, w.heap[g]? = some (.cells cs E) ∧ n ≤ c ∧ c ≤ maxLen ∧ cs.size = c * s ∧ cs.toList.take (n * s) = xs := by
  obtain ⟨_, h | ⟨g', cap, cur, e, h1, h2, h3, h4, h5, h6⟩⟩ := h
  · cases h.1
  · injection e with e1 e2 e3; injection e1 with e1; injection e1 with e1 _; subst e1 e3
    exact ⟨h1, cur, h2, h3, h4, h5, h6⟩
theorem row_cells {E s : Nat} {w : World} {base g n c : Nat} {xs : List Value} (h : w.ownsRow base E s (.slice (some ⟨g, 0, none⟩) n c) n xs) {j : Nat} {v : Value} (hj : xs[j]? = some v) : w.cell? ⟨g, j, none⟩ = some v := by
  obtain ⟨_, cs, h2, h3, _, h5, h6⟩ := row_blk h
  rw [blk_cell h2]
  have hl := h.1
  have hj' := (List.getElem?_eq_some_iff.1 hj).1
  rw [← h6] at hj
  rw [List.getElem?_take_of_lt (by omega)] at hj
  simpa using hj
theorem info_string : (Tryd.prog.info? 9).map (fun i => (i.zero, i.size, i.bytes)) = some (some (.string ⟨#[]⟩), 1, 16) := by kernel_rfl
theorem held7_below {w W W' : World} {B : Nat} {a0 a1 a2 b0 b1 b2 b3 : Addr} {v0 v1 v2 u0 u1 u2 u3 : Value} (hb : Below W.heap.size W W') (hB : B ≤ w.heap.size)
    (h : W.cell? a0 = some v0 ∧ W.cell? a1 = some v1 ∧ W.cell? a2 = some v2 ∧ W.cell? b0 = some u0 ∧ W.cell? b1 = some u1 ∧ W.cell? b2 = some u2 ∧ W.cell? b3 = some u3 ∧ Below w.heap.size w W) :
    W'.cell? a0 = some v0 ∧ W'.cell? a1 = some v1 ∧ W'.cell? a2 = some v2 ∧ W'.cell? b0 = some u0 ∧ W'.cell? b1 = some u1 ∧ W'.cell? b2 = some u2 ∧ W'.cell? b3 = some u3 ∧ Below w.heap.size w W' := by
  have e : ∀ {a : Addr} {v : Value}, W.cell? a = some v → W'.cell? a = some v := fun {a v} hv => (World.cell?_of_block (hb.block _ (World.block_lt_of_cell? W _ hv))).trans hv
  exact ⟨e h.1, e h.2.1, e h.2.2.1, e h.2.2.2.1, e h.2.2.2.2.1, e h.2.2.2.2.2.1, e h.2.2.2.2.2.2.1, below_step h.2.2.2.2.2.2.2 hb⟩
theorem bw7 {w W W' : World} {a0 a1 a2 b0 b1 b2 b3 : Addr} {v0 v1 v2 u0 u1 u2 u3 : Value} (hb : Below W.heap.size W W')
    (h : W.cell? a0 = some v0 ∧ W.cell? a1 = some v1 ∧ W.cell? a2 = some v2 ∧ W.cell? b0 = some u0 ∧ W.cell? b1 = some u1 ∧ W.cell? b2 = some u2 ∧ W.cell? b3 = some u3 ∧ Below w.heap.size w W) : Below w.heap.size w W' := below_step h.2.2.2.2.2.2.2 hb
theorem LnOk.set {w w' : World} {P : Nat → Prop} {g : Nat} {v : LnV} {l : Ln} (h : LnOk w (fun b => P b ∧ b ≠ g) v l) (hk : Chg g (g + 1) w w') : LnOk w' P v l :=
  h.keep hk.size (fun b hb hlt => hk.block b hlt (by have := hb.2; omega)) (fun b hb _ => hb.1)
theorem LnOk.alloc {w : World} {P : Nat → Prop} {v : LnV} {l : Ln} (h : LnOk w P v l) (o : Obj) : LnOk (w.alloc o) P v l :=
  h.keep (by simp) (fun b _ hb => Below.heap_alloc w o b hb) (fun _ h _ => h)
theorem ok_held7 {w W : World} {P Q : Nat → Prop} {v : LnV} {l : Ln} {a0 a1 a2 b0 b1 b2 b3 : Addr} {v0 v1 v2 u0 u1 u2 u3 : Value}
    (h : W.cell? a0 = some v0 ∧ W.cell? a1 = some v1 ∧ W.cell? a2 = some v2 ∧ W.cell? b0 = some u0 ∧ W.cell? b1 = some u1 ∧ W.cell? b2 = some u2 ∧ W.cell? b3 = some u3 ∧ Below w.heap.size w W) (ok : LnOk w P v l) (hQ : ∀ b, P b → b < w.heap.size → Q b) : LnOk W Q v l :=
  ok.keep h.2.2.2.2.2.2.2.size (fun b _ hb => h.2.2.2.2.2.2.2.block b hb) hQ
theorem blk_set4 {w : World} {N : Nat} {a b c d x0 x1 x2 x3 : Value} {T : TypeId} (h : w.heap[N]? = some (.cells #[a, b, c, d] T)) :
    ((((w.setCell ⟨N, 0, none⟩ x0).setCell ⟨N, 1, none⟩ x1).setCell ⟨N, 2, none⟩ x2).setCell ⟨N, 3, none⟩ x3).heap[N]? = some (.cells #[x0, x1, x2, x3] T) := by
  have := blk_setCell (i := 3) (blk_setCell (i := 2) (blk_setCell (i := 1) (blk_setCell (i := 0) h x0) x1) x2) x3
  simpa using this
/-- .. from the first world on. -/
theorem held7_of {w W' : World} {a0 a1 a2 b0 b1 b2 b3 : Addr} {v0 v1 v2 u0 u1 u2 u3 : Value}
    (h : w.cell? a0 = some v0 ∧ w.cell? a1 = some v1 ∧ w.cell? a2 = some v2 ∧ w.cell? b0 = some u0 ∧ w.cell? b1 = some u1 ∧ w.cell? b2 = some u2 ∧ w.cell? b3 = some u3 ∧ Below w.heap.size w w) (hb : Below w.heap.size w W') :
    W'.cell? a0 = some v0 ∧ W'.cell? a1 = some v1 ∧ W'.cell? a2 = some v2 ∧ W'.cell? b0 = some u0 ∧ W'.cell? b1 = some u1 ∧ W'.cell? b2 = some u2 ∧ W'.cell? b3 = some u3 ∧ Below w.heap.size w W' :=
  held7_below hb (Nat.le_refl _) h
end Go.Proofs.YtojnnemodikpeaaDoor
