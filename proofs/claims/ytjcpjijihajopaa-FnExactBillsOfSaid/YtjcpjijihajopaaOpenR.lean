/-
  Arguments opened: slices of records.
-/
import Derived.Test.YtjcpjijihajopaaOpen
import Derived.Test.YtjcpjijihajopaaRecA
import Derived.Deep.Matrix
set_option linter.unusedSectionVars false
set_option linter.unusedSimpArgs false
set_option linter.unusedVariables false
namespace Go.Proofs.Ytjcpjijihajopaa
open Go.Joins Go.ChangeShapes Go.WideShapes Go.RowKit Go.Deep
set_option linter.unusedVariables false
section
variable {H : Type} {enc : TypeId × Value → H} {P : Program} {w : World} {base : Nat} {held : Bool}
theorem add_plain (b off j : Nat) : (Addr.mk b off none).add j = ⟨b, off + j, none⟩ := by unfold Addr.add; split <;> simp_all
theorem read_recs {α : Type} [Inhabited α] (f : α → List Value) (Q : α → Prop) {s : Nat} (hs : 0 < s) (hf : ∀ a, (f a).length = s) {t e : TypeId} {A : Option Addr} {len cap : Nat} {d : DataW H} {p : List MemPlace} (ht : P.underlying t = some (.slice e)) (hc : P.cellsOf e = s)
    (hel : ∀ (n : Nat) (cs : List Value) (x : DataW H × List MemPlace), DataW.trod enc P w base (fun _ => true) held n e cs = some x → cs.length = s → ∃ a, cs = f a ∧ Q a)
    (h : DataW.Trod enc P w base (fun _ => true) held t (.slice A len cap) d p) : ∃ ds : List α, Slc w 0 w.heap.size s A len cap (ds.flatMap f) ∧ ∀ d ∈ ds, Q d := by
  obtain ⟨fuel, hf'⟩ := h
  rcases open_slice ht hf' with ⟨hcs, _⟩ | ⟨a, len', cap', m, n, D, Pl, hcs, _, hl, hm, hmm, _, hx⟩
  · simp [Value.cells] at hcs
    obtain ⟨rfl, rfl, rfl⟩ := hcs
    exact ⟨[], ⟨by simp, Nat.le_refl _, Nat.zero_le _, fun h0 => absurd h0 (by omega)⟩, fun d hd => by cases hd⟩
  · simp [Value.cells] at hcs
    obtain ⟨rfl, rfl, rfl⟩ := hcs
    simp at hmm
    subst hmm
    rw [hc] at hx
    obtain ⟨V, hV⟩ := choose_lt (α := α) (n := len) (p := fun i v => (∀ j u, (f v)[j]? = some u → w.cell? ((a.add (i * s)).add j) = some u) ∧ Q v) (fun i hi => by
      obtain ⟨cs', h1, h2⟩ := hx i (by omega)
      obtain ⟨_, hlen, hcell⟩ := World.cells?_some h1
      obtain ⟨v, rfl, hQ⟩ := hel n cs' _ h2 hlen
      refine ⟨v, fun j u hu => ?_, hQ⟩
      have hj : j < s := by rw [← hf v]; exact (List.getElem?_eq_some_iff.1 hu).1
      have := hcell j hj
      rw [this, hu])
    refine ⟨(List.range len).map V, ⟨by rw [flat_len f hf]; simp, hl, hm, fun h0 => ?_⟩, fun d hd => ?_⟩
    rotate_left
    · obtain ⟨i, hi, rfl⟩ := List.mem_map.1 hd
      exact (hV i (List.mem_range.1 hi)).2
    obtain ⟨b, off, spot⟩ := a
    have hg : ∀ i, i < len → ∀ j u, (f (V i))[j]? = some u → w.cell? (((⟨b, off, spot⟩ : Addr).add (i * s)).add j) = some u := fun i hi => (hV i hi).1
    have hspot : spot = none := by
      obtain ⟨u, hu⟩ : ∃ u, (f (V 0))[0]? = some u := ⟨_, List.getElem?_eq_getElem (by rw [hf]; exact hs)⟩
      have h1 := hg 0 h0 0 u hu
      rw [Nat.zero_mul] at h1
      simpa [Addr.add] using World.cell?_spot h1
    subst hspot
    have hb : b < w.heap.size := by
      obtain ⟨u, hu⟩ : ∃ u, (f (V 0))[0]? = some u := ⟨_, List.getElem?_eq_getElem (by rw [hf]; exact hs)⟩
      have h1 := hg 0 h0 0 u hu
      have := World.block_lt_of_cell? w _ h1; rw [add_plain, add_plain] at this; exact this
    refine ⟨b, off, rfl, Nat.zero_le _, hb, hb, fun j v hv => ?_⟩
    obtain ⟨i, k, rfl, hk⟩ : ∃ i k, j = i * s + k ∧ k < s := ⟨j / s, j % s, by rw [Nat.mul_comm]; exact (Nat.div_add_mod j s).symm, Nat.mod_lt _ hs⟩
    rw [flat_get f hf _ i k hk] at hv
    obtain ⟨x, hx1, hx2⟩ := Option.bind_eq_some_iff.1 hv
    rw [List.getElem?_map] at hx1
    obtain ⟨i', hi', rfl⟩ := Option.map_eq_some_iff.1 hx1
    have hil : i < len := by
      have := (List.getElem?_eq_some_iff.1 hi').1
      simpa using this
    have : i' = i := by rw [List.getElem?_range hil] at hi'; injection hi' with hi'; exact hi'.symm
    subst this
    have := hg i' hil k v hx2
    rw [add_plain, add_plain] at this
    rw [← this, Nat.add_assoc]
theorem read_records {t e : TypeId} {f0 f1 f2 f3 f4 f5 f6 : Field} {A : Option Addr} {len cap : Nat} {d : DataW H} {p : List MemPlace} (ht : P.underlying t = some (.slice e)) (hc : P.cellsOf e = 7) (he : P.underlying e = some (.struct #[f0, f1, f2, f3, f4, f5, f6]))
    (o0 : f0.offset = 0) (o1 : f1.offset = 1) (o2 : f2.offset = 2) (o3 : f3.offset = 3) (o4 : f4.offset = 4) (o5 : f5.offset = 5) (o6 : f6.offset = 6) (h0 : P.underlying f0.type = some (.int .i64)) (h1 : P.underlying f1.type = some (.int .i64)) (h2 : P.underlying f2.type = some (.int .i64)) (h3 : P.underlying f3.type = some (.int .i64)) (h4 : P.underlying f4.type = some (.int .i64)) (h5 : P.underlying f5.type = some (.int .i64)) (h6 : P.underlying f6.type = some .string) (c0 : P.cellsOf f0.type = 1) (c1 : P.cellsOf f1.type = 1) (c2 : P.cellsOf f2.type = 1) (c3 : P.cellsOf f3.type = 1) (c4 : P.cellsOf f4.type = 1) (c5 : P.cellsOf f5.type = 1) (c6 : P.cellsOf f6.type = 1)
    (h : DataW.Trod enc P w base (fun _ => true) held t (.slice A len cap) d p) : ∃ ds : List RecD, Slc w 0 w.heap.size 7 A len cap (recs ds) ∧ ∀ d ∈ ds, d.e.size ≤ maxLen := by
  letI : Inhabited RecD := ⟨⟨0, 0, 0, 0, 0, 0, ⟨#[]⟩⟩⟩
  refine read_recs RecD.cells (fun d => d.e.size ≤ maxLen) (by decide) (fun _ => rfl) ht hc ?_ h
  intro n cs x hx hl
  obtain ⟨xs, m, _, _, _, hlen, hg⟩ := DataW.trod_struct he hx
  match cs, hl with
  | [x0, x1, x2, x3, x4, x5, x6], _ =>
    match xs, hlen with
    | [y0, y1, y2, y3, y4, y5, y6], _ =>
      have g0 := hg 0 f0 rfl
      have g1 := hg 1 f1 rfl
      have g2 := hg 2 f2 rfl
      have g3 := hg 3 f3 rfl
      have g4 := hg 4 f4 rfl
      have g5 := hg 5 f5 rfl
      have g6 := hg 6 f6 rfl
      rw [o0, c0] at g0
      rw [o1, c1] at g1
      rw [o2, c2] at g2
      rw [o3, c3] at g3
      rw [o4, c4] at g4
      rw [o5, c5] at g5
      rw [o6, c6] at g6
      obtain ⟨a0, e0, _, _⟩ := DataW.trod_int h0 g0
      obtain ⟨a1, e1, _, _⟩ := DataW.trod_int h1 g1
      obtain ⟨a2, e2, _, _⟩ := DataW.trod_int h2 g2
      obtain ⟨a3, e3, _, _⟩ := DataW.trod_int h3 g3
      obtain ⟨a4, e4, _, _⟩ := DataW.trod_int h4 g4
      obtain ⟨a5, e5, _, _⟩ := DataW.trod_int h5 g5
      obtain ⟨s, e6, _, hs⟩ := DataW.trod_string h6 g6
      simp at e0 e1 e2 e3 e4 e5 e6
      subst e0 e1 e2 e3 e4 e5 e6
      exact ⟨⟨a0, a1, a2, a3, a4, a5, s⟩, rfl, hs⟩
theorem slice_block {t e : TypeId} {A : Option Addr} {n c : Nat} {r : Reach} (ht : P.underlying t = some (.slice e)) (h : Value.okWide P w r base t (.slice A n c)) : ∀ a, A = some a → a.spot = none ∧ ∃ cs T fz, w.heap[a.block]? = some (.cells cs T fz) := by
  intro a e
  subst e
  simp only [Value.okWide, ht, Cell.okWide, Cell.ok, World.has] at h
  obtain ⟨_, _, _, hsp, row, cells, hsh, _⟩ := h
  refine ⟨hsp, ?_⟩
  unfold World.shape? at hsh
  split at hsh
  · rename_i cs T fz hb
    exact ⟨cs, T, fz, hb⟩
  · cases hsh
end
end Go.Proofs.Ytjcpjijihajopaa
