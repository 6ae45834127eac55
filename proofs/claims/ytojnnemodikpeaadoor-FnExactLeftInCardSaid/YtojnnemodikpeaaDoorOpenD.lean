/-
  Arguments opened: slices of structs of strings and integers.
-/
import Derived.Test.YtojnnemodikpeaaDoorOpenS
import Derived.Test.YtojnnemodikpeaaDoorDeedS
namespace Go.Proofs.YtojnnemodikpeaaDoor
open Go.Joins Go.ChangeShapes Go.WideShapes Go.RowKit Go.Deep
set_option linter.unusedVariables false
section
variable {H : Type} {enc : TypeId × Value → H} {P : Program} {w : World} {base : Nat} {held : Bool}
theorem read_recs {α : Type} [Inhabited α] (f : α → List Value) (Q : α → Prop) {s : Nat} (hs : 0 < s) (hf : ∀ a, (f a).length = s) {t e : TypeId} {A : Option Addr} {len cap : Nat} {d : DataW H} {p : List MemPlace} (ht : P.underlying t = some (.slice e)) (hc : P.cellsOf e = s)
    (hel : ∀ (n : Nat) (cs : List Value) (x : DataW H × List MemPlace), DataW.trod enc P w base (fun _ => true) held n e cs = some x → cs.length = s → ∃ a, cs = f a ∧ Q a)
    (h : DataW.Trod enc P w base (fun _ => true) held t (.slice A len cap) d p) : ∃ ds : List α, Slc w 0 w.heap.size s A len cap (ds.flatMap f) ∧ ∀ d ∈ ds, Q d := by
  obtain ⟨fuel, hf'⟩ := h
  rcases open_slice ht hf' with ⟨hcs, _⟩ | ⟨a, len', cap', m, n, D, Pl, hcs, _, hl, hm, hmm, _, hx⟩
  · simp [Value.cells] at hcs
    obtain ⟨rfl, rfl, rfl⟩ := hcs
    exact ⟨[], ⟨by simp, Nat.le_refl _, Nat.zero_le _, fun h0 => absurd h0 (by omega)⟩, fun d hd => by cases hd⟩
  · simp [Value.cells] at hcs
    obtain ⟨rfl, rfl, rfl⟩ := hcs
    simp at hmm
    subst hmm
    rw [hc] at hx
    obtain ⟨V, hV⟩ := choose_lt (α := α) (n := len) (p := fun i v => (∀ j u, (f v)[j]? = some u → w.cell? ((a.add (i * s)).add j) = some u) ∧ Q v) (fun i hi => by
      obtain ⟨cs', h1, h2⟩ := hx i (by omega)
      obtain ⟨_, hlen, hcell⟩ := World.cells?_some h1
      obtain ⟨v, rfl, hQ⟩ := hel n cs' _ h2 hlen
      refine ⟨v, fun j u hu => ?_, hQ⟩
      have hj : j < s := by rw [← hf v]; exact (List.getElem?_eq_some_iff.1 hu).1
      have := hcell j hj
      rw [this, hu])
    refine ⟨(List.range len).map V, ⟨by rw [flat_len f hf]; simp, hl, hm, fun h0 => ?_⟩, fun d hd => ?_⟩
    rotate_left
    · obtain ⟨i, hi, rfl⟩ := List.mem_map.1 hd
      exact (hV i (List.mem_range.1 hi)).2
    obtain ⟨b, off, spot⟩ := a
    have hg : ∀ i, i < len → ∀ j u, (f (V i))[j]? = some u → w.cell? (((⟨b, off, spot⟩ : Addr).add (i * s)).add j) = some u := fun i hi => (hV i hi).1
    have hspot : spot = none := by
      obtain ⟨u, hu⟩ : ∃ u, (f (V 0))[0]? = some u := ⟨_, List.getElem?_eq_getElem (by rw [hf]; exact hs)⟩
      have h1 := hg 0 h0 0 u hu
      rw [Nat.zero_mul] at h1
      simpa [Addr.add] using World.cell?_spot h1
    subst hspot
    have hb : b < w.heap.size := by
      obtain ⟨u, hu⟩ : ∃ u, (f (V 0))[0]? = some u := ⟨_, List.getElem?_eq_getElem (by rw [hf]; exact hs)⟩
      have h1 := hg 0 h0 0 u hu
      have := World.block_lt_of_cell? w _ h1; rw [add_plain, add_plain] at this; exact this
    refine ⟨b, off, rfl, Nat.zero_le _, hb, hb, fun j v hv => ?_⟩
    obtain ⟨i, k, rfl, hk⟩ : ∃ i k, j = i * s + k ∧ k < s := ⟨j / s, j % s, by rw [Nat.mul_comm]; exact (Nat.div_add_mod j s).symm, Nat.mod_lt _ hs⟩
    rw [flat_get f hf _ i k hk] at hv
    obtain ⟨x, hx1, hx2⟩ := Option.bind_eq_some_iff.1 hv
    rw [List.getElem?_map] at hx1
    obtain ⟨i', hi', rfl⟩ := Option.map_eq_some_iff.1 hx1
    have hil : i < len := by
      have := (List.getElem?_eq_some_iff.1 hi').1
      simpa using this
    have : i' = i := by rw [List.getElem?_range hil] at hi'; injection hi' with hi'; exact hi'.symm
    subst this
    have := hg i' hil k v hx2
    rw [add_plain, add_plain] at this
    rw [← this, Nat.add_assoc]
theorem read_deeds {t e : TypeId} {f0 f1 f2 : Field} {A : Option Addr} {len cap : Nat} {d : DataW H} {p : List MemPlace} (ht : P.underlying t = some (.slice e)) (hc : P.cellsOf e = 3) (he : P.underlying e = some (.struct #[f0, f1, f2]))
    (o0 : f0.offset = 0) (o1 : f1.offset = 1) (o2 : f2.offset = 2) (h0 : P.underlying f0.type = some .string) (h1 : P.underlying f1.type = some (.int .i64)) (h2 : P.underlying f2.type = some (.int .i64)) (c0 : P.cellsOf f0.type = 1) (c1 : P.cellsOf f1.type = 1) (c2 : P.cellsOf f2.type = 1)
    (h : DataW.Trod enc P w base (fun _ => true) held t (.slice A len cap) d p) : ∃ ds : List DeedD, Slc w 0 w.heap.size 3 A len cap (deeds ds) ∧ ∀ d ∈ ds, d.act.size ≤ maxLen := by
  letI : Inhabited DeedD := ⟨⟨⟨#[]⟩, 0, 0⟩⟩
  refine read_recs DeedD.cells (fun d => d.act.size ≤ maxLen) (by decide) (fun _ => rfl) ht hc ?_ h
  intro n cs x hx hl
  obtain ⟨xs, m, _, _, _, hlen, hg⟩ := DataW.trod_struct he hx
  match cs, hl with
  | [x0, x1, x2], _ =>
    match xs, hlen with
    | [y0, y1, y2], _ =>
      have g0 := hg 0 f0 rfl
      have g1 := hg 1 f1 rfl
      have g2 := hg 2 f2 rfl
      rw [o0, c0] at g0
      rw [o1, c1] at g1
      rw [o2, c2] at g2
      obtain ⟨s, e0, _, hs⟩ := DataW.trod_string h0 g0
      obtain ⟨a, e1, _, _⟩ := DataW.trod_int h1 g1
      obtain ⟨b, e2, _, _⟩ := DataW.trod_int h2 g2
      simp at e0 e1 e2
      subst e0 e1 e2
      exact ⟨⟨s, a, b⟩, rfl, hs⟩
end
end Go.Proofs.YtojnnemodikpeaaDoor
