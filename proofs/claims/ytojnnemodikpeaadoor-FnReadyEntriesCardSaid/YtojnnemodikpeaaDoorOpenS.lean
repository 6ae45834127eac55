/-
  Arguments opened: slices of integers, of bytes, slices of slices of integers.
-/
import Derived.Test.YtojnnemodikpeaaDoorOpen
import Derived.Test.YtojnnemodikpeaaDoorMat
import Derived.Deep.Matrix
namespace Go.Proofs.YtojnnemodikpeaaDoor
open Go.Joins Go.ChangeShapes Go.WideShapes Go.RowKit Go.Deep
set_option linter.unusedVariables false
section
variable {H : Type} {enc : TypeId × Value → H} {P : Program} {w : World} {base : Nat} {held : Bool}
theorem add_plain (b off j : Nat) : (Addr.mk b off none).add j = ⟨b, off + j, none⟩ := by unfold Addr.add; split <;> simp_all
theorem slc_of_cells {a : Addr} {len cap : Nat} {zs : List Int} (hl : len ≤ cap) (hm : cap ≤ maxLen) (hz : len ≤ zs.length) (hc : ∀ i, i < zs.length → w.cell? (a.add i) = some (.int .i64 (zs.getD i 0))) :
    Slc w 0 w.heap.size 1 (some a) len cap (ints (zs.take len)) := by
  refine ⟨by simp [ints, Nat.min_eq_left hz], hl, hm, fun h0 => ?_⟩
  obtain ⟨b, off, spot⟩ := a
  have h1 := hc 0 (by omega)
  have hspot : spot = none := by simpa [Addr.add] using World.cell?_spot h1
  subst hspot
  have hb : b < w.heap.size := by have := World.block_lt_of_cell? w _ h1; rw [add_plain] at this; exact this
  refine ⟨b, off, rfl, Nat.zero_le _, hb, hb, fun j v hv => ?_⟩
  have hj : j < len := by
    rcases Nat.lt_or_ge j len with h | h
    · exact h
    · rw [List.getElem?_eq_none (by simp [ints]; omega)] at hv; cases hv
  have := hc j (by omega)
  rw [add_plain] at this
  rw [this, ← hv]
  have e : (zs.take len)[j]? = some (zs.getD j 0) := by
    rw [List.getElem?_take_of_lt hj, List.getD_eq_getElem?_getD, List.getElem?_eq_getElem (by omega)]; rfl
  unfold ints
  rw [List.getElem?_map, e]; rfl
theorem read_ints {t e : TypeId} {A : Option Addr} {len cap : Nat} {d : DataW H} {p : List MemPlace} (ht : P.underlying t = some (.slice e)) (he : P.underlying e = some (.int .i64)) (hc : P.cellsOf e = 1)
    (h : DataW.Trod enc P w base (fun _ => true) held t (.slice A len cap) d p) : ∃ xs : List Int, Slc w 0 w.heap.size 1 A len cap (ints xs) := by
  obtain ⟨fuel, hf⟩ := h
  rcases open_ints ht he hc hf with ⟨hcs, _⟩ | ⟨a, len', cap', zs, hcs, _, hl, hm, hz, _, hcell, _⟩
  · simp [Value.cells] at hcs
    obtain ⟨rfl, rfl, rfl⟩ := hcs
    exact ⟨[], ⟨rfl, Nat.le_refl _, Nat.zero_le _, fun h0 => absurd h0 (by omega)⟩⟩
  · simp [Value.cells] at hcs
    obtain ⟨rfl, rfl, rfl⟩ := hcs
    exact ⟨_, slc_of_cells hl hm (by simp at hz; omega) hcell⟩
theorem read_mat {t e q : TypeId} {A : Option Addr} {len cap : Nat} {d : DataW H} {p : List MemPlace} (ht : P.underlying t = some (.slice e)) (he : P.underlying e = some (.slice q)) (hq : P.underlying q = some (.int .i64))
    (ce : P.cellsOf e = 1) (cq : P.cellsOf q = 1) (h : DataW.Trod enc P w base (fun _ => true) held t (.slice A len cap) d p) : ∃ rs : List Row, Mat w 0 w.heap.size 0 w.heap.size A len cap rs := by
  obtain ⟨fuel, hf⟩ := h
  rcases open_int_rows ht he hq ce cq hf with ⟨hcs, _⟩ | ⟨a, len', cap', B, L, C, Z, hcs, _, hl, hm, _, hrow⟩
  · simp [Value.cells] at hcs
    obtain ⟨rfl, rfl, rfl⟩ := hcs
    exact ⟨[], ⟨⟨rfl, Nat.le_refl _, Nat.zero_le _, fun h0 => absurd h0 (by omega)⟩, fun r hr => by cases hr⟩⟩
  · simp [Value.cells] at hcs
    obtain ⟨rfl, rfl, rfl⟩ := hcs
    refine ⟨(List.range len).map fun r => ⟨B r, L r, C r, (Z r).take (L r)⟩, ⟨⟨by simp, hl, hm, fun h0 => ?_⟩, fun r hr => ?_⟩⟩
    · obtain ⟨b, off, spot⟩ := a
      have h1 := (hrow 0 (by omega)).1
      have hspot : spot = none := by simpa [Addr.add] using World.cell?_spot h1
      subst hspot
      have hb : b < w.heap.size := by have := World.block_lt_of_cell? w _ h1; rw [add_plain] at this; exact this
      refine ⟨b, off, rfl, Nat.zero_le _, hb, hb, fun j v hv => ?_⟩
      have hj : j < len := by
        rcases Nat.lt_or_ge j len with h | h
        · exact h
        · rw [List.getElem?_eq_none (by simp; omega)] at hv; cases hv
      have h2 := (hrow j (by omega)).1
      rw [add_plain] at h2
      rw [h2, ← hv]
      simp [hj, Row.val]
    · obtain ⟨k, hk, rfl⟩ := List.mem_map.1 hr
      rw [List.mem_range] at hk
      obtain ⟨_, h2, h3, h4, _, h6, h7⟩ := hrow k (by omega)
      show Slc w 0 w.heap.size 1 (B k) (L k) (C k) (ints ((Z k).take (L k)))
      cases hB : B k with
      | none =>
        have hC := h6 hB
        have hL : L k = 0 := by omega
        rw [hL, hC]
        exact ⟨by simp [ints], Nat.le_refl _, Nat.zero_le _, fun h0 => absurd h0 (by omega)⟩
      | some a' => exact slc_of_cells h2 h3 (by rw [h4]; exact h2) (fun i hi => (h7 a' hB).2 i (by omega))
end
end Go.Proofs.YtojnnemodikpeaaDoor
