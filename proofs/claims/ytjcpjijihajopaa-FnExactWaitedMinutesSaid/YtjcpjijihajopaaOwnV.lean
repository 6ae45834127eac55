/-
  Slices of structs: memory of a function's own, element by element.
-/
import Derived.Test.YtjcpjijihajopaaInts
import Derived.Laws.OwnMore
set_option linter.unusedSectionVars false
set_option linter.unusedSimpArgs false
set_option linter.unusedVariables false
namespace Go.Proofs.Ytjcpjijihajopaa
open Go.RowKit
set_option linter.unusedVariables false
/-- A slice of n elements of type E, s cells each, of the call's own, which may be written: it begins a block. -/
structure OwnV (E s : Nat) (w : World) (lo hi : Nat) (A : Option Addr) (n c : Nat) (xs : List Value) : Prop where
  slc : Slc w lo hi s A n c xs
  blk : 0 < n → ∃ b cs, A = some ⟨b, 0, none⟩ ∧ w.heap[b]? = some (.cells cs E) ∧ n * s ≤ cs.size
section
variable {E s : Nat} {w w' : World} {lo hi n c : Nat} {A : Option Addr} {xs : List Value}
theorem OwnV.keep (h : OwnV E s w lo hi A n c xs) (hs : w.heap.size ≤ w'.heap.size) (k : ∀ b, lo ≤ b → b < hi → b < w.heap.size → w'.heap[b]? = w.heap[b]?) : OwnV E s w' lo hi A n c xs :=
  ⟨h.slc.keep hs k, fun hn => by
    obtain ⟨b, cs, e, hb, hc⟩ := h.blk hn
    obtain ⟨b', off, e', h1, h2, h3, _⟩ := h.slc.at_ hn
    rw [e] at e'; injection e' with e'; injection e' with e1 e2 e3; subst e1
    exact ⟨b, cs, e, (k b h1 h2 h3).trans hb, hc⟩⟩
theorem OwnV.chg {l' h' : Nat} (h : OwnV E s w lo hi A n c xs) (k : Chg l' h' w w') (hd : hi ≤ l' ∨ h' ≤ lo) : OwnV E s w' lo hi A n c xs :=
  h.keep k.size fun b h1 h2 h3 => k.block b h3 (by omega)
theorem OwnV.below (h : OwnV E s w lo hi A n c xs) (k : Below w.heap.size w w') : OwnV E s w' lo hi A n c xs := h.keep k.size fun b _ _ h3 => k.block b h3
theorem OwnV.wide {lo' hi' : Nat} (h : OwnV E s w lo hi A n c xs) (h1 : lo' ≤ lo) (h2 : hi ≤ hi') : OwnV E s w lo' hi' A n c xs := ⟨h.slc.wide h1 h2, h.blk⟩
theorem OwnV.nil (w : World) (lo hi : Nat) : OwnV E s w lo hi none 0 0 [] := ⟨⟨by simp, Nat.le_refl _, Nat.zero_le _, fun h => absurd h (by omega)⟩, fun h => absurd h (by omega)⟩
theorem OwnV.empty (w : World) (lo hi : Nat) (A : Option Addr) : OwnV E s w lo hi A 0 0 [] := ⟨⟨by simp, Nat.le_refl _, Nat.zero_le _, fun h => absurd h (by omega)⟩, fun h => absurd h (by omega)⟩
theorem ownV_of_row {base : Nat} {v : Value} (h : w.ownsRow base E s v n xs) (hs : 0 < s) : ∃ A c, v = .slice A n c ∧ OwnV E s w base w.heap.size A n c xs := by
  obtain ⟨hl, h | ⟨g, cap, cur, rfl, hb, hg, hn, hc, hsz, ht⟩⟩ := h
  · obtain ⟨rfl, rfl⟩ := h
    exact ⟨none, 0, rfl, ⟨⟨hl, Nat.le_refl _, Nat.zero_le _, fun h => absurd h (by omega)⟩, fun h => absurd h (by omega)⟩⟩
  · refine ⟨_, cap, rfl, ⟨⟨hl, hn, hc, fun h0 => ⟨g, 0, rfl, hb, blk_lt hg, blk_lt hg, fun j v hv => ?_⟩⟩, fun h0 => ⟨g, cur, rfl, hg, by rw [hsz]; exact Nat.mul_le_mul_right _ hn⟩⟩⟩
    rw [Nat.zero_add, blk_cell hg]
    rw [← ht] at hv
    have hj : j < n * s := by
      rcases Nat.lt_or_ge j (n * s) with h | h
      · exact h
      · rw [List.getElem?_eq_none (by rw [List.length_take]; omega)] at hv; cases hv
    rw [List.getElem?_take_of_lt hj] at hv
    simpa using hv
/-- A new slice that reads as xs; nothing that was there has changed. -/
def NewV (E s : Nat) (w : World) (xs : List Value) (e : Ending) (w' : World) : Prop :=
  ∃ A n c, e = .returned (.slice A n c) ∧ OwnV E s w' w.heap.size w'.heap.size A n c xs ∧ Below w.heap.size w w'
/-- .. and a bool. -/
def NewVB (E s : Nat) (w : World) (xs : List Value) (t : Bool) (e : Ending) (w' : World) : Prop :=
  ∃ A n c, e = .returned (.tuple #[.slice A n c, .bool t]) ∧ OwnV E s w' w.heap.size w'.heap.size A n c xs ∧ Below w.heap.size w w'
/-- Cells k * s .. of the slice. -/
theorem Slc.cells (h : Slc w lo hi s A n c xs) {k : Nat} (hk : k < n) : ∃ b off, A = some ⟨b, off, none⟩ ∧ lo ≤ b ∧ b < hi ∧ b < w.heap.size ∧ ∀ f v, xs[k * s + f]? = some v → w.cell? ⟨b, off + (k * s + f), none⟩ = some v := by
  obtain ⟨b, off, e, h1, h2, h3, h4⟩ := h.at_ (by omega)
  exact ⟨b, off, e, h1, h2, h3, fun f v hv => h4 _ v hv⟩
end
theorem ownV_made {E s : Nat} {w w' : World} {n m : Nat} {cs : Array Value} {xs : List Value} (hb : w'.heap[w.heap.size]? = some (.cells cs E)) (hz : w.heap.size < w'.heap.size) (hn : cs.size = m * s) (hm : n ≤ m) (hn2 : m ≤ maxLen) (hx : xs.length = n * s)
    (hc : ∀ j, j < n * s → cs[j]? = xs[j]?) : OwnV E s w' w.heap.size w'.heap.size (some ⟨w.heap.size, 0, none⟩) n m xs :=
  ⟨⟨hx, hm, hn2, fun h0 => ⟨_, 0, rfl, Nat.le_refl _, hz, hz, fun j v hv => by
    have hj : j < n * s := by
      rcases Nat.lt_or_ge j (n * s) with h | h
      · exact h
      · rw [List.getElem?_eq_none (by omega)] at hv; cases hv
    rw [Nat.zero_add, blk_cell hb, hc j hj, hv]⟩⟩, fun _ => ⟨_, cs, rfl, hb, by rw [hn]; exact Nat.mul_le_mul_right _ hm⟩⟩
theorem str_eq {s s' : ByteArray} (h : (s.toList == s'.toList) = true) : s = s' := by
  rw [beq_iff_eq, ByteArray.toList_eq, ByteArray.toList_eq] at h; exact ByteArray.ext (Array.toList_inj.1 h)
theorem flat_get {α : Type} (f : α → List Value) {s : Nat} (hf : ∀ a, (f a).length = s) : ∀ (l : List α) (k i : Nat), i < s → (l.flatMap f)[k * s + i]? = (l[k]?).bind fun a => (f a)[i]?
  | [], k, i, _ => by simp
  | a :: l, 0, i, hi => by
    rw [List.flatMap_cons, Nat.zero_mul, Nat.zero_add, List.getElem?_append_left (by rw [hf]; exact hi)]; rfl
  | a :: l, k + 1, i, hi => by
    rw [List.flatMap_cons, List.getElem?_append_right (by rw [hf, Nat.succ_mul]; omega), hf, show (k + 1) * s + i - s = k * s + i by rw [Nat.succ_mul]; omega, flat_get f hf l k i hi]; rfl
theorem flat_len {α : Type} (f : α → List Value) {s : Nat} (hf : ∀ a, (f a).length = s) (l : List α) : (l.flatMap f).length = l.length * s := by
  induction l with
  | nil => simp
  | cons a l ih => rw [List.flatMap_cons, List.length_append, ih, hf, List.length_cons, Nat.succ_mul]; omega
end Go.Proofs.Ytjcpjijihajopaa
