/-
  Slices of integers that are copied, compared, marked and held: toIntS, eqIntS, markIntS, heldIntS, szIntS.
-/
import Derived.Test.YtjcpjijihajopaaBase
import Derived.Laws.MakeOwn
import Derived.Deep.OwnRows
set_option linter.unusedSectionVars false
set_option linter.unusedSimpArgs false
set_option linter.unusedVariables false
namespace Go.Proofs.Ytjcpjijihajopaa
open Go.RowKit
set_option linter.unusedVariables false
/-- The slice (A, n, c) reads as the cells xs (s a element), in one block from lo on, below hi. -/
structure Slc (w : World) (lo hi s : Nat) (A : Option Addr) (n c : Nat) (xs : List Value) : Prop where
  len : xs.length = n * s
  le : n ≤ c
  cap : c ≤ maxLen
  at_ : 0 < n → ∃ b off, A = some ⟨b, off, none⟩ ∧ lo ≤ b ∧ b < hi ∧ b < w.heap.size ∧ ∀ j v, xs[j]? = some v → w.cell? ⟨b, off + j, none⟩ = some v
theorem Slc.keep {w w' : World} {lo hi s n c : Nat} {A : Option Addr} {xs : List Value} (h : Slc w lo hi s A n c xs) (hs : w.heap.size ≤ w'.heap.size) (k : ∀ b, lo ≤ b → b < hi → b < w.heap.size → w'.heap[b]? = w.heap[b]?) : Slc w' lo hi s A n c xs :=
  ⟨h.len, h.le, h.cap, fun hn => by
    obtain ⟨b, off, e, h1, h2, h3, h4⟩ := h.at_ hn
    exact ⟨b, off, e, h1, h2, Nat.lt_of_lt_of_le h3 hs, fun j v hv => (World.cell?_of_block (k b h1 h2 h3)).trans (h4 j v hv)⟩⟩
theorem Slc.below {w w' : World} {lo hi s n c : Nat} {A : Option Addr} {xs : List Value} (h : Slc w lo hi s A n c xs) (hb : Below w.heap.size w w') : Slc w' lo hi s A n c xs :=
  h.keep hb.size fun b _ _ h3 => hb.block b h3
theorem Slc.alloc {w : World} {lo hi s n c : Nat} {A : Option Addr} {xs : List Value} (h : Slc w lo hi s A n c xs) (o : Obj) : Slc (w.alloc o) lo hi s A n c xs :=
  h.keep (by simp) fun b _ _ h3 => Below.heap_alloc w o b h3
theorem Slc.wide {w : World} {lo hi lo' hi' s n c : Nat} {A : Option Addr} {xs : List Value} (h : Slc w lo hi s A n c xs) (h1 : lo' ≤ lo) (h2 : hi ≤ hi') : Slc w lo' hi' s A n c xs :=
  ⟨h.len, h.le, h.cap, fun hn => by obtain ⟨b, off, e, k1, k2, k3, k4⟩ := h.at_ hn; exact ⟨b, off, e, by omega, by omega, k3, k4⟩⟩
def ints (xs : List Int) : List Value := xs.map (Value.int .i64)
theorem ints_get {xs : List Int} {k : Nat} (h : k < xs.length) : (ints xs)[k]? = some (.int .i64 xs[k]) := by simp [ints, h]
theorem Slc.cellAt {w : World} {lo hi n c : Nat} {A : Option Addr} {xs : List Int} (h : Slc w lo hi 1 A n c (ints xs)) {k : Nat} (hk : k < n) : ∃ b off v, A = some ⟨b, off, none⟩ ∧ lo ≤ b ∧ b < hi ∧ b < w.heap.size ∧ xs[k]? = some v ∧ w.cell? ⟨b, off + k, none⟩ = some (.int .i64 v) := by
  obtain ⟨b, off, e, h1, h2, h3, h4⟩ := h.at_ (by omega)
  have hl : k < xs.length := by have := h.len; simp [ints] at this; omega
  exact ⟨b, off, xs[k], e, h1, h2, h3, List.getElem?_eq_getElem hl, h4 k _ (ints_get hl)⟩
theorem Slc.length {w : World} {lo hi n c : Nat} {A : Option Addr} {xs : List Int} (h : Slc w lo hi 1 A n c (ints xs)) : xs.length = n := by have := h.len; simp [ints] at this; exact this
theorem info_int : (Try.prog.info? 3).map (fun i => (i.zero, i.size, i.bytes)) = some (some (.int .i64 0), 1, 8) := by kernel_rfl
theorem make_ints (n : Nat) (_hn : n ≤ 1048576) : ∃ cs : Array Value, cs.size = n ∧ ∀ w : World, (Instr.makeSlice 73 (.int .i64 (n : Int)) (.int .i64 (n : Int))).run Try.prog w = .ok (.slice (some ⟨w.heap.size, 0, none⟩) n n) (w.alloc (.cells cs 3)) :=
  ⟨madeCells #[.int .i64 0] n, size_madeCells _ _, fun w => run_make_row' 73 3 (.int .i64 0) 8 Try.underlying73 info_int rfl .i64 .i64 n (by omega) (by omega) w⟩
theorem blk_frozen' {w : World} {N : Nat} {cs : Array Value} {T : TypeId} (h : w.heap[N]? = some (.cells cs T)) (o : Nat) : w.frozen? ⟨N, o, none⟩ = false := by simp [World.frozen?, h]
theorem blk_setCell {w : World} {g i : Nat} {cs : Array Value} {T : TypeId} {fz : Nat × Nat} (h : w.heap[g]? = some (.cells cs T fz)) (v : Value) : (w.setCell ⟨g, i, none⟩ v).heap[g]? = some (.cells (cs.setIfInBounds i v) T fz) := by
  simp [World.setCell, Array.getElem?_modify, h]
/-- A new slice that reads as xs, and nothing that was there has changed. -/
def NewInts (w : World) (xs : List Int) (e : Ending) (w' : World) : Prop :=
  ∃ b n c, e = .returned (.slice (some ⟨b, 0, none⟩) n c) ∧ Slc w' w.heap.size w'.heap.size 1 (some ⟨b, 0, none⟩) n c (ints xs) ∧ (∃ cs, w'.heap[b]? = some (.cells cs 3) ∧ n ≤ cs.size) ∧ Below w.heap.size w w'
theorem slc_made {w w' : World} {n : Nat} {cs : Array Value} {T : TypeId} {xs : List Int} (hb : w'.heap[w.heap.size]? = some (.cells cs T)) (hz : w.heap.size < w'.heap.size) (hn : cs.size = n) (hn2 : n ≤ maxLen) (hx : xs.length = n)
    (hc : ∀ j, j < n → cs[j]? = (ints xs)[j]?) : Slc w' w.heap.size w'.heap.size 1 (some ⟨w.heap.size, 0, none⟩) n n (ints xs) :=
  ⟨by simp [ints, hx], Nat.le_refl _, hn2, fun h0 => ⟨_, 0, rfl, Nat.le_refl _, hz, hz, fun j v hv => by
    have hj : j < n := by
      rcases Nat.lt_or_ge j n with h | h
      · exact h
      · rw [List.getElem?_eq_none (by simp [ints, hx]; exact h)] at hv; cases hv
    rw [Nat.zero_add, blk_cell hb, hc j hj, hv]⟩⟩
theorem list_ne_of {xs ys : List Int} {k : Nat} {u v : Int} (h1 : xs[k]? = some u) (h2 : ys[k]? = some v) (hne : ¬ u = v) : (xs == ys) = false := by
  rw [beq_eq_false_iff_ne]; intro e; subst e; rw [h1] at h2; injection h2 with h2; exact hne h2
theorem list_eq_of {xs ys : List Int} (hl : xs.length = ys.length) (h : ∀ j : Nat, j < xs.length → xs[j]? = ys[j]?) : (xs == ys) = true := by
  rw [beq_iff_eq]; apply List.ext_getElem? ; intro j
  rcases Nat.lt_or_ge j xs.length with hj | hj
  · exact h j hj
  · rw [List.getElem?_eq_none hj, List.getElem?_eq_none (by omega)]
/-- It answers so, and turns nothing but the count of draws. -/
def SaysB (w : World) (t : Bool) (e : Ending) (w' : World) : Prop := e = .returned (.bool t) ∧ ∃ m, w' = w.drewN m
structure Chg (lo hi : Nat) (w w' : World) : Prop where
  os : w'.os = w.os
  tape : w'.tape = w.tape
  output : w'.output = w.output
  size : w.heap.size ≤ w'.heap.size
  block : ∀ i, i < w.heap.size → ¬ (lo ≤ i ∧ i < hi) → w'.heap[i]? = w.heap[i]?
theorem Chg.refl (lo hi : Nat) (w : World) : Chg lo hi w w := ⟨rfl, rfl, rfl, Nat.le_refl _, fun _ _ _ => rfl⟩
theorem Chg.trans {lo hi : Nat} {a b c : World} (h : Chg lo hi a b) (k : Chg lo hi b c) : Chg lo hi a c :=
  ⟨k.os.trans h.os, k.tape.trans h.tape, k.output.trans h.output, Nat.le_trans h.size k.size, fun i hi hne => (k.block i (Nat.lt_of_lt_of_le hi h.size) hne).trans (h.block i hi hne)⟩
theorem Chg.of_below {lo hi : Nat} {a b : World} (h : Below a.heap.size a b) : Chg lo hi a b := ⟨h.os, h.tape, h.output, h.size, fun i hi _ => h.block i hi⟩
theorem Chg.wide {lo hi lo' hi' : Nat} {a b : World} (h : Chg lo hi a b) (h1 : lo' ≤ lo) (h2 : hi ≤ hi') : Chg lo' hi' a b := ⟨h.os, h.tape, h.output, h.size, fun i hi hne => h.block i hi (by omega)⟩
theorem Chg.setCell {lo hi : Nat} {a b : World} (h : Chg lo hi a b) {p : Addr} (h1 : lo ≤ p.block) (h2 : p.block < hi) (v : Value) : Chg lo hi a (b.setCell p v) :=
  ⟨h.os, h.tape, h.output, by simpa [World.setCell] using h.size, fun i hi hne => (Below.heap_setCell b p v i (by omega)).trans (h.block i hi hne)⟩
theorem Chg.drewN {lo hi : Nat} {a b : World} (h : Chg lo hi a b) (n : Nat) : Chg lo hi a (b.drewN n) := ⟨h.os, h.tape, h.output, h.size, h.block⟩
theorem Chg.below {lo hi B : Nat} {a b : World} (h : Chg lo hi a b) (hB : B ≤ lo) (h2 : B ≤ a.heap.size) : Below B a b := ⟨h.os, h.tape, h.output, h.size, fun i hi => h.block i (by omega) (by omega)⟩
theorem Below.chg {w a b : World} {lo hi : Nat} (h : Below w.heap.size w a) (k : Chg lo hi a b) (hlo : w.heap.size ≤ lo) : Below w.heap.size w b := h.trans (k.below hlo h.size)
theorem Slc.chg {w w' : World} {lo hi l' h' s n c : Nat} {A : Option Addr} {xs : List Value} (h : Slc w lo hi s A n c xs) (k : Chg l' h' w w') (hd : hi ≤ l' ∨ h' ≤ lo) : Slc w' lo hi s A n c xs :=
  h.keep k.size fun b h1 h2 h3 => k.block b h3 (by omega)
/-- A slice of integers of the call's own, which may be written: it begins a block. -/
structure Own (w : World) (lo hi : Nat) (A : Option Addr) (n c : Nat) (xs : List Int) : Prop where
  slc : Slc w lo hi 1 A n c (ints xs)
  blk : 0 < n → ∃ b cs, A = some ⟨b, 0, none⟩ ∧ w.heap[b]? = some (.cells cs 3) ∧ n ≤ cs.size
theorem Own.keep {w w' : World} {lo hi n c : Nat} {A : Option Addr} {xs : List Int} (h : Own w lo hi A n c xs) (hs : w.heap.size ≤ w'.heap.size) (k : ∀ b, lo ≤ b → b < hi → b < w.heap.size → w'.heap[b]? = w.heap[b]?) : Own w' lo hi A n c xs :=
  ⟨h.slc.keep hs k, fun hn => by
    obtain ⟨b, cs, e, hb, hc⟩ := h.blk hn
    obtain ⟨b', off, e', h1, h2, h3, _⟩ := h.slc.at_ hn
    rw [e] at e'; injection e' with e'; injection e' with e1 e2 e3; subst e1
    exact ⟨b, cs, e, (k b h1 h2 h3).trans hb, hc⟩⟩
theorem Own.chg {w w' : World} {lo hi l' h' n c : Nat} {A : Option Addr} {xs : List Int} (h : Own w lo hi A n c xs) (k : Chg l' h' w w') (hd : hi ≤ l' ∨ h' ≤ lo) : Own w' lo hi A n c xs :=
  h.keep k.size fun b h1 h2 h3 => k.block b h3 (by omega)
theorem Own.below {w w' : World} {lo hi n c : Nat} {A : Option Addr} {xs : List Int} (h : Own w lo hi A n c xs) (k : Below w.heap.size w w') : Own w' lo hi A n c xs := h.keep k.size fun b _ _ h3 => k.block b h3
theorem NewInts.own {w w' : World} {xs : List Int} {e : Ending} (h : NewInts w xs e w') : ∃ A n c, e = .returned (.slice A n c) ∧ Own w' w.heap.size w'.heap.size A n c xs ∧ Below w.heap.size w w' := by
  obtain ⟨b, n, c, he, hs, ⟨cs, hb, hn⟩, B⟩ := h
  exact ⟨_, _, _, he, ⟨hs, fun _ => ⟨b, cs, rfl, hb, hn⟩⟩, B⟩
/-- The marks from k on, n of them. -/
def marks (k : Int) (n : Nat) : List Int := (List.range n).map fun j : Nat => k + (j : Int)
theorem marks_get {k : Int} {n j : Nat} (h : j < n) : (marks k n)[j]? = some (k + (j : Int)) := by simp [marks, h]
def Marked (w : World) (lo hi : Nat) (A : Option Addr) (n c : Nat) (k : Int) (e : Ending) (w' : World) : Prop :=
  e = .returned (.int .i64 (k + n)) ∧ Own w' lo hi A n c (marks k n) ∧ Chg lo hi w w' ∧ w'.heap.size = w.heap.size
end Go.Proofs.Ytjcpjijihajopaa
