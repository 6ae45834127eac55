/-
  Small facts for the walks of this seat: blocks behind a call, answers, bounds.
  Slices of integers that are copied, compared, marked and held: toIntS, eqIntS, markIntS, heldIntS, szIntS.
  Slices of structs: memory of a function's own, element by element.
  append onto a slice of the call's own: what is behind it, in one form, for a plain region and for one that draws its order.
  A slice of structs out of its fields' cells.
  markText: a text for each number.
-/
import Derived.Test.YtjcpjijihajopaaRows
import Derived.WalkKit
import Derived.WalkSpells
import Derived.WalkLawsBesides
import Derived.Below
import Derived.Lib.Hide
import Derived.Deep.Draws
import Derived.Deep.QuietTactic
import Derived.BigQuiet
import Derived.Laws.MakeOwn
import Derived.Deep.OwnRows
import Derived.Laws.OwnMore
import Derived.Deep.AppendLies
import Derived.Deep.AppendSrc
import Derived.Deep.RegionLaw
import Derived.OwnWalk
import Derived.Lib.ItoaNum
import Derived.Lib.ItoaLen
set_option linter.unusedSectionVars false
set_option linter.unusedSimpArgs false
set_option linter.unusedVariables false
namespace Go.Proofs.Ytjcpjijihajopaa
open Go.RowKit
def inB (n lo hi : Int) : Bool := decide (lo ≤ n ∧ n ≤ hi)
theorem ret_bool {a b : Bool} (h : a = b) : Ending.returned (.bool a) = .returned (.bool b) := by rw [h]
theorem ret_int {k : IntKind} {a b : Int} (h : a = b) : Ending.returned (.int k a) = .returned (.int k b) := by rw [h]
theorem blk_lt {W : World} {N : Nat} {o : Obj} (hN : W.heap[N]? = some o) : N < W.heap.size := by
  rcases Nat.lt_or_ge N W.heap.size with h | h
  · exact h
  · rw [Array.getElem?_eq_none h] at hN; cases hN
theorem blk_below {W w1 : World} {N : Nat} {o : Obj} (hb : Below W.heap.size W w1) (hN : W.heap[N]? = some o) : w1.heap[N]? = some o ∧ N < w1.heap.size :=
  ⟨(hb.block N (blk_lt hN)).trans hN, Nat.lt_of_lt_of_le (blk_lt hN) hb.size⟩
theorem blk_alloc {W : World} {N : Nat} {o : Obj} (hN : W.heap[N]? = some o) (o' : Obj) : (W.alloc o').heap[N]? = some o := (Below.heap_alloc W o' N (blk_lt hN)).trans hN
theorem below_step {w W w1 : World} (h : Below w.heap.size w W) (hb : Below W.heap.size W w1) : Below w.heap.size w w1 := h.trans (hb.mono h.size)
theorem below_al {w W : World} (h : Below w.heap.size w W) (o : Obj) : Below w.heap.size w (W.alloc o) := h.alloc h.size o
theorem blk_cell {w : World} {N : Nat} {cs : Array Value} {T : TypeId} {fz : Nat × Nat} (h : w.heap[N]? = some (.cells cs T fz)) (o : Nat) : w.cell? ⟨N, o, none⟩ = cs[o]? := cell_of_row w N o cs T fz h
set_option maxHeartbeats 400000 in
theorem l1In_any (n lo hi : Int) (w : World) :
    Calls Try.prog 31 #[.int .i64 n, .int .i64 lo, .int .i64 hi] w fun e w' => e = .returned (.bool (inB n lo hi)) ∧ w' = w := by
  go_enter Try.func31, Try.ntmps31
  go_wp2
  all_goals go_ret
  all_goals exact ⟨ret_bool (by simp [inB]; omega), rfl⟩
end Go.Proofs.Ytjcpjijihajopaa
namespace Go.Proofs.Ytjcpjijihajopaa
open Go.RowKit
set_option linter.unusedVariables false
/-- The slice (A, n, c) reads as the cells xs (s a element), in one block from lo on, below hi. -/
structure Slc (w : World) (lo hi s : Nat) (A : Option Addr) (n c : Nat) (xs : List Value) : Prop where
  len : xs.length = n * s
  le : n ≤ c
  cap : c ≤ maxLen
  at_ : 0 < n → ∃ b off, A = some ⟨b, off, none⟩ ∧ lo ≤ b ∧ b < hi ∧ b < w.heap.size ∧ ∀ j v, xs[j]? = some v → w.cell? ⟨b, off + j, none⟩ = some v
theorem Slc.keep {w w' : World} {lo hi s n c : Nat} {A : Option Addr} {xs : List Value} (h : Slc w lo hi s A n c xs) (hs : w.heap.size ≤ w'.heap.size) (k : ∀ b, lo ≤ b → b < hi → b < w.heap.size → w'.heap[b]? = w.heap[b]?) : Slc w' lo hi s A n c xs :=
  ⟨h.len, h.le, h.cap, fun hn => by
    obtain ⟨b, off, e, h1, h2, h3, h4⟩ := h.at_ hn
    exact ⟨b, off, e, h1, h2, Nat.lt_of_lt_of_le h3 hs, fun j v hv => (World.cell?_of_block (k b h1 h2 h3)).trans (h4 j v hv)⟩⟩
theorem Slc.below {w w' : World} {lo hi s n c : Nat} {A : Option Addr} {xs : List Value} (h : Slc w lo hi s A n c xs) (hb : Below w.heap.size w w') : Slc w' lo hi s A n c xs :=
  h.keep hb.size fun b _ _ h3 => hb.block b h3
theorem Slc.alloc {w : World} {lo hi s n c : Nat} {A : Option Addr} {xs : List Value} (h : Slc w lo hi s A n c xs) (o : Obj) : Slc (w.alloc o) lo hi s A n c xs :=
  h.keep (by simp) fun b _ _ h3 => Below.heap_alloc w o b h3
theorem Slc.wide {w : World} {lo hi lo' hi' s n c : Nat} {A : Option Addr} {xs : List Value} (h : Slc w lo hi s A n c xs) (h1 : lo' ≤ lo) (h2 : hi ≤ hi') : Slc w lo' hi' s A n c xs :=
  ⟨h.len, h.le, h.cap, fun hn => by obtain ⟨b, off, e, k1, k2, k3, k4⟩ := h.at_ hn; exact ⟨b, off, e, by omega, by omega, k3, k4⟩⟩
def ints (xs : List Int) : List Value := xs.map (Value.int .i64)
theorem ints_get {xs : List Int} {k : Nat} (h : k < xs.length) : (ints xs)[k]? = some (.int .i64 xs[k]) := by simp [ints, h]
theorem Slc.cellAt {w : World} {lo hi n c : Nat} {A : Option Addr} {xs : List Int} (h : Slc w lo hi 1 A n c (ints xs)) {k : Nat} (hk : k < n) : ∃ b off v, A = some ⟨b, off, none⟩ ∧ lo ≤ b ∧ b < hi ∧ b < w.heap.size ∧ xs[k]? = some v ∧ w.cell? ⟨b, off + k, none⟩ = some (.int .i64 v) := by
  obtain ⟨b, off, e, h1, h2, h3, h4⟩ := h.at_ (by omega)
  have hl : k < xs.length := by have := h.len; simp [ints] at this; omega
  exact ⟨b, off, xs[k], e, h1, h2, h3, List.getElem?_eq_getElem hl, h4 k _ (ints_get hl)⟩
theorem Slc.length {w : World} {lo hi n c : Nat} {A : Option Addr} {xs : List Int} (h : Slc w lo hi 1 A n c (ints xs)) : xs.length = n := by have := h.len; simp [ints] at this; exact this
theorem info_int : (Try.prog.info? 3).map (fun i => (i.zero, i.size, i.bytes)) = some (some (.int .i64 0), 1, 8) := by kernel_rfl
theorem make_ints (n : Nat) (_hn : n ≤ 1048576) : ∃ cs : Array Value, cs.size = n ∧ ∀ w : World, (Instr.makeSlice 73 (.int .i64 (n : Int)) (.int .i64 (n : Int))).run Try.prog w = .ok (.slice (some ⟨w.heap.size, 0, none⟩) n n) (w.alloc (.cells cs 3)) :=
  ⟨madeCells #[.int .i64 0] n, size_madeCells _ _, fun w => run_make_row' 73 3 (.int .i64 0) 8 Try.underlying73 info_int rfl .i64 .i64 n (by omega) (by omega) w⟩
theorem blk_frozen' {w : World} {N : Nat} {cs : Array Value} {T : TypeId} (h : w.heap[N]? = some (.cells cs T)) (o : Nat) : w.frozen? ⟨N, o, none⟩ = false := by simp [World.frozen?, h]
theorem blk_setCell {w : World} {g i : Nat} {cs : Array Value} {T : TypeId} {fz : Nat × Nat} (h : w.heap[g]? = some (.cells cs T fz)) (v : Value) : (w.setCell ⟨g, i, none⟩ v).heap[g]? = some (.cells (cs.setIfInBounds i v) T fz) := by
  simp [World.setCell, Array.getElem?_modify, h]
/-- A new slice that reads as xs, and nothing that was there has changed. -/
def NewInts (w : World) (xs : List Int) (e : Ending) (w' : World) : Prop :=
  ∃ b n c, e = .returned (.slice (some ⟨b, 0, none⟩) n c) ∧ Slc w' w.heap.size w'.heap.size 1 (some ⟨b, 0, none⟩) n c (ints xs) ∧ (∃ cs, w'.heap[b]? = some (.cells cs 3) ∧ n ≤ cs.size) ∧ Below w.heap.size w w'
theorem slc_made {w w' : World} {n : Nat} {cs : Array Value} {T : TypeId} {xs : List Int} (hb : w'.heap[w.heap.size]? = some (.cells cs T)) (hz : w.heap.size < w'.heap.size) (hn : cs.size = n) (hn2 : n ≤ maxLen) (hx : xs.length = n)
    (hc : ∀ j, j < n → cs[j]? = (ints xs)[j]?) : Slc w' w.heap.size w'.heap.size 1 (some ⟨w.heap.size, 0, none⟩) n n (ints xs) :=
  ⟨by simp [ints, hx], Nat.le_refl _, hn2, fun h0 => ⟨_, 0, rfl, Nat.le_refl _, hz, hz, fun j v hv => by
    have hj : j < n := by
      rcases Nat.lt_or_ge j n with h | h
      · exact h
      · rw [List.getElem?_eq_none (by simp [ints, hx]; exact h)] at hv; cases hv
    rw [Nat.zero_add, blk_cell hb, hc j hj, hv]⟩⟩
theorem list_ne_of {xs ys : List Int} {k : Nat} {u v : Int} (h1 : xs[k]? = some u) (h2 : ys[k]? = some v) (hne : ¬ u = v) : (xs == ys) = false := by
  rw [beq_eq_false_iff_ne]; intro e; subst e; rw [h1] at h2; injection h2 with h2; exact hne h2
theorem list_eq_of {xs ys : List Int} (hl : xs.length = ys.length) (h : ∀ j : Nat, j < xs.length → xs[j]? = ys[j]?) : (xs == ys) = true := by
  rw [beq_iff_eq]; apply List.ext_getElem? ; intro j
  rcases Nat.lt_or_ge j xs.length with hj | hj
  · exact h j hj
  · rw [List.getElem?_eq_none hj, List.getElem?_eq_none (by omega)]
/-- It answers so, and turns nothing but the count of draws. -/
def SaysB (w : World) (t : Bool) (e : Ending) (w' : World) : Prop := e = .returned (.bool t) ∧ ∃ m, w' = w.drewN m
structure Chg (lo hi : Nat) (w w' : World) : Prop where
  os : w'.os = w.os
  tape : w'.tape = w.tape
  output : w'.output = w.output
  size : w.heap.size ≤ w'.heap.size
  block : ∀ i, i < w.heap.size → ¬ (lo ≤ i ∧ i < hi) → w'.heap[i]? = w.heap[i]?
theorem Chg.refl (lo hi : Nat) (w : World) : Chg lo hi w w := ⟨rfl, rfl, rfl, Nat.le_refl _, fun _ _ _ => rfl⟩
theorem Chg.trans {lo hi : Nat} {a b c : World} (h : Chg lo hi a b) (k : Chg lo hi b c) : Chg lo hi a c :=
  ⟨k.os.trans h.os, k.tape.trans h.tape, k.output.trans h.output, Nat.le_trans h.size k.size, fun i hi hne => (k.block i (Nat.lt_of_lt_of_le hi h.size) hne).trans (h.block i hi hne)⟩
theorem Chg.of_below {lo hi : Nat} {a b : World} (h : Below a.heap.size a b) : Chg lo hi a b := ⟨h.os, h.tape, h.output, h.size, fun i hi _ => h.block i hi⟩
theorem Chg.wide {lo hi lo' hi' : Nat} {a b : World} (h : Chg lo hi a b) (h1 : lo' ≤ lo) (h2 : hi ≤ hi') : Chg lo' hi' a b := ⟨h.os, h.tape, h.output, h.size, fun i hi hne => h.block i hi (by omega)⟩
theorem Chg.setCell {lo hi : Nat} {a b : World} (h : Chg lo hi a b) {p : Addr} (h1 : lo ≤ p.block) (h2 : p.block < hi) (v : Value) : Chg lo hi a (b.setCell p v) :=
  ⟨h.os, h.tape, h.output, by simpa [World.setCell] using h.size, fun i hi hne => (Below.heap_setCell b p v i (by omega)).trans (h.block i hi hne)⟩
theorem Chg.drewN {lo hi : Nat} {a b : World} (h : Chg lo hi a b) (n : Nat) : Chg lo hi a (b.drewN n) := ⟨h.os, h.tape, h.output, h.size, h.block⟩
theorem Chg.below {lo hi B : Nat} {a b : World} (h : Chg lo hi a b) (hB : B ≤ lo) (h2 : B ≤ a.heap.size) : Below B a b := ⟨h.os, h.tape, h.output, h.size, fun i hi => h.block i (by omega) (by omega)⟩
theorem Below.chg {w a b : World} {lo hi : Nat} (h : Below w.heap.size w a) (k : Chg lo hi a b) (hlo : w.heap.size ≤ lo) : Below w.heap.size w b := h.trans (k.below hlo h.size)
theorem Slc.chg {w w' : World} {lo hi l' h' s n c : Nat} {A : Option Addr} {xs : List Value} (h : Slc w lo hi s A n c xs) (k : Chg l' h' w w') (hd : hi ≤ l' ∨ h' ≤ lo) : Slc w' lo hi s A n c xs :=
  h.keep k.size fun b h1 h2 h3 => k.block b h3 (by omega)
/-- A slice of integers of the call's own, which may be written: it begins a block. -/
structure Own (w : World) (lo hi : Nat) (A : Option Addr) (n c : Nat) (xs : List Int) : Prop where
  slc : Slc w lo hi 1 A n c (ints xs)
  blk : 0 < n → ∃ b cs, A = some ⟨b, 0, none⟩ ∧ w.heap[b]? = some (.cells cs 3) ∧ n ≤ cs.size
theorem Own.keep {w w' : World} {lo hi n c : Nat} {A : Option Addr} {xs : List Int} (h : Own w lo hi A n c xs) (hs : w.heap.size ≤ w'.heap.size) (k : ∀ b, lo ≤ b → b < hi → b < w.heap.size → w'.heap[b]? = w.heap[b]?) : Own w' lo hi A n c xs :=
  ⟨h.slc.keep hs k, fun hn => by
    obtain ⟨b, cs, e, hb, hc⟩ := h.blk hn
    obtain ⟨b', off, e', h1, h2, h3, _⟩ := h.slc.at_ hn
    rw [e] at e'; injection e' with e'; injection e' with e1 e2 e3; subst e1
    exact ⟨b, cs, e, (k b h1 h2 h3).trans hb, hc⟩⟩
theorem Own.chg {w w' : World} {lo hi l' h' n c : Nat} {A : Option Addr} {xs : List Int} (h : Own w lo hi A n c xs) (k : Chg l' h' w w') (hd : hi ≤ l' ∨ h' ≤ lo) : Own w' lo hi A n c xs :=
  h.keep k.size fun b h1 h2 h3 => k.block b h3 (by omega)
theorem Own.below {w w' : World} {lo hi n c : Nat} {A : Option Addr} {xs : List Int} (h : Own w lo hi A n c xs) (k : Below w.heap.size w w') : Own w' lo hi A n c xs := h.keep k.size fun b _ _ h3 => k.block b h3
theorem NewInts.own {w w' : World} {xs : List Int} {e : Ending} (h : NewInts w xs e w') : ∃ A n c, e = .returned (.slice A n c) ∧ Own w' w.heap.size w'.heap.size A n c xs ∧ Below w.heap.size w w' := by
  obtain ⟨b, n, c, he, hs, ⟨cs, hb, hn⟩, B⟩ := h
  exact ⟨_, _, _, he, ⟨hs, fun _ => ⟨b, cs, rfl, hb, hn⟩⟩, B⟩
/-- The marks from k on, n of them. -/
def marks (k : Int) (n : Nat) : List Int := (List.range n).map fun j : Nat => k + (j : Int)
theorem marks_get {k : Int} {n j : Nat} (h : j < n) : (marks k n)[j]? = some (k + (j : Int)) := by simp [marks, h]
def Marked (w : World) (lo hi : Nat) (A : Option Addr) (n c : Nat) (k : Int) (e : Ending) (w' : World) : Prop :=
  e = .returned (.int .i64 (k + n)) ∧ Own w' lo hi A n c (marks k n) ∧ Chg lo hi w w' ∧ w'.heap.size = w.heap.size
end Go.Proofs.Ytjcpjijihajopaa
namespace Go.Proofs.Ytjcpjijihajopaa
open Go.RowKit
set_option linter.unusedVariables false
/-- A slice of n elements of type E, s cells each, of the call's own, which may be written: it begins a block. -/
structure OwnV (E s : Nat) (w : World) (lo hi : Nat) (A : Option Addr) (n c : Nat) (xs : List Value) : Prop where
  slc : Slc w lo hi s A n c xs
  blk : 0 < n → ∃ b cs, A = some ⟨b, 0, none⟩ ∧ w.heap[b]? = some (.cells cs E) ∧ n * s ≤ cs.size
section
variable {E s : Nat} {w w' : World} {lo hi n c : Nat} {A : Option Addr} {xs : List Value}
theorem OwnV.keep (h : OwnV E s w lo hi A n c xs) (hs : w.heap.size ≤ w'.heap.size) (k : ∀ b, lo ≤ b → b < hi → b < w.heap.size → w'.heap[b]? = w.heap[b]?) : OwnV E s w' lo hi A n c xs :=
  ⟨h.slc.keep hs k, fun hn => by
    obtain ⟨b, cs, e, hb, hc⟩ := h.blk hn
    obtain ⟨b', off, e', h1, h2, h3, _⟩ := h.slc.at_ hn
    rw [e] at e'; injection e' with e'; injection e' with e1 e2 e3; subst e1
    exact ⟨b, cs, e, (k b h1 h2 h3).trans hb, hc⟩⟩
theorem OwnV.chg {l' h' : Nat} (h : OwnV E s w lo hi A n c xs) (k : Chg l' h' w w') (hd : hi ≤ l' ∨ h' ≤ lo) : OwnV E s w' lo hi A n c xs :=
  h.keep k.size fun b h1 h2 h3 => k.block b h3 (by omega)
theorem OwnV.below (h : OwnV E s w lo hi A n c xs) (k : Below w.heap.size w w') : OwnV E s w' lo hi A n c xs := h.keep k.size fun b _ _ h3 => k.block b h3
theorem OwnV.wide {lo' hi' : Nat} (h : OwnV E s w lo hi A n c xs) (h1 : lo' ≤ lo) (h2 : hi ≤ hi') : OwnV E s w lo' hi' A n c xs := ⟨h.slc.wide h1 h2, h.blk⟩
theorem OwnV.nil (w : World) (lo hi : Nat) : OwnV E s w lo hi none 0 0 [] := ⟨⟨by simp, Nat.le_refl _, Nat.zero_le _, fun h => absurd h (by omega)⟩, fun h => absurd h (by omega)⟩
theorem OwnV.empty (w : World) (lo hi : Nat) (A : Option Addr) : OwnV E s w lo hi A 0 0 [] := ⟨⟨by simp, Nat.le_refl _, Nat.zero_le _, fun h => absurd h (by omega)⟩, fun h => absurd h (by omega)⟩
theorem ownV_of_row {base : Nat} {v : Value} (h : w.ownsRow base E s v n xs) (hs : 0 < s) : ∃ A c, v = .slice A n c ∧ OwnV E s w base w.heap.size A n c xs := by
  obtain ⟨hl, h | ⟨g, cap, cur, rfl, hb, hg, hn, hc, hsz, ht⟩⟩ := h
  · obtain ⟨rfl, rfl⟩ := h
    exact ⟨none, 0, rfl, ⟨⟨hl, Nat.le_refl _, Nat.zero_le _, fun h => absurd h (by omega)⟩, fun h => absurd h (by omega)⟩⟩
  · refine ⟨_, cap, rfl, ⟨⟨hl, hn, hc, fun h0 => ⟨g, 0, rfl, hb, blk_lt hg, blk_lt hg, fun j v hv => ?_⟩⟩, fun h0 => ⟨g, cur, rfl, hg, by rw [hsz]; exact Nat.mul_le_mul_right _ hn⟩⟩⟩
    rw [Nat.zero_add, blk_cell hg]
    rw [← ht] at hv
    have hj : j < n * s := by
      rcases Nat.lt_or_ge j (n * s) with h | h
      · exact h
      · rw [List.getElem?_eq_none (by rw [List.length_take]; omega)] at hv; cases hv
    rw [List.getElem?_take_of_lt hj] at hv
    simpa using hv
/-- A new slice that reads as xs; nothing that was there has changed. -/
def NewV (E s : Nat) (w : World) (xs : List Value) (e : Ending) (w' : World) : Prop :=
  ∃ A n c, e = .returned (.slice A n c) ∧ OwnV E s w' w.heap.size w'.heap.size A n c xs ∧ Below w.heap.size w w'
/-- .. and a bool. -/
def NewVB (E s : Nat) (w : World) (xs : List Value) (t : Bool) (e : Ending) (w' : World) : Prop :=
  ∃ A n c, e = .returned (.tuple #[.slice A n c, .bool t]) ∧ OwnV E s w' w.heap.size w'.heap.size A n c xs ∧ Below w.heap.size w w'
/-- Cells k * s .. of the slice. -/
theorem Slc.cells (h : Slc w lo hi s A n c xs) {k : Nat} (hk : k < n) : ∃ b off, A = some ⟨b, off, none⟩ ∧ lo ≤ b ∧ b < hi ∧ b < w.heap.size ∧ ∀ f v, xs[k * s + f]? = some v → w.cell? ⟨b, off + (k * s + f), none⟩ = some v := by
  obtain ⟨b, off, e, h1, h2, h3, h4⟩ := h.at_ (by omega)
  exact ⟨b, off, e, h1, h2, h3, fun f v hv => h4 _ v hv⟩
end
theorem ownV_made {E s : Nat} {w w' : World} {n m : Nat} {cs : Array Value} {xs : List Value} (hb : w'.heap[w.heap.size]? = some (.cells cs E)) (hz : w.heap.size < w'.heap.size) (hn : cs.size = m * s) (hm : n ≤ m) (hn2 : m ≤ maxLen) (hx : xs.length = n * s)
    (hc : ∀ j, j < n * s → cs[j]? = xs[j]?) : OwnV E s w' w.heap.size w'.heap.size (some ⟨w.heap.size, 0, none⟩) n m xs :=
  ⟨⟨hx, hm, hn2, fun h0 => ⟨_, 0, rfl, Nat.le_refl _, hz, hz, fun j v hv => by
    have hj : j < n * s := by
      rcases Nat.lt_or_ge j (n * s) with h | h
      · exact h
      · rw [List.getElem?_eq_none (by omega)] at hv; cases hv
    rw [Nat.zero_add, blk_cell hb, hc j hj, hv]⟩⟩, fun _ => ⟨_, cs, rfl, hb, by rw [hn]; exact Nat.mul_le_mul_right _ hm⟩⟩
theorem str_eq {s s' : ByteArray} (h : (s.toList == s'.toList) = true) : s = s' := by
  rw [beq_iff_eq, ByteArray.toList_eq, ByteArray.toList_eq] at h; exact ByteArray.ext (Array.toList_inj.1 h)
theorem flat_get {α : Type} (f : α → List Value) {s : Nat} (hf : ∀ a, (f a).length = s) : ∀ (l : List α) (k i : Nat), i < s → (l.flatMap f)[k * s + i]? = (l[k]?).bind fun a => (f a)[i]?
  | [], k, i, _ => by simp
  | a :: l, 0, i, hi => by
    rw [List.flatMap_cons, Nat.zero_mul, Nat.zero_add, List.getElem?_append_left (by rw [hf]; exact hi)]; rfl
  | a :: l, k + 1, i, hi => by
    rw [List.flatMap_cons, List.getElem?_append_right (by rw [hf, Nat.succ_mul]; omega), hf, show (k + 1) * s + i - s = k * s + i by rw [Nat.succ_mul]; omega, flat_get f hf l k i hi]; rfl
theorem flat_len {α : Type} (f : α → List Value) {s : Nat} (hf : ∀ a, (f a).length = s) (l : List α) : (l.flatMap f).length = l.length * s := by
  induction l with
  | nil => simp
  | cons a l ih => rw [List.flatMap_cons, List.length_append, ih, hf, List.length_cons, Nat.succ_mul]; omega
end Go.Proofs.Ytjcpjijihajopaa
namespace Go.Proofs.Ytjcpjijihajopaa
open Go.RowKit
set_option linter.unusedVariables false
theorem row_below {E s : Nat} {W W' : World} {base n : Nat} {v : Value} {xs : List Value} {w0 : World} (h : w0.ownsRow base E s v n xs) (g : W.grownBy W' v.ownBlock) (hb : base ≤ W.heap.size) : Below base W W' :=
  ⟨g.os, g.tape, g.output, g.size, fun i hi => g.block i (by omega) (by
    obtain ⟨_, h | ⟨b, cap, cur, rfl, h1, _⟩⟩ := h
    · rw [h.1]; simp [Value.ownBlock]
    · simp [Value.ownBlock]; omega)⟩
theorem row_some {E s : Nat} {w : World} {base n : Nat} {v : Value} {xs : List Value} (h : w.ownsRow base E s v n xs) (hv : ¬ v = .slice none 0 0) : ∃ g c, v = .slice (some ⟨g, 0, none⟩) n c := by
  obtain ⟨_, h | ⟨b, cap, cur, rfl, h1, _⟩⟩ := h
  · exact absurd h.1 hv
  · exact ⟨b, cap, rfl⟩
theorem row_empty {E s : Nat} {w : World} {base g : Nat} (hb : base ≤ g) (hg : w.heap[g]? = some (.cells #[] E)) : w.ownsRow base E s (.slice (some ⟨g, 0, none⟩) 0 0) 0 [] :=
  ⟨by simp, .inr ⟨g, 0, #[], rfl, hb, hg, Nat.le_refl _, Nat.zero_le _, by simp, by simp⟩⟩
theorem row_keep {E s : Nat} {w w' : World} {base n : Nat} {v : Value} {xs : List Value} (h : w.ownsRow base E s v n xs) (hb : ∀ b, b < w.heap.size → w'.heap[b]? = w.heap[b]?) : w'.ownsRow base E s v n xs := by
  obtain ⟨hl, h | ⟨g, cap, cur, rfl, h1, hg, h2⟩⟩ := h
  · exact ⟨hl, .inl h⟩
  · exact ⟨hl, .inr ⟨g, cap, cur, rfl, h1, (hb g (blk_lt hg)).trans hg, h2⟩⟩
theorem row_below' {E s : Nat} {w w' : World} {base n : Nat} {v : Value} {xs : List Value} (h : w.ownsRow base E s v n xs) (hb : Below w.heap.size w w') : w'.ownsRow base E s v n xs := row_keep h fun b h => hb.block b h
theorem row_cast {E s : Nat} {w : World} {base n n' : Nat} {v : Value} {xs ys : List Value} (h : w.ownsRow base E s v n xs) (e : xs = ys) (e' : n = n') : w.ownsRow base E s v n' ys := e ▸ e' ▸ h
theorem blk_drew {w : World} {N : Nat} {o : Obj} (h : w.heap[N]? = some o) : w.drew.heap[N]? = some o := h
theorem below_drew {a w : World} {B : Nat} (h : Below B a w) : Below B a w.drew := ⟨h.os, h.tape, h.output, h.size, h.block⟩
theorem heap_new' (w : World) (o : Obj) {b : Nat} (hb : b = w.heap.size) : (w.alloc o).heap[b]? = some o := by subst hb; exact heap_alloc_new w o
section
variable {P : Program} (w : World)
theorem run_app (t ty : TypeId) (base : Nat) (e : TypeId) (i : TypeInfo) (z : Value) (size bytes : Nat) (ht : P.underlying t = some (.slice e)) (hi : P.info? e = some i) (hz : i.zero = some z)
    (hsize : i.size = size) (hby : i.bytes = bytes) (hzs : z.cells.size = size) (hsz : 0 < size)
    (v : Value) (n : Nat) (xs : List Value) (hown : w.ownsRow base e size v n xs) (hv : ¬ v = .slice none 0 0)
    (ad : Addr) (m c : Nat) (news : List Value) (hl : news.length = m * size) (hnews : ∀ j u, news[j]? = some u → w.cell? (ad.add j) = some u) (h1 : ∀ u ∈ news, u.oneCell' = true)
    (h63 : n + m ≤ maxLen) (hbytes : (n + m) * bytes ≤ 140737488355328) (hbase : base ≤ w.heap.size) :
    ∃ g cap w', (Builtin.append_ #[t, t] ty #[v, .slice (some ad) m c]).run P w = .ok (.slice (some ⟨g, 0, none⟩) (n + m) cap) w' ∧
      w'.ownsRow base e size (.slice (some ⟨g, 0, none⟩) (n + m) cap) (n + m) (xs ++ news) ∧ w.grownBy w' v.ownBlock ∧ Below base w w' := by
  obtain ⟨v', w', hr, h2, h3, h4, h5⟩ := run_append_own_at (P := P) w base t ty e i z size bytes ht hi hz hsize hby hzs hsz v n xs hown ad m c news hl hnews h1 h63 hbytes hbase
  obtain ⟨g, cap, rfl⟩ := row_some h2 (fun h => hv (h4.1 h).1)
  exact ⟨g, cap, w', hr, h2, h3, row_below hown h3 hbase⟩
theorem wp_app {o : Oper} {a : Act} {K : Act → World → Prop} {Q : Exit → Act → World → Prop} (s x : Operand) (t : TypeId)
    (ho : o.op = .call { callee := .builtin .append, args := #[s, x], argTypes := #[t, t] })
    (base : Nat) (e : TypeId) (i : TypeInfo) (z : Value) (size bytes : Nat) (ht : P.underlying t = some (.slice e)) (hi : P.info? e = some i) (hz : i.zero = some z)
    (hsize : i.size = size) (hby : i.bytes = bytes) (hzs : z.cells.size = size) (hsz : 0 < size)
    (v : Value) (n : Nat) (xs : List Value) (hs : a.eval s = v) (hown : w.ownsRow base e size v n xs) (hv : ¬ v = .slice none 0 0)
    (ad : Addr) (m c : Nat) (news : List Value) (hx : a.eval x = .slice (some ad) m c) (hl : news.length = m * size) (hnews : ∀ j u, news[j]? = some u → w.cell? (ad.add j) = some u) (h1 : ∀ u ∈ news, u.oneCell' = true)
    (h63 : n + m ≤ maxLen) (hbytes : (n + m) * bytes ≤ 140737488355328) (hbase : base ≤ w.heap.size)
    (h : ∀ g cap w', w'.ownsRow base e size (.slice (some ⟨g, 0, none⟩) (n + m) cap) (n + m) (xs ++ news) → w.grownBy w' v.ownBlock → Below base w w' → K (a.put o.dst (.slice (some ⟨g, 0, none⟩) (n + m) cap)) w') : o.wp P a w K Q := by
  obtain ⟨g, cap, w', hr, h2, h3, h4⟩ := run_app (P := P) w t o.type base e i z size bytes ht hi hz hsize hby hzs hsz v n xs hown hv ad m c news hl hnews h1 h63 hbytes hbase
  unfold Oper.wp execOp
  simp only [ho, resolve, invoke, builtin, Sem.run_bind, Sem.run_pure, Result.andThen_ok, List.map_toArray, List.map_cons, List.map_nil, hs, hx, hr]
  exact h g cap w' h2 h3 h4
/-- For a plain region: (at_builtin; refine wpList_app ..; intro g cap w1 hown hgr B1). -/
theorem wpList_app {ops : Array Oper} {rest : List Oper} {o : Oper} {a : Act} {Q : Exit → Act → World → Prop} (hgd : o.guard = none) (s x : Operand) (t : TypeId)
    (ho : o.op = .call { callee := .builtin .append, args := #[s, x], argTypes := #[t, t] })
    (base : Nat) (e : TypeId) (i : TypeInfo) (z : Value) (size bytes : Nat) (ht : P.underlying t = some (.slice e)) (hi : P.info? e = some i) (hz : i.zero = some z)
    (hsize : i.size = size) (hby : i.bytes = bytes) (hzs : z.cells.size = size) (hsz : 0 < size)
    (v : Value) (n : Nat) (xs : List Value) (hs : a.eval s = v) (hown : w.ownsRow base e size v n xs) (hv : ¬ v = .slice none 0 0)
    (ad : Addr) (m c : Nat) (news : List Value) (hx : a.eval x = .slice (some ad) m c) (hl : news.length = m * size) (hnews : ∀ j u, news[j]? = some u → w.cell? (ad.add j) = some u) (h1 : ∀ u ∈ news, u.oneCell' = true)
    (h63 : n + m ≤ maxLen) (hbytes : (n + m) * bytes ≤ 140737488355328) (hbase : base ≤ w.heap.size)
    (h : ∀ g cap w', w'.ownsRow base e size (.slice (some ⟨g, 0, none⟩) (n + m) cap) (n + m) (xs ++ news) → w.grownBy w' v.ownBlock → Below base w w' → wpList P ops Q rest (a.put o.dst (.slice (some ⟨g, 0, none⟩) (n + m) cap)) w') : wpList P ops Q (o :: rest) a w :=
  wpList_plain hgd fun _ hK => wp_app w s x t ho base e i z size bytes ht hi hz hsize hby hzs hsz v n xs hs hown hv ad m c news hx hl hnews h1 h63 hbytes hbase fun g cap w' h2 h3 h4 => hK _ _ (h g cap w' h2 h3 h4)
/-- At a step of a region that draws its order: for go_region_law (first | (refine step_app ..; intro g cap w1 hown hgr B1)). -/
theorem step_app {ops : Array Oper} {o : Oper} {a : Act} {K : Act → World → Prop} {Q : Exit → Act → World → Prop} {EE : Prop} (hgd : o.guard = none) (s x : Operand) (t : TypeId)
    (ho : o.op = .call { callee := .builtin .append, args := #[s, x], argTypes := #[t, t] })
    (base : Nat) (e : TypeId) (i : TypeInfo) (z : Value) (size bytes : Nat) (ht : P.underlying t = some (.slice e)) (hi : P.info? e = some i) (hz : i.zero = some z)
    (hsize : i.size = size) (hby : i.bytes = bytes) (hzs : z.cells.size = size) (hsz : 0 < size)
    (v : Value) (n : Nat) (xs : List Value) (hs : a.eval s = v) (hown : w.ownsRow base e size v n xs) (hv : ¬ v = .slice none 0 0)
    (ad : Addr) (m c : Nat) (news : List Value) (hx : a.eval x = .slice (some ad) m c) (hl : news.length = m * size) (hnews : ∀ j u, news[j]? = some u → w.cell? (ad.add j) = some u) (h1 : ∀ u ∈ news, u.oneCell' = true)
    (h63 : n + m ≤ maxLen) (hbytes : (n + m) * bytes ≤ 140737488355328) (hbase : base ≤ w.heap.size)
    (h : ∀ g cap w', w'.ownsRow base e size (.slice (some ⟨g, 0, none⟩) (n + m) cap) (n + m) (xs ++ news) → w.grownBy w' v.ownBlock → Below base w w' → K (a.put o.dst (.slice (some ⟨g, 0, none⟩) (n + m) cap)) w') :
    if Region.wanted o (yielded ops a.tmps) = true then Oper.wp P o a w K Q else EE := by
  have hw : Region.wanted o (yielded ops a.tmps) = true := by simp [Region.wanted, hgd]
  rw [if_pos hw]
  exact wp_app w s x t ho base e i z size bytes ht hi hz hsize hby hzs hsz v n xs hs hown hv ad m c news hx hl hnews h1 h63 hbytes hbase h
end
/-- The cells of a slice of integers, in a later world. -/
theorem Slc.news {w w' : World} {lo n c : Nat} {b off : Nat} {xs : List Int} (h : Slc w lo w.heap.size 1 (some ⟨b, off, none⟩) n c (ints xs)) (hb : Below w.heap.size w w') : ∀ j u, (ints xs)[j]? = some u → w'.cell? ((⟨b, off, none⟩ : Addr).add j) = some u := by
  intro j u hu
  have hn : 0 < n := by have := h.len; have := (List.getElem?_eq_some_iff.1 hu).1; omega
  obtain ⟨b', off', e, _, _, h3, h4⟩ := h.at_ hn
  injection e with e; injection e with e1 e2; subst e1 e2
  rw [Addr.add_lit]
  exact (World.cell?_of_block (hb.block b h3)).trans (h4 j u hu)
theorem ints_one (xs : List Int) : ∀ u ∈ ints xs, u.oneCell' = true := by
  intro u hu; obtain ⟨x, _, rfl⟩ := List.mem_map.1 hu; rfl
/-- What a slice of the call's own reads. -/
theorem row_slc {E s : Nat} {w : World} {base n c : Nat} {A : Option Addr} {xs : List Value} (h : w.ownsRow base E s (.slice A n c) n xs) (hs : 0 < s) : Slc w base w.heap.size s A n c xs := by
  obtain ⟨A', c', e, o⟩ := ownV_of_row h hs
  injection e with e1 e2 e3; subst e1 e3; exact o.slc
end Go.Proofs.Ytjcpjijihajopaa
namespace Go.Proofs.Ytjcpjijihajopaa
open Go.RowKit
theorem slc_flat {α : Type} (f : α → List Value) {s n c lo hi b off : Nat} {w : World} {ds : List α} (hs : 0 < s) (hf : ∀ a, (f a).length = s) (hl : ds.length = n) (hnc : n ≤ c) (hc : c ≤ maxLen) (hlo : lo ≤ b) (hhi : b < hi) (hb : b < w.heap.size)
    (h : ∀ i d, ds[i]? = some d → ∀ j v, (f d)[j]? = some v → w.cell? ⟨b, off + (i * s + j), none⟩ = some v) : Slc w lo hi s (some ⟨b, off, none⟩) n c (ds.flatMap f) := by
  refine ⟨by rw [flat_len f hf, hl], hnc, hc, fun _ => ⟨b, off, rfl, hlo, hhi, hb, fun j v hv => ?_⟩⟩
  obtain ⟨i, k, rfl, hk⟩ : ∃ i k, j = i * s + k ∧ k < s := ⟨j / s, j % s, by rw [Nat.mul_comm]; exact (Nat.div_add_mod j s).symm, Nat.mod_lt _ hs⟩
  rw [flat_get f hf _ i k hk] at hv
  obtain ⟨d, hd, hv⟩ := Option.bind_eq_some_iff.1 hv
  exact h i d hd k v hv
end Go.Proofs.Ytjcpjijihajopaa
namespace Go.Proofs.Ytjcpjijihajopaa
open Go.RowKit
set_option linter.unusedVariables false
/-- The decimal digits of u, none of 0. -/
def digs (u : Nat) : List UInt8 := if u = 0 then [] else Lib.decDigits u
def markT (k : Nat) : ByteArray := ⟨(109 :: (if k = 0 then [48] else Lib.decDigits k)).toArray⟩
theorem digs_step {u : Nat} (h : 0 < u) : digs u = digs (u / 10) ++ [UInt8.ofNat (48 + u % 10)] := by
  unfold digs
  rw [if_neg (by omega)]
  by_cases h10 : u < 10
  · rw [if_pos (by omega), Lib.decDigits_one h10, Nat.mod_eq_of_lt h10]; rfl
  · rw [if_neg (by omega), Lib.decDigits, dif_neg h10]
theorem bytes_app (a b : Array UInt8) : (⟨a⟩ : ByteArray) ++ ⟨b⟩ = ⟨a ++ b⟩ := by
  apply ByteArray.ext; simp [ByteArray.data_append]
theorem dec_len {k : Nat} (hk : k ≤ 100000000) : (Lib.decDigits k).length ≤ 20 := by
  rw [Lib.decDigits_length]; exact Lib.nDigits_le20 k (by omega)
theorem cv1 (w : World) (x : Nat) (hx : x ≤ 255) : (convert 41 9 (.slice (some ⟨w.heap.size, 0, none⟩) 1 1)).run Try.prog (w.alloc (.cells #[.int .u8 (x : Int)] 5)) = .ok (.string ⟨[UInt8.ofNat x].toArray⟩) (w.alloc (.cells #[.int .u8 (x : Int)] 5)) :=
  run_convert_bytes_back (P := Try.prog) _ 41 9 5 ⟨w.heap.size, 0, none⟩ 1 [UInt8.ofNat x] Try.underlying41 Try.underlying5 Try.underlying9 (fun j hj => by
    obtain rfl : j = 0 := by simp at hj; omega
    simp [Addr.add]
    omega)
set_option maxHeartbeats 1000000 in
set_option maxRecDepth 20000 in
theorem markText_any (k : Nat) (hk : k ≤ 100000000) (w : World) :
    Calls Try.prog 48 #[.int .i64 k] w fun e w' => e = .returned (.string (markT k)) ∧ Below w.heap.size w w' := by
  by_cases h0 : k = 0
  · subst h0
    go_enter Try.func48, Try.ntmps48
    go_wp2
    go_ret
    exact ⟨rfl, Below.refl _ _⟩
  · go_enter Try.func48, Try.ntmps48
    go_wp2
    go_loopw [0, 3] (fun a s wr => ∃ (u : Nat) (l : List UInt8), a = .int .i64 u ∧ s = .string ⟨l.toArray⟩ ∧ u ≤ 100000000 ∧ digs u ++ l = Lib.decDigits k ∧ Below w.heap.size w wr) (fun a _ _ => (intOf a).toNat)
    case atStart => exact ⟨k, [], rfl, rfl, hk, by simp [digs, h0], Below.refl _ _⟩
    case round =>
      obtain ⟨u, l, rfl, rfl, hu, hl, B⟩ := hrel
      have HL := Lib.hid hl
      clear hl
      by_cases hlt : 0 < u
      · have hcv := cv1 wr (48 + u % 10) (by omega)
        rw [show ((48 + u % 10 : Nat) : Int) = 48 + (u : Int) % 10 by omega] at hcv
        have hll : l.length ≤ 20 := by have := congrArg List.length HL.out; rw [List.length_append] at this; have := dec_len (k := k) (by omega); omega
        have HD := Lib.hid (digs_step hlt)
        go_wp2
        go_roundw
        case rel => exact ⟨u / 10, UInt8.ofNat (48 + u % 10) :: l, by first | rfl | (congr 1; omega), by rw [bytes_app]; simp, by omega, by rw [← HL.out, HD.out]; simp, below_al B _⟩
        case measure => simp [intOf]; omega
      · have hu0 : u = 0 := by omega
        subst hu0
        have hll : l.length ≤ 20 := by have := congrArg List.length HL.out; rw [List.length_append] at this; have := dec_len (k := k) (by omega); omega
        have HT := Lib.hid (show (⟨#[109]⟩ : ByteArray) ++ ⟨l.toArray⟩ = markT k by rw [bytes_app, markT, if_neg h0, ← HL.out]; simp [digs])
        go_wp2
        go_ret
        exact ⟨by rw [HT.out]; rfl, B⟩
end Go.Proofs.Ytjcpjijihajopaa
