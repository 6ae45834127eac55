/-
  The state of a function that draws: the random source, a slice of the function's own to which it appends, and all else as it was.
-/
import Derived.Test.YtojnnemodikpeaaDoorDrawB
import Derived.OwnWalk
import Derived.Maps.AppendAt
namespace Go.Proofs.YtojnnemodikpeaaDoor
open Go.RowKit
set_option linter.unusedVariables false
/-- In world W: the source in block g, of which at most q numbers were taken; a slice v of k elements of type E in a block that is younger than w0, and reads as xs; all else as it was in w0. -/
structure DSt (w0 : World) (g : Nat) (A : Option Addr) (n c q : Nat) (E s : Nat) (v : Value) (k : Nat) (xs : List Value) (W : World) : Prop where
  rd : Rd W g A n c q
  own : W.ownsRow w0.heap.size E s v k xs
  gr : w0.grownBy W (some g)
  hg : g < w0.heap.size
section
variable {w0 : World} {g : Nat} {A : Option Addr} {n c q : Nat} {E s : Nat} {v : Value} {k : Nat} {xs : List Value} {W W' : World}
theorem DSt.hb (h : DSt w0 g A n c q E s v k xs W) : w0.heap.size ≤ W.heap.size := h.gr.size
theorem DSt.notg (h : DSt w0 g A n c q E s v k xs W) : v.ownBlock ≠ some g := fun e => by
  have := (h.own.lt g e).1; have := h.hg; omega
theorem DSt.alloc (h : DSt w0 g A n c q E s v k xs W) (o : Obj) : DSt w0 g A n c q E s v k xs (W.alloc o) :=
  ⟨h.rd.alloc o, h.own.alloc o, gb_al h.gr o, h.hg⟩
theorem DSt.drew (h : DSt w0 g A n c q E s v k xs W) : DSt w0 g A n c q E s v k xs W.drew :=
  ⟨h.rd.drew, h.own, gb_drew h.gr, h.hg⟩
theorem DSt.grown {q' : Nat} (h : DSt w0 g A n c q E s v k xs W) (hr : Rd W' g A n c q') (hg : W.grownBy W' (some g)) : DSt w0 g A n c q' E s v k xs W' :=
  ⟨hr, h.own.kept hg (.inr h.notg), gb_trans h.gr hg, h.hg⟩
theorem DSt.below (h : DSt w0 g A n c q E s v k xs W) (hb : Below W.heap.size W W') : DSt w0 g A n c q E s v k xs W' :=
  ⟨h.rd.below hb, h.own.kept (row := none) ⟨hb.os, hb.tape, hb.output, hb.size, fun i hi _ => hb.block i hi⟩ (by cases hv : v.ownBlock <;> simp), gb_trans h.gr (gb_below hb _), h.hg⟩
theorem DSt.wide {q' : Nat} (h : DSt w0 g A n c q E s v k xs W) (hq : q ≤ q') : DSt w0 g A n c q' E s v k xs W :=
  ⟨h.rd.mono hq, h.own, h.gr, h.hg⟩
/-- Something younger than w0 has turned, but not the slice. -/
theorem DSt.aside {row : Option Nat} (h : DSt w0 g A n c q E s v k xs W) (hg : W.grownBy W' row) (hne : v.ownBlock = none ∨ v.ownBlock ≠ row) (hy : ∀ b, row = some b → w0.heap.size ≤ b) : DSt w0 g A n c q E s v k xs W' :=
  ⟨h.rd.keep fun b hb => hg.block b (Nat.lt_of_le_of_lt hb h.rd.gblt) (fun e => by have := hy b e.symm; have := h.hg; omega), h.own.kept hg hne,
   ⟨hg.os.trans h.gr.os, hg.tape.trans h.gr.tape, hg.output.trans h.gr.output, Nat.le_trans h.gr.size hg.size, fun i hi hne => (hg.block i (Nat.lt_of_lt_of_le hi h.gr.size) (fun e => by have := hy i e.symm; omega)).trans (h.gr.block i hi hne)⟩, h.hg⟩
/-- Behind an append. -/
theorem DSt.app {v' : Value} {k' : Nat} {xs' : List Value} (h : DSt w0 g A n c q E s v k xs W) (ho : W'.ownsRow w0.heap.size E s v' k' xs') (hg : W.grownBy W' v.ownBlock) : DSt w0 g A n c q E s v' k' xs' W' :=
  ⟨h.rd.keep fun b hb => hg.block b (Nat.lt_of_le_of_lt hb h.rd.gblt) (fun e => by have := (h.own.lt b e.symm).1; have := h.hg; omega), ho,
   ⟨hg.os.trans h.gr.os, hg.tape.trans h.gr.tape, hg.output.trans h.gr.output, Nat.le_trans h.gr.size hg.size, fun i hi hne => (hg.block i (Nat.lt_of_lt_of_le hi h.gr.size) (fun e => by have := (h.own.lt i e.symm).1; omega)).trans (h.gr.block i hi hne)⟩, h.hg⟩
/-- A new slice in place of the old one. -/
theorem DSt.fresh {v' : Value} {k' : Nat} {xs' : List Value} {E' s' : Nat} (h : DSt w0 g A n c q E s v k xs W) (ho : W.ownsRow w0.heap.size E' s' v' k' xs') : DSt w0 g A n c q E' s' v' k' xs' W :=
  ⟨h.rd, ho, h.gr, h.hg⟩
end
/-- The state at the first slice: it is empty and lies in the newest block. -/
theorem DSt.init {W : World} {g : Nat} {A : Option Addr} {n c q : Nat} (E s : Nat) (h : Rd W g A n c q) :
    DSt W g A n c q E s (.slice (some ⟨W.heap.size, 0, none⟩) 0 0) 0 [] (W.alloc (.cells #[] E)) :=
  ⟨h.alloc _, World.ownsRow_made W #[] 0 (Nat.le_refl _) (Nat.zero_le _) (by simp), gb_al (World.grownBy.refl _ _) _, h.gblt⟩
theorem DSt.bel {w w0 W : World} {g : Nat} {A : Option Addr} {n c q E s k : Nat} {v : Value} {xs : List Value} (h : DSt w0 g A n c q E s v k xs W) (hb : Below w.heap.size w w0) (hl : w.heap.size ≤ g) : Below w.heap.size w W :=
  hb.trans (below_of_gb h.gr hl hb.size)
theorem int_pred {j : Nat} (h : 0 < j) : Value.int .i64 ((j : Int) - 1) = .int .i64 ((j - 1 : Nat) : Int) := by congr 1; omega
theorem num_lits {w : World} {l : Nat} {xs : List Int} {T : TypeId} {fz : Nat × Nat} (h : w.heap[l]? = some (.cells (xs.map (Value.int .i64)).toArray T fz)) {k : Nat} (hk : xs.length = k) :
    ∀ j, j < k → ∃ v : Int, w.cell? ⟨l, 0 + j, none⟩ = some (.int .i64 v) :=
  cells_of_blk h k fun j hj => ⟨xs[j]'(by omega), by simp [hk, hj]⟩
end Go.Proofs.YtojnnemodikpeaaDoor
