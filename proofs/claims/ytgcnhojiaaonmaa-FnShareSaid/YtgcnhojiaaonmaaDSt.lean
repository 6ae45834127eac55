/-
  The state of a function that draws: the random source, a slice of the function's own to which it appends, and all else as it was.
-/
import Derived.Test.YtgcnhojiaaonmaaDrawB
import Derived.OwnWalk
import Derived.Maps.AppendAt
namespace Go.Proofs.Ytgcnhojiaaonmaa
open Go.RowKit
set_option linter.unusedVariables false
/-- In world W: the source in block g, of which at most q numbers were taken; a slice v of k elements of type E in a block from base on that reads as xs; below lo all is as it was in w0. -/
structure DSt (w0 : World) (lo base g : Nat) (A : Option Addr) (n c q : Nat) (E s : Nat) (v : Value) (k : Nat) (xs : List Value) (W : World) : Prop where
  rd : Rd W g A n c q
  own : W.ownsRow base E s v k xs
  bel : Below lo w0 W
  hlo : lo ≤ g
  hg : g < base
  hb : base ≤ W.heap.size
section
variable {w0 : World} {lo base g : Nat} {A : Option Addr} {n c q : Nat} {E s : Nat} {v : Value} {k : Nat} {xs : List Value} {W W' : World}
theorem DSt.notg (h : DSt w0 lo base g A n c q E s v k xs W) : v.ownBlock ≠ some g := fun e => by
  have := (h.own.lt g e).1; have := h.hg; omega
theorem DSt.alloc (h : DSt w0 lo base g A n c q E s v k xs W) (o : Obj) : DSt w0 lo base g A n c q E s v k xs (W.alloc o) :=
  ⟨h.rd.alloc o, h.own.alloc o, h.bel.alloc (by have := h.hlo; have := h.hg; have := h.hb; omega) o, h.hlo, h.hg, by have := h.hb; simp; omega⟩
theorem DSt.drew (h : DSt w0 lo base g A n c q E s v k xs W) : DSt w0 lo base g A n c q E s v k xs W.drew :=
  ⟨h.rd.drew, h.own, ⟨h.bel.os, h.bel.tape, h.bel.output, h.bel.size, h.bel.block⟩, h.hlo, h.hg, h.hb⟩
theorem DSt.grown {q' : Nat} (h : DSt w0 lo base g A n c q E s v k xs W) (hr : Rd W' g A n c q') (hg : W.grownBy W' (some g)) : DSt w0 lo base g A n c q' E s v k xs W' :=
  ⟨hr, h.own.kept hg (.inr h.notg), h.bel.trans (below_of_gb hg h.hlo (by have := h.hlo; have := h.hg; have := h.hb; omega)), h.hlo, h.hg, Nat.le_trans h.hb hg.size⟩
theorem DSt.below (h : DSt w0 lo base g A n c q E s v k xs W) (hb : Below W.heap.size W W') : DSt w0 lo base g A n c q E s v k xs W' :=
  ⟨h.rd.below hb, h.own.kept (row := none) ⟨hb.os, hb.tape, hb.output, hb.size, fun i hi _ => hb.block i hi⟩ (by cases hv : v.ownBlock <;> simp), below_step2 h.bel hb (by have := h.hlo; have := h.hg; have := h.hb; omega), h.hlo, h.hg, Nat.le_trans h.hb hb.size⟩
where below_step2 {lo : Nat} {a b d : World} (h : Below lo a b) (k : Below b.heap.size b d) (hl : lo ≤ b.heap.size) : Below lo a d := h.trans (k.mono hl)
theorem DSt.wide {q' : Nat} (h : DSt w0 lo base g A n c q E s v k xs W) (hq : q ≤ q') : DSt w0 lo base g A n c q' E s v k xs W :=
  ⟨h.rd.mono hq, h.own, h.bel, h.hlo, h.hg, h.hb⟩
/-- Behind an append. -/
theorem DSt.app {v' : Value} {k' : Nat} {xs' : List Value} (h : DSt w0 lo base g A n c q E s v k xs W) (ho : W'.ownsRow base E s v' k' xs') (hg : W.grownBy W' v.ownBlock) : DSt w0 lo base g A n c q E s v' k' xs' W' :=
  ⟨h.rd.keep fun b hb => hg.block b (Nat.lt_of_le_of_lt hb h.rd.gblt) (fun e => by have := (h.own.lt b e.symm).1; have := h.hg; omega), ho,
   h.bel.trans ⟨hg.os, hg.tape, hg.output, hg.size, fun i hi => hg.block i (by have := h.hlo; have := h.hg; have := h.hb; omega) (fun e => by have := (h.own.lt i e.symm).1; have := h.hg; have := h.hlo; omega)⟩, h.hlo, h.hg, Nat.le_trans h.hb hg.size⟩
/-- A new slice in place of the old one. -/
theorem DSt.fresh {v' : Value} {k' : Nat} {xs' : List Value} {E' s' : Nat} (h : DSt w0 lo base g A n c q E s v k xs W) (ho : W.ownsRow base E' s' v' k' xs') : DSt w0 lo base g A n c q E' s' v' k' xs' W :=
  ⟨h.rd, ho, h.bel, h.hlo, h.hg, h.hb⟩
/-- A store into the slice's own block. -/
theorem DSt.set {p : Addr} {u : Value} {v' : Value} {k' : Nat} {xs' : List Value} {E' s' : Nat} (h : DSt w0 lo base g A n c q E s v k xs W) (hp : base ≤ p.block) (ho : (W.setCell p u).ownsRow base E' s' v' k' xs') : DSt w0 lo base g A n c q E' s' v' k' xs' (W.setCell p u) :=
  ⟨h.rd.setCell (by have := h.hg; omega) u, ho, h.bel.setCell (by have := h.hlo; have := h.hg; omega) u, h.hlo, h.hg, by simpa [World.setCell] using h.hb⟩
theorem DSt.zero (h : DSt w0 lo base g A n c q E s v k xs W) : W.ownsRow base E s v k xs := h.own
end
/-- The state at the first slice: it is empty and lies in the newest block. -/
theorem DSt.init {w0 W : World} {g : Nat} {A : Option Addr} {n c q : Nat} (E s : Nat) (h : Rd W g A n c q) (hb : Below w0.heap.size w0 W) (hl : w0.heap.size ≤ g) :
    DSt w0 w0.heap.size W.heap.size g A n c q E s (.slice (some ⟨W.heap.size, 0, none⟩) 0 0) 0 [] (W.alloc (.cells #[] E)) :=
  ⟨h.alloc _, World.ownsRow_made W #[] 0 (Nat.le_refl _) (Nat.zero_le _) (by simp), below_al hb _, hl, h.gblt, by simp⟩
theorem num_lits {w : World} {l : Nat} {xs : List Int} {T : TypeId} {fz : Nat × Nat} (h : w.heap[l]? = some (.cells (xs.map (Value.int .i64)).toArray T fz)) {k : Nat} (hk : xs.length = k) :
    ∀ j, j < k → ∃ v : Int, w.cell? ⟨l, 0 + j, none⟩ = some (.int .i64 v) :=
  cells_of_blk h k fun j hj => ⟨xs[j]'(by omega), by simp [hk, hj]⟩
end Go.Proofs.Ytgcnhojiaaonmaa
