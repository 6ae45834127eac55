/-
  Two slices of the call's own that grow side by side: deeds and texts.
-/
import Derived.Test.YtojnnemodikpeaaDoorAppS
import Derived.Test.YtojnnemodikpeaaDoorDrawM
import Derived.Test.YtojnnemodikpeaaDoorCbT
import Derived.Test.YtojnnemodikpeaaDoorRunA
namespace Go.Proofs.YtojnnemodikpeaaDoor
open Go.RowKit
set_option linter.unusedVariables false
theorem info_str : (Tryd.prog.info? 9).map (fun i => (i.zero, i.size, i.bytes)) = some (some (.string ⟨#[]⟩), 1, 16) := by kernel_rfl
theorem row_grown {E s : Nat} {w w' : World} {base h n c : Nat} {xs : List Value} {row : Option Nat} (r : w.ownsRow base E s (.slice (some ⟨h, 0, none⟩) n c) n xs) (g : w.grownBy w' row) (ne : some h ≠ row) : w'.ownsRow base E s (.slice (some ⟨h, 0, none⟩) n c) n xs := by
  obtain ⟨hl, x | ⟨b, cap, cur, e, h1, hg, h2⟩⟩ := r
  · cases x.1
  · have e' := e
    injection e' with e1 e2 e3; injection e1 with e1; injection e1 with e1 _
    subst e1
    exact ⟨hl, .inr ⟨h, cap, cur, e, h1, (g.block _ (blk_lt hg) ne).trans hg, h2⟩⟩
theorem row_lt {E s : Nat} {w : World} {base h n c : Nat} {xs : List Value} (r : w.ownsRow base E s (.slice (some ⟨h, 0, none⟩) n c) n xs) : h < w.heap.size := by
  obtain ⟨_, cs, h2, _⟩ := row_blk r
  exact blk_lt h2
structure Rows2 (wo w : World) (g n cg h m ch : Nat) (ds : List DeedD) (ts : List (List UInt8)) : Prop where
  D : w.ownsRow wo.heap.size 46 3 (.slice (some ⟨g, 0, none⟩) n cg) n (deeds ds)
  T : w.ownsRow wo.heap.size 9 1 (.slice (some ⟨h, 0, none⟩) m ch) m (txts ts)
  ne : g ≠ h
  B : Below wo.heap.size wo w
section
variable {wo w w' : World} {g n cg h m ch : Nat} {ds : List DeedD} {ts : List (List UInt8)}
theorem Rows2.alloc (r : Rows2 wo w g n cg h m ch ds ts) (o : Obj) : Rows2 wo (w.alloc o) g n cg h m ch ds ts :=
  ⟨row_keep r.D fun b hb => Below.heap_alloc w o b hb, row_keep r.T fun b hb => Below.heap_alloc w o b hb, r.ne, below_al r.B o⟩
theorem Rows2.init (wo : World) : Rows2 wo ((wo.alloc (.cells #[] 46)).alloc (.cells #[] 9)) wo.heap.size 0 0 (wo.heap.size + 1) 0 0 [] [] :=
  ⟨row_empty (Nat.le_refl _) (blk_alloc (heap_alloc_new _ _) _), row_empty (by omega) (heap_new' _ _ (by simp)), by omega, below_al (below_al (Below.refl _ _) _) _⟩
theorem Rows2.appD (r : Rows2 wo w g n cg h m ch ds ts) {g2 c2 : Nat} {d : DeedD} (ho : w'.ownsRow wo.heap.size 46 3 (.slice (some ⟨g2, 0, none⟩) (n + 1) c2) (n + 1) (deeds ds ++ [.string d.act, .int .i64 d.a, .int .i64 d.b]))
    (hg : w.grownBy w' (Value.ownBlock (.slice (some ⟨g, 0, none⟩) n cg))) (hat : Value.ownBlock (.slice (some ⟨g, 0, none⟩) n cg) = some g2 ∨ g2 = w.heap.size) : Rows2 wo w' g2 (n + 1) c2 h m ch (ds ++ [d]) ts := by
  have hh := row_lt r.T
  refine ⟨by rw [deeds_snoc']; exact ho, row_grown r.T hg (by simp [Value.ownBlock]; exact fun e => r.ne e.symm), ?_, r.B.trans (row_below r.D hg r.B.size)⟩
  rcases hat with e | e
  · simp [Value.ownBlock] at e; rw [← e]; exact r.ne
  · omega
theorem Rows2.appT (r : Rows2 wo w g n cg h m ch ds ts) {h2 c2 : Nat} {t : List UInt8} (ho : w'.ownsRow wo.heap.size 9 1 (.slice (some ⟨h2, 0, none⟩) (m + 1) c2) (m + 1) (txts ts ++ [.string ⟨t.toArray⟩]))
    (hg : w.grownBy w' (Value.ownBlock (.slice (some ⟨h, 0, none⟩) m ch))) (hat : Value.ownBlock (.slice (some ⟨h, 0, none⟩) m ch) = some h2 ∨ h2 = w.heap.size) : Rows2 wo w' g n cg h2 (m + 1) c2 ds (ts ++ [t]) := by
  have hh := row_lt r.D
  refine ⟨row_grown r.D hg (by simp [Value.ownBlock]; exact r.ne), by simpa [txts, txt] using ho, ?_, r.B.trans (row_below r.T hg r.B.size)⟩
  rcases hat with e | e
  · simp [Value.ownBlock] at e; rw [← e]; exact r.ne
  · omega
theorem Rows2.below (r : Rows2 wo w g n cg h m ch ds ts) (b : Below w.heap.size w w') : Rows2 wo w' g n cg h m ch ds ts :=
  ⟨row_below' r.D b, row_below' r.T b, r.ne, below_step r.B b⟩
end
end Go.Proofs.YtojnnemodikpeaaDoor
