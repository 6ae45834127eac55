/-
  The program's BusyMinutes, judged.
-/
import Derived.Test.YtjcpjijihajopaaBusyW
set_option linter.unusedSectionVars false
set_option linter.unusedSimpArgs false
set_option linter.unusedVariables false
namespace Go.Proofs.Ytjcpjijihajopaa
open Go.RowKit Go.Mt Go.Conc Go.Tt Go.Maps
set_option linter.unusedVariables false
/-- Blocks below B stand. -/
structure Bl (B : Nat) (w w' : World) : Prop where
  size : w.heap.size ≤ w'.heap.size
  block : ∀ b, b < B → w'.heap[b]? = w.heap[b]?
theorem Bl.refl (B : Nat) (w : World) : Bl B w w := ⟨Nat.le_refl _, fun _ _ => rfl⟩
theorem Bl.trans {B : Nat} {a b c : World} (h : Bl B a b) (k : Bl B b c) : Bl B a c := ⟨Nat.le_trans h.size k.size, fun x hx => (k.block x hx).trans (h.block x hx)⟩
theorem Bl.below {B : Nat} {a b c : World} (h : Bl B a b) (k : Below b.heap.size b c) (hB : B ≤ a.heap.size) : Bl B a c := ⟨Nat.le_trans h.size k.size, fun x hx => (k.block x (by have := h.size; omega)).trans (h.block x hx)⟩
theorem Bl.tp {B : Nat} {a b : World} (h : Bl B a b) (T : Tape) (e : Nat) : Bl B a (Tt.tp b T e) := ⟨h.size, h.block⟩
theorem Bl.al {B : Nat} {a b : World} (h : Bl B a b) (hB : B ≤ a.heap.size) (o : Obj) : Bl B a (b.alloc o) := ⟨by rw [size_push]; have := h.size; omega, fun x hx => (heap_push_lt (by have := h.size; omega)).trans (h.block x hx)⟩
theorem Slc.bl {w w' : World} {s n c : Nat} {A : Option Addr} {xs : List Value} (h : Slc w 0 w.heap.size s A n c xs) (k : Bl w.heap.size w w') : Slc w' 0 w'.heap.size s A n c xs :=
  (h.keep k.size fun b _ _ h3 => k.block b h3).wide (Nat.le_refl _) k.size
theorem srcOk_bl {w w' : World} {A : Option Addr} {src : Option Blk} (h : srcOk w A src) (k : Bl w.heap.size w w') : srcOk w' A src := by
  cases src with
  | none => exact h
  | some b => exact ⟨h.1, (k.block _ (Array.getElem?_eq_some_iff.1 h.2.1).1).trans h.2.1, h.2.2⟩
theorem thaw_at {wn : World} {src : Option Blk} {x : Nat} (h : ∀ b, src = some b → b.rb ≠ x) : (thaw wn src).heap[x]? = wn.heap[x]? := by
  cases src with
  | none => rfl
  | some b => exact put_ne (h b rfl)
theorem frz_at {wn : World} {src : Option Blk} {x : Nat} (h : ∀ b, src = some b → b.rb ≠ x) : (frz wn src).heap[x]? = wn.heap[x]? := by
  cases src with
  | none => rfl
  | some b => exact put_ne (h b rfl)
theorem ghostM_at {w : World} {src : Option Blk} {T : TypeId} {x : Nat} (hx : x < w.heap.size) (h : ∀ b, src = some b → b.rb ≠ x) : (ghostM w src T).heap[x]? = w.heap[x]? := by
  unfold ghostM
  rw [heap_push_lt (by rw [size_push, frz_size]; omega), heap_push_lt (by rw [frz_size]; omega), frz_at h]
theorem ghostM_size (w : World) (src : Option Blk) (T : TypeId) : (ghostM w src T).heap.size = w.heap.size + 2 := by
  unfold ghostM; rw [size_push, size_push, frz_size]
/-- Behind a phase, thawed. -/
theorem thaw_bl {B : Nat} {w w3 wn : World} {A : Option Addr} {src : Option Blk} {T : TypeId} (hs : srcOk w3 A src) (h : Bl B w w3) (hB : B ≤ w.heap.size) (hb : ∀ x, x < B → wn.heap[x]? = (ghostM w3 src T).heap[x]?) (hz : w3.heap.size ≤ wn.heap.size) (hlt : ∀ b, src = some b → b.rb < B) : Bl B w (thaw wn src) := by
  refine ⟨by rw [thaw_size]; exact Nat.le_trans h.size hz, fun x hx => ?_⟩
  rw [← h.block x hx]
  have hx3 : x < w3.heap.size := by have := h.size; omega
  by_cases e : ∃ b, src = some b ∧ b.rb = x
  · obtain ⟨b, rfl, rfl⟩ := e
    obtain ⟨_, h2, _⟩ := hs
    rw [h2]
    exact put_same (by omega)
  · have e' : ∀ b, src = some b → b.rb ≠ x := fun b h1 h2 => e ⟨b, h1, h2⟩
    rw [thaw_at e', hb x hx, ghostM_at hx3 e']
/-- The sums so far. -/
structure SumsI (f : Int → RecD → Int) (rs : List RecD) (g5 g7 gm B : Nat) (q : Int) (wb : World) (k : Nat) (w : World) : Prop where
  c5 : w.heap[g5]? = some (.cells #[.int .i64 q] 3)
  c7 : w.heap[g7]? = some (.cells #[.map (some gm)] 59)
  m : ∃ D, SumsM w gm k D ∧ IsMap D ∧ ∀ l, D.atKey (.int .i64 l) (.lit (.int .i64 0)) = .lit (.int .i64 (sumR (f l) (rs.take k)))
  size : wb.heap.size ≤ w.heap.size
  old : ∀ b, b < B → w.heap[b]? = wb.heap[b]?
theorem busyI {rs : List RecD} {g5 g7 gm B : Nat} {q : Int} {wb : World} (hcl : clockB rs q = true) (n5 : g5 ≠ gm) (n7 : g7 ≠ gm) (hB : B ≤ gm ∧ B ≤ wb.heap.size) :
    EachI 36 #[.pointer (some ⟨g7, 0, none⟩), .pointer (some ⟨g5, 0, none⟩)] rs (SumsI (fun l => busyF l q) rs g5 g7 gm B q wb) := by
  obtain ⟨h60, k0, k1, hall⟩ := clockB_parts hcl
  refine ⟨fun k w T e h => ⟨h.c5, h.c7, h.m, h.size, h.old⟩, fun k w cs T h => ?_, fun k w d hd h => ?_⟩
  · obtain ⟨D, h1, h2, h3⟩ := h.m
    have hz := h.size
    exact ⟨blk_alloc h.c5 _, blk_alloc h.c7 _, ⟨D, h1.alloc _, h2, h3⟩, by rw [size_push]; omega, fun b hb => (heap_push_lt (by omega)).trans (h.old b hb)⟩
  · obtain ⟨D, h1, h2, h3⟩ := h.m
    obtain ⟨r1, r2⟩ := hall d (List.mem_of_getElem? hd)
    have hrt := recOk_times r1 r2 k1
    have hs := sumR_bound (busyF_bound (l := d.l) hcl) k
    have hk : k < rs.length := (List.getElem?_eq_some_iff.1 hd).1
    have key := busy1_any d q (sumR (busyF d.l q) (rs.take k)) g5 g7 gm k D w h.c5 h.c7 h1 (by omega) n5 n7 (by omega) (h3 d.l) (by omega)
    refine key.mono ?_
    rintro e w' ⟨rfl, hm, hg⟩
    refine ⟨_, rfl, (hg.block _ (blk_lt h.c5) (fun e => n5 (by injection e))).trans h.c5, (hg.block _ (blk_lt h.c7) (fun e => n7 (by injection e))).trans h.c7, ⟨_, hm, h2.put _ _, fun l => ?_⟩, Nat.le_trans h.size hg.size, fun b hb => (hg.block b (by have := h.size; omega) (fun e => by injection e with e; omega)).trans (h.old b hb)⟩
    rw [sumR_succ hd]
    by_cases e : l = d.l
    · subst e
      rw [atKey_put_same h2 (show WideAt.IsKeyLit (.int .i64 d.l) from True.intro)]
      unfold busyF
      rw [if_pos rfl]
    · rw [atKey_put_other (by intro h; injection h with _ h; exact e h), h3 l]
      unfold busyF
      rw [if_neg (fun h => e h.symm), Int.add_zero]
noncomputable def ops4B : Array Oper := match rBM4 with | .region _ ops _ => ops | _ => #[]
theorem rBM4_eq : rBM4 = .region 4 ops4B false := rfl
theorem ops4B_range : List.range ops4B.size = [0, 1, 2] := rfl
end Go.Proofs.Ytjcpjijihajopaa
