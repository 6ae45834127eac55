/-
  The switchboard: do.
-/
import Derived.Test.YtojnnemodikpeaaDoorSwTakeW
namespace Go.Proofs.YtojnnemodikpeaaDoor
open Go.RowKit Go.Conc
set_option linter.unusedVariables false
theorem SwOk.below {w w' : World} {base : Nat} {S : Sw} {ls : List Ln} (h : SwOk w base S ls) (hb : Below w.heap.size w w') : SwOk w' base S ls := by
  have k : ∀ {b : Nat} {o : Obj}, w.heap[b]? = some o → w'.heap[b]? = w.heap[b]? := fun {b o} e => hb.block b (blk_lt e)
  obtain ⟨q1, cps, ⟨es, clk, e1, e2⟩, q4⟩ := h.closed
  obtain ⟨t1, tps, ⟨es2, clk2, f1, f2⟩, t3, t4⟩ := h.taken
  refine ⟨(k h.st).trans h.st, h.sb, row_below' h.lines hb, h.len, h.head, fun i c l hc hl => ?_, h.nodup, ⟨q1, cps, ⟨es, clk, (k e1).trans e1, e2⟩, q4⟩, ⟨t1, tps, ⟨es2, clk2, (k f1).trans f1, f2⟩, fun i c l hc hl => ?_, t4⟩, h.ne⟩
  · obtain ⟨d1, d2, s, r, hd⟩ := h.chans i c l hc hl
    exact ⟨d1, d2, s, r, (k hd).trans hd⟩
  · rcases t3 i c l hc hl with hx | ⟨g, n, cc, x1, x2⟩
    · exact .inl hx
    · exact .inr ⟨g, n, cc, x1, row_below' x2 hb⟩
theorem eql_chan (a b : Option Nat) (W : World) : (binOp .eql 81 (.chan a) (.chan b)).run Tryd.prog W = .ok (.bool (a == b)) W := by
  simp [binOp, run_equal_chan und_chan]
set_option maxRecDepth 20000 in
set_option maxHeartbeats 2000000 in
theorem do_never {w : World} {base : Nat} {S : Sw} {ls : List Ln} (h : SwOk w base S ls) (hw : base ≤ w.heap.size) {d : DeedD} (h0 : d.a = 0) (hl : ¬ d.act.toList = lookA) :
    Calls Tryd.prog 87 #[.pointer (some ⟨S.sp, 0, none⟩), .agg #[.string d.act, .int .i64 d.a, .int .i64 d.b]] w fun e w' => e = .returned (.string ⟨tNever.toArray⟩) ∧ Below w.heap.size w w' := by
  obtain ⟨s, x, y⟩ := d
  have hx : x = 0 := h0
  subst hx
  have h1 : (s.toList == [108, 111, 111, 107]) = false := by rw [beq_eq_false_iff_ne]; exact hl
  have ec := blk_cell h.st
  have zs := blk_lt h.st
  have eg := row_cells (j := 0) (v := .chan none) h.lines (by simp [Sw.lines])
  have zg := blk_lt (row_blk h.lines).2.choose_spec.1
  have i1 : (0 : Int) < (S.cs.length : Int) + 1 := by omega
  have hq := fun W => eql_chan none none W
  clear h hl h0
  go_enter Tryd.func87, Tryd.ntmps87
  go_upto_region 1 with fail
  go_region
  go_wp2
  go_ret
  exact ⟨rfl, below_drew (below_al (Below.refl _ _) _)⟩
end Go.Proofs.YtojnnemodikpeaaDoor
