/-
  A select of one case with a default, in one goroutine, as a law for the walk over code (Code.wp): at a region whose first operation it is.
-/
import Derived.Test.YtojnnemodikpeaaDoorOwnV
import Derived.Conc.LoneSelect
namespace Go.Proofs.YtojnnemodikpeaaDoor
open Go.RowKit Go.Conc
set_option linter.unusedVariables false
section
variable {P : Program} {ops : Array Oper} {Q : Exit → Act → World → Prop} {a : Act} {w w1 : World} {o : Oper} {rest : List Oper} {v : Value}
theorem stepG_comm_any {b : Frame} {k : List Item} {cs : List Frame} {i : Nat} {r : List Nat} {cases : Array CommCase} {blocking : Bool} {shape : CommShape} {w' : World} (ho : ops[i]? = some o) (hw : Region.wanted o (yielded ops a.tmps) = true)
    (hr : (execOp a.eval o).run P w = .ok (.comm cases blocking shape) w') :
    ∃ es, stepG P true (G (b.at a (.inRegion ops (i :: r) :: k)) cs) w = .comm (G (b.at a (.inRegion ops (i :: r) :: k)) cs) cases blocking shape w' es := by
  by_cases hk : b.kind = .early
  · refine ⟨seen P b.fn #[], ?_⟩
    rw [stepG_oper ho hw]
    simp [stepG.apply, hr, G, Frame.at, hk, GStep.after]
  · exact ⟨_, stepG_comm ho hw hk hr⟩
theorem wp_region_comm {id : Nat} (hops : ops.toList = o :: rest)
    (hstep : ∀ (b : Frame) (k : List Item) (cs : List Frame), step P (lone (b.at a (.inRegion ops (0 :: List.range' 1 rest.length) :: k)) cs w) = .next (lone (b.at (a.put o.dst v) (.inRegion ops (List.range' 1 rest.length) :: k)) cs w1))
    (h : wpList P ops Q rest (a.put o.dst v) w1) : (Code.region id ops false).wp P Q a w := by
  intro b k cs
  have hsz : ops.size = rest.length + 1 := by rw [← Array.length_toList, hops]; rfl
  have hrest : wpOps P ops Q (List.range' 1 rest.length) (a.put o.dst v) w1 := by
    rw [wpOps_eq_wpList rest 1 (fun j => by rw [← Array.getElem?_toList, hops, show 1 + j = j + 1 by omega, List.getElem?_cons_succ])]
    exact h
  obtain ⟨e, a', w', hq, harr⟩ := wp_ops _ _ _ hrest b k cs
  refine ⟨e, a', w', hq, .of_steps (.head step_region (.one ?_)) harr⟩
  rw [hsz, List.range_eq_range', List.range'_succ]
  exact hstep b k cs
variable {c cap s r : Nat} {buf : Array Value} {z z' u : Value} {tm closed : Bool} {id : Nat}
theorem finish_comm (b : Frame) (k : List Item) (hops : ops.toList = o :: rest) (v : Value) : (b.at a (.inRegion ops (0 :: List.range' 1 rest.length) :: k)).finish v = b.at (a.put o.dst v) (.inRegion ops (List.range' 1 rest.length) :: k) := by
  have : ops[0]? = some o := by rw [← Array.getElem?_toList, hops]; rfl
  rw [Frame.finish_at, this]; rfl
theorem first_op (hops : ops.toList = o :: rest) : ops[0]? = some o := by rw [← Array.getElem?_toList, hops]; rfl
theorem wanted_none (hg : o.guard = none) : Region.wanted o (yielded ops a.tmps) = true := by simp [Region.wanted, hg]
/-- The buffer holds something. -/
theorem wp_select_recv_buf (hops : ops.toList = o :: rest) (hg : o.guard = none) (hr : (execOp a.eval o).run P w = .ok (.comm #[rcase c z] false .select) w) (hc : w.heap[c]? = some (.chan cap buf closed s r tm)) (hsome : 0 < buf.size)
    (h : wpList P ops Q rest (a.put o.dst (.tuple #[goInt 0, .bool true, buf.getD 0 undef])) (w.setChan c cap (buf.extract 1 buf.size) closed s (r + 1) tm)) : (Code.region id ops false).wp P Q a w := by
  refine wp_region_comm hops (fun b k cs => ?_) h
  obtain ⟨es, he⟩ := stepG_comm_any (b := b) (k := k) (cs := cs) (i := 0) (r := List.range' 1 rest.length) (first_op hops) (wanted_none hg) hr
  rw [← finish_comm b k hops]
  exact step_lone_select_recv_buf he hc hsome
/-- The channel is closed and empty. -/
theorem wp_select_recv_shut (hops : ops.toList = o :: rest) (hg : o.guard = none) (hr : (execOp a.eval o).run P w = .ok (.comm #[rcase c z] false .select) w) (hc : w.heap[c]? = some (.chan cap #[] true s r tm))
    (h : wpList P ops Q rest (a.put o.dst (.tuple #[goInt 0, .bool false, z])) w) : (Code.region id ops false).wp P Q a w := by
  refine wp_region_comm hops (fun b k cs => ?_) h
  obtain ⟨es, he⟩ := stepG_comm_any (b := b) (k := k) (cs := cs) (i := 0) (r := List.range' 1 rest.length) (first_op hops) (wanted_none hg) hr
  rw [← finish_comm b k hops]
  exact step_lone_select_recv_shut he hc
/-- The channel is open and empty. -/
theorem wp_select_recv_empty (hops : ops.toList = o :: rest) (hg : o.guard = none) (hr : (execOp a.eval o).run P w = .ok (.comm #[rcase c z] false .select) w) (hc : w.heap[c]? = some (.chan cap #[] false s r tm))
    (h : wpList P ops Q rest (a.put o.dst (.tuple #[goInt (-1), .bool false, z])) w) : (Code.region id ops false).wp P Q a w := by
  refine wp_region_comm hops (fun b k cs => ?_) h
  obtain ⟨es, he⟩ := stepG_comm_any (b := b) (k := k) (cs := cs) (i := 0) (r := List.range' 1 rest.length) (first_op hops) (wanted_none hg) hr
  rw [← finish_comm b k hops]
  exact step_lone_select_default he hc
/-- A send, and there is room. -/
theorem wp_select_send_room (hops : ops.toList = o :: rest) (hg : o.guard = none) (hr : (execOp a.eval o).run P w = .ok (.comm #[scase c u z'] false .select) w) (hc : w.heap[c]? = some (.chan cap buf false s r tm)) (hroom : buf.size < cap)
    (h : wpList P ops Q rest (a.put o.dst (.tuple #[goInt 0, .bool false])) (w.setChan c cap (buf.push u) false (s + 1) r tm)) : (Code.region id ops false).wp P Q a w := by
  refine wp_region_comm hops (fun b k cs => ?_) h
  obtain ⟨es, he⟩ := stepG_comm_any (b := b) (k := k) (cs := cs) (i := 0) (r := List.range' 1 rest.length) (first_op hops) (wanted_none hg) hr
  rw [← finish_comm b k hops]
  exact step_lone_select_send_room he hc hroom
/-- A send, and there is none. -/
theorem wp_select_send_full (hops : ops.toList = o :: rest) (hg : o.guard = none) (hr : (execOp a.eval o).run P w = .ok (.comm #[scase c u z'] false .select) w) (hc : w.heap[c]? = some (.chan cap buf false s r tm)) (hfull : cap ≤ buf.size)
    (h : wpList P ops Q rest (a.put o.dst (.tuple #[goInt (-1), .bool false])) w) : (Code.region id ops false).wp P Q a w := by
  refine wp_region_comm hops (fun b k cs => ?_) h
  obtain ⟨es, he⟩ := stepG_comm_any (b := b) (k := k) (cs := cs) (i := 0) (r := List.range' 1 rest.length) (first_op hops) (wanted_none hg) hr
  rw [← finish_comm b k hops]
  exact step_lone_select_send_full he hc hfull
/-- A receive ('v, ok := <-c', a range over a channel): the buffer holds something. -/
theorem wp_recv_buf {ok : Bool} (hops : ops.toList = o :: rest) (hg : o.guard = none) (hr : (execOp a.eval o).run P w = .ok (.comm #[rcase c z] true (.recv ok)) w) (hc : w.heap[c]? = some (.chan cap buf closed s r tm)) (hsome : 0 < buf.size)
    (h : wpList P ops Q rest (a.put o.dst (got ok (buf.getD 0 undef) true)) (w.setChan c cap (buf.extract 1 buf.size) closed s (r + 1) tm)) : (Code.region id ops false).wp P Q a w := by
  refine wp_region_comm hops (fun b k cs => ?_) h
  obtain ⟨es, he⟩ := stepG_comm_any (b := b) (k := k) (cs := cs) (i := 0) (r := List.range' 1 rest.length) (first_op hops) (wanted_none hg) hr
  rw [← finish_comm b k hops]
  exact step_lone_recv_buf ok he hc hsome
/-- .. the channel is closed and empty. -/
theorem wp_recv_shut {ok : Bool} (hops : ops.toList = o :: rest) (hg : o.guard = none) (hr : (execOp a.eval o).run P w = .ok (.comm #[rcase c z] true (.recv ok)) w) (hc : w.heap[c]? = some (.chan cap #[] true s r tm))
    (h : wpList P ops Q rest (a.put o.dst (got ok z false)) w) : (Code.region id ops false).wp P Q a w := by
  refine wp_region_comm hops (fun b k cs => ?_) h
  obtain ⟨es, he⟩ := stepG_comm_any (b := b) (k := k) (cs := cs) (i := 0) (r := List.range' 1 rest.length) (first_op hops) (wanted_none hg) hr
  rw [← finish_comm b k hops]
  exact step_lone_recv_shut ok he hc
end
end Go.Proofs.YtojnnemodikpeaaDoor
