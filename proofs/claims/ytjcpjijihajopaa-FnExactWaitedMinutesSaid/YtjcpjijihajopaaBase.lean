/-
  Small facts for the walks of this seat: blocks behind a call, answers, bounds.
-/
import Derived.Test.YtjcpjijihajopaaRows
import Derived.WalkKit
import Derived.WalkSpells
import Derived.WalkLawsBesides
import Derived.Below
import Derived.Lib.Hide
import Derived.Deep.Draws
import Derived.Deep.QuietTactic
import Derived.BigQuiet
set_option linter.unusedSectionVars false
set_option linter.unusedSimpArgs false
set_option linter.unusedVariables false
namespace Go.Proofs.Ytjcpjijihajopaa
open Go.RowKit
def inB (n lo hi : Int) : Bool := decide (lo ≤ n ∧ n ≤ hi)
theorem ret_bool {a b : Bool} (h : a = b) : Ending.returned (.bool a) = .returned (.bool b) := by rw [h]
theorem ret_int {k : IntKind} {a b : Int} (h : a = b) : Ending.returned (.int k a) = .returned (.int k b) := by rw [h]
theorem blk_lt {W : World} {N : Nat} {o : Obj} (hN : W.heap[N]? = some o) : N < W.heap.size := by
  rcases Nat.lt_or_ge N W.heap.size with h | h
  · exact h
  · rw [Array.getElem?_eq_none h] at hN; cases hN
theorem blk_below {W w1 : World} {N : Nat} {o : Obj} (hb : Below W.heap.size W w1) (hN : W.heap[N]? = some o) : w1.heap[N]? = some o ∧ N < w1.heap.size :=
  ⟨(hb.block N (blk_lt hN)).trans hN, Nat.lt_of_lt_of_le (blk_lt hN) hb.size⟩
theorem blk_alloc {W : World} {N : Nat} {o : Obj} (hN : W.heap[N]? = some o) (o' : Obj) : (W.alloc o').heap[N]? = some o := (Below.heap_alloc W o' N (blk_lt hN)).trans hN
theorem below_step {w W w1 : World} (h : Below w.heap.size w W) (hb : Below W.heap.size W w1) : Below w.heap.size w w1 := h.trans (hb.mono h.size)
theorem below_al {w W : World} (h : Below w.heap.size w W) (o : Obj) : Below w.heap.size w (W.alloc o) := h.alloc h.size o
theorem blk_cell {w : World} {N : Nat} {cs : Array Value} {T : TypeId} {fz : Nat × Nat} (h : w.heap[N]? = some (.cells cs T fz)) (o : Nat) : w.cell? ⟨N, o, none⟩ = cs[o]? := cell_of_row w N o cs T fz h
set_option maxHeartbeats 400000 in
theorem l1In_any (n lo hi : Int) (w : World) :
    Calls Try.prog 31 #[.int .i64 n, .int .i64 lo, .int .i64 hi] w fun e w' => e = .returned (.bool (inB n lo hi)) ∧ w' = w := by
  go_enter Try.func31, Try.ntmps31
  go_wp2
  all_goals go_ret
  all_goals exact ⟨ret_bool (by simp [inB]; omega), rfl⟩
end Go.Proofs.Ytjcpjijihajopaa
