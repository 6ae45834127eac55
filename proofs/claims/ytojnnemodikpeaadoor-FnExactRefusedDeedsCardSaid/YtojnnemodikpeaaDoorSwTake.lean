/-
  The switchboard: take.
-/
import Derived.Test.YtojnnemodikpeaaDoorSwEnd
import Derived.Deep.CutRange
namespace Go.Proofs.YtojnnemodikpeaaDoor
open Go.RowKit Go.Conc
set_option linter.unusedVariables false
def takeF (l : Ln) : Ln × List UInt8 :=
  match l.held with
  | x :: xs => ({ l with held := xs, taken := l.taken ++ [x] }, tTook x)
  | [] => (l, if l.ended then tEnded else tEmpty)
set_option maxHeartbeats 2000000 in
theorem take_none {w : World} {base : Nat} {S : Sw} {ls : List Ln} (h : SwOk w base S ls) {i c : Nat} {l : Ln} (hc : S.cs[i]? = some c) (hl : ls[i + 1]? = some l) (hh : l.held = []) :
    Calls Tryd.prog 99 #[.pointer (some ⟨S.sp, 0, none⟩), .chan (some c)] w fun e w' => e = .returned (.string ⟨(takeF l).2.toArray⟩) ∧ w' = w := by
  obtain ⟨b1, b2, s0, r0, hch⟩ := h.chans i c l hc hl
  have hT : (takeF l).2 = if l.ended then tEnded else tEmpty := by unfold takeF; rw [hh]
  rw [hT]
  rw [hh] at hch
  simp only [ints, List.map_nil] at hch
  have HC := Lib.hid hch
  obtain ⟨t, ht⟩ : ∃ t, t = l.ended := ⟨_, rfl⟩
  rw [← ht] at HC hch ⊢
  clear hch hT h hc hl ht
  cases t with
  | true =>
    go_enter Tryd.func99, Tryd.ntmps99
    go_upto_region 2 with fail
    refine wp_select_recv_shut (c := c) (z := .int .i64 0) rfl rfl (by simp [go_sem, execOp, rcase, Act.eval]) HC.out ?_
    go_wp2
    go_ret
    exact ⟨rfl, rfl⟩
  | false =>
    go_enter Tryd.func99, Tryd.ntmps99
    go_upto_region 2 with fail
    refine wp_select_recv_empty (c := c) (z := .int .i64 0) rfl rfl (by simp [go_sem, execOp, rcase, Act.eval]) HC.out ?_
    go_wp2
    go_ret
    exact ⟨rfl, rfl⟩
end Go.Proofs.YtojnnemodikpeaaDoor
