/-
  eachRecord's beginning, in goroutine 0 alone: what it makes.
-/
import Derived.Test.YtjcpjijihajopaaEachM
set_option linter.unusedSectionVars false
set_option linter.unusedSimpArgs false
set_option linter.unusedVariables false
namespace Go.Proofs.Ytjcpjijihajopaa
open Go.RowKit Go.Mt Go.Conc Go.Tt Go.Conc.Lib Go.ConcR.Gen
set_option linter.unusedVariables false
/-- The world behind the beginning. -/
structure St4 (W W4 : World) (v1 : Value) : Prop where
  size : W4.heap.size = W.heap.size + 4
  keep : ∀ b, b < W.heap.size → W4.heap[b]? = W.heap[b]?
  b0 : W4.heap[W.heap.size]? = some (.cells #[v1] 25)
  b1 : W4.heap[W.heap.size + 1]? = some (.chan 0 #[] false 0 0 false)
  b2 : W4.heap[W.heap.size + 2]? = some (.cells #[.chan (some (W.heap.size + 1))] 76)
  b3 : Go.ConcR.WgAt 86 (W.heap.size + 3) W4 0 0
  os : W4.os = W.os
  tape : W4.tape = W.tape
  output : W4.output = W.output
set_option maxHeartbeats 4000000 in
set_option maxRecDepth 100000 in
theorem each_start {Post : Value → World → Prop} {Shun : Loc → Prop} {W : World} {A : Option Addr} {n cap : Nat} {v2 : Value} {CS : List Frame} (hsh : ∀ l b, onB l b → W.heap.size ≤ b → ¬ Shun l)
    (h : ∀ W4, St4 W W4 (.slice A n cap) → J Try.prog Post Shun (W.heap.size + 3) (G ((Conc.base 35).at ⟨#[.slice A n cap, v2, .pointer (some ⟨W.heap.size, 0, none⟩), undef, .pointer (some ⟨W.heap.size + 2, 0, none⟩), .pointer (some ⟨W.heap.size + 3, 0, none⟩), undef, .chan (some (W.heap.size + 1)), undef, undef, undef, undef, undef, undef, undef, undef, undef, undef], []⟩
      [.code rEM3, .code (.seq rEM4 (.seq (.seq rEM5 (.block 0 (.loop loopEM))) rEM9))]) CS) W4) :
    J Try.prog Post Shun W.heap.size (G (Frame.enter Try.prog 35 #[.slice A n cap, v2] .normal) CS) W := by
  obtain ⟨ie, hie⟩ : ∃ ie, Try.prog.info? 50 = some ie := Option.isSome_iff_exists.1 (by kernel_rfl)
  have hent : Frame.enter Try.prog 35 #[.slice A n cap, v2] .normal = (Conc.base 35).at ⟨#[.slice A n cap, v2, undef, undef, undef, undef, undef, undef, undef, undef, undef, undef, undef, undef, undef, undef, undef, undef], []⟩ [.code bodyEM] := Conc.enter_at _ Try.func35 rfl
  rw [hent, bodyEM_eq]
  have start : ∀ d, J Try.prog Post Shun W.heap.size (G ((Conc.base 35).at ⟨#[.slice A n cap, v2, undef, undef, undef, undef, undef, undef, undef, undef, undef, undef, undef, undef, undef, undef, undef, undef], []⟩ [.code (.seq rEM0 (.seq rEM1 (.seq rEM2 (.seq rEM3 (.seq rEM4 (.seq (.seq rEM5 (.block 0 (.loop loopEM))) rEM9))))))]) CS) (W.at d) := by
    generalize hk0 : Code.seq rEM4 (.seq (.seq rEM5 (.block 0 (.loop loopEM))) rEM9) = K0 at h
    refine J.sil rfl (fun w => stepG_seq) ?_
    generalize hk1 : Code.seq rEM1 (.seq rEM2 (.seq rEM3 K0)) = K1
    simp only [rEM0, bodyEM, Try.f35, Option.getD_some]
    refine J.sil rfl (fun w => stepG_region) ?_
    refine J.opv (o := _) (v := .pointer (some ⟨W.heap.size, 0, none⟩)) (w' := W.alloc (.cells #[.slice A n cap] 25)) rfl rfl (by decide) (fun d => .inl ?_) (fun d e he => ?_) (by rw [size_push]; omega) ?_
    · show _ = Result.ok _ ((W.at d).alloc _)
      have hz : (W.at d).heap.size = W.heap.size := rfl
      rw [← hz]
      simp [execOp, go_sem, Go.Act.eval]
    · simp [execOp, go_sem, Go.Act.eval] at he
    generalize hW1 : W.alloc (.cells #[.slice A n cap] 25) = W1
    have s1 : W1.heap.size = W.heap.size + 1 := by rw [← hW1, size_push]
    refine J.sil rfl (fun w => stepG_region_end) ?_
    subst hk1
    refine J.sil rfl (fun w => stepG_seq) ?_
    generalize hk1 : Code.seq rEM2 (.seq rEM3 K0) = K1
    simp only [rEM1, bodyEM, Try.f35, Option.getD_some]
    refine J.sil rfl (fun w => stepG_region) ?_
    refine J.opv (o := _) (v := .chan (some (W.heap.size + 1))) (w' := W1.alloc (.chan 0 #[] false 0 0 false)) rfl rfl (by decide) (fun d => .inl ?_) (fun d e he => ?_) (by rw [size_push]; omega) ?_
    · show _ = Result.ok _ ((W1.at d).alloc _)
      have hz : (W1.at d).heap.size = W.heap.size + 1 := s1
      rw [← hz]
      have hm : (Instr.makeChan 76 (.int .i64 0)).run Try.prog (W1.at d) = _ := run_makeChan (P := Try.prog) (w := W1.at d) Try.underlying76 hie .i64 0 (by omega) (by omega)
      exact run_bv hm
    · have hm : (Instr.makeChan 76 (.int .i64 0)).run Try.prog (W1.at d) = _ := run_makeChan (P := Try.prog) (w := W1.at d) Try.underlying76 hie .i64 0 (by omega) (by omega)
      have hv := events_makeChan (P := Try.prog) (w := W1.at d) Try.underlying76 hie .i64 0 (by omega) (by omega) #[]
      have := ev_bv hm hv
      rw [show Sem.events _ (execOp _ _) _ _ = #[] from this] at he
      simp at he
    generalize hW2 : W1.alloc (.chan 0 #[] false 0 0 false) = W2
    have s2 : W2.heap.size = W.heap.size + 2 := by rw [← hW2, size_push, s1]
    refine J.opv (o := _) (v := .pointer (some ⟨W.heap.size + 2, 0, none⟩)) (w' := W2.alloc (.cells #[.chan none] 76)) rfl rfl (by decide) (fun d => .inl ?_) (fun d e he => ?_) (by rw [size_push]; omega) ?_
    · show _ = Result.ok _ ((W2.at d).alloc _)
      have hz : (W2.at d).heap.size = W.heap.size + 2 := s2
      rw [← hz]
      simp [execOp, go_sem, Go.Act.eval]
    · simp [execOp, go_sem, Go.Act.eval] at he
    generalize hW3 : W2.alloc (.cells #[.chan none] 76) = W3
    have s3 : W3.heap.size = W.heap.size + 3 := by rw [← hW3, size_push, s2]
    have hb2 : W3.heap[W.heap.size + 2]? = some (.cells #[.chan none] 76) := by rw [← hW3, ← s2]; exact heap_push _ _
    refine J.opv (o := _) (v := undef) (w' := W3.setCell ⟨W.heap.size + 2, 0, none⟩ (.chan (some (W.heap.size + 1)))) rfl rfl (by decide) (fun d => .inr ⟨?_, rfl⟩) (fun d e he => ?_) (by rw [setCell_size]; omega) ?_
    · have hc := blk_cell (w := W3.at d) hb2 0
      have hf := blk_frozen' (w := W3.at d) hb2 0
      show _ = Result.ok _ ((W3.at d).setCell _ _)
      simp [execOp, go_sem, Go.Act.eval, Go.Act.put, stored, hc, hf]
    · have hc := blk_cell (w := W3.at d) hb2 0
      have hf := blk_frozen' (w := W3.at d) hb2 0
      simp [execOp, go_sem, Go.Act.eval, Go.Act.put, storedEv, hc, hf] at he
      subst he
      exact evL_own (hsh _ (W.heap.size + 2) rfl (by omega)) (by rw [setCell_size, s3]; show W.heap.size + 2 < _; omega)
    have hb2' := blk_setCell hb2 (.chan (some (W.heap.size + 1))) (i := 0)
    have hW4k : ∀ b, b ≠ W.heap.size + 2 → (W3.setCell ⟨W.heap.size + 2, 0, none⟩ (.chan (some (W.heap.size + 1)))).heap[b]? = W3.heap[b]? := fun b hb => setCell_ne W3 _ _ hb
    have hW4s : (W3.setCell ⟨W.heap.size + 2, 0, none⟩ (.chan (some (W.heap.size + 1)))).heap.size = W.heap.size + 3 := by rw [setCell_size, s3]
    have hA := aside_setCell W3 ⟨W.heap.size + 2, 0, none⟩ (.chan (some (W.heap.size + 1)))
    generalize hW4 : W3.setCell ⟨W.heap.size + 2, 0, none⟩ (.chan (some (W.heap.size + 1))) = W4 at hb2' hW4k hW4s hA ⊢
    refine J.sil rfl (fun w => stepG_region_end) ?_
    subst hk1
    refine J.sil rfl (fun w => stepG_seq) ?_
    simp only [rEM2, bodyEM, Try.f35, Option.getD_some]
    refine J.sil rfl (fun w => stepG_region) ?_
    rw [hW4s]
    refine J.opq (o := _) (v := .pointer (some ⟨W.heap.size + 3, 0, none⟩)) (w' := W4.alloc (.cells #[.int .u64 0, .int .u32 0] 86)) rfl rfl (by decide) (fun d => ?_) (fun d e he => ?_) ?_
    · show _ = Result.ok _ ((W4.at d).alloc _)
      have hz : (W4.at d).heap.size = W.heap.size + 3 := hW4s
      rw [← hz]
      simp [execOp, go_sem, Go.Act.eval]
    · simp [execOp, go_sem, Go.Act.eval] at he
    refine J.sil rfl (fun w => stepG_region_end) ?_
    refine J.sil rfl (fun w => stepG_seq) ?_
    subst hk0
    intro d
    have k1 : ∀ b, b < W.heap.size + 1 → W4.heap[b]? = W1.heap[b]? := fun b hb => by
      rw [hW4k b (by omega), ← hW3, heap_push_lt (by rw [s2]; omega), ← hW2, heap_push_lt (by rw [s1]; omega)]
    have hst : St4 W ((W4.alloc (.cells #[.int .u64 0, .int .u32 0] 86)).at d) (.slice A n cap) := by
     refine ⟨?_, fun b hb => ?_, ?_, ?_, ?_, ?_, ?_, ?_, ?_⟩
     · show (W4.alloc _).heap.size = _
       rw [size_push, hW4s]
     · show (W4.alloc _).heap[b]? = _
       rw [heap_push_lt (by rw [hW4s]; omega), k1 b (by omega), ← hW1, heap_push_lt hb]
     · show (W4.alloc _).heap[_]? = _
       rw [heap_push_lt (by rw [hW4s]; omega), k1 _ (by omega), ← hW1, heap_push]
     · show (W4.alloc _).heap[_]? = _
       rw [heap_push_lt (by rw [hW4s]; omega), hW4k _ (by omega), ← hW3, heap_push_lt (by rw [s2]; omega), ← hW2, ← s1, heap_push]
     · show (W4.alloc _).heap[_]? = _
       rw [heap_push_lt (by rw [hW4s]; omega), hb2']
       rfl
     · show (W4.alloc _).heap[_]? = _
       rw [← hW4s, heap_push]
       rfl
     · show W4.os = _
       rw [hA.os, ← hW3, ← hW2, ← hW1]; rfl
     · show W4.tape = _
       rw [hA.tape, ← hW3, ← hW2, ← hW1]; rfl
     · show W4.output = _
       rw [hA.output, ← hW3, ← hW2, ← hW1]; rfl
    exact h _ hst
  have := start W.drawn
  exact this
end Go.Proofs.Ytjcpjijihajopaa
